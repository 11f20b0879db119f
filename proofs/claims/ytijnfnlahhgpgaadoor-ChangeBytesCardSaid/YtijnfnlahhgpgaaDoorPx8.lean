/- Functions of the program as Lean functions, and that each call answers as its function does. No condition. (Lines written by a generator of this session.) -/
import Derived.Test.YtijnfnlahhgpgaaDoorPx0
import Derived.Test.YtijnfnlahhgpgaaDoorPx1
import Derived.Test.YtijnfnlahhgpgaaDoorPx2
import Derived.Test.YtijnfnlahhgpgaaDoorPx4
import Derived.Test.YtijnfnlahhgpgaaDoorPx5
import Derived.Test.YtijnfnlahhgpgaaDoorPx7
import Derived.Test.YtijnfnlahhgpgaaDoorXP
namespace Go.Proofs.YtijnfnlahhgpgaaDoor.P
open Go.RowKit Go.Proofs.YtijnfnlahhgpgaaDoorW.PrintWords Go.Proofs.YtijnfnlahhgpgaaDoorW.PrintLast Go.Proofs.YtijnfnlahhgpgaaDoorW.PrintMore
attribute [local go_sem] max2_int min2_int max_two min_two max_three min_three max_four min_four   -- for this text's walks alone
attribute [local go_sem] x_str_gtr x_str_leq x_str_geq  Instr.field asAgg
set_option linter.unusedVariables false
set_option linter.unusedSimpArgs false

/-! ### engrosslaw16_ChangeBytes: function 3 -/
mutual
def engrosslaw16_ChangeBytes.j0 : Nat → Int → Int → List (S38) → List Int → Bool → Option (Bool)
 | 0, _, _, _, _, _ => none
 | k + 1, x2, x3, x10, x12, x46 => if x46 = true then (none) else (if (x12.length : Int) = 0 then (some true) else ((change_Decode.f k x12).bind fun bt257 => (if bt257.2 = 0 then ((engrossref10_EqImages.f k bt257.1 x10).bind fun t261 => (engrosslaw16_ChangeBytes.j1 k x2 x3 x12 (!t261))) else (none))))
def engrosslaw16_ChangeBytes.j1 : Nat → Int → Int → List Int → Bool → Option (Bool)
 | 0, _, _, _, _ => none
 | k + 1, x2, x3, x12, x62 => if x62 = true then (none) else (if x2 < 0 then (some true) else (if ([] : List Int).length + x12.length < 140737488355328 then ((some (([] : List Int) ++ x12 : List Int)).bind fun y262 => (if (y262.length : Int) = 0 then (none) else (if 0 ≤ (Int.tmod x2 (y262.length : Int)) then (if (Int.tmod x2 (y262.length : Int)) < (y262.length : Int) then ((some (y262.set ((Int.tmod x2 (y262.length : Int)) : Int).toNat (Go.bits .xor .u8 (rd y262 (Int.tmod x2 (y262.length : Int))) x3) : List Int)).bind fun y266 => ((engrosslaw16_tells.f k y266).bind fun t267 => (if t267 = true then (if (Int.tmod x2 (y262.length : Int)) ≤ (y262.length : Int) then ((engrosslaw16_tells.f k (y266.take ((Int.tmod x2 (y262.length : Int)) : Int).toNat)).bind fun t273 => (if t273 = true then (if y266.length < 140737488355328 then ((engrosslaw16_tells.f k (y266 ++ [x3])).bind fun t277 => (some t277)) else (none)) else (none))) else (none)) else (none)))) else (none)) else (none)))) else (none)))
end
def engrosslaw16_ChangeBytes.f (k : Nat) (l0 : List (S44)) (l1 : List (S44)) (a2 : Int) (a3 : Int) : Option (Bool) := (engrosslaw16_begun.f k).bind fun t240 => (if t240 = true then ((engrosslaw16_Images.f k l0 8).bind fun t241 => ((engrosslaw16_Images.f k l1 8).bind fun t244 => ((change_Encode.f k t241).bind fun t247 => ((change_May.f k t241).bind fun t250 => ((engrossref10_MayImages.f k t241).bind fun t251 => (if (t250 != t251) = true then (none) else ((engrossref10_Images.f k t241).bind fun t252 => (if (strOfNums t247).toList = (strOfNums t252).toList then ((change_Eq.f k t241 t244).bind fun t255 => ((engrossref10_EqImages.f k t241 t244).bind fun t256 => (engrosslaw16_ChangeBytes.j0 k a2 a3 t241 t247 (t255 != t256)))) else (none))))))))) else (none))
theorem engrosslaw16_ChangeBytes.mono_l : ∀ k, (∀ y0 y1 y2 y3 y4, LeO (engrosslaw16_ChangeBytes.j0 k y0 y1 y2 y3 y4) (engrosslaw16_ChangeBytes.j0 (k + 1) y0 y1 y2 y3 y4)) ∧ (∀ y0 y1 y2 y3, LeO (engrosslaw16_ChangeBytes.j1 k y0 y1 y2 y3) (engrosslaw16_ChangeBytes.j1 (k + 1) y0 y1 y2 y3))
 | 0 => ⟨fun _ _ _ _ _ r h => by simp [engrosslaw16_ChangeBytes.j0] at h, fun _ _ _ _ r h => by simp [engrosslaw16_ChangeBytes.j1] at h⟩
 | k + 1 => by
  obtain ⟨ih0, ih1⟩ := engrosslaw16_ChangeBytes.mono_l k
  refine ⟨?_, ?_⟩
  ·intro y0 y1 y2 y3 y4
   unfold engrosslaw16_ChangeBytes.j0
   repeat' first
   | (with_reducible exact ih0 _ _ _ _ _)
   | (with_reducible exact ih1 _ _ _ _)
   | (with_reducible exact change_Decode.mono _ _)
   | (with_reducible exact change_Encode.mono _ _)
   | (with_reducible exact change_Eq.mono _ _ _)
   | (with_reducible exact change_May.mono _ _)
   | (with_reducible exact engrosslaw16_Images.mono _ _ _)
   | (with_reducible exact engrosslaw16_begun.mono _)
   | (with_reducible exact engrosslaw16_tells.mono _ _)
   | (with_reducible exact engrossref10_EqImages.mono _ _ _)
   | (with_reducible exact engrossref10_Images.mono _ _)
   | (with_reducible exact engrossref10_MayImages.mono _ _)
   | (with_reducible exact LeO.refl _)
   | (with_reducible exact LeO.none _)
   | (with_reducible refine LeO.ite ?_ ?_)
   | (with_reducible refine LeO.bind ?_ (fun _ => ?_))
   | exact ih0 _ _ _ _ _
   | exact ih1 _ _ _ _
   | exact change_Decode.mono _ _
   | exact change_Encode.mono _ _
   | exact change_Eq.mono _ _ _
   | exact change_May.mono _ _
   | exact engrosslaw16_Images.mono _ _ _
   | exact engrosslaw16_begun.mono _
   | exact engrosslaw16_tells.mono _ _
   | exact engrossref10_EqImages.mono _ _ _
   | exact engrossref10_Images.mono _ _
   | exact engrossref10_MayImages.mono _ _
   | exact LeO.none _
   | refine LeO.ite ?_ ?_
   | refine LeO.bind ?_ (fun _ => ?_)
  ·intro y0 y1 y2 y3
   unfold engrosslaw16_ChangeBytes.j1
   repeat' first
   | (with_reducible exact ih0 _ _ _ _ _)
   | (with_reducible exact ih1 _ _ _ _)
   | (with_reducible exact change_Decode.mono _ _)
   | (with_reducible exact change_Encode.mono _ _)
   | (with_reducible exact change_Eq.mono _ _ _)
   | (with_reducible exact change_May.mono _ _)
   | (with_reducible exact engrosslaw16_Images.mono _ _ _)
   | (with_reducible exact engrosslaw16_begun.mono _)
   | (with_reducible exact engrosslaw16_tells.mono _ _)
   | (with_reducible exact engrossref10_EqImages.mono _ _ _)
   | (with_reducible exact engrossref10_Images.mono _ _)
   | (with_reducible exact engrossref10_MayImages.mono _ _)
   | (with_reducible exact LeO.refl _)
   | (with_reducible exact LeO.none _)
   | (with_reducible refine LeO.ite ?_ ?_)
   | (with_reducible refine LeO.bind ?_ (fun _ => ?_))
   | exact ih0 _ _ _ _ _
   | exact ih1 _ _ _ _
   | exact change_Decode.mono _ _
   | exact change_Encode.mono _ _
   | exact change_Eq.mono _ _ _
   | exact change_May.mono _ _
   | exact engrosslaw16_Images.mono _ _ _
   | exact engrosslaw16_begun.mono _
   | exact engrosslaw16_tells.mono _ _
   | exact engrossref10_EqImages.mono _ _ _
   | exact engrossref10_Images.mono _ _
   | exact engrossref10_MayImages.mono _ _
   | exact LeO.none _
   | refine LeO.ite ?_ ?_
   | refine LeO.bind ?_ (fun _ => ?_)
theorem engrosslaw16_ChangeBytes.mono : ∀ a0 a1 a2 a3 k, LeO (engrosslaw16_ChangeBytes.f k a0 a1 a2 a3) (engrosslaw16_ChangeBytes.f (k + 1) a0 a1 a2 a3) := by
 intro a0 a1 a2 a3 k
 obtain ⟨ih0, ih1⟩ := engrosslaw16_ChangeBytes.mono_l k
 unfold engrosslaw16_ChangeBytes.f
 repeat' first
   | (with_reducible exact ih0 _ _ _ _ _)
   | (with_reducible exact ih1 _ _ _ _)
   | (with_reducible exact change_Decode.mono _ _)
   | (with_reducible exact change_Encode.mono _ _)
   | (with_reducible exact change_Eq.mono _ _ _)
   | (with_reducible exact change_May.mono _ _)
   | (with_reducible exact engrosslaw16_Images.mono _ _ _)
   | (with_reducible exact engrosslaw16_begun.mono _)
   | (with_reducible exact engrosslaw16_tells.mono _ _)
   | (with_reducible exact engrossref10_EqImages.mono _ _ _)
   | (with_reducible exact engrossref10_Images.mono _ _)
   | (with_reducible exact engrossref10_MayImages.mono _ _)
   | (with_reducible exact LeO.refl _)
   | (with_reducible exact LeO.none _)
   | (with_reducible refine LeO.ite ?_ ?_)
   | (with_reducible refine LeO.bind ?_ (fun _ => ?_))
   | exact ih0 _ _ _ _ _
   | exact ih1 _ _ _ _
   | exact change_Decode.mono _ _
   | exact change_Encode.mono _ _
   | exact change_Eq.mono _ _ _
   | exact change_May.mono _ _
   | exact engrosslaw16_Images.mono _ _ _
   | exact engrosslaw16_begun.mono _
   | exact engrosslaw16_tells.mono _ _
   | exact engrossref10_EqImages.mono _ _ _
   | exact engrossref10_Images.mono _ _
   | exact engrossref10_MayImages.mono _ _
   | exact LeO.none _
   | refine LeO.ite ?_ ?_
   | refine LeO.bind ?_ (fun _ => ?_)
def engrosslaw16_ChangeBytes.T6 : Bool × List (List Nat × List Nat) := (true, [([], []), ([0], [0]), ([], []), ([2, 1], [2]), ([1, 3], [1, 3]), ([4, 3], [4]), ([5], [5]), ([6, 5], [5, 6]), ([5], [5]), ([8, 5, 5], [5, 8]), ([9, 5], [5, 9]), ([7, 10, 5], [5, 7, 10]), ([5, 11], [5, 11]), ([12, 9], [12]), ([13], [13]), ([13], [13]), ([14, 15, 13, 13], [13, 14, 15]), ([13], [13]), ([13], [13]), ([17, 18, 16, 13], [13, 17, 18]), ([16, 19, 13], [13, 16, 19]), ([13, 20], [13, 20])])
def engrosslaw16_ChangeBytes.B6 : List Nat := [0, 1, 0, 7, 15, 31, 63, 127, 63, 319, 831, 2047, 4095, 8191, 16383, 16383, 65535, 16383, 16383, 524287, 1048575, 2097151]
theorem engrosslaw16_ChangeBytes.tab6 : rtab .any (opsOf Tryd.f3 6) = engrosslaw16_ChangeBytes.T6 := by kernel_rfl
theorem engrosslaw16_ChangeBytes.bits6 : waitsOk engrosslaw16_ChangeBytes.T6.2 engrosslaw16_ChangeBytes.B6 = true := by kernel_rfl
set_option maxHeartbeats 8000000 in
set_option maxRecDepth 100000 in
theorem engrosslaw16_ChangeBytes.calls (k : Nat) (A0 : Option Addr) (c0 : Nat) (l0 : List (S44)) (A1 : Option Addr) (c1 : Nat) (l1 : List (S44)) (a2 : Int) (a3 : Int) (r : Bool) (w : World) (hr0 : Kd.C k44 w A0 l0.length l0) (hc0 : l0.length ≤ c0) (hr1 : Kd.C k44 w A1 l1.length l1) (hc1 : l1.length ≤ c1) (h : engrosslaw16_ChangeBytes.f k l0 l1 a2 a3 = some r) :
  Calls Tryd.prog 3 #[.slice A0 l0.length c0, .slice A1 l1.length c1, .int .i64 a2, .int .u8 a3] w fun e w' => e = .returned (.bool r) ∧ Below w.heap.size w w' := by
 have HR0 := Aside0.mk hr0
 have HC0 := Aside0.mk hc0
 clear hr0 hc0
 have HR1 := Aside0.mk hr1
 have HC1 := Aside0.mk hc1
 clear hr1 hc1
 have HB := Aside0.mk (Below.refl w.heap.size w)
 have H : ((engrosslaw16_begun.f k).bind fun t240 => (if t240 = true then ((engrosslaw16_Images.f k l0 8).bind fun t241 => ((engrosslaw16_Images.f k l1 8).bind fun t244 => ((change_Encode.f k t241).bind fun t247 => ((change_May.f k t241).bind fun t250 => ((engrossref10_MayImages.f k t241).bind fun t251 => (if (t250 != t251) = true then (none) else ((engrossref10_Images.f k t241).bind fun t252 => (if (strOfNums t247).toList = (strOfNums t252).toList then ((change_Eq.f k t241 t244).bind fun t255 => ((engrossref10_EqImages.f k t241 t244).bind fun t256 => (engrosslaw16_ChangeBytes.j0 k a2 a3 t241 t247 (t255 != t256)))) else (none))))))))) else (none))) = some r := h
 clear h
 replace H := Option.bind_eq_some_iff.mp H
 obtain ⟨t240, A50, H⟩ := H
 replace H : (if t240 = true then ((engrosslaw16_Images.f k l0 8).bind fun t241 => ((engrosslaw16_Images.f k l1 8).bind fun t244 => ((change_Encode.f k t241).bind fun t247 => ((change_May.f k t241).bind fun t250 => ((engrossref10_MayImages.f k t241).bind fun t251 => (if (t250 != t251) = true then (none) else ((engrossref10_Images.f k t241).bind fun t252 => (if (strOfNums t247).toList = (strOfNums t252).toList then ((change_Eq.f k t241 t244).bind fun t255 => ((engrossref10_EqImages.f k t241 t244).bind fun t256 => (engrosslaw16_ChangeBytes.j0 k a2 a3 t241 t247 (t255 != t256)))) else (none))))))))) else (none)) = some r := H
 have A5 := Aside0.mk A50
 clear A50
 by_cases c6 : t240 = true
 ·subst c6
  have H1 : ((engrosslaw16_Images.f k l0 8).bind fun t241 => ((engrosslaw16_Images.f k l1 8).bind fun t244 => ((change_Encode.f k t241).bind fun t247 => ((change_May.f k t241).bind fun t250 => ((engrossref10_MayImages.f k t241).bind fun t251 => (if (t250 != t251) = true then (none) else ((engrossref10_Images.f k t241).bind fun t252 => (if (strOfNums t247).toList = (strOfNums t252).toList then ((change_Eq.f k t241 t244).bind fun t255 => ((engrossref10_EqImages.f k t241 t244).bind fun t256 => (engrosslaw16_ChangeBytes.j0 k a2 a3 t241 t247 (t255 != t256)))) else (none))))))))) = some r := by rw [if_pos rfl] at H; exact H
  clear H
  have H := H1
  clear H1
  replace H := Option.bind_eq_some_iff.mp H
  obtain ⟨t241, A70, H⟩ := H
  replace H : ((engrosslaw16_Images.f k l1 8).bind fun t244 => ((change_Encode.f k t241).bind fun t247 => ((change_May.f k t241).bind fun t250 => ((engrossref10_MayImages.f k t241).bind fun t251 => (if (t250 != t251) = true then (none) else ((engrossref10_Images.f k t241).bind fun t252 => (if (strOfNums t247).toList = (strOfNums t252).toList then ((change_Eq.f k t241 t244).bind fun t255 => ((engrossref10_EqImages.f k t241 t244).bind fun t256 => (engrosslaw16_ChangeBytes.j0 k a2 a3 t241 t247 (t255 != t256)))) else (none)))))))) = some r := H
  have A7 := Aside0.mk A70
  clear A70
  replace H := Option.bind_eq_some_iff.mp H
  obtain ⟨t244, A80, H⟩ := H
  replace H : ((change_Encode.f k t241).bind fun t247 => ((change_May.f k t241).bind fun t250 => ((engrossref10_MayImages.f k t241).bind fun t251 => (if (t250 != t251) = true then (none) else ((engrossref10_Images.f k t241).bind fun t252 => (if (strOfNums t247).toList = (strOfNums t252).toList then ((change_Eq.f k t241 t244).bind fun t255 => ((engrossref10_EqImages.f k t241 t244).bind fun t256 => (engrosslaw16_ChangeBytes.j0 k a2 a3 t241 t247 (t255 != t256)))) else (none))))))) = some r := H
  have A8 := Aside0.mk A80
  clear A80
  replace H := Option.bind_eq_some_iff.mp H
  obtain ⟨t247, A90, H⟩ := H
  replace H : ((change_May.f k t241).bind fun t250 => ((engrossref10_MayImages.f k t241).bind fun t251 => (if (t250 != t251) = true then (none) else ((engrossref10_Images.f k t241).bind fun t252 => (if (strOfNums t247).toList = (strOfNums t252).toList then ((change_Eq.f k t241 t244).bind fun t255 => ((engrossref10_EqImages.f k t241 t244).bind fun t256 => (engrosslaw16_ChangeBytes.j0 k a2 a3 t241 t247 (t255 != t256)))) else (none)))))) = some r := H
  have A9 := Aside0.mk A90
  clear A90
  have HC10 := Aside0.mk H
  clear H
  go_enter Tryd.func3, Tryd.ntmps3
  go_upto_region 6 with (first | ((with_reducible refine gate_callee (f := 9) rfl ?_); refine goesL_ (some 16) rfl rfl Tryd.func9 (by kernel_rfl) rfl #[] rfl (by (try simp only [List.map_toArray, List.map_cons, List.map_nil]); first | done | rfl | (simp only [List.length_drop, List.length_take]; rfl)) ?_; (with_reducible refine (engrosslaw16_begun.calls k  true _ A5.out).mono ?_); rintro e w11 ⟨rfl, hb⟩; refine ⟨_, rfl, ?_⟩; replace HB := bW HB hb; (try clear hb); (try clear hb2); (try clear hk); (try clear hi)) | ((with_reducible refine gate_callee (f := 10) rfl ?_); refine goesL_ (some 20) rfl rfl Tryd.func10 (by kernel_rfl) rfl #[.slice A0 l0.length c0, .int .i64 8] rfl (by (try simp only [List.map_toArray, List.map_cons, List.map_nil]); first | done | rfl | (simp only [List.length_drop, List.length_take]; rfl)) ?_; (with_reducible refine (engrosslaw16_Images.calls k (fun k_ => k_ < w.heap.size) _ _ l0 8 t241 _ ?side1 A7.out).mono ?_); (case side1 => exact Kd.V_mk HC0.out (Kd.F_below (Kd.C_F k44_heap HR0.out) (bC HB))); rintro e w12 ⟨v242, rfl, ho0, hb⟩; refine ⟨_, rfl, ?_⟩; have HO243 := Aside0.mk (Kd.N_lower (Kd.N_mono (ok' := fun k_ => True) ho0 (fun k_ hk_ => trivial)) (below_size (bC HB))); replace HB := bW HB hb; (try clear hb); (try clear hb2); (try clear hk); (try clear hi); (try clear ho0)) | ((with_reducible refine gate_callee (f := 10) rfl ?_); refine goesL_ (some 22) rfl rfl Tryd.func10 (by kernel_rfl) rfl #[.slice A1 l1.length c1, .int .i64 8] rfl (by (try simp only [List.map_toArray, List.map_cons, List.map_nil]); first | done | rfl | (simp only [List.length_drop, List.length_take]; rfl)) ?_; (with_reducible refine (engrosslaw16_Images.calls k (fun k_ => k_ < w.heap.size) _ _ l1 8 t244 _ ?side1 A8.out).mono ?_); (case side1 => exact Kd.V_mk HC1.out (Kd.F_below (Kd.C_F k44_heap HR1.out) (bC HB))); rintro e w13 ⟨v245, rfl, ho0, hb⟩; refine ⟨_, rfl, ?_⟩; have HO246 := Aside0.mk (Kd.N_lower (Kd.N_mono (ok' := fun k_ => some k_ ≠ (v242 : Value).ownBlock) ho0 (fun k_ hk_ => Or.elim hk_ (fun hs_ => fun e_ => Nat.not_le.2 hs_ (Kd.N_base HO243.out k_ e_.symm)) (fun hn_ => (Kd.fresh' (Kd.N_lt (by (with_reducible repeat (first | apply Kd.N_alloc | apply Kd.N_drewN | apply Kd.N_drew)); exact HO243.out)) k_ hn_)))) (below_size (bC HB))); replace HO243 := Aside0.mk (Kd.N_elder' (by (with_reducible repeat (first | apply Kd.N_alloc | apply Kd.N_drewN | apply Kd.N_drew)); exact HO243.out) (Kd.N_base ho0) hb); replace HB := bW HB hb; (try clear hb); (try clear hb2); (try clear hk); (try clear hi); (try clear ho0); obtain ⟨Ao14, co14, eo14⟩ := Kd.N_slice HO243.out; subst eo14) | ((with_reducible refine gate_callee (f := 11) rfl ?_); refine goesL_ (some 24) rfl rfl Tryd.func11 (by kernel_rfl) rfl #[.slice Ao14 t241.length co14] rfl (by (try simp only [List.map_toArray, List.map_cons, List.map_nil]); first | done | rfl | (simp only [List.length_drop, List.length_take]; rfl)) ?_; (with_reducible refine (change_Encode.calls k _ _ t241 t247 _ ?side1 ?side2 A9.out).mono ?_); (case side1 => repeat (first | exact (Kd.N_reads' HO243.out).2.2 | (with_reducible refine Kd.C_alloc ?_ _) | (with_reducible refine Kd.C_drewN ?_ _) | (with_reducible refine Kd.C_drew ?_))); (case side2 => exact (Kd.N_reads' HO243.out).2.1); rintro e w15 ⟨v248, rfl, ho0, hb⟩; refine ⟨_, rfl, ?_⟩; have HO249 := Aside0.mk (Kd.R_lower ho0 (below_size (bC HB))); replace HO243 := Aside0.mk (Kd.N_elder' (by (with_reducible repeat (first | apply Kd.N_alloc | apply Kd.N_drewN | apply Kd.N_drew)); exact HO243.out) (Kd.R_base ho0) hb); replace HO246 := Aside0.mk (Kd.N_elder' (by (with_reducible repeat (first | apply Kd.N_alloc | apply Kd.N_drewN | apply Kd.N_drew)); exact HO246.out) (Kd.R_base ho0) hb); replace HB := bW HB hb; (try clear hb); (try clear hb2); (try clear hk); (try clear hi); (try clear ho0)))
  (try simp only [Act.put, List.setIfInBounds_toArray, List.set_cons_zero, List.set_cons_succ])
  go_cut [46] (fun v46 wc => ∃ (kq : Nat) (x46_9 : Bool), v46 = .bool x46_9 ∧ Aside0 (engrosslaw16_ChangeBytes.j0 kq a2 a3 t241 t247 x46_9 = some r) ∧ Aside0 (kq ≤ k) ∧ Aside0 (Kd.N k38 38 wc w.heap.size (fun k_ => some k_ ≠ (v248 : Value).ownBlock) (.slice Ao14 t241.length co14) t241) ∧ Aside0 (Kd.R (Kd.int .u8) 5 wc w.heap.size (fun _ => True) v248 t247) ∧ Aside0 (Below w.heap.size w wc))
  case first =>
   have H := HC10.out
   clear HC10
   replace H := Option.bind_eq_some_iff.mp H
   obtain ⟨t250, A160, H⟩ := H
   replace H : ((engrossref10_MayImages.f k t241).bind fun t251 => (if (t250 != t251) = true then (none) else ((engrossref10_Images.f k t241).bind fun t252 => (if (strOfNums t247).toList = (strOfNums t252).toList then ((change_Eq.f k t241 t244).bind fun t255 => ((engrossref10_EqImages.f k t241 t244).bind fun t256 => (engrosslaw16_ChangeBytes.j0 k a2 a3 t241 t247 (t255 != t256)))) else (none))))) = some r := H
   have A16 := Aside0.mk A160
   clear A160
   replace H := Option.bind_eq_some_iff.mp H
   obtain ⟨t251, A170, H⟩ := H
   replace H : (if (t250 != t251) = true then (none) else ((engrossref10_Images.f k t241).bind fun t252 => (if (strOfNums t247).toList = (strOfNums t252).toList then ((change_Eq.f k t241 t244).bind fun t255 => ((engrossref10_EqImages.f k t241 t244).bind fun t256 => (engrosslaw16_ChangeBytes.j0 k a2 a3 t241 t247 (t255 != t256)))) else (none)))) = some r := H
   have A17 := Aside0.mk A170
   clear A170
   by_cases c18 : (t250 != t251) = true
   ·rw [if_pos c18] at H
    have c18b0 : (t250 != t251) = true := c18
    (try (have c18b1 : decide (t250 = t251) = false := by simpa using c18))
    (try (have c18b2 : (t250 == t251) = false := by simpa using c18))
    (try (have c18b3 : ¬ (t250 = t251) := by simpa using c18))
    clear c18
    (first | rw [c18b0] | (simp only [i64_w, i32_w]; rw [c18b0]) | skip)
    exact absurd H (by simp)
   ·rw [if_neg c18] at H
    have c18b0 : (t250 != t251) = false := by simpa using c18
    (try (have c18b1 : decide (t250 = t251) = true := by simpa using c18))
    (try (have c18b2 : (t250 == t251) = true := by simpa using c18))
    clear c18
    (first | rw [c18b0] | (simp only [i64_w, i32_w]; rw [c18b0]) | skip)
    replace H := Option.bind_eq_some_iff.mp H
    obtain ⟨t252, A190, H⟩ := H
    replace H : (if (strOfNums t247).toList = (strOfNums t252).toList then ((change_Eq.f k t241 t244).bind fun t255 => ((engrossref10_EqImages.f k t241 t244).bind fun t256 => (engrosslaw16_ChangeBytes.j0 k a2 a3 t241 t247 (t255 != t256)))) else (none)) = some r := H
    have A19 := Aside0.mk A190
    clear A190
    by_cases c20 : (strOfNums t247).toList = (strOfNums t252).toList
    ·rw [if_pos c20] at H
     have c20b0 : ((strOfNums t247).toList == (strOfNums t252).toList) = true := beq_iff_eq.mpr c20
     have c20b1 : ((strOfNums t247).toList != (strOfNums t252).toList) = false := bne_eq_false_iff_eq.mpr c20
     clear c20
     replace H := Option.bind_eq_some_iff.mp H
     obtain ⟨t255, A210, H⟩ := H
     replace H : ((engrossref10_EqImages.f k t241 t244).bind fun t256 => (engrosslaw16_ChangeBytes.j0 k a2 a3 t241 t247 (t255 != t256))) = some r := H
     have A21 := Aside0.mk A210
     clear A210
     replace H := Option.bind_eq_some_iff.mp H
     obtain ⟨t256, A220, H⟩ := H
     replace H : (engrosslaw16_ChangeBytes.j0 k a2 a3 t241 t247 (t255 != t256)) = some r := H
     have A22 := Aside0.mk A220
     clear A220
     have H' := Aside0.mk H
     clear H
     try go_wp2
     replace HO243 := Aside0.mk (Kd.N_drew HO243.out)
     replace HO246 := Aside0.mk (Kd.N_drew HO246.out)
     replace HO249 := Aside0.mk (Kd.R_drew HO249.out)
     replace HB := Aside0.mk (below_drew1 HB.out)
     refine start_ (n := 22) (S := fun w' => (convert 26 9 (v248)).run Tryd.prog w' = .ok (.string (strOfNums t247)) w') (ds := []) #[false, false, false, false, false, false, false, false, false, false, false, false, false, false, false, false, false, false, false, false, false, false] (by kernel_rfl) rfl rfl ((by have T_ := Kd.x_R_string (P := Tryd.prog) Tryd.underlying26 Tryd.underlying5 Tryd.underlying9 (HO249.out); first | exact T_.1 | exact T_.2 _ | (simp only [World.drewN_drewN]; exact T_.2 _))) (fun hHeld => ?_); refine with_tabW engrosslaw16_ChangeBytes.tab6 engrosslaw16_ChangeBytes.bits6 (fun HT_ HW_ => ?_)
     generalize w15.drew = w23 at HO243 HO246 HO249 HB hHeld ⊢
     refine pure_ (i := 0) (N := some 25) (v := ?_) (a' := ?_) #[true, false, false, false, false, false, false, false, false, false, false, false, false, false, false, false, false, false, false, false, false, false] rfl rfl (any_of HT_.out (by kernel_rfl)) (fun _ _ _ h => h) (Or.inl ⟨by rfl, ?_⟩) ?_ ?_
     rotate_left
     ·intro w'
      go_simp
      with_reducible rfl
     rotate_left
     ·simp only [Act.put, List.setIfInBounds_toArray, List.set_cons_zero, List.set_cons_succ, i64_w, i32_w]
      rfl
     refine pure_ (i := 2) (N := some 27) (v := ?_) (a' := ?_) #[true, false, true, false, false, false, false, false, false, false, false, false, false, false, false, false, false, false, false, false, false, false] rfl rfl (any_of HT_.out (by kernel_rfl)) (fun _ _ _ h => h) (Or.inl ⟨by rfl, ?_⟩) ?_ ?_
     rotate_left
     ·intro w'
      go_simp
      with_reducible rfl
     rotate_left
     ·simp only [Act.put, List.setIfInBounds_toArray, List.set_cons_zero, List.set_cons_succ, i64_w, i32_w]
      rfl
     refine one_ (i := 1) (N := some 26) #[true, true, true, false, false, false, false, false, false, false, false, false, false, false, false, false, false, false, false, false, false, false] rfl rfl (one_of HT_.out (by kernel_rfl)) (by decide) (fun K hK => ?_)
     refine goes_ Tryd.func12 (by kernel_rfl) rfl #[.slice Ao14 t241.length co14] (by rfl) rfl rfl (by (try simp only [List.map_toArray, List.map_cons, List.map_nil]); first | done | rfl | (simp only [List.length_drop, List.length_take]; rfl)) ?_
     with_reducible refine (change_May.calls k _ _ t241 t250 _ ?side1 ?side2 A16.out).mono ?_
     (case side1 => repeat (first | exact (Kd.N_reads' HO243.out).2.2 | (with_reducible refine Kd.C_alloc ?_ _) | (with_reducible refine Kd.C_drewN ?_ _) | (with_reducible refine Kd.C_drew ?_)))
     (case side2 => exact (Kd.N_reads' HO243.out).2.1)
     rintro e w24 ⟨rfl, hb⟩
     refine ⟨_, rfl, ?_⟩
     replace HO243 := Aside0.mk (Kd.N_below (by (with_reducible repeat (first | apply Kd.N_alloc | apply Kd.N_drewN | apply Kd.N_drew)); exact HO243.out) hb)
     replace HO246 := Aside0.mk (Kd.N_below (by (with_reducible repeat (first | apply Kd.N_alloc | apply Kd.N_drewN | apply Kd.N_drew)); exact HO246.out) hb)
     replace HO249 := Aside0.mk (Kd.R_below (by (with_reducible repeat (first | apply Kd.R_alloc | apply Kd.R_drewN | apply Kd.R_drew)); exact HO249.out) hb)
     replace HB := bW HB hb
     (try clear hb)
     (try clear hb2)
     (try clear hk)
     (try clear hi)
     refine hK.out _ _ ((by have T_ := Kd.x_R_string (P := Tryd.prog) Tryd.underlying26 Tryd.underlying5 Tryd.underlying9 (HO249.out); first | exact T_.1 | exact T_.2 _ | (simp only [World.drewN_drewN]; exact T_.2 _))) (fun hHeld => ?_)
     clear hK K
     refine norm_ (a' := ?_) ?_ ?_
     rotate_left
     ·show Act.put _ (some 26) _ = _
      simp only [Act.put, List.setIfInBounds_toArray, List.set_cons_zero, List.set_cons_succ, i64_w, i32_w]
      rfl
     refine one_ (i := 3) (N := some 28) #[true, true, true, true, false, false, false, false, false, false, false, false, false, false, false, false, false, false, false, false, false, false] rfl rfl (one_of HT_.out (by kernel_rfl)) (by decide) (fun K hK => ?_)
     refine goes_ Tryd.func13 (by kernel_rfl) rfl #[.slice Ao14 t241.length co14] (by rfl) rfl rfl (by (try simp only [List.map_toArray, List.map_cons, List.map_nil]); first | done | rfl | (simp only [List.length_drop, List.length_take]; rfl)) ?_
     with_reducible refine (engrossref10_MayImages.calls k _ _ t241 t251 _ ?side1 ?side2 A17.out).mono ?_
     (case side1 => repeat (first | exact (Kd.N_reads' HO243.out).2.2 | (with_reducible refine Kd.C_alloc ?_ _) | (with_reducible refine Kd.C_drewN ?_ _) | (with_reducible refine Kd.C_drew ?_)))
     (case side2 => exact (Kd.N_reads' HO243.out).2.1)
     rintro e w' ⟨rfl, ⟨nd, rfl⟩⟩
     refine ⟨_, rfl, ?_⟩
     refine hK.out _ _ ((by have T_ := Kd.x_R_string (P := Tryd.prog) Tryd.underlying26 Tryd.underlying5 Tryd.underlying9 (HO249.out); first | exact T_.1 | exact T_.2 _ | (simp only [World.drewN_drewN]; exact T_.2 _))) (fun hHeld => ?_)
     clear hK K
     refine norm_ (a' := ?_) ?_ ?_
     rotate_left
     ·show Act.put _ (some 28) _ = _
      simp only [Act.put, List.setIfInBounds_toArray, List.set_cons_zero, List.set_cons_succ, i64_w, i32_w]
      rfl
     refine pure_ (i := 4) (N := some 29) (v := ?_) (a' := ?_) #[true, true, true, true, true, false, false, false, false, false, false, false, false, false, false, false, false, false, false, false, false, false] rfl rfl (any_of HT_.out (by kernel_rfl)) (fun _ _ _ h => h) (Or.inl ⟨by rfl, ?_⟩) ?_ ?_
     rotate_left
     ·intro w'
      go_simp
      with_reducible rfl
     rotate_left
     ·simp only [Act.put, List.setIfInBounds_toArray, List.set_cons_zero, List.set_cons_succ, i64_w, i32_w]
      rfl
     refine pure_ (i := 5) (N := some 30) (v := ?_) (a' := ?_) #[true, true, true, true, true, true, false, false, false, false, false, false, false, false, false, false, false, false, false, false, false, false] rfl rfl (any_of HT_.out (by kernel_rfl)) (fun _ _ _ h => h) (Or.inl ⟨by rfl, ?_⟩) ?_ ?_
     rotate_left
     ·intro w'
      go_simp
      with_reducible rfl
     rotate_left
     ·simp only [Act.put, List.setIfInBounds_toArray, List.set_cons_zero, List.set_cons_succ, i64_w, i32_w]
      rfl
     refine pure_ (i := 6) (N := some 31) (v := ?_) (a' := ?_) #[true, true, true, true, true, true, true, false, false, false, false, false, false, false, false, false, false, false, false, false, false, false] rfl rfl (any_of HT_.out (by kernel_rfl)) (fun _ _ _ h => h) (Or.inl ⟨by rfl, ?_⟩) ?_ ?_
     rotate_left
     ·intro w'
      go_simp
      with_reducible rfl
     rotate_left
     ·simp only [Act.put, List.setIfInBounds_toArray, List.set_cons_zero, List.set_cons_succ, i64_w, i32_w]
      rfl
     refine pure_ (i := 8) (N := some 33) (v := ?_) (a' := ?_) #[true, true, true, true, true, true, true, false, true, false, false, false, false, false, false, false, false, false, false, false, false, false] rfl rfl (any_of HT_.out (by kernel_rfl)) (fun _ _ _ h => h) (Or.inl ⟨by rfl, ?_⟩) ?_ ?_
     rotate_left
     ·intro w'
      go_simp
      with_reducible rfl
     rotate_left
     ·simp only [Act.put, List.setIfInBounds_toArray, List.set_cons_zero, List.set_cons_succ, i64_w, i32_w]
      rfl
     refine take_ (i := 7) (N := some 32) (v := ?_) (a' := ?_) #[true, true, true, true, true, true, true, true, true, false, false, false, false, false, false, false, false, false, false, false, false, false] rfl rfl (take_ofW HT_.out HW_.out (by kernel_rfl)) (fun _ _ _ h => h) (Or.inl ⟨by rfl, ?_⟩) hHeld ?_ ?_
     rotate_left
     ·intro w' s0
      go_simp
      with_reducible rfl
     rotate_left
     ·simp only [Act.put, List.setIfInBounds_toArray, List.set_cons_zero, List.set_cons_succ, i64_w, i32_w]
      rfl
     refine one_ (i := 9) (N := some 34) #[true, true, true, true, true, true, true, true, true, true, false, false, false, false, false, false, false, false, false, false, false, false] rfl rfl (one_of HT_.out (by kernel_rfl)) (by decide) (fun K hK => ?_)
     refine goes_ Tryd.func14 (by kernel_rfl) rfl #[.slice Ao14 t241.length co14] (by rfl) rfl rfl (by (try simp only [List.map_toArray, List.map_cons, List.map_nil]); first | done | rfl | (simp only [List.length_drop, List.length_take]; rfl)) ?_
     with_reducible refine (engrossref10_Images.calls k _ _ t241 t252 _ ?side1 ?side2 A19.out).mono ?_
     (case side1 => repeat (first | exact (Kd.N_reads' HO243.out).2.2 | (with_reducible refine Kd.C_alloc ?_ _) | (with_reducible refine Kd.C_drewN ?_ _) | (with_reducible refine Kd.C_drew ?_)))
     (case side2 => exact (Kd.N_reads' HO243.out).2.1)
     rintro e w26 ⟨v253, rfl, ho0, hb⟩
     refine ⟨_, rfl, ?_⟩
     have HO254 := Aside0.mk (Kd.R_lower (Kd.R_new' ho0 (Kd.R_lt (by (with_reducible repeat (first | apply Kd.R_alloc | apply Kd.R_drewN | apply Kd.R_drew)); exact HO249.out))) (below_size (bC HB)))
     replace HO243 := Aside0.mk (Kd.N_elder' (by (with_reducible repeat (first | apply Kd.N_alloc | apply Kd.N_drewN | apply Kd.N_drew)); exact HO243.out) (Kd.R_base ho0) hb)
     replace HO246 := Aside0.mk (Kd.N_elder' (by (with_reducible repeat (first | apply Kd.N_alloc | apply Kd.N_drewN | apply Kd.N_drew)); exact HO246.out) (Kd.R_base ho0) hb)
     replace HO249 := Aside0.mk (Kd.R_elder' (by (with_reducible repeat (first | apply Kd.R_alloc | apply Kd.R_drewN | apply Kd.R_drew)); exact HO249.out) (Kd.R_base ho0) hb)
     replace HB := bW HB hb
     (try clear hb)
     (try clear hb2)
     (try clear hk)
     (try clear hi)
     (try clear ho0)
     obtain ⟨Ao28, co28, eo28⟩ := Kd.N_slice HO246.out
     (first | subst eo28 | (injection eo28 with f1_ f2_ f3_; have f4_ := f1_.symm; have f5_ := f3_.symm; clear f1_ f2_ f3_; subst f4_; subst f5_))
     refine hK.out _ _ ((by have T_ := Kd.x_R_string (P := Tryd.prog) Tryd.underlying26 Tryd.underlying5 Tryd.underlying9 (HO249.out); first | exact T_.1 | exact T_.2 _ | (simp only [World.drewN_drewN]; exact T_.2 _))) (fun hHeld => ?_)
     clear hK K
     refine norm_ (a' := ?_) ?_ ?_
     rotate_left
     ·show Act.put _ (some 34) _ = _
      simp only [Act.put, List.setIfInBounds_toArray, List.set_cons_zero, List.set_cons_succ, i64_w, i32_w]
      rfl
     refine one_ (i := 10) (N := some 35) #[true, true, true, true, true, true, true, true, true, true, true, false, false, false, false, false, false, false, false, false, false, false] rfl rfl (one_of HT_.out (by kernel_rfl)) (by decide) (fun K hK => ?_)
     have hcv27 := own_string (P := Tryd.prog) Tryd.underlying26 Tryd.underlying5 Tryd.underlying9 (Kd.own_of_R HO254.out)
     refine value_ (w1 := ?_) (v := ?_) (by rfl) rfl ?_ ?_
     rotate_left 2
     ·go_simp
      constructor
      ·rfl
      ·rfl
     clear hcv27
     refine hK.out _ _ ((by have T_ := Kd.x_R_string (P := Tryd.prog) Tryd.underlying26 Tryd.underlying5 Tryd.underlying9 (HO249.out); first | exact T_.1 | exact T_.2 _ | (simp only [World.drewN_drewN]; exact T_.2 _))) (fun hHeld => ?_)
     clear hK K
     refine norm_ (a' := ?_) ?_ ?_
     rotate_left
     ·show Act.put _ (some 35) _ = _
      simp only [Act.put, List.setIfInBounds_toArray, List.set_cons_zero, List.set_cons_succ, i64_w, i32_w]
      rfl
     refine pure_ (i := 11) (N := some 36) (v := ?_) (a' := ?_) #[true, true, true, true, true, true, true, true, true, true, true, true, false, false, false, false, false, false, false, false, false, false] rfl rfl (any_of HT_.out (by kernel_rfl)) (fun _ _ _ h => h) (Or.inl ⟨by rfl, ?_⟩) ?_ ?_
     rotate_left
     ·intro w'
      go_simp
      with_reducible rfl
     rotate_left
     ·simp only [Act.put, List.setIfInBounds_toArray, List.set_cons_zero, List.set_cons_succ, i64_w, i32_w]
      rfl
     refine pure_ (i := 12) (N := some 37) (v := ?_) (a' := ?_) #[true, true, true, true, true, true, true, true, true, true, true, true, true, false, false, false, false, false, false, false, false, false] rfl rfl (any_of HT_.out (by kernel_rfl)) (fun _ _ _ h => h) (Or.inl ⟨by rfl, ?_⟩) ?_ ?_
     rotate_left
     ·intro w'
      go_simp
      with_reducible rfl
     rotate_left
     ·simp only [Act.put, List.setIfInBounds_toArray, List.set_cons_zero, List.set_cons_succ, i64_w, i32_w]
      rfl
     refine pure_ (i := 13) (N := some 38) (v := ?_) (a' := ?_) #[true, true, true, true, true, true, true, true, true, true, true, true, true, true, false, false, false, false, false, false, false, false] rfl rfl (any_of HT_.out (by kernel_rfl)) (fun _ _ _ h => h) (Or.inl ⟨by rfl, ?_⟩) ?_ ?_
     rotate_left
     ·intro w'
      go_simp
      with_reducible rfl
     rotate_left
     ·simp only [Act.put, List.setIfInBounds_toArray, List.set_cons_zero, List.set_cons_succ, i64_w, i32_w]
      rfl
     refine pure_ (i := 14) (N := some 39) (v := ?_) (a' := ?_) #[true, true, true, true, true, true, true, true, true, true, true, true, true, true, true, false, false, false, false, false, false, false] rfl rfl (any_of HT_.out (by kernel_rfl)) (fun _ _ _ h => h) (Or.inl ⟨by rfl, ?_⟩) ?_ ?_
     rotate_left
     ·intro w'
      go_simp
      with_reducible rfl
     rotate_left
     ·simp only [Act.put, List.setIfInBounds_toArray, List.set_cons_zero, List.set_cons_succ, i64_w, i32_w]
      rfl
     refine pure_ (i := 15) (N := some 40) (v := ?_) (a' := ?_) #[true, true, true, true, true, true, true, true, true, true, true, true, true, true, true, true, false, false, false, false, false, false] rfl rfl (any_of HT_.out (by kernel_rfl)) (fun _ _ _ h => h) (Or.inl ⟨by rfl, ?_⟩) ?_ ?_
     rotate_left
     ·intro w'
      go_simp
      with_reducible rfl
     rotate_left
     ·simp only [Act.put, List.setIfInBounds_toArray, List.set_cons_zero, List.set_cons_succ, i64_w, i32_w]
      rfl
     refine pure_ (i := 17) (N := some 42) (v := ?_) (a' := ?_) #[true, true, true, true, true, true, true, true, true, true, true, true, true, true, true, true, false, true, false, false, false, false] rfl rfl (any_of HT_.out (by kernel_rfl)) (fun _ _ _ h => h) (Or.inl ⟨by rfl, ?_⟩) ?_ ?_
     rotate_left
     ·intro w'
      go_simp
      with_reducible rfl
     rotate_left
     ·simp only [Act.put, List.setIfInBounds_toArray, List.set_cons_zero, List.set_cons_succ, i64_w, i32_w]
      rfl
     refine pure_ (i := 18) (N := some 43) (v := ?_) (a' := ?_) #[true, true, true, true, true, true, true, true, true, true, true, true, true, true, true, true, false, true, true, false, false, false] rfl rfl (any_of HT_.out (by kernel_rfl)) (fun _ _ _ h => h) (Or.inl ⟨by rfl, ?_⟩) ?_ ?_
     rotate_left
     ·intro w'
      go_simp
      with_reducible rfl
     rotate_left
     ·simp only [Act.put, List.setIfInBounds_toArray, List.set_cons_zero, List.set_cons_succ, i64_w, i32_w]
      rfl
     refine one_ (i := 16) (N := some 41) #[true, true, true, true, true, true, true, true, true, true, true, true, true, true, true, true, true, true, true, false, false, false] rfl rfl (one_of HT_.out (by kernel_rfl)) (by decide) (fun K hK => ?_)
     refine goes_ Tryd.func15 (by kernel_rfl) rfl #[.slice Ao14 t241.length co14, .slice Ao28 t244.length co28] (by rfl) rfl rfl (by (try simp only [List.map_toArray, List.map_cons, List.map_nil]); first | done | rfl | (simp only [List.length_drop, List.length_take]; rfl)) ?_
     with_reducible refine (change_Eq.calls k _ _ t241 _ _ t244 t255 _ ?side1 ?side2 ?side3 ?side4 A21.out).mono ?_
     (case side1 => repeat (first | exact (Kd.N_reads' HO243.out).2.2 | (with_reducible refine Kd.C_alloc ?_ _) | (with_reducible refine Kd.C_drewN ?_ _) | (with_reducible refine Kd.C_drew ?_)))
     (case side2 => exact (Kd.N_reads' HO243.out).2.1)
     (case side3 => repeat (first | exact (Kd.N_reads' HO246.out).2.2 | (with_reducible refine Kd.C_alloc ?_ _) | (with_reducible refine Kd.C_drewN ?_ _) | (with_reducible refine Kd.C_drew ?_)))
     (case side4 => exact (Kd.N_reads' HO246.out).2.1)
     rintro e w29 ⟨rfl, hb⟩
     refine ⟨_, rfl, ?_⟩
     replace HO243 := Aside0.mk (Kd.N_below (by (with_reducible repeat (first | apply Kd.N_alloc | apply Kd.N_drewN | apply Kd.N_drew)); exact HO243.out) hb)
     replace HO246 := Aside0.mk (Kd.N_below (by (with_reducible repeat (first | apply Kd.N_alloc | apply Kd.N_drewN | apply Kd.N_drew)); exact HO246.out) hb)
     replace HO249 := Aside0.mk (Kd.R_below (by (with_reducible repeat (first | apply Kd.R_alloc | apply Kd.R_drewN | apply Kd.R_drew)); exact HO249.out) hb)
     replace HO254 := Aside0.mk (Kd.R_below (by (with_reducible repeat (first | apply Kd.R_alloc | apply Kd.R_drewN | apply Kd.R_drew)); exact HO254.out) hb)
     replace HB := bW HB hb
     (try clear hb)
     (try clear hb2)
     (try clear hk)
     (try clear hi)
     refine hK.out _ _ ((by have T_ := Kd.x_R_string (P := Tryd.prog) Tryd.underlying26 Tryd.underlying5 Tryd.underlying9 (HO249.out); first | exact T_.1 | exact T_.2 _ | (simp only [World.drewN_drewN]; exact T_.2 _))) (fun hHeld => ?_)
     clear hK K
     refine norm_ (a' := ?_) ?_ ?_
     rotate_left
     ·show Act.put _ (some 41) _ = _
      simp only [Act.put, List.setIfInBounds_toArray, List.set_cons_zero, List.set_cons_succ, i64_w, i32_w]
      rfl
     refine one_ (i := 19) (N := some 44) #[true, true, true, true, true, true, true, true, true, true, true, true, true, true, true, true, true, true, true, true, false, false] rfl rfl (one_of HT_.out (by kernel_rfl)) (by decide) (fun K hK => ?_)
     refine goes_ Tryd.func16 (by kernel_rfl) rfl #[.slice Ao14 t241.length co14, .slice Ao28 t244.length co28] (by rfl) rfl rfl (by (try simp only [List.map_toArray, List.map_cons, List.map_nil]); first | done | rfl | (simp only [List.length_drop, List.length_take]; rfl)) ?_
     with_reducible refine (engrossref10_EqImages.calls k _ _ t241 _ _ t244 t256 _ ?side1 ?side2 ?side3 ?side4 A22.out).mono ?_
     (case side1 => repeat (first | exact (Kd.N_reads' HO243.out).2.2 | (with_reducible refine Kd.C_alloc ?_ _) | (with_reducible refine Kd.C_drewN ?_ _) | (with_reducible refine Kd.C_drew ?_)))
     (case side2 => exact (Kd.N_reads' HO243.out).2.1)
     (case side3 => repeat (first | exact (Kd.N_reads' HO246.out).2.2 | (with_reducible refine Kd.C_alloc ?_ _) | (with_reducible refine Kd.C_drewN ?_ _) | (with_reducible refine Kd.C_drew ?_)))
     (case side4 => exact (Kd.N_reads' HO246.out).2.1)
     rintro e w' ⟨rfl, ⟨nd, rfl⟩⟩
     refine ⟨_, rfl, ?_⟩
     refine hK.out _ _ ((by have T_ := Kd.x_R_string (P := Tryd.prog) Tryd.underlying26 Tryd.underlying5 Tryd.underlying9 (HO249.out); first | exact T_.1 | exact T_.2 _ | (simp only [World.drewN_drewN]; exact T_.2 _))) (fun hHeld => ?_)
     clear hK K
     refine norm_ (a' := ?_) ?_ ?_
     rotate_left
     ·show Act.put _ (some 44) _ = _
      simp only [Act.put, List.setIfInBounds_toArray, List.set_cons_zero, List.set_cons_succ, i64_w, i32_w]
      rfl
     refine pure_ (i := 20) (N := some 45) (v := ?_) (a' := ?_) #[true, true, true, true, true, true, true, true, true, true, true, true, true, true, true, true, true, true, true, true, true, false] rfl rfl (any_of HT_.out (by kernel_rfl)) (fun _ _ _ h => h) (Or.inl ⟨by rfl, ?_⟩) ?_ ?_
     rotate_left
     ·intro w'
      go_simp
      with_reducible rfl
     rotate_left
     ·simp only [Act.put, List.setIfInBounds_toArray, List.set_cons_zero, List.set_cons_succ, i64_w, i32_w]
      rfl
     refine pure_ (i := 21) (N := some 46) (v := ?_) (a' := ?_) #[true, true, true, true, true, true, true, true, true, true, true, true, true, true, true, true, true, true, true, true, true, true] rfl rfl (any_of HT_.out (by kernel_rfl)) (fun _ _ _ h => h) (Or.inl ⟨by rfl, ?_⟩) ?_ ?_
     rotate_left
     ·intro w'
      go_simp
      with_reducible rfl
     rotate_left
     ·simp only [Act.put, List.setIfInBounds_toArray, List.set_cons_zero, List.set_cons_succ, i64_w, i32_w]
      rfl
     refine done_ (done_of HT_.out (by kernel_rfl)) ?_
     try go_wp2
     go_meet
     case rel => exact ⟨_, ((t255 != t256)), (by first | rfl | (simp; done) | (simp [*]; done)), H', ⟨by first | omega | exact Nat.le_refl _⟩, ⟨by (with_reducible repeat (first | apply Kd.N_alloc | apply Kd.N_drewN | apply Kd.N_drew)); exact Kd.N_mono HO243.out (fun _ hk => hk.1.2)⟩, ⟨by (with_reducible repeat (first | apply Kd.R_alloc | apply Kd.R_drewN | apply Kd.R_drew)); exact Kd.R_mono HO249.out (fun _ hk => trivial)⟩, ⟨by repeat (first | (with_reducible first | exact HB.out | apply below_alloc | apply pw_below_drewN | apply below_drew1) | exact HB.out)⟩⟩
    ·rw [if_neg c20] at H
     have c20b0 : ((strOfNums t247).toList == (strOfNums t252).toList) = false := beq_eq_false_iff_ne.mpr c20
     have c20b1 : ((strOfNums t247).toList != (strOfNums t252).toList) = true := bne_iff_ne.mpr c20
     exact absurd H (by simp)
  case rest =>
   clear HC10
   try clear c1
   try clear c2
   try clear p2
   try clear hcv2
   try clear c3
   try clear c6
   try clear c9
   try clear c10
   try clear c11
   try clear c12
   try clear c13
   try clear c14
   try clear c15
   try clear c16
   try clear c18
   try clear c18b0
   try clear c18b1
   try clear c18b2
   try clear c20
   try clear c20b0
   try clear c20b1
   try clear hcv27
   obtain ⟨kq, x46_9, rfl, HA, HJ9, HO_10, HO_12, HB⟩ := hcut
   cases kq with
   | zero => exact absurd HA.out (by simp [engrosslaw16_ChangeBytes.j0])
   | succ kj9 =>
    have H := HA.out
    clear HA
    simp only [engrosslaw16_ChangeBytes.j0] at H
    by_cases c30 : x46_9 = true
    ·subst c30
     have H1 : (none) = some r := by rw [if_pos rfl] at H; exact H
     clear H
     have H := H1
     clear H1
     exact absurd H (by simp)
    ·replace c30 := Bool.eq_false_iff.mpr c30
     subst c30
     have H1 : (if (t247.length : Int) = 0 then (some true) else ((change_Decode.f kj9 t247).bind fun bt257 => (if bt257.2 = 0 then ((engrossref10_EqImages.f kj9 bt257.1 t241).bind fun t261 => (engrosslaw16_ChangeBytes.j1 kj9 a2 a3 t247 (!t261))) else (none)))) = some r := by rw [if_neg (show ¬ (false = true) by decide)] at H; exact H
     clear H
     have H := H1
     clear H1
     by_cases c31 : (t247.length : Int) = 0
     ·rw [if_pos c31] at H
      have c31b0 : ((t247.length : Int) == 0) = true := beq_iff_eq.mpr c31
      have c31b1 : ((t247.length : Int) != 0) = false := bne_eq_false_iff_eq.mpr c31
      clear c31
      obtain rfl := Option.some.inj H
      obtain ⟨Ao32, co32, eo32⟩ := Kd.R_slice HO_12.out
      subst eo32
      go_wp2
      go_ret
      exact ⟨by first | rfl | (simp [errW_none, errW_some] <;> rfl) | (simp [*, errW_none, errW_some] <;> rfl), by repeat (first | (with_reducible first | exact HB.out | apply below_alloc | apply pw_below_drewN | apply below_drew1) | exact HB.out)⟩
     ·rw [if_neg c31] at H
      have c31b0 : ((t247.length : Int) == 0) = false := beq_eq_false_iff_ne.mpr c31
      have c31b1 : ((t247.length : Int) != 0) = true := bne_iff_ne.mpr c31
      have c31b2 : ¬ (t247 = []) := fun h_ => c31 (by rw [h_]; rfl)
      replace H := Option.bind_eq_some_iff.mp H
      obtain ⟨⟨t257, t258⟩, A330, H⟩ := H
      replace H : (if t258 = 0 then ((engrossref10_EqImages.f kj9 t257 t241).bind fun t261 => (engrosslaw16_ChangeBytes.j1 kj9 a2 a3 t247 (!t261))) else (none)) = some r := H
      have A33 := Aside0.mk A330
      clear A330
      have HC34 := Aside0.mk H
      clear H
      obtain ⟨Ao35, co35, eo35⟩ := Kd.R_slice HO_12.out
      subst eo35
      go_upto_region 11 with (first | ((with_reducible refine gate_callee (f := 17) rfl ?_); refine goesL_ (some 52) rfl rfl Tryd.func17 (by kernel_rfl) rfl #[.slice Ao35 t247.length co35] rfl (by (try simp only [List.map_toArray, List.map_cons, List.map_nil]); first | done | rfl | (simp only [List.length_drop, List.length_take]; rfl)) ?_; (with_reducible refine (change_Decode.calls kj9 _ _ t247 t257 t258 _ ?side1 ?side2 A33.out).mono ?_); (case side1 => repeat (first | exact (Kd.R_reads' HO_12.out).2.2 | (with_reducible refine Kd.C_alloc ?_ _) | (with_reducible refine Kd.C_drewN ?_ _) | (with_reducible refine Kd.C_drew ?_))); (case side2 => exact (Kd.R_reads' HO_12.out).2.1); rintro e w36 ⟨v259, rfl, ho0, hb⟩; refine ⟨_, rfl, ?_⟩; have HO260 := Aside0.mk (Kd.N_lower (Kd.N_mono (ok' := fun k_ => some k_ ≠ (.slice Ao14 t241.length co14 : Value).ownBlock ∧ some k_ ≠ (.slice Ao35 t247.length co35 : Value).ownBlock) (Kd.S_N (Kd.S_bound ho0)) (fun k_ hk_ => ⟨(Kd.fresh' (Kd.N_lt (by (with_reducible repeat (first | apply Kd.N_alloc | apply Kd.N_drewN | apply Kd.N_drew)); exact HO_10.out)) k_ hk_.2.1), (Kd.fresh' (Kd.R_lt (by (with_reducible repeat (first | apply Kd.R_alloc | apply Kd.R_drewN | apply Kd.R_drew)); exact HO_12.out)) k_ hk_.2.1)⟩)) (below_size (bC HB))); replace HO_10 := Aside0.mk (Kd.N_elder' (by (with_reducible repeat (first | apply Kd.N_alloc | apply Kd.N_drewN | apply Kd.N_drew)); exact HO_10.out) (Kd.N_base (Kd.S_N ho0)) hb); replace HO_12 := Aside0.mk (Kd.R_below (by (with_reducible repeat (first | apply Kd.R_alloc | apply Kd.R_drewN | apply Kd.R_drew)); exact HO_12.out) hb); replace HB := bW HB hb; (try clear hb); (try clear hb2); (try clear hk); (try clear hi); (try clear ho0)))
      (try simp only [Act.put, List.setIfInBounds_toArray, List.set_cons_zero, List.set_cons_succ])
      go_cut [62] (fun v62 wc => ∃ (kq : Nat) (x62_33 : Bool), v62 = .bool x62_33 ∧ Aside0 (engrosslaw16_ChangeBytes.j1 kq a2 a3 t247 x62_33 = some r) ∧ Aside0 (kq ≤ kj9) ∧ Aside0 (Kd.R (Kd.int .u8) 5 wc w.heap.size (fun _ => True) (.slice Ao35 t247.length co35) t247) ∧ Aside0 (Below w.heap.size w wc))
      case first =>
       have H := HC34.out
       clear HC34
       by_cases c37 : t258 = 0
       ·rw [if_pos c37] at H
        have c37b0 : (t258 == 0) = true := beq_iff_eq.mpr c37
        have c37b1 : (t258 != 0) = false := bne_eq_false_iff_eq.mpr c37
        clear c37
        (first | rw [c37b0] | (simp only [i64_w, i32_w]; rw [c37b0]) | skip)
        replace H := Option.bind_eq_some_iff.mp H
        obtain ⟨t261, A380, H⟩ := H
        replace H : (engrosslaw16_ChangeBytes.j1 kj9 a2 a3 t247 (!t261)) = some r := H
        have A38 := Aside0.mk A380
        clear A380
        have H' := Aside0.mk H
        clear H
        obtain ⟨Ao39, co39, eo39⟩ := Kd.N_slice HO260.out
        subst eo39
        go_wp2_with (first | (go_at_call 16; (with_reducible refine (engrossref10_EqImages.calls kj9 _ _ t257 _ _ t241 t261 _ ?side1 ?side2 ?side3 ?side4 A38.out).mono ?_); (case side1 => repeat (first | exact (Kd.N_reads' HO260.out).2.2 | (with_reducible refine Kd.C_alloc ?_ _) | (with_reducible refine Kd.C_drewN ?_ _) | (with_reducible refine Kd.C_drew ?_))); (case side2 => exact (Kd.N_reads' HO260.out).2.1); (case side3 => repeat (first | exact (Kd.N_reads' HO_10.out).2.2 | (with_reducible refine Kd.C_alloc ?_ _) | (with_reducible refine Kd.C_drewN ?_ _) | (with_reducible refine Kd.C_drew ?_))); (case side4 => exact (Kd.N_reads' HO_10.out).2.1); rintro e w' ⟨rfl, ⟨nd, rfl⟩⟩))
        go_meet
        case rel => exact ⟨_, (!t261), (by first | rfl | (simp; done) | (simp [*]; done)), H', ⟨by have := HJ9.out; first | omega | exact Nat.le_refl _⟩, ⟨by (with_reducible repeat (first | apply Kd.R_alloc | apply Kd.R_drewN | apply Kd.R_drew)); exact HO_12.out⟩, ⟨by repeat (first | (with_reducible first | exact HB.out | apply below_alloc | apply pw_below_drewN | apply below_drew1) | exact HB.out)⟩⟩
       ·rw [if_neg c37] at H
        exact absurd H (by simp)
      case rest =>
       clear HC34
       try clear c1
       try clear c2
       try clear p2
       try clear hcv2
       try clear c3
       try clear c6
       try clear c9
       try clear c10
       try clear c11
       try clear c12
       try clear c13
       try clear c14
       try clear c15
       try clear c16
       try clear c17
       try clear c18
       try clear c18b0
       try clear c18b1
       try clear c18b2
       try clear c20
       try clear c20b0
       try clear c20b1
       try clear hcv27
       try clear c30
       try clear c31
       try clear c31b0
       try clear c31b1
       try clear c31b2
       try clear c37
       try clear c37b0
       try clear c37b1
       try clear p2
       obtain ⟨kq, x62_33, rfl, HA, HJ33, HO_12, HB⟩ := hcut
       cases kq with
       | zero => exact absurd HA.out (by simp [engrosslaw16_ChangeBytes.j1])
       | succ kj33 =>
        have H := HA.out
        clear HA
        simp only [engrosslaw16_ChangeBytes.j1] at H
        by_cases c40 : x62_33 = true
        ·subst c40
         have H1 : (none) = some r := by rw [if_pos rfl] at H; exact H
         clear H
         have H := H1
         clear H1
         exact absurd H (by simp)
        ·replace c40 := Bool.eq_false_iff.mpr c40
         subst c40
         have H1 : (if a2 < 0 then (some true) else (if ([] : List Int).length + t247.length < 140737488355328 then ((some (([] : List Int) ++ t247 : List Int)).bind fun y262 => (if (y262.length : Int) = 0 then (none) else (if 0 ≤ (Int.tmod a2 (y262.length : Int)) then (if (Int.tmod a2 (y262.length : Int)) < (y262.length : Int) then ((some (y262.set ((Int.tmod a2 (y262.length : Int)) : Int).toNat (Go.bits .xor .u8 (rd y262 (Int.tmod a2 (y262.length : Int))) a3) : List Int)).bind fun y266 => ((engrosslaw16_tells.f kj33 y266).bind fun t267 => (if t267 = true then (if (Int.tmod a2 (y262.length : Int)) ≤ (y262.length : Int) then ((engrosslaw16_tells.f kj33 (y266.take ((Int.tmod a2 (y262.length : Int)) : Int).toNat)).bind fun t273 => (if t273 = true then (if y266.length < 140737488355328 then ((engrosslaw16_tells.f kj33 (y266 ++ [a3])).bind fun t277 => (some t277)) else (none)) else (none))) else (none)) else (none)))) else (none)) else (none)))) else (none))) = some r := by rw [if_neg (show ¬ (false = true) by decide)] at H; exact H
         clear H
         have H := H1
         clear H1
         by_cases c41 : a2 < 0
         ·rw [if_pos c41] at H
          have c41b0 : decide (a2 < 0) = true := decide_eq_true c41
          clear c41
          obtain rfl := Option.some.inj H
          go_wp2
          go_ret
          exact ⟨by first | rfl | (simp [errW_none, errW_some] <;> rfl) | (simp [*, errW_none, errW_some] <;> rfl), by repeat (first | (with_reducible first | exact HB.out | apply below_alloc | apply pw_below_drewN | apply below_drew1) | exact HB.out)⟩
         ·rw [if_neg c41] at H
          have c41b0 : decide (a2 < 0) = false := decide_eq_false c41
          clear c41
          by_cases c42 : ([] : List Int).length + t247.length < 140737488355328
          ·rw [if_pos c42] at H
           have LMc42 := Aside0.mk c42
           clear c42
           obtain ⟨y262, hy262⟩ : ∃ y_ : List Int, y_ = (([] : List Int) ++ t247) := ⟨_, rfl⟩
           replace H : (if (y262.length : Int) = 0 then (none) else (if 0 ≤ (Int.tmod a2 (y262.length : Int)) then (if (Int.tmod a2 (y262.length : Int)) < (y262.length : Int) then ((some (y262.set ((Int.tmod a2 (y262.length : Int)) : Int).toNat (Go.bits .xor .u8 (rd y262 (Int.tmod a2 (y262.length : Int))) a3) : List Int)).bind fun y266 => ((engrosslaw16_tells.f kj33 y266).bind fun t267 => (if t267 = true then (if (Int.tmod a2 (y262.length : Int)) ≤ (y262.length : Int) then ((engrosslaw16_tells.f kj33 (y266.take ((Int.tmod a2 (y262.length : Int)) : Int).toNat)).bind fun t273 => (if t273 = true then (if y266.length < 140737488355328 then ((engrosslaw16_tells.f kj33 (y266 ++ [a3])).bind fun t277 => (some t277)) else (none)) else (none))) else (none)) else (none)))) else (none)) else (none))) = some r := by first | (rw [hy262]; with_reducible exact H) | (have H2_ := (Option.bind_some _ _).symm.trans H; rw [hy262]; with_reducible exact H2_) | (have H2_ := (Option.bind_some _ _).symm.trans H; with_reducible exact H2_) | with_reducible exact H | (rw [hy262]; exact H) | exact H
           have Ny262 := Aside0.mk hy262
           clear hy262
           by_cases c43 : (y262.length : Int) = 0
           ·rw [if_pos c43] at H
            exact absurd H (by simp)
           ·rw [if_neg c43] at H
            have c43b0 : ((y262.length : Int) == 0) = false := beq_eq_false_iff_ne.mpr c43
            have c43b1 : ((y262.length : Int) != 0) = true := bne_iff_ne.mpr c43
            have c43b2 : ¬ (y262 = []) := fun h_ => c43 (by rw [h_]; rfl)
            obtain ⟨ji44, hji44⟩ : ∃ j_ : Int, (Int.tmod a2 (y262.length : Int)) = j_ := ⟨_, rfl⟩
            replace H : (if 0 ≤ (ji44) then (if (ji44) < (y262.length : Int) then ((some (y262.set ((ji44) : Int).toNat (Go.bits .xor .u8 (rd y262 (ji44)) a3) : List Int)).bind fun y266 => ((engrosslaw16_tells.f kj33 y266).bind fun t267 => (if t267 = true then (if (ji44) ≤ (y262.length : Int) then ((engrosslaw16_tells.f kj33 (y266.take ((ji44) : Int).toNat)).bind fun t273 => (if t273 = true then (if y266.length < 140737488355328 then ((engrosslaw16_tells.f kj33 (y266 ++ [a3])).bind fun t277 => (some t277)) else (none)) else (none))) else (none)) else (none)))) else (none)) else (none)) = some r := by first | (rw [hji44] at H; exact H) | (simp only [hji44] at H ⊢; exact H)
            by_cases c45 : 0 ≤ (ji44)
            ·rw [if_pos c45] at H
             have c45b0 : decide (0 ≤ (ji44)) = true := decide_eq_true c45
             clear c45
             by_cases c46 : (ji44) < (y262.length : Int)
             ·rw [if_pos c46] at H
              have c46b0 : decide ((ji44) < (y262.length : Int)) = true := decide_eq_true c46
              clear c46
              obtain ⟨y266, hy266⟩ : ∃ y_ : List Int, y_ = (y262.set ((ji44) : Int).toNat (Go.bits .xor .u8 (rd y262 (ji44)) a3)) := ⟨_, rfl⟩
              replace H : ((engrosslaw16_tells.f kj33 y266).bind fun t267 => (if t267 = true then (if (ji44) ≤ (y262.length : Int) then ((engrosslaw16_tells.f kj33 (y266.take ((ji44) : Int).toNat)).bind fun t273 => (if t273 = true then (if y266.length < 140737488355328 then ((engrosslaw16_tells.f kj33 (y266 ++ [a3])).bind fun t277 => (some t277)) else (none)) else (none))) else (none)) else (none))) = some r := by first | (rw [hy266]; with_reducible exact H) | (have H2_ := (Option.bind_some _ _).symm.trans H; rw [hy266]; with_reducible exact H2_) | (have H2_ := (Option.bind_some _ _).symm.trans H; with_reducible exact H2_) | with_reducible exact H | (rw [hy266]; exact H) | exact H
              have Ny266 := Aside0.mk hy266
              clear hy266
              replace H := Option.bind_eq_some_iff.mp H
              obtain ⟨t267, A480, H⟩ := H
              replace H : (if t267 = true then (if (ji44) ≤ (y262.length : Int) then ((engrosslaw16_tells.f kj33 (y266.take ((ji44) : Int).toNat)).bind fun t273 => (if t273 = true then (if y266.length < 140737488355328 then ((engrosslaw16_tells.f kj33 (y266 ++ [a3])).bind fun t277 => (some t277)) else (none)) else (none))) else (none)) else (none)) = some r := H
              have A48 := Aside0.mk A480
              clear A480
              by_cases c49 : t267 = true
              ·subst c49
               have H1 : (if (ji44) ≤ (y262.length : Int) then ((engrosslaw16_tells.f kj33 (y266.take ((ji44) : Int).toNat)).bind fun t273 => (if t273 = true then (if y266.length < 140737488355328 then ((engrosslaw16_tells.f kj33 (y266 ++ [a3])).bind fun t277 => (some t277)) else (none)) else (none))) else (none)) = some r := by rw [if_pos rfl] at H; exact H
               clear H
               have H := H1
               clear H1
               have c50b0 := eq_true (of_decide_eq_true (by first | (with_reducible assumption) | assumption) : 0 ≤ (ji44))
               by_cases c51 : (ji44) ≤ (y262.length : Int)
               ·rw [if_pos c51] at H
                have c51b0 := eq_true c51
                have c51b1 : decide ((ji44) ≤ (y262.length : Int)) = true := decide_eq_true c51
                clear c51
                obtain ⟨y268, hy268⟩ : ∃ y_ : List Int, y_ = (y266.take ((ji44) : Int).toNat) := ⟨_, rfl⟩
                replace H : ((engrosslaw16_tells.f kj33 y268).bind fun t273 => (if t273 = true then (if y266.length < 140737488355328 then ((engrosslaw16_tells.f kj33 (y266 ++ [a3])).bind fun t277 => (some t277)) else (none)) else (none))) = some r := by first | (rw [hy268]; with_reducible exact H) | (have H2_ := (Option.bind_some _ _).symm.trans H; rw [hy268]; with_reducible exact H2_) | (have H2_ := (Option.bind_some _ _).symm.trans H; with_reducible exact H2_) | with_reducible exact H | (rw [hy268]; exact H) | exact H
                have Ny268 := Aside0.mk hy268
                clear hy268
                replace H := Option.bind_eq_some_iff.mp H
                obtain ⟨t273, A520, H⟩ := H
                replace H : (if t273 = true then (if y266.length < 140737488355328 then ((engrosslaw16_tells.f kj33 (y266 ++ [a3])).bind fun t277 => (some t277)) else (none)) else (none)) = some r := H
                have A52 := Aside0.mk A520
                clear A520
                by_cases c53 : t273 = true
                ·subst c53
                 have H1 : (if y266.length < 140737488355328 then ((engrosslaw16_tells.f kj33 (y266 ++ [a3])).bind fun t277 => (some t277)) else (none)) = some r := by rw [if_pos rfl] at H; exact H
                 clear H
                 have H := H1
                 clear H1
                 by_cases c54 : y266.length < 140737488355328
                 ·rw [if_pos c54] at H
                  have LMc54 := Aside0.mk c54
                  clear c54
                  obtain ⟨y274, hy274⟩ : ∃ y_ : List Int, y_ = (y266 ++ [a3]) := ⟨_, rfl⟩
                  replace H : ((engrosslaw16_tells.f kj33 y274).bind fun t277 => (some t277)) = some r := by first | (rw [hy274]; with_reducible exact H) | (have H2_ := (Option.bind_some _ _).symm.trans H; rw [hy274]; with_reducible exact H2_) | (have H2_ := (Option.bind_some _ _).symm.trans H; with_reducible exact H2_) | with_reducible exact H | (rw [hy274]; exact H) | exact H
                  have Ny274 := Aside0.mk hy274
                  clear hy274
                  replace H := Option.bind_eq_some_iff.mp H
                  obtain ⟨t277, A550, H⟩ := H
                  replace H : (some t277) = some r := H
                  have A55 := Aside0.mk A550
                  clear A550
                  obtain rfl := Option.some.inj H
                  go_wp2_with (first | ((with_reducible refine gate_builtin (b := .append) (xs := #[.const (.slice none 0 0), .tmp 65]) rfl ?_); (try (refine gate_guard (by rfl) ?_; dsimp only)); at_builtin; refine Kd.R_append_rows (Kd.int .u8) (w0 := w) w.heap.size rfl (.const (.slice none 0 0)) (.tmp 65) 26 5 (.int .u8 0) 1 rfl Tryd.underlying26 info5 rfl (by decide) (by omega) (.slice none 0 0) ([] : List Int) t247 _ _ _ (fun k_ => some k_ ≠ (.slice Ao35 t247.length co35 : Value).ownBlock) (fun _ => False) rfl rfl ?aO ?aR (fun _ _ h => h) (fun _ h => h.elim) ?aF ?aB ?aS ?aL ?_; (case aR => repeat (first | exact (Kd.R_reads' HO_12.out).2.2 | (with_reducible refine Kd.C_alloc ?_ _) | (with_reducible refine Kd.C_drewN ?_ _) | (with_reducible refine Kd.C_drew ?_))); (case aB => exact (bC HB)); (case aF => exact (fun k_ hk => Kd.fresh' (Kd.R_lt (by (with_reducible repeat (first | apply Kd.R_alloc | apply Kd.R_drewN | apply Kd.R_drew)); exact HO_12.out)) k_ hk)); (case aO => exact ((Kd.R_nil _ _ _ _ (fun k_ => some k_ ≠ (.slice Ao35 t247.length co35 : Value).ownBlock)))); (case aS => exact (below_size (bC HB))); (case aL => have := LMc42.out; omega); intro v263 w56 ho hb hg hat; rw [← Ny262.out] at ho; have HO264 := Aside0.mk (ho); replace HO_12 := Aside0.mk (Kd.R_after (Kd.R_apart_nil (by (with_reducible repeat (first | apply Kd.R_alloc | apply Kd.R_drewN | apply Kd.R_drew)); exact HO_12.out)) hg hat); replace HB := Aside0.mk (hb); clear ho hb hg hat; obtain ⟨Ao57, co57, eo57⟩ := Kd.R_slice HO264.out; subst eo57; have p265 : 0 ≤ ((ji44) : Int) := of_decide_eq_true (by first | (with_reducible assumption) | assumption); have q265 : (ji44) < (y262.length : Int) := of_decide_eq_true (by first | (with_reducible assumption) | assumption); obtain ⟨ad265, e265, hx265_0⟩ := Kd.at_int (Kd.R_reads' HO264.out).2.2 (ji44) p265 q265; cases e265; replace p265 := eq_true p265; replace q265 := eq_true q265; have p47 : 0 ≤ ((ji44) : Int) := of_decide_eq_true (by first | (with_reducible assumption) | assumption); have q47 : ((ji44) : Int) < ((y262.length : Int) : Int) := of_decide_eq_true (by first | (with_reducible assumption) | assumption); obtain ⟨go47, co47, eo47, gb47, gl47, cl47, HG47⟩ := Kd.R_form HO264.out (by omega); (first | cases eo47 | (injection eo47 with ea_ en_ ec_; (first | subst ea_ | (injection ea_ with ea_; subst ea_)); subst ec_; clear en_)); have GB47 := Aside0.mk gb47; have GG47 := Aside0.mk HG47; clear gb47 gl47 HG47; (first | simp only [add_plain] at hx265_0 | skip); obtain ⟨hx47_0, hf47_0⟩ := Kd.R_celln 0 HO264.out ((ji44) : Int) p47 q47; replace p47 := eq_true p47; replace q47 := eq_true q47; obtain ⟨hy58_, hz58_⟩ := Kd.R_celln 0 HO264.out ((ji44) : Int) (of_decide_eq_true (by first | (with_reducible assumption) | assumption)) (of_decide_eq_true (by first | (with_reducible assumption) | assumption)); have HP58 := Kd.R_putg HO264.out ((ji44) : Int) (Go.bits .xor .u8 (rd y262 (ji44)) a3)) | ((with_reducible refine gate_store (t := 5) (p := 76) rfl ?_); refine store_event (t := 5) (p := 76) (v := ?vo_w59) (w1 := (w56.setCell ⟨go47, ((ji44) : Int).toNat, none⟩ (.int .u8 (Go.bits .xor .u8 (rd y262 (ji44)) a3)))) ?hg ?ho ?hn ?hr ?_; (case ho => rfl); (case hg => rfl); (case hn => rfl); (case hr => first | (go_simp; done) | (go_simp; rfl)); intro w59 hw; have hg : w56.grownBy w59 (some go47) := (by rw [hw]; exact HP58.2); have hp_ : Kd.R (Kd.int .u8) 5 w59 w.heap.size (fun k_ => some k_ ≠ (.slice Ao35 t247.length co35 : Value).ownBlock) (.slice (some ⟨go47, 0, none⟩) y262.length co57) y266 := (by rw [hw, Ny266.out]; exact HP58.1); clear HP58; replace HO_12 := Aside0.mk (Kd.R_after (v := (.slice (some ⟨go47, 0, none⟩) y262.length co57)) (v1 := (.slice (some ⟨go47, 0, none⟩) y262.length co57)) (ok := (fun _ => True)) (by (with_reducible repeat (first | apply Kd.R_alloc | apply Kd.R_drewN | apply Kd.R_drew)); exact HO_12.out) hg (.inl rfl)); replace HO264 := Aside0.mk (hp_); replace HB := Aside0.mk ((by rw [hw]; exact below_set (HB.out) GB47.out : Below w.heap.size w w59)); clear hg hw hp_) | ((with_reducible refine gate_callee (f := 18) rfl ?_); refine goesL_ (some 78) rfl rfl Tryd.func18 (by kernel_rfl) rfl #[.slice (some ⟨go47, 0, none⟩) y266.length co57] rfl (by (try simp only [List.map_toArray, List.map_cons, List.map_nil]); first | done | (rw [show y266.length = y262.length from (Kd.R_reads' HO264.out).1.symm] <;> rfl) | rfl | (simp only [List.length_drop, List.length_take]; rfl)) ?_; (with_reducible refine (engrosslaw16_tells.calls kj33 _ _ y266 true _ ?side1 ?side2 A48.out).mono ?_); (case side1 => repeat (first | exact (Kd.R_reads' HO264.out).2.2 | (with_reducible refine Kd.C_alloc ?_ _) | (with_reducible refine Kd.C_drewN ?_ _) | (with_reducible refine Kd.C_drew ?_))); (case side2 => rw [show y266.length = y262.length from (Kd.R_reads' HO264.out).1.symm]; exact (Kd.R_reads' HO264.out).2.1); rintro e w60 ⟨rfl, hb⟩; refine ⟨_, rfl, ?_⟩; replace HO_12 := Aside0.mk (Kd.R_below (by (with_reducible repeat (first | apply Kd.R_alloc | apply Kd.R_drewN | apply Kd.R_drew)); exact HO_12.out) hb); replace HO264 := Aside0.mk (Kd.R_below (by (with_reducible repeat (first | apply Kd.R_alloc | apply Kd.R_drewN | apply Kd.R_drew)); exact HO264.out) hb); replace HB := bW HB hb; (try clear hb); (try clear hb2); (try clear hk); (try clear hi); have hlx61 := (Kd.R_reads' HO264.out).1; have q61 : ((ji44) : Int) ≤ ((y262.length : Int) : Int) := of_decide_eq_true (by first | (with_reducible assumption) | assumption); obtain ⟨i061, hi061, _, hsz61, _⟩ := info_parts info5; have hroom61 : y262.length ≤ co57 := (Kd.R_reads' HO264.out).2.1; have hroomc61 : y266.length ≤ co57 := (by rw [← hlx61]; exact hroom61); have hC61 : Kd.F (Kd.int .u8) _ _ (some ⟨go47, 0, none⟩) y266.length y266 := (Kd.V_at (base := w.heap.size) (Kd.R_V HO264.out)).2.2; have hcut61 := cut_to (P := Tryd.prog) 26 5 .i64 Tryd.underlying26 hi061 (some ⟨go47, 0, none⟩) y262.length co57 (ji44) (of_decide_eq_true (by first | (with_reducible assumption) | assumption)) q61 hroom61; have hr61 := Kd.F_take (m := ((ji44) : Int).toNat) hC61 (by omega); have hy61 : y268.length = ((ji44) : Int).toNat := (by rw [Ny268.out, List.length_take]; omega); rw [← Ny268.out] at hr61; rw [← hy61] at hcut61; have HO272 := Aside0.mk (show Kd.V (Kd.int .u8) 5 _ w.heap.size _ (.slice (some ⟨go47, 0, none⟩) y268.length co57) y268 from Kd.V_mk (by omega) hr61); have HC272 := Aside0.mk (show y268.length ≤ co57 from by omega); clear hr61 hC61 hroom61 hi061 hsz61 hroomc61; have KY61 := Aside0.mk hy61; clear hy61; clear hlx61; replace q61 := eq_true q61) | (go_at_call 18; (with_reducible refine (engrosslaw16_tells.calls kj33 _ _ y268 true _ ?side1 ?side2 A52.out).mono ?_); (case side1 => repeat (first | exact (Kd.V_reads' HO272.out).2.2 | (with_reducible refine Kd.C_alloc ?_ _) | (with_reducible refine Kd.C_drewN ?_ _) | (with_reducible refine Kd.C_drew ?_))); (case side2 => exact (Kd.V_reads' HO272.out).2.1); rintro e w62 ⟨rfl, hb⟩; replace HO_12 := Aside0.mk (Kd.R_below (by (with_reducible repeat (first | apply Kd.R_alloc | apply Kd.R_drewN | apply Kd.R_drew)); exact HO_12.out) hb); replace HO264 := Aside0.mk (Kd.R_below (by (with_reducible repeat (first | apply Kd.R_alloc | apply Kd.R_drewN | apply Kd.R_drew)); exact HO264.out) hb); replace HO272 := Aside0.mk (Kd.V_below (by (with_reducible repeat (first | apply Kd.V_alloc | apply Kd.V_drewN | apply Kd.V_drew)); exact HO272.out) hb); replace HB := bW HB hb; (try clear hb); (try clear hb2); (try clear hk); (try clear hi)) | ((with_reducible refine gate_builtin (b := .append) (xs := #[.tmp 89, .tmp 91]) rfl ?_); (try (refine gate_guard (by rfl) ?_; dsimp only)); at_builtin; refine Kd.R_append (Kd.int .u8) (w0 := w) w.heap.size rfl (.tmp 89) (.tmp 91) 26 5 (.int .u8 0) 1 rfl Tryd.underlying26 info5 rfl (by decide) (by omega) (.slice (some ⟨go47, 0, none⟩) y262.length co57) y266 a3 [.int .u8 a3] (fun k_ => some k_ ≠ (.slice Ao35 t247.length co35 : Value).ownBlock) (fun _ => False) rfl rfl ?aP (fun _ hk => hk.elim) ?aF ?aO ?aB ?aS ?aL ?_; (case aP => exact rfl); (case aB => exact (bC HB)); (case aF => exact (fun k_ hk => Kd.fresh' (Kd.R_lt (by (with_reducible repeat (first | apply Kd.R_alloc | apply Kd.R_drewN | apply Kd.R_drew)); exact HO_12.out)) k_ hk)); (case aO => exact (by (with_reducible repeat (first | apply Kd.R_alloc | apply Kd.R_drewN | apply Kd.R_drew)); exact HO264.out)); (case aS => exact (below_size (bC HB))); (case aL => have := LMc54.out; omega); intro v275 w63 ho hb hg hat; rw [← Ny274.out] at ho; have HO276 := Aside0.mk (ho); replace HO_12 := Aside0.mk (Kd.R_after (ok := (fun _ => True)) (by (with_reducible repeat (first | apply Kd.R_alloc | apply Kd.R_drewN | apply Kd.R_drew)); exact HO_12.out) hg hat); replace HB := Aside0.mk (hb); clear HO264; clear ho hb hg hat; obtain ⟨Ao64, co64, eo64⟩ := Kd.R_slice HO276.out; subst eo64) | (go_at_call 18; (with_reducible refine (engrosslaw16_tells.calls kj33 _ _ y274 t277 _ ?side1 ?side2 A55.out).mono ?_); (case side1 => repeat (first | exact (Kd.R_reads' HO276.out).2.2 | (with_reducible refine Kd.C_alloc ?_ _) | (with_reducible refine Kd.C_drewN ?_ _) | (with_reducible refine Kd.C_drew ?_))); (case side2 => exact (Kd.R_reads' HO276.out).2.1); rintro e w65 ⟨rfl, hb⟩; replace HO_12 := Aside0.mk (Kd.R_below (by (with_reducible repeat (first | apply Kd.R_alloc | apply Kd.R_drewN | apply Kd.R_drew)); exact HO_12.out) hb); replace HO276 := Aside0.mk (Kd.R_below (by (with_reducible repeat (first | apply Kd.R_alloc | apply Kd.R_drewN | apply Kd.R_drew)); exact HO276.out) hb); replace HB := bW HB hb; (try clear hb); (try clear hb2); (try clear hk); (try clear hi)))
                  go_ret
                  exact ⟨by first | rfl | (simp [errW_none, errW_some] <;> rfl) | (simp only [← hji44]; first | rfl | (simp [errW_none, errW_some] <;> rfl)) | (simp [*, errW_none, errW_some] <;> rfl), by repeat (first | (with_reducible first | exact HB.out | apply below_alloc | apply pw_below_drewN | apply below_drew1) | exact HB.out)⟩
                 ·rw [if_neg c54] at H
                  exact absurd H (by simp)
                ·replace c53 := Bool.eq_false_iff.mpr c53
                 subst c53
                 have H1 : (none) = some r := by rw [if_neg (show ¬ (false = true) by decide)] at H; exact H
                 clear H
                 have H := H1
                 clear H1
                 exact absurd H (by simp)
               ·rw [if_neg c51] at H
                exact absurd H (by simp)
              ·replace c49 := Bool.eq_false_iff.mpr c49
               subst c49
               have H1 : (none) = some r := by rw [if_neg (show ¬ (false = true) by decide)] at H; exact H
               clear H
               have H := H1
               clear H1
               exact absurd H (by simp)
             ·rw [if_neg c46] at H
              exact absurd H (by simp)
            ·rw [if_neg c45] at H
             exact absurd H (by simp)
          ·rw [if_neg c42] at H
           exact absurd H (by simp)
 ·replace c6 := Bool.eq_false_iff.mpr c6
  subst c6
  have H1 : (none) = some r := by rw [if_neg (show ¬ (false = true) by decide)] at H; exact H
  clear H
  have H := H1
  clear H1
  exact absurd H (by simp)

/-- THE ONE PURE STATEMENT of engrosslaw16_ChangeBytes. -/
def engrosslaw16_ChangeBytes.Pure : Prop := ∀ (l0 : List (S44)) (l1 : List (S44)) (a2 : Int) (a3 : Int), (l0.length ≤ 9223372036854775807 ∧ ∀ y ∈ l0, wf44 y) → (l1.length ≤ 9223372036854775807 ∧ ∀ y ∈ l1, wf44 y) → (Lit.int .i64 a2).wf = true → (Lit.int .u8 a3).wf = true → ∃ k, engrosslaw16_ChangeBytes.f k l0 l1 a2 a3 = some true

/-! ### engrosslaw16_ChangeAny: function 4 -/
def engrosslaw16_ChangeAny.f (k : Nat) (l0 : List Int) : Option (Bool) := (engrosslaw16_begun.f k).bind fun t278 => (if t278 = true then ((engrosslaw1_Short.f l0 100).bind fun t279 => ((engrosslaw16_tells.f k t279).bind fun t282 => (some t282))) else (none))
theorem engrosslaw16_ChangeAny.mono : ∀ a0 k, LeO (engrosslaw16_ChangeAny.f k a0) (engrosslaw16_ChangeAny.f (k + 1) a0) := by
 intro a0 k
 unfold engrosslaw16_ChangeAny.f
 repeat' first
   | (with_reducible exact engrosslaw16_begun.mono _)
   | (with_reducible exact engrosslaw16_tells.mono _ _)
   | (with_reducible exact LeO.refl _)
   | (with_reducible exact LeO.none _)
   | (with_reducible refine LeO.ite ?_ ?_)
   | (with_reducible refine LeO.bind ?_ (fun _ => ?_))
   | exact engrosslaw16_begun.mono _
   | exact engrosslaw16_tells.mono _ _
   | exact LeO.none _
   | refine LeO.ite ?_ ?_
   | refine LeO.bind ?_ (fun _ => ?_)
set_option maxHeartbeats 8000000 in
set_option maxRecDepth 100000 in
theorem engrosslaw16_ChangeAny.calls (k : Nat) (A0 : Option Addr) (c0 : Nat) (l0 : List Int) (r : Bool) (w : World) (hr0 : Kd.C (Kd.int .u8) w A0 l0.length l0) (hc0 : l0.length ≤ c0) (h : engrosslaw16_ChangeAny.f k l0 = some r) :
  Calls Tryd.prog 4 #[.slice A0 l0.length c0] w fun e w' => e = .returned (.bool r) ∧ Below w.heap.size w w' := by
 have HR0 := Aside0.mk hr0
 have HC0 := Aside0.mk hc0
 clear hr0 hc0
 have HB := Aside0.mk (Below.refl w.heap.size w)
 have H : ((engrosslaw16_begun.f k).bind fun t278 => (if t278 = true then ((engrosslaw1_Short.f l0 100).bind fun t279 => ((engrosslaw16_tells.f k t279).bind fun t282 => (some t282))) else (none))) = some r := h
 clear h
 replace H := Option.bind_eq_some_iff.mp H
 obtain ⟨t278, A20, H⟩ := H
 replace H : (if t278 = true then ((engrosslaw1_Short.f l0 100).bind fun t279 => ((engrosslaw16_tells.f k t279).bind fun t282 => (some t282))) else (none)) = some r := H
 have A2 := Aside0.mk A20
 clear A20
 by_cases c3 : t278 = true
 ·subst c3
  have H1 : ((engrosslaw1_Short.f l0 100).bind fun t279 => ((engrosslaw16_tells.f k t279).bind fun t282 => (some t282))) = some r := by rw [if_pos rfl] at H; exact H
  clear H
  have H := H1
  clear H1
  replace H := Option.bind_eq_some_iff.mp H
  obtain ⟨t279, A40, H⟩ := H
  replace H : ((engrosslaw16_tells.f k t279).bind fun t282 => (some t282)) = some r := H
  have A4 := Aside0.mk A40
  clear A40
  replace H := Option.bind_eq_some_iff.mp H
  obtain ⟨t282, A50, H⟩ := H
  replace H : (some t282) = some r := H
  have A5 := Aside0.mk A50
  clear A50
  obtain rfl := Option.some.inj H
  go_enter Tryd.func4, Tryd.ntmps4
  go_wp2_with (first | ((with_reducible refine gate_callee (f := 9) rfl ?_); refine goesL_ (some 4) rfl rfl Tryd.func9 (by kernel_rfl) rfl #[] rfl (by (try simp only [List.map_toArray, List.map_cons, List.map_nil]); first | done | rfl | (simp only [List.length_drop, List.length_take]; rfl)) ?_; (with_reducible refine (engrosslaw16_begun.calls k  true _ A2.out).mono ?_); rintro e w6 ⟨rfl, hb⟩; refine ⟨_, rfl, ?_⟩; replace HB := bW HB hb; (try clear hb); (try clear hb2); (try clear hk); (try clear hi)) | ((with_reducible refine gate_callee (f := 19) rfl ?_); refine goesL_ (some 8) rfl rfl Tryd.func19 (by kernel_rfl) rfl #[.slice A0 l0.length c0, .int .i64 100] rfl (by (try simp only [List.map_toArray, List.map_cons, List.map_nil]); first | done | rfl | (simp only [List.length_drop, List.length_take]; rfl)) ?_; (with_reducible refine (engrosslaw1_Short.calls (fun k_ => k_ < w.heap.size) _ _ l0 100 t279 _ ?side1 A4.out).mono ?_); (case side1 => exact Kd.V_mk HC0.out (Kd.F_below (Kd.C_F (Kd.heap_int .u8) HR0.out) (bC HB))); rintro e w7 ⟨v280, rfl, ho0, hb⟩; refine ⟨_, rfl, ?_⟩; have HO281 := Aside0.mk (Kd.V_lower (Kd.V_mono (ok' := fun k_ => True) ho0 (fun k_ hk_ => trivial)) (below_size (bC HB))); replace HB := bW HB hb; (try clear hb); (try clear hb2); (try clear hk); (try clear hi); (try clear ho0); obtain ⟨Ao8, co8, eo8⟩ := Kd.V_slice HO281.out; subst eo8) | ((with_reducible refine gate_callee (f := 18) rfl ?_); refine goesL_ (some 9) rfl rfl Tryd.func18 (by kernel_rfl) rfl #[.slice Ao8 t279.length co8] rfl (by (try simp only [List.map_toArray, List.map_cons, List.map_nil]); first | done | rfl | (simp only [List.length_drop, List.length_take]; rfl)) ?_; (with_reducible refine (engrosslaw16_tells.calls k _ _ t279 t282 _ ?side1 ?side2 A5.out).mono ?_); (case side1 => repeat (first | exact (Kd.V_reads' HO281.out).2.2 | (with_reducible refine Kd.C_alloc ?_ _) | (with_reducible refine Kd.C_drewN ?_ _) | (with_reducible refine Kd.C_drew ?_))); (case side2 => exact (Kd.V_reads' HO281.out).2.1); rintro e w9 ⟨rfl, hb⟩; refine ⟨_, rfl, ?_⟩; replace HO281 := Aside0.mk (Kd.V_below (by (with_reducible repeat (first | apply Kd.V_alloc | apply Kd.V_drewN | apply Kd.V_drew)); exact HO281.out) hb); replace HB := bW HB hb; (try clear hb); (try clear hb2); (try clear hk); (try clear hi)))
  go_ret
  exact ⟨by first | rfl | (simp [errW_none, errW_some] <;> rfl) | (simp [*, errW_none, errW_some] <;> rfl), by repeat (first | (with_reducible first | exact HB.out | apply below_alloc | apply pw_below_drewN | apply below_drew1) | exact HB.out)⟩
 ·replace c3 := Bool.eq_false_iff.mpr c3
  subst c3
  have H1 : (none) = some r := by rw [if_neg (show ¬ (false = true) by decide)] at H; exact H
  clear H
  have H := H1
  clear H1
  exact absurd H (by simp)

/-- THE ONE PURE STATEMENT of engrosslaw16_ChangeAny: yours. -/
def engrosslaw16_ChangeAny.Pure : Prop := ∀ (l0 : List Int), l0.length ≤ maxLen → l0.length * 1 ≤ 140737488351232 → (∀ x ∈ l0, (Lit.int .u8 x).wf = true) → ∃ k, engrosslaw16_ChangeAny.f k l0 = some true
theorem engrosslaw16_ChangeAny.walk (P : engrosslaw16_ChangeAny.Pure) (a0 : Option Addr) (len0 cap0 : Nat) (z0 : List Int) (w : World) (w0 : (a0 = none ∧ len0 = 0 ∧ cap0 = 0 ∧ z0 = []) ∨ ∃ x, a0 = some x ∧ len0 ≤ cap0 ∧ cap0 ≤ maxLen ∧ z0.length = cap0 ∧ (∀ i, i < z0.length → w.cell? (x.add i) = some (.int .u8 (z0.getD i 0))) ∧ ∀ n ∈ z0, (Lit.int .u8 n).wf = true) (y0 : len0 * 1 ≤ 140737488351232) :
  Calls Tryd.prog 4 #[.slice a0 len0 cap0] w fun e w' => e = .returned (.bool true) ∧ Below w.heap.size w w' := by
 obtain ⟨l0, rfl, hr0, hm0, hw0, hc0⟩ := ReadsInt.ofRowC w0
 obtain ⟨k, h⟩ := P l0 hm0 y0 hw0
 refine (engrosslaw16_ChangeAny.calls k _ _ l0 true w (Kd.C_of_reads (d := (0 : Int)) (h1 := fun _ => rfl) hr0) hc0 h).mono ?_
 rintro e w' ⟨rfl, hd⟩
 exact ⟨rfl, hd⟩

end Go.Proofs.YtijnfnlahhgpgaaDoor.P
