/- Functions of the program as Lean functions, and that each call answers as its function does. No condition. (Lines written by a generator of this session.) -/
import Derived.Test.YtijnfnlahhgpgaaDoorPx0
import Derived.Test.YtijnfnlahhgpgaaDoorPx1
import Derived.Test.YtijnfnlahhgpgaaDoorPx2
import Derived.Test.YtijnfnlahhgpgaaDoorPx4
import Derived.Test.YtijnfnlahhgpgaaDoorXM
namespace Go.Proofs.YtijnfnlahhgpgaaDoor.P
open Go.RowKit Go.Proofs.YtijnfnlahhgpgaaDoorW.PrintWords Go.Proofs.YtijnfnlahhgpgaaDoorW.PrintLast Go.Proofs.YtijnfnlahhgpgaaDoorW.PrintMore
attribute [local go_sem] max2_int min2_int max_two min_two max_three min_three max_four min_four   -- for this text's walks alone
attribute [local go_sem] x_str_gtr x_str_leq x_str_geq  Instr.field asAgg
set_option linter.unusedVariables false
set_option linter.unusedSimpArgs false

-- BY HAND: function 20 (engrosslaw9_Of)

/-! ### engrosslaw16_begun: function 9 -/
def engrosslaw16_begun.f (k : Nat)  : Option (Bool) := (engrosslaw9_Of.f (([97, 98] : List Int))).bind fun t170 => ((some (([(⟨3, t170⟩ : S38)] : List (S38)) : List (S38))).bind fun y173 => ((change_Encode.f k y173).bind fun t176 => ((change_Decode.f k t176).bind fun bt179 => ((change_May.f k y173).bind fun t183 => (if t183 = true then ((change_May.f k ([] : List (S38))).bind fun t184 => (if t184 = true then (none) else (if (strOfNums t176).toList = ([2, 6, 4, 97, 98] : List UInt8) then (if bt179.2 = 0 then ((change_Eq.f k y173 bt179.1).bind fun t185 => (if t185 = true then ((change_Eq.f k y173 ([] : List (S38))).bind fun t186 => (some (!t186))) else (none))) else (none)) else (none)))) else (none))))))
theorem engrosslaw16_begun.mono : ∀ k, LeO (engrosslaw16_begun.f k ) (engrosslaw16_begun.f (k + 1) ) := by
 intro  k
 unfold engrosslaw16_begun.f
 repeat' first
   | (with_reducible exact change_Decode.mono _ _)
   | (with_reducible exact change_Encode.mono _ _)
   | (with_reducible exact change_Eq.mono _ _ _)
   | (with_reducible exact change_May.mono _ _)
   | (with_reducible exact LeO.refl _)
   | (with_reducible exact LeO.none _)
   | (with_reducible refine LeO.ite ?_ ?_)
   | (with_reducible refine LeO.bind ?_ (fun _ => ?_))
   | exact change_Decode.mono _ _
   | exact change_Encode.mono _ _
   | exact change_Eq.mono _ _ _
   | exact change_May.mono _ _
   | exact LeO.none _
   | refine LeO.ite ?_ ?_
   | refine LeO.bind ?_ (fun _ => ?_)
set_option maxHeartbeats 8000000 in
set_option maxRecDepth 100000 in
theorem engrosslaw16_begun.calls (k : Nat)  (r : Bool) (w : World) (h : engrosslaw16_begun.f k  = some r) :
  Calls Tryd.prog 9 #[] w fun e w' => e = .returned (.bool r) ∧ Below w.heap.size w w' := by
 have hu38 := Tryd.underlying38
 have HB := Aside0.mk (Below.refl w.heap.size w)
 have H : ((engrosslaw9_Of.f (([97, 98] : List Int))).bind fun t170 => ((some (([(⟨3, t170⟩ : S38)] : List (S38)) : List (S38))).bind fun y173 => ((change_Encode.f k y173).bind fun t176 => ((change_Decode.f k t176).bind fun bt179 => ((change_May.f k y173).bind fun t183 => (if t183 = true then ((change_May.f k ([] : List (S38))).bind fun t184 => (if t184 = true then (none) else (if (strOfNums t176).toList = ([2, 6, 4, 97, 98] : List UInt8) then (if bt179.2 = 0 then ((change_Eq.f k y173 bt179.1).bind fun t185 => (if t185 = true then ((change_Eq.f k y173 ([] : List (S38))).bind fun t186 => (some (!t186))) else (none))) else (none)) else (none)))) else (none))))))) = some r := h
 clear h
 obtain ⟨y167, hy167⟩ : ∃ y_ : List Int, y_ = (([97, 98] : List Int)) := ⟨_, rfl⟩
 replace H : ((engrosslaw9_Of.f y167).bind fun t170 => ((some (([(⟨3, t170⟩ : S38)] : List (S38)) : List (S38))).bind fun y173 => ((change_Encode.f k y173).bind fun t176 => ((change_Decode.f k t176).bind fun bt179 => ((change_May.f k y173).bind fun t183 => (if t183 = true then ((change_May.f k ([] : List (S38))).bind fun t184 => (if t184 = true then (none) else (if (strOfNums t176).toList = ([2, 6, 4, 97, 98] : List UInt8) then (if bt179.2 = 0 then ((change_Eq.f k y173 bt179.1).bind fun t185 => (if t185 = true then ((change_Eq.f k y173 ([] : List (S38))).bind fun t186 => (some (!t186))) else (none))) else (none)) else (none)))) else (none))))))) = some r := by first | (rw [hy167]; with_reducible exact H) | (have H2_ := (Option.bind_some _ _).symm.trans H; rw [hy167]; with_reducible exact H2_) | (have H2_ := (Option.bind_some _ _).symm.trans H; with_reducible exact H2_) | with_reducible exact H | (rw [hy167]; exact H) | exact H
 have Ny167 := Aside0.mk hy167
 clear hy167
 replace H := Option.bind_eq_some_iff.mp H
 obtain ⟨t170, A10, H⟩ := H
 replace H : ((some (([(⟨3, t170⟩ : S38)] : List (S38)) : List (S38))).bind fun y173 => ((change_Encode.f k y173).bind fun t176 => ((change_Decode.f k t176).bind fun bt179 => ((change_May.f k y173).bind fun t183 => (if t183 = true then ((change_May.f k ([] : List (S38))).bind fun t184 => (if t184 = true then (none) else (if (strOfNums t176).toList = ([2, 6, 4, 97, 98] : List UInt8) then (if bt179.2 = 0 then ((change_Eq.f k y173 bt179.1).bind fun t185 => (if t185 = true then ((change_Eq.f k y173 ([] : List (S38))).bind fun t186 => (some (!t186))) else (none))) else (none)) else (none)))) else (none)))))) = some r := H
 have A1 := Aside0.mk A10
 clear A10
 obtain ⟨y173, hy173⟩ : ∃ y_ : List (S38), y_ = (([(⟨3, t170⟩ : S38)] : List (S38))) := ⟨_, rfl⟩
 replace H : ((change_Encode.f k y173).bind fun t176 => ((change_Decode.f k t176).bind fun bt179 => ((change_May.f k y173).bind fun t183 => (if t183 = true then ((change_May.f k ([] : List (S38))).bind fun t184 => (if t184 = true then (none) else (if (strOfNums t176).toList = ([2, 6, 4, 97, 98] : List UInt8) then (if bt179.2 = 0 then ((change_Eq.f k y173 bt179.1).bind fun t185 => (if t185 = true then ((change_Eq.f k y173 ([] : List (S38))).bind fun t186 => (some (!t186))) else (none))) else (none)) else (none)))) else (none))))) = some r := by first | (rw [hy173]; with_reducible exact H) | (have H2_ := (Option.bind_some _ _).symm.trans H; rw [hy173]; with_reducible exact H2_) | (have H2_ := (Option.bind_some _ _).symm.trans H; with_reducible exact H2_) | with_reducible exact H | (rw [hy173]; exact H) | exact H
 have Ny173 := Aside0.mk hy173
 clear hy173
 replace H := Option.bind_eq_some_iff.mp H
 obtain ⟨t176, A20, H⟩ := H
 replace H : ((change_Decode.f k t176).bind fun bt179 => ((change_May.f k y173).bind fun t183 => (if t183 = true then ((change_May.f k ([] : List (S38))).bind fun t184 => (if t184 = true then (none) else (if (strOfNums t176).toList = ([2, 6, 4, 97, 98] : List UInt8) then (if bt179.2 = 0 then ((change_Eq.f k y173 bt179.1).bind fun t185 => (if t185 = true then ((change_Eq.f k y173 ([] : List (S38))).bind fun t186 => (some (!t186))) else (none))) else (none)) else (none)))) else (none)))) = some r := H
 have A2 := Aside0.mk A20
 clear A20
 replace H := Option.bind_eq_some_iff.mp H
 obtain ⟨⟨t179, t180⟩, A30, H⟩ := H
 replace H : ((change_May.f k y173).bind fun t183 => (if t183 = true then ((change_May.f k ([] : List (S38))).bind fun t184 => (if t184 = true then (none) else (if (strOfNums t176).toList = ([2, 6, 4, 97, 98] : List UInt8) then (if t180 = 0 then ((change_Eq.f k y173 t179).bind fun t185 => (if t185 = true then ((change_Eq.f k y173 ([] : List (S38))).bind fun t186 => (some (!t186))) else (none))) else (none)) else (none)))) else (none))) = some r := H
 have A3 := Aside0.mk A30
 clear A30
 replace H := Option.bind_eq_some_iff.mp H
 obtain ⟨t183, A40, H⟩ := H
 replace H : (if t183 = true then ((change_May.f k ([] : List (S38))).bind fun t184 => (if t184 = true then (none) else (if (strOfNums t176).toList = ([2, 6, 4, 97, 98] : List UInt8) then (if t180 = 0 then ((change_Eq.f k y173 t179).bind fun t185 => (if t185 = true then ((change_Eq.f k y173 ([] : List (S38))).bind fun t186 => (some (!t186))) else (none))) else (none)) else (none)))) else (none)) = some r := H
 have A4 := Aside0.mk A40
 clear A40
 by_cases c5 : t183 = true
 ·subst c5
  have H1 : ((change_May.f k ([] : List (S38))).bind fun t184 => (if t184 = true then (none) else (if (strOfNums t176).toList = ([2, 6, 4, 97, 98] : List UInt8) then (if t180 = 0 then ((change_Eq.f k y173 t179).bind fun t185 => (if t185 = true then ((change_Eq.f k y173 ([] : List (S38))).bind fun t186 => (some (!t186))) else (none))) else (none)) else (none)))) = some r := by rw [if_pos rfl] at H; exact H
  clear H
  have H := H1
  clear H1
  replace H := Option.bind_eq_some_iff.mp H
  obtain ⟨t184, A60, H⟩ := H
  replace H : (if t184 = true then (none) else (if (strOfNums t176).toList = ([2, 6, 4, 97, 98] : List UInt8) then (if t180 = 0 then ((change_Eq.f k y173 t179).bind fun t185 => (if t185 = true then ((change_Eq.f k y173 ([] : List (S38))).bind fun t186 => (some (!t186))) else (none))) else (none)) else (none))) = some r := H
  have A6 := Aside0.mk A60
  clear A60
  by_cases c7 : t184 = true
  ·subst c7
   have H1 : (none) = some r := by rw [if_pos rfl] at H; exact H
   clear H
   have H := H1
   clear H1
   exact absurd H (by simp)
  ·replace c7 := Bool.eq_false_iff.mpr c7
   subst c7
   have H1 : (if (strOfNums t176).toList = ([2, 6, 4, 97, 98] : List UInt8) then (if t180 = 0 then ((change_Eq.f k y173 t179).bind fun t185 => (if t185 = true then ((change_Eq.f k y173 ([] : List (S38))).bind fun t186 => (some (!t186))) else (none))) else (none)) else (none)) = some r := by rw [if_neg (show ¬ (false = true) by decide)] at H; exact H
   clear H
   have H := H1
   clear H1
   by_cases c8 : (strOfNums t176).toList = ([2, 6, 4, 97, 98] : List UInt8)
   ·rw [if_pos c8] at H
    have c8b0 : ((strOfNums t176).toList == ([2, 6, 4, 97, 98] : List UInt8)) = true := beq_iff_eq.mpr c8
    have c8b1 : ((strOfNums t176).toList != ([2, 6, 4, 97, 98] : List UInt8)) = false := bne_eq_false_iff_eq.mpr c8
    clear c8
    by_cases c9 : t180 = 0
    ·rw [if_pos c9] at H
     have c9b0 : (t180 == 0) = true := beq_iff_eq.mpr c9
     have c9b1 : (t180 != 0) = false := bne_eq_false_iff_eq.mpr c9
     clear c9
     replace H := Option.bind_eq_some_iff.mp H
     obtain ⟨t185, A100, H⟩ := H
     replace H : (if t185 = true then ((change_Eq.f k y173 ([] : List (S38))).bind fun t186 => (some (!t186))) else (none)) = some r := H
     have A10 := Aside0.mk A100
     clear A100
     by_cases c11 : t185 = true
     ·subst c11
      have H1 : ((change_Eq.f k y173 ([] : List (S38))).bind fun t186 => (some (!t186))) = some r := by rw [if_pos rfl] at H; exact H
      clear H
      have H := H1
      clear H1
      replace H := Option.bind_eq_some_iff.mp H
      obtain ⟨t186, A120, H⟩ := H
      replace H : (some (!t186)) = some r := H
      have A12 := Aside0.mk A120
      clear A120
      obtain rfl := Option.some.inj H
      go_enter Tryd.func9, Tryd.ntmps9
      go_wp2_with (first | ((with_reducible refine gate_dst (N := 5) rfl ?_); refine Kd.R_lit (Kd.int .u8) _ 5 ?hg (N := 5) ?hd (xs := ([97, 98] : List Int)) (inner := [.int .u8 97, .int .u8 98]) (ok := fun _ => True) (okp := fun _ => True) ?hr ?hp (fun _ hk => hk) trivial (Below.refl _ _) (Nat.le_refl _) (by simp) ?_; (case hd => rfl); (case hg => rfl); (case hr => first | (go_simp; done) | (go_simp; rfl)); (case hp => exact (Reps.one (show Kd.M (Kd.int .u8) _ _ _ 97 [.int .u8 97] from rfl) (Reps.one (show Kd.M (Kd.int .u8) _ _ _ 98 [.int .u8 98] from rfl) (Reps.none _ _)))); intro v168 w13 ho14 hb hg_ hnew_; clear hg_ hnew_; (first | rw [← Ny167.out] at ho14 | (simp only [Int.reduceToNat] at ho14; rw [← Ny167.out] at ho14)); have HO169 := Aside0.mk (Kd.R_lower ho14 (below_size (bC HB))); replace HB := bW HB hb; clear hb ho14; obtain ⟨Ao15, co15, eo15⟩ := Kd.R_slice HO169.out; subst eo15) | ((with_reducible refine gate_dst (N := 6) rfl ?_); refine event_mark (n := y167.length) (c := co15) rfl rfl rfl Tryd.underlying5 HO169.out (by rw [Ny167.out]; decide) ?_; intro w6m hcm hlm hbm; have HCm := Aside0.mk hcm; have LT6 := Aside0.mk hlm; have HS6 := Aside0.mk (Below.refl w6m.heap.size w6m); replace HB := Aside0.mk (Below.trans (bC HB) hbm); clear hcm hbm hlm) | ((with_reducible refine gate_callee (f := 20) rfl ?_); refine goesL_ (some 7) rfl rfl Tryd.func20 (by kernel_rfl) rfl #[.slice Ao15 y167.length co15] rfl (by (try simp only [List.map_toArray, List.map_cons, List.map_nil]); first | done | rfl | (simp only [List.length_drop, List.length_take]; rfl)) ?_; (with_reducible refine (engrosslaw9_Of.calls _ _ y167 t170 _ ?side1 ?side2 A1.out).mono ?_); (case side1 => repeat (first | exact HCm.out | (with_reducible refine Kd.C_alloc ?_ _) | (with_reducible refine Kd.C_drewN ?_ _) | (with_reducible refine Kd.C_drew ?_))); (case side2 => exact (Kd.R_reads' HO169.out).2.1); rintro e w16 ⟨v171, rfl, ho0, hb⟩; refine ⟨_, rfl, ?_⟩; have HO172 := Aside0.mk (Kd.R_lower (Kd.R_new' ho0 (ltM LT6.out (bC HS6))) (below_size (bC HB))); replace HS6 := bW HS6 hb; replace HB := bW HB hb; (try clear hb); (try clear hb2); (try clear hk); (try clear hi); (try clear ho0); obtain ⟨Ao17, co17, eo17⟩ := Kd.R_slice HO172.out; subst eo17) | ((with_reducible refine gate_dst (N := 9) rfl ?_); refine Kd.N_lit k38 _ 38 ?hg (N' := 9) ?hd (xs := ([(⟨3, t170⟩ : S38)] : List (S38))) (inner := [.int .i64 3, .slice Ao17 t170.length co17]) (ok := (fun k_ => some k_ ≠ (.slice Ao15 y167.length co15 : Value).ownBlock)) (okp := (fun k_ => some k_ ≠ (.slice Ao15 y167.length co15 : Value).ownBlock)) ?hr ?hp (fun _ hk => hk) ((show ∀ k_, w16.heap.size ≤ k_ → (fun k_ => some k_ ≠ (.slice Ao15 y167.length co15 : Value).ownBlock) k_ from fun k_ hk => Kd.fresh' (ltM LT6.out (bC HS6)) k_ hk) _ (Nat.le_refl _)) (Below.refl _ _) (Nat.le_refl _) (by simp) ?_; (case hd => rfl); (case hg => rfl); (case hr => first | (go_simp; done) | (go_simp; rfl)); (case hp => exact (Reps.c2 (show Kd.FK k38 _ _ (⟨3, t170⟩ : S38) [.int .i64 3, .slice Ao17 t170.length co17] from (k38_mkF _ _ (⟨3, t170⟩ : S38) (Kd.R_reads' (Kd.R_mono (ok' := (fun k_ => some k_ ≠ (.slice Ao15 y167.length co15 : Value).ownBlock)) (HO172.out) (fun k_ hk => hk.2))).2.1 (Kd.R_F (Kd.R_mono (ok' := (fun k_ => some k_ ≠ (.slice Ao15 y167.length co15 : Value).ownBlock)) (HO172.out) (fun k_ hk => hk.2))))) (Reps.none _ _))); intro v174 w18 ho19 hb hg_ hnew_; clear hg_ hnew_; (first | rw [← Ny173.out] at ho19 | (simp only [Int.reduceToNat] at ho19; rw [← Ny173.out] at ho19)); have HO175 := Aside0.mk (Kd.N_lower ho19 (below_size (bC HB))); replace HS6 := bW HS6 hb; replace HB := bW HB hb; clear HO172; clear hb ho19; obtain ⟨Ao20, co20, eo20⟩ := Kd.N_slice HO175.out; subst eo20) | ((with_reducible refine gate_callee (f := 11) rfl ?_); refine goesL_ (some 11) rfl rfl Tryd.func11 (by kernel_rfl) rfl #[.slice Ao20 y173.length co20] rfl (by (try simp only [List.map_toArray, List.map_cons, List.map_nil]); first | done | rfl | (simp only [List.length_drop, List.length_take]; rfl)) ?_; (with_reducible refine (change_Encode.calls k _ _ y173 t176 _ ?side1 ?side2 A2.out).mono ?_); (case side1 => repeat (first | exact (Kd.N_reads' HO175.out).2.2 | (with_reducible refine Kd.C_alloc ?_ _) | (with_reducible refine Kd.C_drewN ?_ _) | (with_reducible refine Kd.C_drew ?_))); (case side2 => exact (Kd.N_reads' HO175.out).2.1); rintro e w21 ⟨v177, rfl, ho0, hb⟩; refine ⟨_, rfl, ?_⟩; have HO178 := Aside0.mk (Kd.R_lower (Kd.R_new' ho0 (ltM LT6.out (bC HS6))) (below_size (bC HB))); replace HO175 := Aside0.mk (Kd.N_elder' (by (with_reducible repeat (first | apply Kd.N_alloc | apply Kd.N_drewN | apply Kd.N_drew)); exact HO175.out) (Kd.R_base ho0) hb); replace HS6 := bW HS6 hb; replace HB := bW HB hb; (try clear hb); (try clear hb2); (try clear hk); (try clear hi); (try clear ho0); obtain ⟨Ao22, co22, eo22⟩ := Kd.R_slice HO178.out; subst eo22) | ((with_reducible refine gate_callee (f := 17) rfl ?_); refine goesL_ (some 14) rfl rfl Tryd.func17 (by kernel_rfl) rfl #[.slice Ao22 t176.length co22] rfl (by (try simp only [List.map_toArray, List.map_cons, List.map_nil]); first | done | rfl | (simp only [List.length_drop, List.length_take]; rfl)) ?_; (with_reducible refine (change_Decode.calls k _ _ t176 t179 t180 _ ?side1 ?side2 A3.out).mono ?_); (case side1 => repeat (first | exact (Kd.R_reads' HO178.out).2.2 | (with_reducible refine Kd.C_alloc ?_ _) | (with_reducible refine Kd.C_drewN ?_ _) | (with_reducible refine Kd.C_drew ?_))); (case side2 => exact (Kd.R_reads' HO178.out).2.1); rintro e w23 ⟨v181, rfl, ho0, hb⟩; refine ⟨_, rfl, ?_⟩; have HO182 := Aside0.mk (Kd.N_lower (Kd.N_mono (ok' := fun k_ => some k_ ≠ (.slice Ao15 y167.length co15 : Value).ownBlock ∧ some k_ ≠ (.slice Ao20 y173.length co20 : Value).ownBlock ∧ some k_ ≠ (.slice Ao22 t176.length co22 : Value).ownBlock) (Kd.S_N (Kd.S_bound ho0)) (fun k_ hk_ => ⟨(Kd.fresh' (ltM LT6.out (bC HS6)) k_ hk_.2.1), (Kd.fresh' (Kd.N_lt (by (with_reducible repeat (first | apply Kd.N_alloc | apply Kd.N_drewN | apply Kd.N_drew)); exact HO175.out)) k_ hk_.2.1), (Kd.fresh' (Kd.R_lt (by (with_reducible repeat (first | apply Kd.R_alloc | apply Kd.R_drewN | apply Kd.R_drew)); exact HO178.out)) k_ hk_.2.1)⟩)) (below_size (bC HB))); replace HO175 := Aside0.mk (Kd.N_elder' (by (with_reducible repeat (first | apply Kd.N_alloc | apply Kd.N_drewN | apply Kd.N_drew)); exact HO175.out) (Kd.N_base (Kd.S_N ho0)) hb); replace HO178 := Aside0.mk (Kd.R_below (by (with_reducible repeat (first | apply Kd.R_alloc | apply Kd.R_drewN | apply Kd.R_drew)); exact HO178.out) hb); replace HS6 := bW HS6 hb; replace HB := bW HB hb; (try clear hb); (try clear hb2); (try clear hk); (try clear hi); (try clear ho0)) | ((with_reducible refine gate_callee (f := 12) rfl ?_); refine goesL_ (some 18) rfl rfl Tryd.func12 (by kernel_rfl) rfl #[.slice Ao20 y173.length co20] rfl (by (try simp only [List.map_toArray, List.map_cons, List.map_nil]); first | done | rfl | (simp only [List.length_drop, List.length_take]; rfl)) ?_; (with_reducible refine (change_May.calls k _ _ y173 true _ ?side1 ?side2 A4.out).mono ?_); (case side1 => repeat (first | exact (Kd.N_reads' HO175.out).2.2 | (with_reducible refine Kd.C_alloc ?_ _) | (with_reducible refine Kd.C_drewN ?_ _) | (with_reducible refine Kd.C_drew ?_))); (case side2 => exact (Kd.N_reads' HO175.out).2.1); rintro e w24 ⟨rfl, hb⟩; refine ⟨_, rfl, ?_⟩; replace HO175 := Aside0.mk (Kd.N_below (by (with_reducible repeat (first | apply Kd.N_alloc | apply Kd.N_drewN | apply Kd.N_drew)); exact HO175.out) hb); replace HO178 := Aside0.mk (Kd.R_below (by (with_reducible repeat (first | apply Kd.R_alloc | apply Kd.R_drewN | apply Kd.R_drew)); exact HO178.out) hb); replace HO182 := Aside0.mk (Kd.N_below (by (with_reducible repeat (first | apply Kd.N_alloc | apply Kd.N_drewN | apply Kd.N_drew)); exact HO182.out) hb); replace HS6 := bW HS6 hb; replace HB := bW HB hb; (try clear hb); (try clear hb2); (try clear hk); (try clear hi)) | (go_at_call 12; refine calls_of_args (args' := #[.slice none ([] : List (S38)).length 0]) (by first | rfl | ((try simp only [List.map_toArray, List.map_cons, List.map_nil]); rfl)) ?_; (with_reducible refine (change_May.calls k _ _ ([] : List (S38)) false _ ?side1 ?side2 A6.out).mono ?_); (case side1 => exact Kd.C_nil _ _); (case side2 => exact Nat.le_refl _); rintro e w25 ⟨rfl, hb⟩; replace HO175 := Aside0.mk (Kd.N_below (by (with_reducible repeat (first | apply Kd.N_alloc | apply Kd.N_drewN | apply Kd.N_drew)); exact HO175.out) hb); replace HO178 := Aside0.mk (Kd.R_below (by (with_reducible repeat (first | apply Kd.R_alloc | apply Kd.R_drewN | apply Kd.R_drew)); exact HO178.out) hb); replace HO182 := Aside0.mk (Kd.N_below (by (with_reducible repeat (first | apply Kd.N_alloc | apply Kd.N_drewN | apply Kd.N_drew)); exact HO182.out) hb); replace HS6 := bW HS6 hb; replace HB := bW HB hb; (try clear hb); (try clear hb2); (try clear hk); (try clear hi); have hcv26 := Kd.x_R_string (P := Tryd.prog) Tryd.underlying26 Tryd.underlying5 Tryd.underlying9 (HO178.out); obtain ⟨Ao27, co27, eo27⟩ := Kd.N_slice HO182.out; subst eo27) | (go_at_call 15; (with_reducible refine (change_Eq.calls k _ _ y173 _ _ t179 true _ ?side1 ?side2 ?side3 ?side4 A10.out).mono ?_); (case side1 => repeat (first | exact (Kd.N_reads' HO175.out).2.2 | (with_reducible refine Kd.C_alloc ?_ _) | (with_reducible refine Kd.C_drewN ?_ _) | (with_reducible refine Kd.C_drew ?_))); (case side2 => exact (Kd.N_reads' HO175.out).2.1); (case side3 => repeat (first | exact (Kd.N_reads' HO182.out).2.2 | (with_reducible refine Kd.C_alloc ?_ _) | (with_reducible refine Kd.C_drewN ?_ _) | (with_reducible refine Kd.C_drew ?_))); (case side4 => exact (Kd.N_reads' HO182.out).2.1); rintro e w28 ⟨rfl, hb⟩; replace HO175 := Aside0.mk (Kd.N_below (by (with_reducible repeat (first | apply Kd.N_alloc | apply Kd.N_drewN | apply Kd.N_drew)); exact HO175.out) hb); replace HO178 := Aside0.mk (Kd.R_below (by (with_reducible repeat (first | apply Kd.R_alloc | apply Kd.R_drewN | apply Kd.R_drew)); exact HO178.out) hb); replace HO182 := Aside0.mk (Kd.N_below (by (with_reducible repeat (first | apply Kd.N_alloc | apply Kd.N_drewN | apply Kd.N_drew)); exact HO182.out) hb); replace HS6 := bW HS6 hb; replace HB := bW HB hb; (try clear hb); (try clear hb2); (try clear hk); (try clear hi)) | (go_at_call 15; refine calls_of_args (args' := #[.slice Ao20 y173.length co20, .slice none ([] : List (S38)).length 0]) (by first | rfl | ((try simp only [List.map_toArray, List.map_cons, List.map_nil]); rfl)) ?_; (with_reducible refine (change_Eq.calls k _ _ y173 _ _ ([] : List (S38)) t186 _ ?side1 ?side2 ?side3 ?side4 A12.out).mono ?_); (case side1 => repeat (first | exact (Kd.N_reads' HO175.out).2.2 | (with_reducible refine Kd.C_alloc ?_ _) | (with_reducible refine Kd.C_drewN ?_ _) | (with_reducible refine Kd.C_drew ?_))); (case side2 => exact (Kd.N_reads' HO175.out).2.1); (case side3 => exact Kd.C_nil _ _); (case side4 => exact Nat.le_refl _); rintro e w29 ⟨rfl, hb⟩; replace HO175 := Aside0.mk (Kd.N_below (by (with_reducible repeat (first | apply Kd.N_alloc | apply Kd.N_drewN | apply Kd.N_drew)); exact HO175.out) hb); replace HO178 := Aside0.mk (Kd.R_below (by (with_reducible repeat (first | apply Kd.R_alloc | apply Kd.R_drewN | apply Kd.R_drew)); exact HO178.out) hb); replace HO182 := Aside0.mk (Kd.N_below (by (with_reducible repeat (first | apply Kd.N_alloc | apply Kd.N_drewN | apply Kd.N_drew)); exact HO182.out) hb); replace HS6 := bW HS6 hb; replace HB := bW HB hb; (try clear hb); (try clear hb2); (try clear hk); (try clear hi)))
      go_ret
      exact ⟨by first | rfl | (simp [errW_none, errW_some] <;> rfl) | (simp [*, errW_none, errW_some] <;> rfl), by repeat (first | (with_reducible first | exact HB.out | apply below_alloc | apply pw_below_drewN | apply below_drew1) | exact HB.out)⟩
     ·replace c11 := Bool.eq_false_iff.mpr c11
      subst c11
      have H1 : (none) = some r := by rw [if_neg (show ¬ (false = true) by decide)] at H; exact H
      clear H
      have H := H1
      clear H1
      exact absurd H (by simp)
    ·rw [if_neg c9] at H
     exact absurd H (by simp)
   ·rw [if_neg c8] at H
    exact absurd H (by simp)
 ·replace c5 := Bool.eq_false_iff.mpr c5
  subst c5
  have H1 : (none) = some r := by rw [if_neg (show ¬ (false = true) by decide)] at H; exact H
  clear H
  have H := H1
  clear H1
  exact absurd H (by simp)

/-! ### engrosslaw1_Short: function 19 -/
def engrosslaw1_Short.f (l0 : List Int) (a1 : Int) : Option (List Int) := if (l0.length : Int) > a1 then (if 0 ≤ a1 then (if a1 ≤ (l0.length : Int) then (some (l0.take (a1 : Int).toNat)) else (none)) else (none)) else (some l0)
set_option maxHeartbeats 8000000 in
set_option maxRecDepth 100000 in
theorem engrosslaw1_Short.calls (P0_ : Nat → Prop) (A0 : Option Addr) (c0 : Nat) (l0 : List Int) (a1 : Int) (r : List Int) (w : World) (hs0 : Kd.V (Kd.int .u8) 5 w w.heap.size (fun k_ => P0_ k_) (.slice A0 l0.length c0) l0) (h : engrosslaw1_Short.f l0 a1 = some r) :
  Calls Tryd.prog 19 #[.slice A0 l0.length c0, .int .i64 a1] w fun e w' => ∃ v0_ : Value, e = .returned (v0_) ∧ Kd.V (Kd.int .u8) 5 w' w.heap.size (fun k_ => (P0_ k_ ∨ w.heap.size ≤ k_)) v0_ r ∧ Below w.heap.size w w' := by
 have HO0 := Aside0.mk (show Kd.V (Kd.int .u8) 5 w w.heap.size (fun k_ => (P0_ k_ ∨ w.heap.size ≤ k_)) (.slice A0 l0.length c0) l0 from Kd.V_mono hs0 (fun k_ hk => .inl hk))
 have HB := Aside0.mk (Below.refl w.heap.size w)
 have H : (if (l0.length : Int) > a1 then (if 0 ≤ a1 then (if a1 ≤ (l0.length : Int) then (some (l0.take (a1 : Int).toNat)) else (none)) else (none)) else (some l0)) = some r := h
 clear h
 by_cases c3 : (l0.length : Int) > a1
 ·rw [if_pos c3] at H
  have c3b0 : decide (a1 < (l0.length : Int)) = true := decide_eq_true c3
  clear c3
  by_cases c4 : 0 ≤ a1
  ·rw [if_pos c4] at H
   have c4b0 := eq_true c4
   have c4b1 : decide (0 ≤ a1) = true := decide_eq_true c4
   clear c4
   by_cases c5 : a1 ≤ (l0.length : Int)
   ·rw [if_pos c5] at H
    have c5b0 := eq_true c5
    have c5b1 : decide (a1 ≤ (l0.length : Int)) = true := decide_eq_true c5
    clear c5
    obtain ⟨y187, hy187⟩ : ∃ y_ : List Int, y_ = (l0.take (a1 : Int).toNat) := ⟨_, rfl⟩
    replace H : (some y187) = some r := by first | (rw [hy187]; with_reducible exact H) | (have H2_ := (Option.bind_some _ _).symm.trans H; rw [hy187]; with_reducible exact H2_) | (have H2_ := (Option.bind_some _ _).symm.trans H; with_reducible exact H2_) | with_reducible exact H | (rw [hy187]; exact H) | exact H
    have Ny187 := Aside0.mk hy187
    clear hy187
    obtain rfl := Option.some.inj H
    have q6 : (a1 : Int) ≤ ((l0.length : Int) : Int) := of_decide_eq_true (by first | (with_reducible assumption) | assumption)
    obtain ⟨i06, hi06, _, hsz6, _⟩ := info_parts info5
    have hroom6 : l0.length ≤ c0 := (Kd.V_reads' HO0.out).2.1
    have hC6 : Kd.F (Kd.int .u8) _ _ A0 l0.length l0 := (Kd.V_at (base := w.heap.size) HO0.out).2.2
    have hcut6 := cut_to (P := Tryd.prog) 26 5 .i64 Tryd.underlying26 hi06 A0 l0.length c0 a1 (of_decide_eq_true (by first | (with_reducible assumption) | assumption)) q6 hroom6
    have hr6 := Kd.F_take (m := (a1 : Int).toNat) hC6 (by omega)
    have hy6 : y187.length = (a1 : Int).toNat := (by rw [Ny187.out, List.length_take]; omega)
    rw [← Ny187.out] at hr6
    rw [← hy6] at hcut6
    have HO191 := Aside0.mk (show Kd.V (Kd.int .u8) 5 _ w.heap.size _ (.slice A0 y187.length c0) y187 from Kd.V_mk (by omega) hr6)
    have HC191 := Aside0.mk (show y187.length ≤ c0 from by omega)
    clear hr6 hC6 hroom6 hi06 hsz6
    have KY6 := Aside0.mk hy6
    clear hy6
    replace q6 := eq_true q6
    go_enter Tryd.func19, Tryd.ntmps19
    go_wp2
    go_ret
    exact ⟨_, by first | rfl | (simp [errW_none, errW_some] <;> rfl) | (simp [*, errW_none, errW_some] <;> rfl), by (with_reducible repeat (first | apply Kd.V_alloc | apply Kd.V_drewN | apply Kd.V_drew)); exact HO191.out, by repeat (first | (with_reducible first | exact HB.out | apply below_alloc | apply pw_below_drewN | apply below_drew1) | exact HB.out)⟩
   ·rw [if_neg c5] at H
    exact absurd H (by simp)
  ·rw [if_neg c4] at H
   exact absurd H (by simp)
 ·rw [if_neg c3] at H
  have c3b0 : decide (a1 < (l0.length : Int)) = false := decide_eq_false c3
  clear c3
  obtain rfl := Option.some.inj H
  go_enter Tryd.func19, Tryd.ntmps19
  go_wp2
  go_ret
  exact ⟨_, by first | rfl | (simp [errW_none, errW_some] <;> rfl) | (simp [*, errW_none, errW_some] <;> rfl), by (with_reducible repeat (first | apply Kd.V_alloc | apply Kd.V_drewN | apply Kd.V_drew)); exact HO0.out, by repeat (first | (with_reducible first | exact HB.out | apply below_alloc | apply pw_below_drewN | apply below_drew1) | exact HB.out)⟩

/-! ### engrosslaw16_Images: function 10 -/
mutual
def engrosslaw16_Images.l0 : Nat → List (S44) → Int → List (S38) → Int → Option ((List (S38)))
 | 0, _, _, _, _ => none
 | k + 1, x0, x1, x5, x6 => if x6 < (x0.length : Int) then (engrosslaw16_Images.j1 k x0 x1 x5 x6 (decide (x6 < x1))) else (engrosslaw16_Images.j1 k x0 x1 x5 x6 false)
def engrosslaw16_Images.j1 : Nat → List (S44) → Int → List (S38) → Int → Bool → Option ((List (S38)))
 | 0, _, _, _, _, _ => none
 | k + 1, x0, x1, x5, x6, x16 => if x16 = true then (if 0 ≤ x6 then (if x6 < (x0.length : Int) then ((engrosslaw1_Short.f ((rd_T44 x0 x6).f1) 260).bind fun t193 => (if ((rd_T44 x0 x6).f2 = true) then (if x5.length < 4398046511104 then (engrosslaw16_Images.l0 k x0 x1 (x5 ++ [(⟨(rd_T44 x0 x6).f0, t193⟩ : S38)]) (wrap64 (x6 + 1))) else (none)) else (if (t193.length : Int) ≤ 256 then ((engrosslaw9_Of.f t193).bind fun t201 => (if x5.length < 4398046511104 then (engrosslaw16_Images.l0 k x0 x1 (x5 ++ [(⟨(rd_T44 x0 x6).f0, t201⟩ : S38)]) (wrap64 (x6 + 1))) else (none))) else (if x5.length < 4398046511104 then (engrosslaw16_Images.l0 k x0 x1 (x5 ++ [(⟨(rd_T44 x0 x6).f0, t193⟩ : S38)]) (wrap64 (x6 + 1))) else (none))))) else (none)) else (none)) else (some x5)
end
def engrosslaw16_Images.f (k : Nat) (l0 : List (S44)) (a1 : Int) : Option ((List (S38))) := engrosslaw16_Images.l0 k l0 a1 ([] : List (S38)) 0
theorem engrosslaw16_Images.mono_l : ∀ k, (∀ y0 y1 y2 y3, LeO (engrosslaw16_Images.l0 k y0 y1 y2 y3) (engrosslaw16_Images.l0 (k + 1) y0 y1 y2 y3)) ∧ (∀ y0 y1 y2 y3 y4, LeO (engrosslaw16_Images.j1 k y0 y1 y2 y3 y4) (engrosslaw16_Images.j1 (k + 1) y0 y1 y2 y3 y4))
 | 0 => ⟨fun _ _ _ _ r h => by simp [engrosslaw16_Images.l0] at h, fun _ _ _ _ _ r h => by simp [engrosslaw16_Images.j1] at h⟩
 | k + 1 => by
  obtain ⟨ih0, ih1⟩ := engrosslaw16_Images.mono_l k
  refine ⟨?_, ?_⟩
  ·intro y0 y1 y2 y3
   unfold engrosslaw16_Images.l0
   repeat' first
   | (with_reducible exact ih0 _ _ _ _)
   | (with_reducible exact ih1 _ _ _ _ _)
   | (with_reducible exact LeO.refl _)
   | (with_reducible exact LeO.none _)
   | (with_reducible refine LeO.ite ?_ ?_)
   | (with_reducible refine LeO.bind ?_ (fun _ => ?_))
   | exact ih0 _ _ _ _
   | exact ih1 _ _ _ _ _
   | exact LeO.none _
   | refine LeO.ite ?_ ?_
   | refine LeO.bind ?_ (fun _ => ?_)
  ·intro y0 y1 y2 y3 y4
   unfold engrosslaw16_Images.j1
   repeat' first
   | (with_reducible exact ih0 _ _ _ _)
   | (with_reducible exact ih1 _ _ _ _ _)
   | (with_reducible exact LeO.refl _)
   | (with_reducible exact LeO.none _)
   | (with_reducible refine LeO.ite ?_ ?_)
   | (with_reducible refine LeO.bind ?_ (fun _ => ?_))
   | exact ih0 _ _ _ _
   | exact ih1 _ _ _ _ _
   | exact LeO.none _
   | refine LeO.ite ?_ ?_
   | refine LeO.bind ?_ (fun _ => ?_)
theorem engrosslaw16_Images.mono : ∀ a0 a1 k, LeO (engrosslaw16_Images.f k a0 a1) (engrosslaw16_Images.f (k + 1) a0 a1) := by
 intro a0 a1 k
 obtain ⟨ih0, ih1⟩ := engrosslaw16_Images.mono_l k
 unfold engrosslaw16_Images.f
 repeat' first
   | (with_reducible exact ih0 _ _ _ _)
   | (with_reducible exact ih1 _ _ _ _ _)
   | (with_reducible exact LeO.refl _)
   | (with_reducible exact LeO.none _)
   | (with_reducible refine LeO.ite ?_ ?_)
   | (with_reducible refine LeO.bind ?_ (fun _ => ?_))
   | exact ih0 _ _ _ _
   | exact ih1 _ _ _ _ _
   | exact LeO.none _
   | refine LeO.ite ?_ ?_
   | refine LeO.bind ?_ (fun _ => ?_)
set_option maxHeartbeats 8000000 in
set_option maxRecDepth 100000 in
theorem engrosslaw16_Images.calls (k : Nat) (P0_ : Nat → Prop) (A0 : Option Addr) (c0 : Nat) (l0 : List (S44)) (a1 : Int) (r : List (S38)) (w : World) (hs0 : Kd.V k44 44 w w.heap.size (fun k_ => P0_ k_) (.slice A0 l0.length c0) l0) (h : engrosslaw16_Images.f k l0 a1 = some r) :
  Calls Tryd.prog 10 #[.slice A0 l0.length c0, .int .i64 a1] w fun e w' => ∃ v0_ : Value, e = .returned (v0_) ∧ Kd.N k38 38 w' w.heap.size (fun k_ => (P0_ k_ ∨ w.heap.size ≤ k_)) v0_ r ∧ Below w.heap.size w w' := by
 have hu38 := Tryd.underlying38
 have HO0 := Aside0.mk (show Kd.V k44 44 w w.heap.size (fun k_ => (P0_ k_ ∨ w.heap.size ≤ k_)) (.slice A0 l0.length c0) l0 from Kd.V_mono hs0 (fun k_ hk => .inl hk))
 have HB := Aside0.mk (Below.refl w.heap.size w)
 have H : (engrosslaw16_Images.l0 k l0 a1 ([] : List (S38)) 0) = some r := h
 clear h
 have H' := Aside0.mk H
 clear H
 go_enter Tryd.func10, Tryd.ntmps10
 go_wp2
 go_loopg [5, 6] k (fun kq v5 v6 w' => ∃ (x5_1 : List (S38)) (x6_1 : Int), v6 = .int .i64 x6_1 ∧ Aside0 (engrosslaw16_Images.l0 kq l0 a1 x5_1 x6_1 = some r) ∧ Aside0 (kq ≤ k) ∧ Aside0 (Kd.V k44 44 w' w.heap.size (fun k_ => (P0_ k_ ∨ w.heap.size ≤ k_) ∧ some k_ ≠ (v5 : Value).ownBlock) (.slice A0 l0.length c0) l0) ∧ Aside0 (Kd.N k38 38 w' w.heap.size (fun k_ => (P0_ k_ ∨ w.heap.size ≤ k_)) v5 x5_1) ∧ Aside0 (Below w.heap.size w w'))
 case atStart => exact ⟨(([] : List (S38))), (0), (by first | rfl | (simp; done) | (simp [*]; done)), H', ⟨Nat.le_refl _⟩, ⟨by (with_reducible repeat (first | apply Kd.V_alloc | apply Kd.V_drewN | apply Kd.V_drew)); exact Kd.V_mono HO0.out (fun _ hk => ⟨hk, (by simp [Value.ownBlock])⟩)⟩, ⟨by first | exact Kd.S_nil _ _ _ _ _ | exact Kd.N_nil _ _ _ _ _ | exact Kd.V_nil _ _ _ _ _ | exact Kd.Q_nil _ _ _ _ _ | exact Kd.R_nil _ _ _ _ _⟩, ⟨by repeat (first | (with_reducible first | exact HB.out | apply below_alloc | apply pw_below_drewN | apply below_drew1) | exact HB.out)⟩⟩
 case round =>
  clear H'
  try clear c1
  try clear p2
  obtain ⟨x5_1, x6_1, rfl, HA, HK1, HO_0, HO_5, HB⟩ := hrel
  cases gk with
  | zero => exact absurd HA.out (by simp [engrosslaw16_Images.l0])
  | succ k1 =>
   have H := HA.out
   clear HA
   simp only [engrosslaw16_Images.l0] at H
   have HC3 := Aside0.mk H
   clear H
   go_upto_region 3 with (fail)
   go_cut [16] (fun v16 wc => ∃ (kq : Nat) (x16_2 : Bool), v16 = .bool x16_2 ∧ Aside0 (engrosslaw16_Images.j1 kq l0 a1 x5_1 x6_1 x16_2 = some r) ∧ Aside0 (kq ≤ k1) ∧ Aside0 (Kd.V k44 44 wc w.heap.size (fun k_ => (P0_ k_ ∨ w.heap.size ≤ k_) ∧ some k_ ≠ (u5 : Value).ownBlock) (.slice A0 l0.length c0) l0) ∧ Aside0 (Kd.N k38 38 wc w.heap.size (fun k_ => (P0_ k_ ∨ w.heap.size ≤ k_)) u5 x5_1) ∧ Aside0 (Below w.heap.size w wc))
   case first =>
    have H := HC3.out
    clear HC3
    by_cases c4 : x6_1 < (l0.length : Int)
    ·rw [if_pos c4] at H
     have c4b0 : decide (x6_1 < (l0.length : Int)) = true := decide_eq_true c4
     clear c4
     (first | rw [c4b0] | (simp only [i64_w, i32_w]; rw [c4b0]) | skip)
     have H' := Aside0.mk H
     clear H
     go_wp2
     go_meet
     case rel => exact ⟨_, (decide (x6_1 < a1)), (by first | rfl | (simp; done) | (simp [*]; done)), H', ⟨by have := HK1.out; first | omega | exact Nat.le_refl _⟩, ⟨by (with_reducible repeat (first | apply Kd.V_alloc | apply Kd.V_drewN | apply Kd.V_drew)); exact HO_0.out⟩, ⟨by (with_reducible repeat (first | apply Kd.N_alloc | apply Kd.N_drewN | apply Kd.N_drew)); exact HO_5.out⟩, ⟨by repeat (first | (with_reducible first | exact HB.out | apply below_alloc | apply pw_below_drewN | apply below_drew1) | exact HB.out)⟩⟩
    ·rw [if_neg c4] at H
     have c4b0 : decide (x6_1 < (l0.length : Int)) = false := decide_eq_false c4
     clear c4
     (first | rw [c4b0] | (simp only [i64_w, i32_w]; rw [c4b0]) | skip)
     have H' := Aside0.mk H
     clear H
     go_wp2
     go_meet
     case rel => exact ⟨_, (false), (by first | rfl | (simp; done) | (simp [*]; done)), H', ⟨by have := HK1.out; first | omega | exact Nat.le_refl _⟩, ⟨by (with_reducible repeat (first | apply Kd.V_alloc | apply Kd.V_drewN | apply Kd.V_drew)); exact HO_0.out⟩, ⟨by (with_reducible repeat (first | apply Kd.N_alloc | apply Kd.N_drewN | apply Kd.N_drew)); exact HO_5.out⟩, ⟨by repeat (first | (with_reducible first | exact HB.out | apply below_alloc | apply pw_below_drewN | apply below_drew1) | exact HB.out)⟩⟩
   case rest =>
    clear HC3
    try clear c1
    try clear p2
    try clear c4
    try clear c4b0
    try clear p2
    obtain ⟨kq, x16_2, rfl, HA, HJ2, HO_0, HO_5, HB⟩ := hcut
    cases kq with
    | zero => exact absurd HA.out (by simp [engrosslaw16_Images.j1])
    | succ kj2 =>
     have H := HA.out
     clear HA
     simp only [engrosslaw16_Images.j1] at H
     by_cases c5 : x16_2 = true
     ·subst c5
      have H1 : (if 0 ≤ x6_1 then (if x6_1 < (l0.length : Int) then ((engrosslaw1_Short.f ((rd_T44 l0 x6_1).f1) 260).bind fun t193 => (if ((rd_T44 l0 x6_1).f2 = true) then (if x5_1.length < 4398046511104 then (engrosslaw16_Images.l0 kj2 l0 a1 (x5_1 ++ [(⟨(rd_T44 l0 x6_1).f0, t193⟩ : S38)]) (wrap64 (x6_1 + 1))) else (none)) else (if (t193.length : Int) ≤ 256 then ((engrosslaw9_Of.f t193).bind fun t201 => (if x5_1.length < 4398046511104 then (engrosslaw16_Images.l0 kj2 l0 a1 (x5_1 ++ [(⟨(rd_T44 l0 x6_1).f0, t201⟩ : S38)]) (wrap64 (x6_1 + 1))) else (none))) else (if x5_1.length < 4398046511104 then (engrosslaw16_Images.l0 kj2 l0 a1 (x5_1 ++ [(⟨(rd_T44 l0 x6_1).f0, t193⟩ : S38)]) (wrap64 (x6_1 + 1))) else (none))))) else (none)) else (none)) = some r := by rw [if_pos rfl] at H; exact H
      clear H
      have H := H1
      clear H1
      by_cases c6 : 0 ≤ x6_1
      ·rw [if_pos c6] at H
       have c6b0 : decide (0 ≤ x6_1) = true := decide_eq_true c6
       clear c6
       by_cases c7 : x6_1 < (l0.length : Int)
       ·rw [if_pos c7] at H
        have c7b0 : decide (x6_1 < (l0.length : Int)) = true := decide_eq_true c7
        clear c7
        replace H := Option.bind_eq_some_iff.mp H
        obtain ⟨t193, A80, H⟩ := H
        replace H : (if ((rd_T44 l0 x6_1).f2 = true) then (if x5_1.length < 4398046511104 then (engrosslaw16_Images.l0 kj2 l0 a1 (x5_1 ++ [(⟨(rd_T44 l0 x6_1).f0, t193⟩ : S38)]) (wrap64 (x6_1 + 1))) else (none)) else (if (t193.length : Int) ≤ 256 then ((engrosslaw9_Of.f t193).bind fun t201 => (if x5_1.length < 4398046511104 then (engrosslaw16_Images.l0 kj2 l0 a1 (x5_1 ++ [(⟨(rd_T44 l0 x6_1).f0, t201⟩ : S38)]) (wrap64 (x6_1 + 1))) else (none))) else (if x5_1.length < 4398046511104 then (engrosslaw16_Images.l0 kj2 l0 a1 (x5_1 ++ [(⟨(rd_T44 l0 x6_1).f0, t193⟩ : S38)]) (wrap64 (x6_1 + 1))) else (none)))) = some r := H
        have A8 := Aside0.mk A80
        clear A80
        obtain ⟨bq9, hbq9⟩ : ∃ b_ : Bool, b_ = ((rd_T44 l0 x6_1).f2) := ⟨_, rfl⟩
        replace H : (if (bq9 = true) then (if x5_1.length < 4398046511104 then (engrosslaw16_Images.l0 kj2 l0 a1 (x5_1 ++ [(⟨(rd_T44 l0 x6_1).f0, t193⟩ : S38)]) (wrap64 (x6_1 + 1))) else (none)) else (if (t193.length : Int) ≤ 256 then ((engrosslaw9_Of.f t193).bind fun t201 => (if x5_1.length < 4398046511104 then (engrosslaw16_Images.l0 kj2 l0 a1 (x5_1 ++ [(⟨(rd_T44 l0 x6_1).f0, t201⟩ : S38)]) (wrap64 (x6_1 + 1))) else (none))) else (if x5_1.length < 4398046511104 then (engrosslaw16_Images.l0 kj2 l0 a1 (x5_1 ++ [(⟨(rd_T44 l0 x6_1).f0, t193⟩ : S38)]) (wrap64 (x6_1 + 1))) else (none)))) = some r := by rw [← hbq9] at H; exact H
        have Nbq9 := Aside0.mk hbq9
        clear hbq9
        by_cases c10 : (bq9 = true)
        ·subst c10
         have H1 : (if x5_1.length < 4398046511104 then (engrosslaw16_Images.l0 kj2 l0 a1 (x5_1 ++ [(⟨(rd_T44 l0 x6_1).f0, t193⟩ : S38)]) (wrap64 (x6_1 + 1))) else (none)) = some r := by rw [if_pos rfl] at H; exact H
         clear H
         have H := H1
         clear H1
         by_cases c11 : x5_1.length < 4398046511104
         ·rw [if_pos c11] at H
          have LMc11 := Aside0.mk c11
          clear c11
          obtain ⟨y198, hy198⟩ : ∃ y_ : List (S38), y_ = (x5_1 ++ [(⟨(rd_T44 l0 x6_1).f0, t193⟩ : S38)]) := ⟨_, rfl⟩
          replace H : (engrosslaw16_Images.l0 kj2 l0 a1 y198 (wrap64 (x6_1 + 1))) = some r := by first | (rw [hy198]; with_reducible exact H) | (have H2_ := (Option.bind_some _ _).symm.trans H; rw [hy198]; with_reducible exact H2_) | (have H2_ := (Option.bind_some _ _).symm.trans H; with_reducible exact H2_) | with_reducible exact H | (rw [hy198]; exact H) | exact H
          have Ny198 := Aside0.mk hy198
          clear hy198
          have H' := Aside0.mk H
          clear H
          have p192 : 0 ≤ (x6_1 : Int) := of_decide_eq_true (by first | (with_reducible assumption) | assumption)
          have q192 : x6_1 < (l0.length : Int) := of_decide_eq_true (by first | (with_reducible assumption) | assumption)
          obtain ⟨ad192, A192_1, c192_1, e192, hx192_0, hx192_1, hx192_2, hl192_1, hi192_1⟩ := at_T44 (Kd.V_reads' HO_0.out).2.2 x6_1 p192 q192
          (try rw [← Nbq9.out] at hx192_2)
          cases e192
          obtain ⟨ce192, hce192, hMe192, hcc192⟩ := Kd.V_get HO_0.out z44 x6_1 p192 (by first | exact q192 | exact of_decide_eq_true (by first | (with_reducible assumption) | assumption) | (have e_ := (Kd.V_reads' HO_0.out).1; omega))
          obtain ⟨ua192_1, uc192_1, rfl, ul192_1, ge192_1⟩ := k44_openF hMe192
          have hv192_1 := hcc192 1 _ rfl
          rw [add_field _ _ 1 (by omega)] at hv192_1
          replace hv192_1 := Option.some.inj (hv192_1.symm.trans hx192_1)
          injection hv192_1 with hva_ hvn_ hvc_
          rw [hva_] at ge192_1
          rw [hvc_] at ul192_1
          have HL192_1 := Aside0.mk (show Kd.V (Kd.int .u8) 5 _ w.heap.size _ _ ((rd_T44 l0 x6_1).f1) from Kd.V_mk ul192_1 ge192_1)
          clear hva_ hvn_ hvc_ ge192_1 ul192_1
          clear hcc192 hce192
          have HR192_1 := Aside0.mk hi192_1
          have HC192_1 := Aside0.mk hl192_1
          clear hi192_1 hl192_1
          replace p192 := eq_true p192
          replace q192 := eq_true q192
          go_wp2_with (first | ((with_reducible refine gate_callee (f := 19) rfl ?_); refine goesL_ (some 24) rfl rfl Tryd.func19 (by kernel_rfl) rfl #[.slice A192_1 ((rd_T44 l0 x6_1).f1).length c192_1, .int .i64 260] rfl (by (try simp only [List.map_toArray, List.map_cons, List.map_nil]); first | done | rfl | (simp only [List.length_drop, List.length_take]; rfl)) ?_; (with_reducible refine (engrosslaw1_Short.calls (fun k_ => ((P0_ k_ ∨ w.heap.size ≤ k_) ∧ some k_ ≠ (u5 : Value).ownBlock)) _ _ ((rd_T44 l0 x6_1).f1) 260 t193 _ ?side1 A8.out).mono ?_); (case side1 => exact HL192_1.out); rintro e w12 ⟨v194, rfl, ho0, hb⟩; refine ⟨_, rfl, ?_⟩; have HO195 := Aside0.mk (Kd.V_lower (Kd.V_mono (ok' := fun k_ => (P0_ k_ ∨ w.heap.size ≤ k_) ∧ some k_ ≠ (u5 : Value).ownBlock) ho0 (fun k_ hk_ => ⟨Or.elim hk_ (fun hs_ => hs_.1) (fun hn_ => (.inr (Nat.le_trans (below_size (bC HB)) hn_))), Or.elim hk_ (fun hs_ => hs_.2) (fun hn_ => (Kd.fresh' (Kd.N_lt (by (with_reducible repeat (first | apply Kd.N_alloc | apply Kd.N_drewN | apply Kd.N_drew)); exact HO_5.out)) k_ hn_))⟩)) (below_size (bC HB))); replace HO_0 := Aside0.mk (Kd.V_below (by (with_reducible repeat (first | apply Kd.V_alloc | apply Kd.V_drewN | apply Kd.V_drew)); exact HO_0.out) hb); replace HO_5 := Aside0.mk (Kd.N_below (by (with_reducible repeat (first | apply Kd.N_alloc | apply Kd.N_drewN | apply Kd.N_drew)); exact HO_5.out) hb); replace HL192_1 := Aside0.mk (Kd.V_below (by (with_reducible repeat (first | apply Kd.V_alloc | apply Kd.V_drewN | apply Kd.V_drew)); exact HL192_1.out) hb); replace HR192_1 := Aside0.mk (Kd.C_below (by repeat (first | (with_reducible exact HR192_1.out) | (with_reducible refine Kd.C_alloc ?_ _) | (with_reducible refine Kd.C_drewN ?_ _) | (with_reducible refine Kd.C_drew ?_) | exact HR192_1.out)) hb); replace HB := bW HB hb; (try clear hb); (try clear hb2); (try clear hk); (try clear hi); (try clear ho0); have p196 : 0 ≤ (x6_1 : Int) := of_decide_eq_true (by first | (with_reducible assumption) | assumption); have q196 : x6_1 < (l0.length : Int) := of_decide_eq_true (by first | (with_reducible assumption) | assumption); obtain ⟨ad196, A196_1, c196_1, e196, hx196_0, hx196_1, hx196_2, hl196_1, hi196_1⟩ := at_T44 (Kd.V_reads' HO_0.out).2.2 x6_1 p196 q196; (try rw [← Nbq9.out] at hx196_2); obtain rfl : ad192 = ad196 := (by injection e196); obtain ⟨ce196, hce196, hMe196, hcc196⟩ := Kd.V_get HO_0.out z44 x6_1 p196 (by first | exact q196 | exact of_decide_eq_true (by first | (with_reducible assumption) | assumption) | (have e_ := (Kd.V_reads' HO_0.out).1; omega)); obtain ⟨ua196_1, uc196_1, rfl, ul196_1, ge196_1⟩ := k44_openF hMe196; have hv196_1 := hcc196 1 _ rfl; rw [add_field _ _ 1 (by omega)] at hv196_1; replace hv196_1 := Option.some.inj (hv196_1.symm.trans hx196_1); injection hv196_1 with hva_ hvn_ hvc_; rw [hva_] at ge196_1; rw [hvc_] at ul196_1; have HL196_1 := Aside0.mk (show Kd.V (Kd.int .u8) 5 _ w.heap.size _ _ ((rd_T44 l0 x6_1).f1) from Kd.V_mk ul196_1 ge196_1); clear hva_ hvn_ hvc_ ge196_1 ul196_1; clear hcc196 hce196; have HR196_1 := Aside0.mk hi196_1; have HC196_1 := Aside0.mk hl196_1; clear hi196_1 hl196_1; replace p196 := eq_true p196; replace q196 := eq_true q196; have p197 : 0 ≤ (x6_1 : Int) := of_decide_eq_true (by first | (with_reducible assumption) | assumption); have q197 : x6_1 < (l0.length : Int) := of_decide_eq_true (by first | (with_reducible assumption) | assumption); obtain ⟨ad197, A197_1, c197_1, e197, hx197_0, hx197_1, hx197_2, hl197_1, hi197_1⟩ := at_T44 (Kd.V_reads' HO_0.out).2.2 x6_1 p197 q197; (try rw [← Nbq9.out] at hx197_2); obtain rfl : ad192 = ad197 := (by injection e197); obtain ⟨ce197, hce197, hMe197, hcc197⟩ := Kd.V_get HO_0.out z44 x6_1 p197 (by first | exact q197 | exact of_decide_eq_true (by first | (with_reducible assumption) | assumption) | (have e_ := (Kd.V_reads' HO_0.out).1; omega)); obtain ⟨ua197_1, uc197_1, rfl, ul197_1, ge197_1⟩ := k44_openF hMe197; have hv197_1 := hcc197 1 _ rfl; rw [add_field _ _ 1 (by omega)] at hv197_1; replace hv197_1 := Option.some.inj (hv197_1.symm.trans hx197_1); injection hv197_1 with hva_ hvn_ hvc_; rw [hva_] at ge197_1; rw [hvc_] at ul197_1; have HL197_1 := Aside0.mk (show Kd.V (Kd.int .u8) 5 _ w.heap.size _ _ ((rd_T44 l0 x6_1).f1) from Kd.V_mk ul197_1 ge197_1); clear hva_ hvn_ hvc_ ge197_1 ul197_1; clear hcc197 hce197; have HR197_1 := Aside0.mk hi197_1; have HC197_1 := Aside0.mk hl197_1; clear hi197_1 hl197_1; replace p197 := eq_true p197; replace q197 := eq_true q197; have ea_ := Option.some.inj (hx196_1.symm.trans hx197_1); injection ea_ with ea_ en_ ec_; subst ea_; subst ec_; clear en_; obtain ⟨Ao13, co13, eo13⟩ := Kd.V_slice HO195.out; subst eo13) | ((with_reducible refine gate_builtin (b := .append) (xs := #[.tmp 38, .tmp 46]) rfl ?_); (try (refine gate_guard (by rfl) ?_; dsimp only)); at_builtin; refine Kd.N_append k38 (w0 := w) w.heap.size rfl (.tmp 38) (.tmp 46) 24 38 (.agg #[(.int .i64 0), (.slice none 0 0)]) 32 rfl Tryd.underlying24 info38 rfl (by decide) (by omega) u5 x5_1 (⟨(rd_T44 l0 x6_1).f0, t193⟩ : S38) [.int .i64 ((rd_T44 l0 x6_1).f0), .slice Ao13 t193.length co13] (fun k_ => (P0_ k_ ∨ w.heap.size ≤ k_)) (fun k_ => ((fun k_ => (P0_ k_ ∨ w.heap.size ≤ k_))) k_ ∧ some k_ ≠ (u5 : Value).ownBlock) rfl rfl ?aP (fun _ hk => hk) ?aF ?aO ?aB ?aS ?aL ?_; (case aP => exact (k38_mkF _ _ (⟨(rd_T44 l0 x6_1).f0, t193⟩ : S38) (Kd.V_reads' (Kd.V_mono (ok' := (fun k_ => ((fun k_ => (P0_ k_ ∨ w.heap.size ≤ k_))) k_ ∧ some k_ ≠ (u5 : Value).ownBlock)) (HO195.out) (fun k_ hk => ⟨hk.1, hk.2⟩))).2.1 (Kd.V_F (Kd.V_mono (ok' := (fun k_ => ((fun k_ => (P0_ k_ ∨ w.heap.size ≤ k_))) k_ ∧ some k_ ≠ (u5 : Value).ownBlock)) (HO195.out) (fun k_ hk => ⟨hk.1, hk.2⟩))))); (case aB => exact (bC HB)); (case aF => exact (fun k_ hk => (.inr (Nat.le_trans (below_size (bC HB)) hk)))); (case aO => exact (by (with_reducible repeat (first | apply Kd.N_alloc | apply Kd.N_drewN | apply Kd.N_drew)); exact HO_5.out)); (case aS => exact (below_size (bC HB))); (case aL => have := LMc11.out; omega); intro v199 w14 ho hb hg hat; rw [← Ny198.out] at ho; have HO200 := Aside0.mk (ho); replace HO_0 := Aside0.mk (Kd.V_afterv (ok := (fun k_ => (P0_ k_ ∨ w.heap.size ≤ k_))) (by (with_reducible repeat (first | apply Kd.V_alloc | apply Kd.V_drewN | apply Kd.V_drew)); exact HO_0.out) hg hat); replace HL192_1 := Aside0.mk (Kd.V_afterv (ok := (fun k_ => (P0_ k_ ∨ w.heap.size ≤ k_))) (by (with_reducible repeat (first | apply Kd.V_alloc | apply Kd.V_drewN | apply Kd.V_drew)); exact HL192_1.out) hg hat); replace HO195 := Aside0.mk (Kd.V_afterv (ok := (fun k_ => (P0_ k_ ∨ w.heap.size ≤ k_))) (by (with_reducible repeat (first | apply Kd.V_alloc | apply Kd.V_drewN | apply Kd.V_drew)); exact HO195.out) hg hat); replace HL196_1 := Aside0.mk (Kd.V_afterv (ok := (fun k_ => (P0_ k_ ∨ w.heap.size ≤ k_))) (by (with_reducible repeat (first | apply Kd.V_alloc | apply Kd.V_drewN | apply Kd.V_drew)); exact HL196_1.out) hg hat); replace HL197_1 := Aside0.mk (Kd.V_afterv (ok := (fun k_ => (P0_ k_ ∨ w.heap.size ≤ k_))) (by (with_reducible repeat (first | apply Kd.V_alloc | apply Kd.V_drewN | apply Kd.V_drew)); exact HL197_1.out) hg hat); replace HB := Aside0.mk (hb); clear HO_5; clear ho hb hg hat))
          go_roundg kj2
          case measure => have := HK1.out; have := HJ2.out; omega
          case rel => exact ⟨(y198), (wrap64 (x6_1 + 1)), (by first | rfl | (simp; done) | (simp [*]; done)), H', ⟨by have := HK1.out; have := HJ2.out; omega⟩, ⟨by (with_reducible repeat (first | apply Kd.V_alloc | apply Kd.V_drewN | apply Kd.V_drew)); exact HO_0.out⟩, ⟨by (with_reducible repeat (first | apply Kd.N_alloc | apply Kd.N_drewN | apply Kd.N_drew)); exact HO200.out⟩, ⟨by repeat (first | (with_reducible first | exact HB.out | apply below_alloc | apply pw_below_drewN | apply below_drew1) | exact HB.out)⟩⟩
         ·rw [if_neg c11] at H
          exact absurd H (by simp)
        ·replace c10 := Bool.eq_false_iff.mpr c10
         subst c10
         have H1 : (if (t193.length : Int) ≤ 256 then ((engrosslaw9_Of.f t193).bind fun t201 => (if x5_1.length < 4398046511104 then (engrosslaw16_Images.l0 kj2 l0 a1 (x5_1 ++ [(⟨(rd_T44 l0 x6_1).f0, t201⟩ : S38)]) (wrap64 (x6_1 + 1))) else (none))) else (if x5_1.length < 4398046511104 then (engrosslaw16_Images.l0 kj2 l0 a1 (x5_1 ++ [(⟨(rd_T44 l0 x6_1).f0, t193⟩ : S38)]) (wrap64 (x6_1 + 1))) else (none))) = some r := by rw [if_neg (show ¬ (false = true) by decide)] at H; exact H
         clear H
         have H := H1
         clear H1
         by_cases c15 : (t193.length : Int) ≤ 256
         ·rw [if_pos c15] at H
          have c15b0 : decide ((t193.length : Int) ≤ 256) = true := decide_eq_true c15
          have c15b1 : decide (t193.length ≤ 256) = true := decide_eq_true (by omega)
          clear c15
          replace H := Option.bind_eq_some_iff.mp H
          obtain ⟨t201, A160, H⟩ := H
          replace H : (if x5_1.length < 4398046511104 then (engrosslaw16_Images.l0 kj2 l0 a1 (x5_1 ++ [(⟨(rd_T44 l0 x6_1).f0, t201⟩ : S38)]) (wrap64 (x6_1 + 1))) else (none)) = some r := H
          have A16 := Aside0.mk A160
          clear A160
          by_cases c17 : x5_1.length < 4398046511104
          ·rw [if_pos c17] at H
           have LMc17 := Aside0.mk c17
           clear c17
           obtain ⟨y205, hy205⟩ : ∃ y_ : List (S38), y_ = (x5_1 ++ [(⟨(rd_T44 l0 x6_1).f0, t201⟩ : S38)]) := ⟨_, rfl⟩
           replace H : (engrosslaw16_Images.l0 kj2 l0 a1 y205 (wrap64 (x6_1 + 1))) = some r := by first | (rw [hy205]; with_reducible exact H) | (have H2_ := (Option.bind_some _ _).symm.trans H; rw [hy205]; with_reducible exact H2_) | (have H2_ := (Option.bind_some _ _).symm.trans H; with_reducible exact H2_) | with_reducible exact H | (rw [hy205]; exact H) | exact H
           have Ny205 := Aside0.mk hy205
           clear hy205
           have H' := Aside0.mk H
           clear H
           have p192 : 0 ≤ (x6_1 : Int) := of_decide_eq_true (by first | (with_reducible assumption) | assumption)
           have q192 : x6_1 < (l0.length : Int) := of_decide_eq_true (by first | (with_reducible assumption) | assumption)
           obtain ⟨ad192, A192_1, c192_1, e192, hx192_0, hx192_1, hx192_2, hl192_1, hi192_1⟩ := at_T44 (Kd.V_reads' HO_0.out).2.2 x6_1 p192 q192
           (try rw [← Nbq9.out] at hx192_2)
           cases e192
           obtain ⟨ce192, hce192, hMe192, hcc192⟩ := Kd.V_get HO_0.out z44 x6_1 p192 (by first | exact q192 | exact of_decide_eq_true (by first | (with_reducible assumption) | assumption) | (have e_ := (Kd.V_reads' HO_0.out).1; omega))
           obtain ⟨ua192_1, uc192_1, rfl, ul192_1, ge192_1⟩ := k44_openF hMe192
           have hv192_1 := hcc192 1 _ rfl
           rw [add_field _ _ 1 (by omega)] at hv192_1
           replace hv192_1 := Option.some.inj (hv192_1.symm.trans hx192_1)
           injection hv192_1 with hva_ hvn_ hvc_
           rw [hva_] at ge192_1
           rw [hvc_] at ul192_1
           have HL192_1 := Aside0.mk (show Kd.V (Kd.int .u8) 5 _ w.heap.size _ _ ((rd_T44 l0 x6_1).f1) from Kd.V_mk ul192_1 ge192_1)
           clear hva_ hvn_ hvc_ ge192_1 ul192_1
           clear hcc192 hce192
           have HR192_1 := Aside0.mk hi192_1
           have HC192_1 := Aside0.mk hl192_1
           clear hi192_1 hl192_1
           replace p192 := eq_true p192
           replace q192 := eq_true q192
           go_wp2_with (first | ((with_reducible refine gate_callee (f := 19) rfl ?_); refine goesL_ (some 24) rfl rfl Tryd.func19 (by kernel_rfl) rfl #[.slice A192_1 ((rd_T44 l0 x6_1).f1).length c192_1, .int .i64 260] rfl (by (try simp only [List.map_toArray, List.map_cons, List.map_nil]); first | done | rfl | (simp only [List.length_drop, List.length_take]; rfl)) ?_; (with_reducible refine (engrosslaw1_Short.calls (fun k_ => ((P0_ k_ ∨ w.heap.size ≤ k_) ∧ some k_ ≠ (u5 : Value).ownBlock)) _ _ ((rd_T44 l0 x6_1).f1) 260 t193 _ ?side1 A8.out).mono ?_); (case side1 => exact HL192_1.out); rintro e w18 ⟨v194, rfl, ho0, hb⟩; refine ⟨_, rfl, ?_⟩; have HO195 := Aside0.mk (Kd.V_lower (Kd.V_mono (ok' := fun k_ => (P0_ k_ ∨ w.heap.size ≤ k_) ∧ some k_ ≠ (u5 : Value).ownBlock) ho0 (fun k_ hk_ => ⟨Or.elim hk_ (fun hs_ => hs_.1) (fun hn_ => (.inr (Nat.le_trans (below_size (bC HB)) hn_))), Or.elim hk_ (fun hs_ => hs_.2) (fun hn_ => (Kd.fresh' (Kd.N_lt (by (with_reducible repeat (first | apply Kd.N_alloc | apply Kd.N_drewN | apply Kd.N_drew)); exact HO_5.out)) k_ hn_))⟩)) (below_size (bC HB))); replace HO_0 := Aside0.mk (Kd.V_below (by (with_reducible repeat (first | apply Kd.V_alloc | apply Kd.V_drewN | apply Kd.V_drew)); exact HO_0.out) hb); replace HO_5 := Aside0.mk (Kd.N_below (by (with_reducible repeat (first | apply Kd.N_alloc | apply Kd.N_drewN | apply Kd.N_drew)); exact HO_5.out) hb); replace HL192_1 := Aside0.mk (Kd.V_below (by (with_reducible repeat (first | apply Kd.V_alloc | apply Kd.V_drewN | apply Kd.V_drew)); exact HL192_1.out) hb); replace HR192_1 := Aside0.mk (Kd.C_below (by repeat (first | (with_reducible exact HR192_1.out) | (with_reducible refine Kd.C_alloc ?_ _) | (with_reducible refine Kd.C_drewN ?_ _) | (with_reducible refine Kd.C_drew ?_) | exact HR192_1.out)) hb); replace HB := bW HB hb; (try clear hb); (try clear hb2); (try clear hk); (try clear hi); (try clear ho0); have p196 : 0 ≤ (x6_1 : Int) := of_decide_eq_true (by first | (with_reducible assumption) | assumption); have q196 : x6_1 < (l0.length : Int) := of_decide_eq_true (by first | (with_reducible assumption) | assumption); obtain ⟨ad196, A196_1, c196_1, e196, hx196_0, hx196_1, hx196_2, hl196_1, hi196_1⟩ := at_T44 (Kd.V_reads' HO_0.out).2.2 x6_1 p196 q196; (try rw [← Nbq9.out] at hx196_2); obtain rfl : ad192 = ad196 := (by injection e196); obtain ⟨ce196, hce196, hMe196, hcc196⟩ := Kd.V_get HO_0.out z44 x6_1 p196 (by first | exact q196 | exact of_decide_eq_true (by first | (with_reducible assumption) | assumption) | (have e_ := (Kd.V_reads' HO_0.out).1; omega)); obtain ⟨ua196_1, uc196_1, rfl, ul196_1, ge196_1⟩ := k44_openF hMe196; have hv196_1 := hcc196 1 _ rfl; rw [add_field _ _ 1 (by omega)] at hv196_1; replace hv196_1 := Option.some.inj (hv196_1.symm.trans hx196_1); injection hv196_1 with hva_ hvn_ hvc_; rw [hva_] at ge196_1; rw [hvc_] at ul196_1; have HL196_1 := Aside0.mk (show Kd.V (Kd.int .u8) 5 _ w.heap.size _ _ ((rd_T44 l0 x6_1).f1) from Kd.V_mk ul196_1 ge196_1); clear hva_ hvn_ hvc_ ge196_1 ul196_1; clear hcc196 hce196; have HR196_1 := Aside0.mk hi196_1; have HC196_1 := Aside0.mk hl196_1; clear hi196_1 hl196_1; replace p196 := eq_true p196; replace q196 := eq_true q196; obtain ⟨Ao19, co19, eo19⟩ := Kd.V_slice HO195.out; subst eo19) | ((with_reducible refine gate_callee (f := 20) rfl ?_); refine goesL_ (some 37) rfl rfl Tryd.func20 (by kernel_rfl) rfl #[.slice Ao19 t193.length co19] rfl (by (try simp only [List.map_toArray, List.map_cons, List.map_nil]); first | done | rfl | (simp only [List.length_drop, List.length_take]; rfl)) ?_; (with_reducible refine (engrosslaw9_Of.calls _ _ t193 t201 _ ?side1 ?side2 A16.out).mono ?_); (case side1 => repeat (first | exact (Kd.V_reads' HO195.out).2.2 | (with_reducible refine Kd.C_alloc ?_ _) | (with_reducible refine Kd.C_drewN ?_ _) | (with_reducible refine Kd.C_drew ?_))); (case side2 => exact (Kd.V_reads' HO195.out).2.1); rintro e w20 ⟨v202, rfl, ho0, hb⟩; refine ⟨_, rfl, ?_⟩; have HO203 := Aside0.mk (Kd.R_lower (Kd.R_newM (M := fun k_ => (w.heap.size ≤ k_)) ho0 (below_size (bC HB)) (fun k_ h_ => h_)) (below_size (bC HB))); replace HO_0 := Aside0.mk (Kd.V_elder' (by (with_reducible repeat (first | apply Kd.V_alloc | apply Kd.V_drewN | apply Kd.V_drew)); exact HO_0.out) (Kd.R_base ho0) hb); replace HO_5 := Aside0.mk (Kd.N_elder' (by (with_reducible repeat (first | apply Kd.N_alloc | apply Kd.N_drewN | apply Kd.N_drew)); exact HO_5.out) (Kd.R_base ho0) hb); replace HL192_1 := Aside0.mk (Kd.V_elder' (by (with_reducible repeat (first | apply Kd.V_alloc | apply Kd.V_drewN | apply Kd.V_drew)); exact HL192_1.out) (Kd.R_base ho0) hb); replace HO195 := Aside0.mk (Kd.V_elder' (by (with_reducible repeat (first | apply Kd.V_alloc | apply Kd.V_drewN | apply Kd.V_drew)); exact HO195.out) (Kd.R_base ho0) hb); replace HL196_1 := Aside0.mk (Kd.V_elder' (by (with_reducible repeat (first | apply Kd.V_alloc | apply Kd.V_drewN | apply Kd.V_drew)); exact HL196_1.out) (Kd.R_base ho0) hb); replace HR192_1 := Aside0.mk (Kd.C_below (by repeat (first | (with_reducible exact HR192_1.out) | (with_reducible refine Kd.C_alloc ?_ _) | (with_reducible refine Kd.C_drewN ?_ _) | (with_reducible refine Kd.C_drew ?_) | exact HR192_1.out)) hb); replace HR196_1 := Aside0.mk (Kd.C_below (by repeat (first | (with_reducible exact HR196_1.out) | (with_reducible refine Kd.C_alloc ?_ _) | (with_reducible refine Kd.C_drewN ?_ _) | (with_reducible refine Kd.C_drew ?_) | exact HR196_1.out)) hb); replace HB := bW HB hb; (try clear hb); (try clear hb2); (try clear hk); (try clear hi); (try clear ho0); have p204 : 0 ≤ (x6_1 : Int) := of_decide_eq_true (by first | (with_reducible assumption) | assumption); have q204 : x6_1 < (l0.length : Int) := of_decide_eq_true (by first | (with_reducible assumption) | assumption); obtain ⟨ad204, A204_1, c204_1, e204, hx204_0, hx204_1, hx204_2, hl204_1, hi204_1⟩ := at_T44 (Kd.V_reads' HO_0.out).2.2 x6_1 p204 q204; (try rw [← Nbq9.out] at hx204_2); obtain rfl : ad192 = ad204 := (by injection e204); obtain ⟨ce204, hce204, hMe204, hcc204⟩ := Kd.V_get HO_0.out z44 x6_1 p204 (by first | exact q204 | exact of_decide_eq_true (by first | (with_reducible assumption) | assumption) | (have e_ := (Kd.V_reads' HO_0.out).1; omega)); obtain ⟨ua204_1, uc204_1, rfl, ul204_1, ge204_1⟩ := k44_openF hMe204; have hv204_1 := hcc204 1 _ rfl; rw [add_field _ _ 1 (by omega)] at hv204_1; replace hv204_1 := Option.some.inj (hv204_1.symm.trans hx204_1); injection hv204_1 with hva_ hvn_ hvc_; rw [hva_] at ge204_1; rw [hvc_] at ul204_1; have HL204_1 := Aside0.mk (show Kd.V (Kd.int .u8) 5 _ w.heap.size _ _ ((rd_T44 l0 x6_1).f1) from Kd.V_mk ul204_1 ge204_1); clear hva_ hvn_ hvc_ ge204_1 ul204_1; clear hcc204 hce204; have HR204_1 := Aside0.mk hi204_1; have HC204_1 := Aside0.mk hl204_1; clear hi204_1 hl204_1; replace p204 := eq_true p204; replace q204 := eq_true q204; obtain ⟨Ao21, co21, eo21⟩ := Kd.R_slice HO203.out; subst eo21) | ((with_reducible refine gate_builtin (b := .append) (xs := #[.tmp 38, .tmp 46]) rfl ?_); (try (refine gate_guard (by rfl) ?_; dsimp only)); at_builtin; refine Kd.N_append k38 (w0 := w) w.heap.size rfl (.tmp 38) (.tmp 46) 24 38 (.agg #[(.int .i64 0), (.slice none 0 0)]) 32 rfl Tryd.underlying24 info38 rfl (by decide) (by omega) u5 x5_1 (⟨(rd_T44 l0 x6_1).f0, t201⟩ : S38) [.int .i64 ((rd_T44 l0 x6_1).f0), .slice Ao21 t201.length co21] (fun k_ => (P0_ k_ ∨ w.heap.size ≤ k_)) (fun k_ => ((fun k_ => (P0_ k_ ∨ w.heap.size ≤ k_))) k_ ∧ some k_ ≠ (u5 : Value).ownBlock) rfl rfl ?aP (fun _ hk => hk) ?aF ?aO ?aB ?aS ?aL ?_; (case aP => exact (k38_mkF _ _ (⟨(rd_T44 l0 x6_1).f0, t201⟩ : S38) (Kd.R_reads' (Kd.R_mono (ok' := (fun k_ => ((fun k_ => (P0_ k_ ∨ w.heap.size ≤ k_))) k_ ∧ some k_ ≠ (u5 : Value).ownBlock)) (Kd.R_apart' (HO203.out) (Kd.N_typed HO_5.out) (by decide)) (fun k_ hk => ⟨(.inr (hk.1.1)), hk.2⟩))).2.1 (Kd.R_F (Kd.R_mono (ok' := (fun k_ => ((fun k_ => (P0_ k_ ∨ w.heap.size ≤ k_))) k_ ∧ some k_ ≠ (u5 : Value).ownBlock)) (Kd.R_apart' (HO203.out) (Kd.N_typed HO_5.out) (by decide)) (fun k_ hk => ⟨(.inr (hk.1.1)), hk.2⟩))))); (case aB => exact (bC HB)); (case aF => exact (fun k_ hk => (.inr (Nat.le_trans (below_size (bC HB)) hk)))); (case aO => exact (by (with_reducible repeat (first | apply Kd.N_alloc | apply Kd.N_drewN | apply Kd.N_drew)); exact Kd.N_mono HO_5.out (fun _ hk => hk.1))); (case aS => exact (below_size (bC HB))); (case aL => have := LMc17.out; omega); intro v206 w22 ho hb hg hat; rw [← Ny205.out] at ho; have HO207 := Aside0.mk (ho); replace HO_0 := Aside0.mk (Kd.V_afterv (ok := (fun k_ => (P0_ k_ ∨ w.heap.size ≤ k_) ∧ some k_ ≠ (.slice Ao21 t201.length co21 : Value).ownBlock)) (by (with_reducible repeat (first | apply Kd.V_alloc | apply Kd.V_drewN | apply Kd.V_drew)); exact Kd.V_mono HO_0.out (fun _ hk => ⟨⟨hk.1.1, hk.2⟩, hk.1.2⟩)) hg hat); replace HL192_1 := Aside0.mk (Kd.V_afterv (ok := (fun k_ => (P0_ k_ ∨ w.heap.size ≤ k_) ∧ some k_ ≠ (.slice Ao21 t201.length co21 : Value).ownBlock)) (by (with_reducible repeat (first | apply Kd.V_alloc | apply Kd.V_drewN | apply Kd.V_drew)); exact Kd.V_mono HL192_1.out (fun _ hk => ⟨⟨hk.1.1, hk.2⟩, hk.1.2⟩)) hg hat); replace HO195 := Aside0.mk (Kd.V_afterv (ok := (fun k_ => (P0_ k_ ∨ w.heap.size ≤ k_) ∧ some k_ ≠ (.slice Ao21 t201.length co21 : Value).ownBlock)) (by (with_reducible repeat (first | apply Kd.V_alloc | apply Kd.V_drewN | apply Kd.V_drew)); exact Kd.V_mono HO195.out (fun _ hk => ⟨⟨hk.1.1, hk.2⟩, hk.1.2⟩)) hg hat); replace HL196_1 := Aside0.mk (Kd.V_afterv (ok := (fun k_ => (P0_ k_ ∨ w.heap.size ≤ k_) ∧ some k_ ≠ (.slice Ao21 t201.length co21 : Value).ownBlock)) (by (with_reducible repeat (first | apply Kd.V_alloc | apply Kd.V_drewN | apply Kd.V_drew)); exact Kd.V_mono HL196_1.out (fun _ hk => ⟨⟨hk.1.1, hk.2⟩, hk.1.2⟩)) hg hat); replace HL204_1 := Aside0.mk (Kd.V_afterv (ok := (fun k_ => (P0_ k_ ∨ w.heap.size ≤ k_) ∧ some k_ ≠ (.slice Ao21 t201.length co21 : Value).ownBlock)) (by (with_reducible repeat (first | apply Kd.V_alloc | apply Kd.V_drewN | apply Kd.V_drew)); exact Kd.V_mono HL204_1.out (fun _ hk => ⟨⟨hk.1.1, hk.2⟩, hk.1.2⟩)) hg hat); replace HB := Aside0.mk (hb); clear HO_5 HO203; clear ho hb hg hat))
           go_roundg kj2
           case measure => have := HK1.out; have := HJ2.out; omega
           case rel => exact ⟨(y205), (wrap64 (x6_1 + 1)), (by first | rfl | (simp; done) | (simp [*]; done)), H', ⟨by have := HK1.out; have := HJ2.out; omega⟩, ⟨by (with_reducible repeat (first | apply Kd.V_alloc | apply Kd.V_drewN | apply Kd.V_drew)); exact Kd.V_mono HO_0.out (fun _ hk => ⟨hk.1.1, hk.2⟩)⟩, ⟨by (with_reducible repeat (first | apply Kd.N_alloc | apply Kd.N_drewN | apply Kd.N_drew)); exact HO207.out⟩, ⟨by repeat (first | (with_reducible first | exact HB.out | apply below_alloc | apply pw_below_drewN | apply below_drew1) | exact HB.out)⟩⟩
          ·rw [if_neg c17] at H
           exact absurd H (by simp)
         ·rw [if_neg c15] at H
          have c15b0 : decide ((t193.length : Int) ≤ 256) = false := decide_eq_false c15
          have c15b1 : decide (t193.length ≤ 256) = false := decide_eq_false (by omega)
          clear c15
          by_cases c23 : x5_1.length < 4398046511104
          ·rw [if_pos c23] at H
           have LMc23 := Aside0.mk c23
           clear c23
           obtain ⟨y209, hy209⟩ : ∃ y_ : List (S38), y_ = (x5_1 ++ [(⟨(rd_T44 l0 x6_1).f0, t193⟩ : S38)]) := ⟨_, rfl⟩
           replace H : (engrosslaw16_Images.l0 kj2 l0 a1 y209 (wrap64 (x6_1 + 1))) = some r := by first | (rw [hy209]; with_reducible exact H) | (have H2_ := (Option.bind_some _ _).symm.trans H; rw [hy209]; with_reducible exact H2_) | (have H2_ := (Option.bind_some _ _).symm.trans H; with_reducible exact H2_) | with_reducible exact H | (rw [hy209]; exact H) | exact H
           have Ny209 := Aside0.mk hy209
           clear hy209
           have H' := Aside0.mk H
           clear H
           have p192 : 0 ≤ (x6_1 : Int) := of_decide_eq_true (by first | (with_reducible assumption) | assumption)
           have q192 : x6_1 < (l0.length : Int) := of_decide_eq_true (by first | (with_reducible assumption) | assumption)
           obtain ⟨ad192, A192_1, c192_1, e192, hx192_0, hx192_1, hx192_2, hl192_1, hi192_1⟩ := at_T44 (Kd.V_reads' HO_0.out).2.2 x6_1 p192 q192
           (try rw [← Nbq9.out] at hx192_2)
           cases e192
           obtain ⟨ce192, hce192, hMe192, hcc192⟩ := Kd.V_get HO_0.out z44 x6_1 p192 (by first | exact q192 | exact of_decide_eq_true (by first | (with_reducible assumption) | assumption) | (have e_ := (Kd.V_reads' HO_0.out).1; omega))
           obtain ⟨ua192_1, uc192_1, rfl, ul192_1, ge192_1⟩ := k44_openF hMe192
           have hv192_1 := hcc192 1 _ rfl
           rw [add_field _ _ 1 (by omega)] at hv192_1
           replace hv192_1 := Option.some.inj (hv192_1.symm.trans hx192_1)
           injection hv192_1 with hva_ hvn_ hvc_
           rw [hva_] at ge192_1
           rw [hvc_] at ul192_1
           have HL192_1 := Aside0.mk (show Kd.V (Kd.int .u8) 5 _ w.heap.size _ _ ((rd_T44 l0 x6_1).f1) from Kd.V_mk ul192_1 ge192_1)
           clear hva_ hvn_ hvc_ ge192_1 ul192_1
           clear hcc192 hce192
           have HR192_1 := Aside0.mk hi192_1
           have HC192_1 := Aside0.mk hl192_1
           clear hi192_1 hl192_1
           replace p192 := eq_true p192
           replace q192 := eq_true q192
           go_wp2_with (first | ((with_reducible refine gate_callee (f := 19) rfl ?_); refine goesL_ (some 24) rfl rfl Tryd.func19 (by kernel_rfl) rfl #[.slice A192_1 ((rd_T44 l0 x6_1).f1).length c192_1, .int .i64 260] rfl (by (try simp only [List.map_toArray, List.map_cons, List.map_nil]); first | done | rfl | (simp only [List.length_drop, List.length_take]; rfl)) ?_; (with_reducible refine (engrosslaw1_Short.calls (fun k_ => ((P0_ k_ ∨ w.heap.size ≤ k_) ∧ some k_ ≠ (u5 : Value).ownBlock)) _ _ ((rd_T44 l0 x6_1).f1) 260 t193 _ ?side1 A8.out).mono ?_); (case side1 => exact HL192_1.out); rintro e w24 ⟨v194, rfl, ho0, hb⟩; refine ⟨_, rfl, ?_⟩; have HO195 := Aside0.mk (Kd.V_lower (Kd.V_mono (ok' := fun k_ => (P0_ k_ ∨ w.heap.size ≤ k_) ∧ some k_ ≠ (u5 : Value).ownBlock) ho0 (fun k_ hk_ => ⟨Or.elim hk_ (fun hs_ => hs_.1) (fun hn_ => (.inr (Nat.le_trans (below_size (bC HB)) hn_))), Or.elim hk_ (fun hs_ => hs_.2) (fun hn_ => (Kd.fresh' (Kd.N_lt (by (with_reducible repeat (first | apply Kd.N_alloc | apply Kd.N_drewN | apply Kd.N_drew)); exact HO_5.out)) k_ hn_))⟩)) (below_size (bC HB))); replace HO_0 := Aside0.mk (Kd.V_below (by (with_reducible repeat (first | apply Kd.V_alloc | apply Kd.V_drewN | apply Kd.V_drew)); exact HO_0.out) hb); replace HO_5 := Aside0.mk (Kd.N_below (by (with_reducible repeat (first | apply Kd.N_alloc | apply Kd.N_drewN | apply Kd.N_drew)); exact HO_5.out) hb); replace HL192_1 := Aside0.mk (Kd.V_below (by (with_reducible repeat (first | apply Kd.V_alloc | apply Kd.V_drewN | apply Kd.V_drew)); exact HL192_1.out) hb); replace HR192_1 := Aside0.mk (Kd.C_below (by repeat (first | (with_reducible exact HR192_1.out) | (with_reducible refine Kd.C_alloc ?_ _) | (with_reducible refine Kd.C_drewN ?_ _) | (with_reducible refine Kd.C_drew ?_) | exact HR192_1.out)) hb); replace HB := bW HB hb; (try clear hb); (try clear hb2); (try clear hk); (try clear hi); (try clear ho0); have p196 : 0 ≤ (x6_1 : Int) := of_decide_eq_true (by first | (with_reducible assumption) | assumption); have q196 : x6_1 < (l0.length : Int) := of_decide_eq_true (by first | (with_reducible assumption) | assumption); obtain ⟨ad196, A196_1, c196_1, e196, hx196_0, hx196_1, hx196_2, hl196_1, hi196_1⟩ := at_T44 (Kd.V_reads' HO_0.out).2.2 x6_1 p196 q196; (try rw [← Nbq9.out] at hx196_2); obtain rfl : ad192 = ad196 := (by injection e196); obtain ⟨ce196, hce196, hMe196, hcc196⟩ := Kd.V_get HO_0.out z44 x6_1 p196 (by first | exact q196 | exact of_decide_eq_true (by first | (with_reducible assumption) | assumption) | (have e_ := (Kd.V_reads' HO_0.out).1; omega)); obtain ⟨ua196_1, uc196_1, rfl, ul196_1, ge196_1⟩ := k44_openF hMe196; have hv196_1 := hcc196 1 _ rfl; rw [add_field _ _ 1 (by omega)] at hv196_1; replace hv196_1 := Option.some.inj (hv196_1.symm.trans hx196_1); injection hv196_1 with hva_ hvn_ hvc_; rw [hva_] at ge196_1; rw [hvc_] at ul196_1; have HL196_1 := Aside0.mk (show Kd.V (Kd.int .u8) 5 _ w.heap.size _ _ ((rd_T44 l0 x6_1).f1) from Kd.V_mk ul196_1 ge196_1); clear hva_ hvn_ hvc_ ge196_1 ul196_1; clear hcc196 hce196; have HR196_1 := Aside0.mk hi196_1; have HC196_1 := Aside0.mk hl196_1; clear hi196_1 hl196_1; replace p196 := eq_true p196; replace q196 := eq_true q196; obtain ⟨Ao25, co25, eo25⟩ := Kd.V_slice HO195.out; subst eo25; have p208 : 0 ≤ (x6_1 : Int) := of_decide_eq_true (by first | (with_reducible assumption) | assumption); have q208 : x6_1 < (l0.length : Int) := of_decide_eq_true (by first | (with_reducible assumption) | assumption); obtain ⟨ad208, A208_1, c208_1, e208, hx208_0, hx208_1, hx208_2, hl208_1, hi208_1⟩ := at_T44 (Kd.V_reads' HO_0.out).2.2 x6_1 p208 q208; (try rw [← Nbq9.out] at hx208_2); obtain rfl : ad192 = ad208 := (by injection e208); obtain ⟨ce208, hce208, hMe208, hcc208⟩ := Kd.V_get HO_0.out z44 x6_1 p208 (by first | exact q208 | exact of_decide_eq_true (by first | (with_reducible assumption) | assumption) | (have e_ := (Kd.V_reads' HO_0.out).1; omega)); obtain ⟨ua208_1, uc208_1, rfl, ul208_1, ge208_1⟩ := k44_openF hMe208; have hv208_1 := hcc208 1 _ rfl; rw [add_field _ _ 1 (by omega)] at hv208_1; replace hv208_1 := Option.some.inj (hv208_1.symm.trans hx208_1); injection hv208_1 with hva_ hvn_ hvc_; rw [hva_] at ge208_1; rw [hvc_] at ul208_1; have HL208_1 := Aside0.mk (show Kd.V (Kd.int .u8) 5 _ w.heap.size _ _ ((rd_T44 l0 x6_1).f1) from Kd.V_mk ul208_1 ge208_1); clear hva_ hvn_ hvc_ ge208_1 ul208_1; clear hcc208 hce208; have HR208_1 := Aside0.mk hi208_1; have HC208_1 := Aside0.mk hl208_1; clear hi208_1 hl208_1; replace p208 := eq_true p208; replace q208 := eq_true q208; have ea_ := Option.some.inj (hx196_1.symm.trans hx208_1); injection ea_ with ea_ en_ ec_; subst ea_; subst ec_; clear en_) | ((with_reducible refine gate_builtin (b := .append) (xs := #[.tmp 38, .tmp 46]) rfl ?_); (try (refine gate_guard (by rfl) ?_; dsimp only)); at_builtin; refine Kd.N_append k38 (w0 := w) w.heap.size rfl (.tmp 38) (.tmp 46) 24 38 (.agg #[(.int .i64 0), (.slice none 0 0)]) 32 rfl Tryd.underlying24 info38 rfl (by decide) (by omega) u5 x5_1 (⟨(rd_T44 l0 x6_1).f0, t193⟩ : S38) [.int .i64 ((rd_T44 l0 x6_1).f0), .slice Ao25 t193.length co25] (fun k_ => (P0_ k_ ∨ w.heap.size ≤ k_)) (fun k_ => ((fun k_ => (P0_ k_ ∨ w.heap.size ≤ k_))) k_ ∧ some k_ ≠ (u5 : Value).ownBlock) rfl rfl ?aP (fun _ hk => hk) ?aF ?aO ?aB ?aS ?aL ?_; (case aP => exact (k38_mkF _ _ (⟨(rd_T44 l0 x6_1).f0, t193⟩ : S38) (Kd.V_reads' (Kd.V_mono (ok' := (fun k_ => ((fun k_ => (P0_ k_ ∨ w.heap.size ≤ k_))) k_ ∧ some k_ ≠ (u5 : Value).ownBlock)) (HO195.out) (fun k_ hk => ⟨hk.1, hk.2⟩))).2.1 (Kd.V_F (Kd.V_mono (ok' := (fun k_ => ((fun k_ => (P0_ k_ ∨ w.heap.size ≤ k_))) k_ ∧ some k_ ≠ (u5 : Value).ownBlock)) (HO195.out) (fun k_ hk => ⟨hk.1, hk.2⟩))))); (case aB => exact (bC HB)); (case aF => exact (fun k_ hk => (.inr (Nat.le_trans (below_size (bC HB)) hk)))); (case aO => exact (by (with_reducible repeat (first | apply Kd.N_alloc | apply Kd.N_drewN | apply Kd.N_drew)); exact HO_5.out)); (case aS => exact (below_size (bC HB))); (case aL => have := LMc23.out; omega); intro v210 w26 ho hb hg hat; rw [← Ny209.out] at ho; have HO211 := Aside0.mk (ho); replace HO_0 := Aside0.mk (Kd.V_afterv (ok := (fun k_ => (P0_ k_ ∨ w.heap.size ≤ k_))) (by (with_reducible repeat (first | apply Kd.V_alloc | apply Kd.V_drewN | apply Kd.V_drew)); exact HO_0.out) hg hat); replace HL192_1 := Aside0.mk (Kd.V_afterv (ok := (fun k_ => (P0_ k_ ∨ w.heap.size ≤ k_))) (by (with_reducible repeat (first | apply Kd.V_alloc | apply Kd.V_drewN | apply Kd.V_drew)); exact HL192_1.out) hg hat); replace HO195 := Aside0.mk (Kd.V_afterv (ok := (fun k_ => (P0_ k_ ∨ w.heap.size ≤ k_))) (by (with_reducible repeat (first | apply Kd.V_alloc | apply Kd.V_drewN | apply Kd.V_drew)); exact HO195.out) hg hat); replace HL196_1 := Aside0.mk (Kd.V_afterv (ok := (fun k_ => (P0_ k_ ∨ w.heap.size ≤ k_))) (by (with_reducible repeat (first | apply Kd.V_alloc | apply Kd.V_drewN | apply Kd.V_drew)); exact HL196_1.out) hg hat); replace HL208_1 := Aside0.mk (Kd.V_afterv (ok := (fun k_ => (P0_ k_ ∨ w.heap.size ≤ k_))) (by (with_reducible repeat (first | apply Kd.V_alloc | apply Kd.V_drewN | apply Kd.V_drew)); exact HL208_1.out) hg hat); replace HB := Aside0.mk (hb); clear HO_5; clear ho hb hg hat))
           go_roundg kj2
           case measure => have := HK1.out; have := HJ2.out; omega
           case rel => exact ⟨(y209), (wrap64 (x6_1 + 1)), (by first | rfl | (simp; done) | (simp [*]; done)), H', ⟨by have := HK1.out; have := HJ2.out; omega⟩, ⟨by (with_reducible repeat (first | apply Kd.V_alloc | apply Kd.V_drewN | apply Kd.V_drew)); exact HO_0.out⟩, ⟨by (with_reducible repeat (first | apply Kd.N_alloc | apply Kd.N_drewN | apply Kd.N_drew)); exact HO211.out⟩, ⟨by repeat (first | (with_reducible first | exact HB.out | apply below_alloc | apply pw_below_drewN | apply below_drew1) | exact HB.out)⟩⟩
          ·rw [if_neg c23] at H
           exact absurd H (by simp)
       ·rw [if_neg c7] at H
        exact absurd H (by simp)
      ·rw [if_neg c6] at H
       exact absurd H (by simp)
     ·replace c5 := Bool.eq_false_iff.mpr c5
      subst c5
      have H1 : (some x5_1) = some r := by rw [if_neg (show ¬ (false = true) by decide)] at H; exact H
      clear H
      have H := H1
      clear H1
      obtain rfl := Option.some.inj H
      go_wp2
      go_ret
      exact ⟨_, by first | rfl | (simp [errW_none, errW_some] <;> rfl) | (simp [*, errW_none, errW_some] <;> rfl), by (with_reducible repeat (first | apply Kd.N_alloc | apply Kd.N_drewN | apply Kd.N_drew)); exact HO_5.out, by repeat (first | (with_reducible first | exact HB.out | apply below_alloc | apply pw_below_drewN | apply below_drew1) | exact HB.out)⟩

/-! ### engrossref10_MayImages: function 13 -/
def engrossref10_MayImages.l0 : Nat → List (S38) → Int → Option (Bool)
 | 0, _, _ => none
 | k + 1, x0, x3 => if x3 < (x0.length : Int) then (if 0 ≤ x3 then (if ((rd_T38 x0 x3).f0) < 0 then (some false) else (if ((rd_T38 x0 x3).f0) > 95 then (some false) else (if (((rd_T38 x0 x3).f1).length : Int) = 256 then (if x3 > 0 then (if 0 ≤ (wrap64 (x3 - 1)) then (if (wrap64 (x3 - 1)) < (x0.length : Int) then (if ((rd_T38 x0 x3).f0) ≤ ((rd_T38 x0 (wrap64 (x3 - 1))).f0) then (some false) else (engrossref10_MayImages.l0 k x0 (wrap64 (x3 + 1)))) else (none)) else (none)) else (engrossref10_MayImages.l0 k x0 (wrap64 (x3 + 1)))) else (some false)))) else (none)) else (if (x0.length : Int) ≥ 1 then (some (decide ((x0.length : Int) ≤ 96))) else (some false))
def engrossref10_MayImages.f (k : Nat) (l0 : List (S38)) : Option (Bool) := engrossref10_MayImages.l0 k l0 0
theorem engrossref10_MayImages.mono_l : ∀ k, (∀ y0 y1, LeO (engrossref10_MayImages.l0 k y0 y1) (engrossref10_MayImages.l0 (k + 1) y0 y1))
 | 0 => fun _ _ r h => by simp [engrossref10_MayImages.l0] at h
 | k + 1 => by
  have ih0 := engrossref10_MayImages.mono_l k
  ·intro y0 y1
   unfold engrossref10_MayImages.l0
   repeat' first
   | (with_reducible exact ih0 _ _)
   | (with_reducible exact LeO.refl _)
   | (with_reducible exact LeO.none _)
   | (with_reducible refine LeO.ite ?_ ?_)
   | (with_reducible refine LeO.bind ?_ (fun _ => ?_))
   | exact ih0 _ _
   | exact LeO.none _
   | refine LeO.ite ?_ ?_
   | refine LeO.bind ?_ (fun _ => ?_)
theorem engrossref10_MayImages.mono : ∀ a0 k, LeO (engrossref10_MayImages.f k a0) (engrossref10_MayImages.f (k + 1) a0) := by
 intro a0 k
 have ih0 := engrossref10_MayImages.mono_l k
 unfold engrossref10_MayImages.f
 repeat' first
   | (with_reducible exact ih0 _ _)
   | (with_reducible exact LeO.refl _)
   | (with_reducible exact LeO.none _)
   | (with_reducible refine LeO.ite ?_ ?_)
   | (with_reducible refine LeO.bind ?_ (fun _ => ?_))
   | exact ih0 _ _
   | exact LeO.none _
   | refine LeO.ite ?_ ?_
   | refine LeO.bind ?_ (fun _ => ?_)
set_option maxHeartbeats 8000000 in
set_option maxRecDepth 100000 in
theorem engrossref10_MayImages.calls (k : Nat) (A0 : Option Addr) (c0 : Nat) (l0 : List (S38)) (r : Bool) (w : World) (hr0 : Kd.C k38 w A0 l0.length l0) (hc0 : l0.length ≤ c0) (h : engrossref10_MayImages.f k l0 = some r) :
  Calls Tryd.prog 13 #[.slice A0 l0.length c0] w fun e w' => e = .returned (.bool r) ∧ Drawn0 w w' := by
 have HR0 := Aside0.mk hr0
 have HC0 := Aside0.mk hc0
 clear hr0 hc0
 have H : (engrossref10_MayImages.l0 k l0 0) = some r := h
 clear h
 have H' := Aside0.mk H
 clear H
 go_enter Tryd.func13, Tryd.ntmps13
 go_wp2
 repeat (go_quiet (fail); try go_wp2)
 go_loopg [3] k (fun kq v3 w' => ∃ (x3_1 : Int), v3 = .int .i64 x3_1 ∧ Aside0 (engrossref10_MayImages.l0 kq l0 x3_1 = some r) ∧ Aside0 (kq ≤ k) ∧ Drawn0 w w')
 case atStart => exact ⟨(0), (by first | rfl | (simp; done) | (simp [*]; done)), H', ⟨Nat.le_refl _⟩, by repeat (first | exact Drawn0.refl _ | apply Drawn0.step)⟩
 case round =>
  clear H'
  try clear c1
  obtain ⟨x3_1, rfl, HA, HK1, ⟨m1, rfl⟩⟩ := hrel
  cases gk with
  | zero => exact absurd HA.out (by simp [engrossref10_MayImages.l0])
  | succ k1 =>
   have H := HA.out
   clear HA
   simp only [engrossref10_MayImages.l0] at H
   by_cases c2 : x3_1 < (l0.length : Int)
   ·rw [if_pos c2] at H
    have c2b0 : decide (x3_1 < (l0.length : Int)) = true := decide_eq_true c2
    clear c2
    by_cases c3 : 0 ≤ x3_1
    ·rw [if_pos c3] at H
     have c3b0 : decide (0 ≤ x3_1) = true := decide_eq_true c3
     clear c3
     by_cases c4 : ((rd_T38 l0 x3_1).f0) < 0
     ·rw [if_pos c4] at H
      have c4b0 : decide (((rd_T38 l0 x3_1).f0) < 0) = true := decide_eq_true c4
      clear c4
      obtain rfl := Option.some.inj H
      have p212 : 0 ≤ (x3_1 : Int) := of_decide_eq_true (by first | (with_reducible assumption) | assumption)
      have q212 : x3_1 < (l0.length : Int) := of_decide_eq_true (by first | (with_reducible assumption) | assumption)
      obtain ⟨ad212, A212_1, c212_1, e212, hx212_0, hx212_1, hl212_1, hi212_1⟩ := at_T38 HR0.out x3_1 p212 q212
      cases e212
      have HR212_1 := Aside0.mk hi212_1
      have HC212_1 := Aside0.mk hl212_1
      clear hi212_1 hl212_1
      replace p212 := eq_true p212
      replace q212 := eq_true q212
      go_wp2
      repeat (go_quiet (fail); try go_wp2)
      go_ret
      exact ⟨by first | rfl | (simp; done) | (simp [*]; done), by repeat (first | exact Drawn0.refl _ | apply Drawn0.step)⟩
     ·rw [if_neg c4] at H
      have c4b0 : decide (((rd_T38 l0 x3_1).f0) < 0) = false := decide_eq_false c4
      clear c4
      by_cases c5 : ((rd_T38 l0 x3_1).f0) > 95
      ·rw [if_pos c5] at H
       have c5b0 : decide (95 < ((rd_T38 l0 x3_1).f0)) = true := decide_eq_true c5
       clear c5
       obtain rfl := Option.some.inj H
       have p212 : 0 ≤ (x3_1 : Int) := of_decide_eq_true (by first | (with_reducible assumption) | assumption)
       have q212 : x3_1 < (l0.length : Int) := of_decide_eq_true (by first | (with_reducible assumption) | assumption)
       obtain ⟨ad212, A212_1, c212_1, e212, hx212_0, hx212_1, hl212_1, hi212_1⟩ := at_T38 HR0.out x3_1 p212 q212
       cases e212
       have HR212_1 := Aside0.mk hi212_1
       have HC212_1 := Aside0.mk hl212_1
       clear hi212_1 hl212_1
       replace p212 := eq_true p212
       replace q212 := eq_true q212
       have p213 : 0 ≤ (x3_1 : Int) := of_decide_eq_true (by first | (with_reducible assumption) | assumption)
       have q213 : x3_1 < (l0.length : Int) := of_decide_eq_true (by first | (with_reducible assumption) | assumption)
       obtain ⟨ad213, A213_1, c213_1, e213, hx213_0, hx213_1, hl213_1, hi213_1⟩ := at_T38 HR0.out x3_1 p213 q213
       obtain rfl : ad212 = ad213 := (by injection e213)
       have HR213_1 := Aside0.mk hi213_1
       have HC213_1 := Aside0.mk hl213_1
       clear hi213_1 hl213_1
       replace p213 := eq_true p213
       replace q213 := eq_true q213
       have ea_ := Option.some.inj (hx212_1.symm.trans hx213_1)
       injection ea_ with ea_ en_ ec_
       subst ea_
       subst ec_
       clear en_
       go_wp2
       repeat (go_quiet (fail); try go_wp2)
       go_ret
       exact ⟨by first | rfl | (simp; done) | (simp [*]; done), by repeat (first | exact Drawn0.refl _ | apply Drawn0.step)⟩
      ·rw [if_neg c5] at H
       have c5b0 : decide (95 < ((rd_T38 l0 x3_1).f0)) = false := decide_eq_false c5
       clear c5
       by_cases c6 : (((rd_T38 l0 x3_1).f1).length : Int) = 256
       ·rw [if_pos c6] at H
        have c6b0 : ((((rd_T38 l0 x3_1).f1).length : Int) == 256) = true := beq_iff_eq.mpr c6
        have c6b1 : ((((rd_T38 l0 x3_1).f1).length : Int) != 256) = false := bne_eq_false_iff_eq.mpr c6
        clear c6
        by_cases c7 : x3_1 > 0
        ·rw [if_pos c7] at H
         have c7b0 : decide (0 < x3_1) = true := decide_eq_true c7
         clear c7
         obtain ⟨ji8, hji8⟩ : ∃ j_ : Int, (wrap64 (x3_1 - 1)) = j_ := ⟨_, rfl⟩
         replace H : (if 0 ≤ (ji8) then (if (ji8) < (l0.length : Int) then (if ((rd_T38 l0 x3_1).f0) ≤ ((rd_T38 l0 (ji8)).f0) then (some false) else (engrossref10_MayImages.l0 k1 l0 (wrap64 (x3_1 + 1)))) else (none)) else (none)) = some r := by first | (rw [hji8] at H; exact H) | (simp only [hji8] at H ⊢; exact H)
         have hji8w : (IntKind.i64.wrap (x3_1 - 1)) = ji8 := (i64_w _).trans hji8
         by_cases c9 : 0 ≤ (ji8)
         ·rw [if_pos c9] at H
          have c9b0 : decide (0 ≤ (ji8)) = true := decide_eq_true c9
          clear c9
          by_cases c10 : (ji8) < (l0.length : Int)
          ·rw [if_pos c10] at H
           have c10b0 : decide ((ji8) < (l0.length : Int)) = true := decide_eq_true c10
           clear c10
           by_cases c11 : ((rd_T38 l0 x3_1).f0) ≤ ((rd_T38 l0 (ji8)).f0)
           ·rw [if_pos c11] at H
            have c11b0 : decide (((rd_T38 l0 x3_1).f0) ≤ ((rd_T38 l0 (ji8)).f0)) = true := decide_eq_true c11
            clear c11
            obtain rfl := Option.some.inj H
            have p212 : 0 ≤ (x3_1 : Int) := of_decide_eq_true (by first | (with_reducible assumption) | assumption)
            have q212 : x3_1 < (l0.length : Int) := of_decide_eq_true (by first | (with_reducible assumption) | assumption)
            obtain ⟨ad212, A212_1, c212_1, e212, hx212_0, hx212_1, hl212_1, hi212_1⟩ := at_T38 HR0.out x3_1 p212 q212
            cases e212
            have HR212_1 := Aside0.mk hi212_1
            have HC212_1 := Aside0.mk hl212_1
            clear hi212_1 hl212_1
            replace p212 := eq_true p212
            replace q212 := eq_true q212
            have p213 : 0 ≤ (x3_1 : Int) := of_decide_eq_true (by first | (with_reducible assumption) | assumption)
            have q213 : x3_1 < (l0.length : Int) := of_decide_eq_true (by first | (with_reducible assumption) | assumption)
            obtain ⟨ad213, A213_1, c213_1, e213, hx213_0, hx213_1, hl213_1, hi213_1⟩ := at_T38 HR0.out x3_1 p213 q213
            obtain rfl : ad212 = ad213 := (by injection e213)
            have HR213_1 := Aside0.mk hi213_1
            have HC213_1 := Aside0.mk hl213_1
            clear hi213_1 hl213_1
            replace p213 := eq_true p213
            replace q213 := eq_true q213
            have ea_ := Option.some.inj (hx212_1.symm.trans hx213_1)
            injection ea_ with ea_ en_ ec_
            subst ea_
            subst ec_
            clear en_
            have p214 : 0 ≤ (x3_1 : Int) := of_decide_eq_true (by first | (with_reducible assumption) | assumption)
            have q214 : x3_1 < (l0.length : Int) := of_decide_eq_true (by first | (with_reducible assumption) | assumption)
            obtain ⟨ad214, A214_1, c214_1, e214, hx214_0, hx214_1, hl214_1, hi214_1⟩ := at_T38 HR0.out x3_1 p214 q214
            obtain rfl : ad212 = ad214 := (by injection e214)
            have HR214_1 := Aside0.mk hi214_1
            have HC214_1 := Aside0.mk hl214_1
            clear hi214_1 hl214_1
            replace p214 := eq_true p214
            replace q214 := eq_true q214
            have ea_ := Option.some.inj (hx212_1.symm.trans hx214_1)
            injection ea_ with ea_ en_ ec_
            subst ea_
            subst ec_
            clear en_
            have p215 : 0 ≤ (x3_1 : Int) := of_decide_eq_true (by first | (with_reducible assumption) | assumption)
            have q215 : x3_1 < (l0.length : Int) := of_decide_eq_true (by first | (with_reducible assumption) | assumption)
            obtain ⟨ad215, A215_1, c215_1, e215, hx215_0, hx215_1, hl215_1, hi215_1⟩ := at_T38 HR0.out x3_1 p215 q215
            obtain rfl : ad212 = ad215 := (by injection e215)
            have HR215_1 := Aside0.mk hi215_1
            have HC215_1 := Aside0.mk hl215_1
            clear hi215_1 hl215_1
            replace p215 := eq_true p215
            replace q215 := eq_true q215
            have ea_ := Option.some.inj (hx212_1.symm.trans hx215_1)
            injection ea_ with ea_ en_ ec_
            subst ea_
            subst ec_
            clear en_
            have p216 : 0 ≤ ((ji8) : Int) := of_decide_eq_true (by first | (with_reducible assumption) | assumption)
            have q216 : (ji8) < (l0.length : Int) := of_decide_eq_true (by first | (with_reducible assumption) | assumption)
            obtain ⟨ad216, A216_1, c216_1, e216, hx216_0, hx216_1, hl216_1, hi216_1⟩ := at_T38 HR0.out (ji8) p216 q216
            obtain rfl : ad212 = ad216 := (by injection e216)
            have HR216_1 := Aside0.mk hi216_1
            have HC216_1 := Aside0.mk hl216_1
            clear hi216_1 hl216_1
            replace p216 := eq_true p216
            replace q216 := eq_true q216
            go_wp2
            repeat (go_quiet (fail); try go_wp2)
            go_ret
            exact ⟨by first | rfl | (simp; done) | (simp only [← hji8] <;> (first | rfl | simp)) | (simp [*]; done), by repeat (first | exact Drawn0.refl _ | apply Drawn0.step)⟩
           ·rw [if_neg c11] at H
            have c11b0 : decide (((rd_T38 l0 x3_1).f0) ≤ ((rd_T38 l0 (ji8)).f0)) = false := decide_eq_false c11
            clear c11
            have H' := Aside0.mk H
            clear H
            have p212 : 0 ≤ (x3_1 : Int) := of_decide_eq_true (by first | (with_reducible assumption) | assumption)
            have q212 : x3_1 < (l0.length : Int) := of_decide_eq_true (by first | (with_reducible assumption) | assumption)
            obtain ⟨ad212, A212_1, c212_1, e212, hx212_0, hx212_1, hl212_1, hi212_1⟩ := at_T38 HR0.out x3_1 p212 q212
            cases e212
            have HR212_1 := Aside0.mk hi212_1
            have HC212_1 := Aside0.mk hl212_1
            clear hi212_1 hl212_1
            replace p212 := eq_true p212
            replace q212 := eq_true q212
            have p213 : 0 ≤ (x3_1 : Int) := of_decide_eq_true (by first | (with_reducible assumption) | assumption)
            have q213 : x3_1 < (l0.length : Int) := of_decide_eq_true (by first | (with_reducible assumption) | assumption)
            obtain ⟨ad213, A213_1, c213_1, e213, hx213_0, hx213_1, hl213_1, hi213_1⟩ := at_T38 HR0.out x3_1 p213 q213
            obtain rfl : ad212 = ad213 := (by injection e213)
            have HR213_1 := Aside0.mk hi213_1
            have HC213_1 := Aside0.mk hl213_1
            clear hi213_1 hl213_1
            replace p213 := eq_true p213
            replace q213 := eq_true q213
            have ea_ := Option.some.inj (hx212_1.symm.trans hx213_1)
            injection ea_ with ea_ en_ ec_
            subst ea_
            subst ec_
            clear en_
            have p214 : 0 ≤ (x3_1 : Int) := of_decide_eq_true (by first | (with_reducible assumption) | assumption)
            have q214 : x3_1 < (l0.length : Int) := of_decide_eq_true (by first | (with_reducible assumption) | assumption)
            obtain ⟨ad214, A214_1, c214_1, e214, hx214_0, hx214_1, hl214_1, hi214_1⟩ := at_T38 HR0.out x3_1 p214 q214
            obtain rfl : ad212 = ad214 := (by injection e214)
            have HR214_1 := Aside0.mk hi214_1
            have HC214_1 := Aside0.mk hl214_1
            clear hi214_1 hl214_1
            replace p214 := eq_true p214
            replace q214 := eq_true q214
            have ea_ := Option.some.inj (hx212_1.symm.trans hx214_1)
            injection ea_ with ea_ en_ ec_
            subst ea_
            subst ec_
            clear en_
            have p215 : 0 ≤ (x3_1 : Int) := of_decide_eq_true (by first | (with_reducible assumption) | assumption)
            have q215 : x3_1 < (l0.length : Int) := of_decide_eq_true (by first | (with_reducible assumption) | assumption)
            obtain ⟨ad215, A215_1, c215_1, e215, hx215_0, hx215_1, hl215_1, hi215_1⟩ := at_T38 HR0.out x3_1 p215 q215
            obtain rfl : ad212 = ad215 := (by injection e215)
            have HR215_1 := Aside0.mk hi215_1
            have HC215_1 := Aside0.mk hl215_1
            clear hi215_1 hl215_1
            replace p215 := eq_true p215
            replace q215 := eq_true q215
            have ea_ := Option.some.inj (hx212_1.symm.trans hx215_1)
            injection ea_ with ea_ en_ ec_
            subst ea_
            subst ec_
            clear en_
            have p216 : 0 ≤ ((ji8) : Int) := of_decide_eq_true (by first | (with_reducible assumption) | assumption)
            have q216 : (ji8) < (l0.length : Int) := of_decide_eq_true (by first | (with_reducible assumption) | assumption)
            obtain ⟨ad216, A216_1, c216_1, e216, hx216_0, hx216_1, hl216_1, hi216_1⟩ := at_T38 HR0.out (ji8) p216 q216
            obtain rfl : ad212 = ad216 := (by injection e216)
            have HR216_1 := Aside0.mk hi216_1
            have HC216_1 := Aside0.mk hl216_1
            clear hi216_1 hl216_1
            replace p216 := eq_true p216
            replace q216 := eq_true q216
            go_wp2
            repeat (go_quiet (fail); try go_wp2)
            go_roundg k1
            case measure => have := HK1.out; omega
            case rel => exact ⟨(wrap64 (x3_1 + 1)), (by first | rfl | (simp; done) | (simp [*]; done)), H', ⟨by have := HK1.out; omega⟩, by repeat (first | exact Drawn0.refl _ | apply Drawn0.step)⟩
          ·rw [if_neg c10] at H
           exact absurd H (by simp)
         ·rw [if_neg c9] at H
          exact absurd H (by simp)
        ·rw [if_neg c7] at H
         have c7b0 : decide (0 < x3_1) = false := decide_eq_false c7
         clear c7
         have H' := Aside0.mk H
         clear H
         have p212 : 0 ≤ (x3_1 : Int) := of_decide_eq_true (by first | (with_reducible assumption) | assumption)
         have q212 : x3_1 < (l0.length : Int) := of_decide_eq_true (by first | (with_reducible assumption) | assumption)
         obtain ⟨ad212, A212_1, c212_1, e212, hx212_0, hx212_1, hl212_1, hi212_1⟩ := at_T38 HR0.out x3_1 p212 q212
         cases e212
         have HR212_1 := Aside0.mk hi212_1
         have HC212_1 := Aside0.mk hl212_1
         clear hi212_1 hl212_1
         replace p212 := eq_true p212
         replace q212 := eq_true q212
         have p213 : 0 ≤ (x3_1 : Int) := of_decide_eq_true (by first | (with_reducible assumption) | assumption)
         have q213 : x3_1 < (l0.length : Int) := of_decide_eq_true (by first | (with_reducible assumption) | assumption)
         obtain ⟨ad213, A213_1, c213_1, e213, hx213_0, hx213_1, hl213_1, hi213_1⟩ := at_T38 HR0.out x3_1 p213 q213
         obtain rfl : ad212 = ad213 := (by injection e213)
         have HR213_1 := Aside0.mk hi213_1
         have HC213_1 := Aside0.mk hl213_1
         clear hi213_1 hl213_1
         replace p213 := eq_true p213
         replace q213 := eq_true q213
         have ea_ := Option.some.inj (hx212_1.symm.trans hx213_1)
         injection ea_ with ea_ en_ ec_
         subst ea_
         subst ec_
         clear en_
         have p214 : 0 ≤ (x3_1 : Int) := of_decide_eq_true (by first | (with_reducible assumption) | assumption)
         have q214 : x3_1 < (l0.length : Int) := of_decide_eq_true (by first | (with_reducible assumption) | assumption)
         obtain ⟨ad214, A214_1, c214_1, e214, hx214_0, hx214_1, hl214_1, hi214_1⟩ := at_T38 HR0.out x3_1 p214 q214
         obtain rfl : ad212 = ad214 := (by injection e214)
         have HR214_1 := Aside0.mk hi214_1
         have HC214_1 := Aside0.mk hl214_1
         clear hi214_1 hl214_1
         replace p214 := eq_true p214
         replace q214 := eq_true q214
         have ea_ := Option.some.inj (hx212_1.symm.trans hx214_1)
         injection ea_ with ea_ en_ ec_
         subst ea_
         subst ec_
         clear en_
         go_wp2
         repeat (go_quiet (fail); try go_wp2)
         go_roundg k1
         case measure => have := HK1.out; omega
         case rel => exact ⟨(wrap64 (x3_1 + 1)), (by first | rfl | (simp; done) | (simp [*]; done)), H', ⟨by have := HK1.out; omega⟩, by repeat (first | exact Drawn0.refl _ | apply Drawn0.step)⟩
       ·rw [if_neg c6] at H
        have c6b0 : ((((rd_T38 l0 x3_1).f1).length : Int) == 256) = false := beq_eq_false_iff_ne.mpr c6
        have c6b1 : ((((rd_T38 l0 x3_1).f1).length : Int) != 256) = true := bne_iff_ne.mpr c6
        obtain rfl := Option.some.inj H
        have p212 : 0 ≤ (x3_1 : Int) := of_decide_eq_true (by first | (with_reducible assumption) | assumption)
        have q212 : x3_1 < (l0.length : Int) := of_decide_eq_true (by first | (with_reducible assumption) | assumption)
        obtain ⟨ad212, A212_1, c212_1, e212, hx212_0, hx212_1, hl212_1, hi212_1⟩ := at_T38 HR0.out x3_1 p212 q212
        cases e212
        have HR212_1 := Aside0.mk hi212_1
        have HC212_1 := Aside0.mk hl212_1
        clear hi212_1 hl212_1
        replace p212 := eq_true p212
        replace q212 := eq_true q212
        have p213 : 0 ≤ (x3_1 : Int) := of_decide_eq_true (by first | (with_reducible assumption) | assumption)
        have q213 : x3_1 < (l0.length : Int) := of_decide_eq_true (by first | (with_reducible assumption) | assumption)
        obtain ⟨ad213, A213_1, c213_1, e213, hx213_0, hx213_1, hl213_1, hi213_1⟩ := at_T38 HR0.out x3_1 p213 q213
        obtain rfl : ad212 = ad213 := (by injection e213)
        have HR213_1 := Aside0.mk hi213_1
        have HC213_1 := Aside0.mk hl213_1
        clear hi213_1 hl213_1
        replace p213 := eq_true p213
        replace q213 := eq_true q213
        have ea_ := Option.some.inj (hx212_1.symm.trans hx213_1)
        injection ea_ with ea_ en_ ec_
        subst ea_
        subst ec_
        clear en_
        have p214 : 0 ≤ (x3_1 : Int) := of_decide_eq_true (by first | (with_reducible assumption) | assumption)
        have q214 : x3_1 < (l0.length : Int) := of_decide_eq_true (by first | (with_reducible assumption) | assumption)
        obtain ⟨ad214, A214_1, c214_1, e214, hx214_0, hx214_1, hl214_1, hi214_1⟩ := at_T38 HR0.out x3_1 p214 q214
        obtain rfl : ad212 = ad214 := (by injection e214)
        have HR214_1 := Aside0.mk hi214_1
        have HC214_1 := Aside0.mk hl214_1
        clear hi214_1 hl214_1
        replace p214 := eq_true p214
        replace q214 := eq_true q214
        have ea_ := Option.some.inj (hx212_1.symm.trans hx214_1)
        injection ea_ with ea_ en_ ec_
        subst ea_
        subst ec_
        clear en_
        go_wp2
        repeat (go_quiet (fail); try go_wp2)
        go_ret
        exact ⟨by first | rfl | (simp; done) | (simp [*]; done), by repeat (first | exact Drawn0.refl _ | apply Drawn0.step)⟩
    ·rw [if_neg c3] at H
     exact absurd H (by simp)
   ·rw [if_neg c2] at H
    have c2b0 : decide (x3_1 < (l0.length : Int)) = false := decide_eq_false c2
    clear c2
    by_cases c12 : (l0.length : Int) ≥ 1
    ·rw [if_pos c12] at H
     have c12b0 : decide (1 ≤ (l0.length : Int)) = true := decide_eq_true c12
     have c12b1 : decide (1 ≤ l0.length) = true := decide_eq_true (by omega)
     clear c12
     obtain rfl := Option.some.inj H
     go_wp2
     repeat (go_quiet (fail); try go_wp2)
     go_ret
     exact ⟨by first | rfl | (simp; done) | (simp [*]; done), by repeat (first | exact Drawn0.refl _ | apply Drawn0.step)⟩
    ·rw [if_neg c12] at H
     have c12b0 : decide (1 ≤ (l0.length : Int)) = false := decide_eq_false c12
     have c12b1 : decide (1 ≤ l0.length) = false := decide_eq_false (by omega)
     clear c12
     obtain rfl := Option.some.inj H
     go_wp2
     repeat (go_quiet (fail); try go_wp2)
     go_ret
     exact ⟨by first | rfl | (simp; done) | (simp [*]; done), by repeat (first | exact Drawn0.refl _ | apply Drawn0.step)⟩

end Go.Proofs.YtijnfnlahhgpgaaDoor.P
