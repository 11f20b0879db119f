/- engrosslaw16.ChangeTwins: each call returns true. Condition: the row's own. -/
import Derived.Test.YtijnfnlahhgpgaaDoorChgB
import Derived.Test.YtijnfnlahhgpgaaDoorXS
import Derived.Laws.BitsAllLaws
import Derived.Test.YtijnfnlahhgpgaaDoorPx2
import Derived.Test.YtijnfnlahhgpgaaDoorPx5
import Derived.Test.YtijnfnlahhgpgaaDoorPx7
set_option linter.unusedVariables false
set_option linter.unusedSimpArgs false
namespace Go.Proofs.YtijnfnlahhgpgaaDoor.P
open Go.RowKit Go.Proofs.YtijnfnlahhgpgaaDoorW.PrintWords Go.Proofs.YtijnfnlahhgpgaaDoorW.PrintLast Go.Proofs.YtijnfnlahhgpgaaDoorW.PrintMore
attribute [local go_sem] max2_int min2_int max_two min_two max_three min_three max_four min_four
attribute [local go_sem] x_str_gtr x_str_leq x_str_geq Instr.field asAgg
theorem ownB_at {cur : Array Value} {n : Nat} {xs : List Int} (ht : cur.toList.take n = encB xs) {j : Nat} (hj : j < xs.length) (hjn : j < n) : cur[j]? = some (.int .u8 (xs.getD j 0)) := by
  have h := congrArg (fun q : List Value => q[j]?) ht
  simp only [List.getElem?_take, if_pos hjn, Array.getElem?_toList] at h
  rw [h]
  unfold encB
  rw [List.getElem?_map, List.getD_eq_getElem?_getD, List.getElem?_eq_getElem hj]
  rfl
theorem xor_in {a b : Int} (ha : 0 ≤ a ∧ a ≤ 255) (hb : 0 ≤ b ∧ b ≤ 255) : 0 ≤ bits .xor .u8 a b ∧ bits .xor .u8 a b ≤ 255 := by
  rw [u8_xor a b ha.1 (by omega) hb.1 (by omega)]
  have := Nat.xor_lt_two_pow (n := 8) (show a.toNat < 2 ^ 8 by omega) (show b.toNat < 2 ^ 8 by omega)
  omega
theorem twins_eq {l xs : List S38} (hm : Pure.mayI l = true) (hi : ∀ x ∈ l, Pure.IB x.f1) (hj : ∀ x ∈ xs, Pure.IB x.f1) (h0 : Pure.encF xs ≠ []) : ((strOfNums (Pure.encF l)).toList == (strOfNums (Pure.encF xs)).toList) = Pure.eqI l xs := by
  have hx : Pure.mayI xs = true := by
    cases h : Pure.mayI xs
    · exact absurd (by unfold Pure.encF; rw [if_neg (by rw [h]; decide)]) h0
    · rfl
  have e1 : Pure.encF l = Pure.bytesI l := by unfold Pure.encF; rw [if_pos hm]
  have e2 : Pure.encF xs = Pure.bytesI xs := by unfold Pure.encF; rw [if_pos hx]
  rw [e1, e2, Bool.eq_iff_iff, beq_iff_eq, Pure.str_inj (Pure.bytesI_IB hm) (Pure.bytesI_IB hx)]
  constructor
  · intro h
    have d1 := Pure.dec_enc hm hi
    rw [h, Pure.dec_enc hx hj] at d1
    rw [(Prod.mk.inj d1).1]
    exact Pure.eqI_self l
  · intro h
    rw [Pure.eqI_eq hi hj h]
theorem below_of_drawn {W W' : World} (h : Drawn0 W W') : Below W.heap.size W W' := by
  obtain ⟨nd, rfl⟩ := h
  exact pw_below_drewN (Below.refl _ _) _
theorem cellB {w W : World} {a : Addr} {v : Value} (h : w.cell? a = some v) (hb : Below w.heap.size w W) : W.cell? a = some v := (hb.cell (World.block_lt_of_cell? w _ h)).trans h
set_option maxHeartbeats 8000000 in
set_option maxRecDepth 100000 in
theorem engrosslaw16_ChangeTwins.calls (A0 : Option Addr) (c0 : Nat) (l0 : List S44) (a1 a2 a3 : Int) (w : World) (hr0 : Kd.C k44 w A0 l0.length l0) (hc0 : l0.length ≤ c0) (hw : ∀ y ∈ l0, wf44 y) (hw1 : (Lit.int .i64 a1).wf = true) (hw2 : (Lit.int .i64 a2).wf = true) (hw3 : (Lit.int .u8 a3).wf = true) :
  Calls Tryd.prog 6 #[.slice A0 l0.length c0, .int .i64 a1, .int .i64 a2, .int .u8 a3] w fun e w' => e = .returned (.bool true) ∧ Below w.heap.size w w' := by
  have HR0 := Aside0.mk hr0
  have HC0 := Aside0.mk hc0
  clear hr0 hc0
  have HB := Aside0.mk (Below.refl w.heap.size w)
  obtain ⟨k, hk⟩ : ∃ k : Nat, 4000 ≤ k := ⟨4000, Nat.le_refl _⟩
  obtain ⟨l, eI, hl6, hib⟩ := Pure.images_is l0 hw (n := 6) (by decide) (k := k) (by omega)
  have AI := Aside0.mk (show engrosslaw16_Images.f k l0 6 = some l from eI)
  have AB := Aside0.mk (Pure.begun16 (k := k) (by omega))
  have AM := Aside0.mk (Pure.rmay_is (l := l) (by omega) (k := k) (by omega))
  have IBL := Aside0.mk hib
  clear eI hib
  have HW2 := Aside0.mk hw2
  have HW3 := Aside0.mk hw3
  clear hw hw1 hw2 hw3
  by_cases hm : Pure.mayI l = true
  rotate_left
  · have hm := Bool.eq_false_iff.mpr hm
    rw [hm] at AM
    go_enter Tryd.func6, Tryd.ntmps6
    go_wp2_with (first | ((with_reducible refine gate_callee (f := 9) rfl ?_); refine goesL_ (some 16) rfl rfl Tryd.func9 (by kernel_rfl) rfl #[] rfl (by (try simp only [List.map_toArray, List.map_cons, List.map_nil]); first | done | rfl | (simp only [List.length_drop, List.length_take]; rfl)) ?_; (with_reducible refine (engrosslaw16_begun.calls k true _ AB.out).mono ?_); rintro e w11 ⟨rfl, hb⟩; refine ⟨_, rfl, ?_⟩; replace HB := bW HB hb; (try clear hb)) | ((with_reducible refine gate_callee (f := 10) rfl ?_); refine goesL_ (some 20) rfl rfl Tryd.func10 (by kernel_rfl) rfl #[.slice A0 l0.length c0, .int .i64 6] rfl (by (try simp only [List.map_toArray, List.map_cons, List.map_nil]); first | done | rfl | (simp only [List.length_drop, List.length_take]; rfl)) ?_; (with_reducible refine (engrosslaw16_Images.calls k (fun k_ => k_ < w.heap.size) _ _ l0 6 l _ ?side1 AI.out).mono ?_); (case side1 => exact Kd.V_mk HC0.out (Kd.F_below (Kd.C_F k44_heap HR0.out) (bC HB))); rintro e w12 ⟨v242, rfl, ho0, hb⟩; refine ⟨_, rfl, ?_⟩; replace HB := bW HB hb; (try clear hb); (obtain ⟨Al, cl, el⟩ := Kd.N_slice ho0); subst el; (obtain ⟨_, hlc, hlr⟩ := Kd.N_reads' ho0); have HL := Aside0.mk hlr; have HLC := Aside0.mk hlc; clear ho0 hlc hlr) | ((with_reducible refine gate_callee (f := 13) rfl ?_); refine goesL_ (some 22) rfl rfl Tryd.func13 (by kernel_rfl) rfl #[.slice Al l.length cl] rfl (by (try simp only [List.map_toArray, List.map_cons, List.map_nil]); first | done | rfl | (simp only [List.length_drop, List.length_take]; rfl)) ?_; (with_reducible refine (engrossref10_MayImages.calls k _ _ l false _ ?side1 ?side2 AM.out).mono ?_); (case side1 => exact HL.out); (case side2 => exact HLC.out); rintro e w13 ⟨rfl, ⟨nd, rfl⟩⟩; refine ⟨_, rfl, ?_⟩))
    go_ret
    exact ⟨rfl, bC HB⟩
  rw [hm] at AM
  by_cases hn : a2 < 0
  · have b1 : decide (a2 < 0) = true := decide_eq_true hn
    go_enter Tryd.func6, Tryd.ntmps6
    go_wp2_with (first | ((with_reducible refine gate_callee (f := 9) rfl ?_); refine goesL_ (some 16) rfl rfl Tryd.func9 (by kernel_rfl) rfl #[] rfl (by (try simp only [List.map_toArray, List.map_cons, List.map_nil]); first | done | rfl | (simp only [List.length_drop, List.length_take]; rfl)) ?_; (with_reducible refine (engrosslaw16_begun.calls k true _ AB.out).mono ?_); rintro e w11 ⟨rfl, hb⟩; refine ⟨_, rfl, ?_⟩; replace HB := bW HB hb; (try clear hb)) | ((with_reducible refine gate_callee (f := 10) rfl ?_); refine goesL_ (some 20) rfl rfl Tryd.func10 (by kernel_rfl) rfl #[.slice A0 l0.length c0, .int .i64 6] rfl (by (try simp only [List.map_toArray, List.map_cons, List.map_nil]); first | done | rfl | (simp only [List.length_drop, List.length_take]; rfl)) ?_; (with_reducible refine (engrosslaw16_Images.calls k (fun k_ => k_ < w.heap.size) _ _ l0 6 l _ ?side1 AI.out).mono ?_); (case side1 => exact Kd.V_mk HC0.out (Kd.F_below (Kd.C_F k44_heap HR0.out) (bC HB))); rintro e w12 ⟨v242, rfl, ho0, hb⟩; refine ⟨_, rfl, ?_⟩; replace HB := bW HB hb; (try clear hb); (obtain ⟨Al, cl, el⟩ := Kd.N_slice ho0); subst el; (obtain ⟨_, hlc, hlr⟩ := Kd.N_reads' ho0); have HL := Aside0.mk hlr; have HLC := Aside0.mk hlc; clear ho0 hlc hlr) | ((with_reducible refine gate_callee (f := 13) rfl ?_); refine goesL_ (some 22) rfl rfl Tryd.func13 (by kernel_rfl) rfl #[.slice Al l.length cl] rfl (by (try simp only [List.map_toArray, List.map_cons, List.map_nil]); first | done | rfl | (simp only [List.length_drop, List.length_take]; rfl)) ?_; (with_reducible refine (engrossref10_MayImages.calls k _ _ l true _ ?side1 ?side2 AM.out).mono ?_); (case side1 => exact HL.out); (case side2 => exact HLC.out); rintro e w13 ⟨rfl, ⟨nd, rfl⟩⟩; refine ⟨_, rfl, ?_⟩))
    go_ret
    exact ⟨rfl, bC HB⟩
  have b1 : decide (a2 < 0) = false := decide_eq_false hn
  go_enter Tryd.func6, Tryd.ntmps6
  go_upto_block 0 with (first | ((with_reducible refine gate_callee (f := 9) rfl ?_); refine goesL_ (some 16) rfl rfl Tryd.func9 (by kernel_rfl) rfl #[] rfl (by (try simp only [List.map_toArray, List.map_cons, List.map_nil]); first | done | rfl | (simp only [List.length_drop, List.length_take]; rfl)) ?_; (with_reducible refine (engrosslaw16_begun.calls k true _ AB.out).mono ?_); rintro e w11 ⟨rfl, hb⟩; refine ⟨_, rfl, ?_⟩; replace HB := bW HB hb; (try clear hb)) | ((with_reducible refine gate_callee (f := 10) rfl ?_); refine goesL_ (some 20) rfl rfl Tryd.func10 (by kernel_rfl) rfl #[.slice A0 l0.length c0, .int .i64 6] rfl (by (try simp only [List.map_toArray, List.map_cons, List.map_nil]); first | done | rfl | (simp only [List.length_drop, List.length_take]; rfl)) ?_; (with_reducible refine (engrosslaw16_Images.calls k (fun k_ => k_ < w.heap.size) _ _ l0 6 l _ ?side1 AI.out).mono ?_); (case side1 => exact Kd.V_mk HC0.out (Kd.F_below (Kd.C_F k44_heap HR0.out) (bC HB))); rintro e w12 ⟨v242, rfl, ho0, hb⟩; refine ⟨_, rfl, ?_⟩; replace HB := bW HB hb; (try clear hb); (obtain ⟨Al, cl, el⟩ := Kd.N_slice ho0); subst el; (obtain ⟨_, hlc, hlr⟩ := Kd.N_reads' ho0); have HL := Aside0.mk hlr; have HLC := Aside0.mk hlc; clear ho0 hlc hlr) | ((with_reducible refine gate_callee (f := 13) rfl ?_); refine goesL_ (some 22) rfl rfl Tryd.func13 (by kernel_rfl) rfl #[.slice Al l.length cl] rfl (by (try simp only [List.map_toArray, List.map_cons, List.map_nil]); first | done | rfl | (simp only [List.length_drop, List.length_take]; rfl)) ?_; (with_reducible refine (engrossref10_MayImages.calls k _ _ l true _ ?side1 ?side2 AM.out).mono ?_); (case side1 => exact HL.out); (case side2 => exact HLC.out); rintro e w13 ⟨rfl, ⟨nd, rfl⟩⟩; refine ⟨_, rfl, ?_⟩))
  have HB12 := HB
  clear HB
  have hlen := Pure.mayI_len hm
  have hmem := Pure.mayI_mem hm
  go_cut [11] (fun v11 wc => Aside0 (Kd.S k38 38 wc w12.heap.size (fun _ => True) v11 l) ∧ Aside0 (Below w12.heap.size w12 wc))
  case first =>
    go_wp2_with fail
    go_loopg [11, 12] 10 (fun kq v11 v12 w' => ∃ i : Int, v12 = .int .i64 i ∧ Aside0 (0 ≤ i ∧ i ≤ (l.length : Int)) ∧ Aside0 ((l.length : Int) - i < (kq : Int) ∧ kq ≤ 10) ∧ Aside0 (Kd.S k38 38 w' w12.heap.size (fun _ => True) v11 (l.take i.toNat)) ∧ Aside0 (Below w12.heap.size w12 w'))
    case atStart => exact ⟨0, rfl, ⟨by omega, by omega⟩, ⟨by omega, Nat.le_refl _⟩, ⟨Kd.S_nil _ _ _ _ _⟩, ⟨pw_below_drewN (Below.refl _ _) _⟩⟩
    case round =>
      obtain ⟨i, rfl, HI, HK, HS, HBB⟩ := hrel
      cases gk with
      | zero => exact absurd HK.out.1 (by have := HI.out; omega)
      | succ k1 =>
        by_cases c7 : i < (l.length : Int)
        rotate_left
        · have c7b0 : decide (i < (l.length : Int)) = false := decide_eq_false c7
          have e0 : l.take i.toNat = l := List.take_of_length_le (by have := HI.out; omega)
          rw [e0] at HS
          clear c7
          go_wp2_with fail
          go_meet
          exact ⟨HS, HBB⟩
        have c8 : 0 ≤ i := HI.out.1
        obtain ⟨ad, A1, c1, e124, hw_0, hw_1, hl1, hi1⟩ := at_T38 HL.out i c8 c7
        cases e124
        have hf := hmem (rd_T38 l i) (by unfold rd_T38; rw [List.getD_eq_getElem?_getD, List.getElem?_eq_getElem (show i.toNat < l.length by omega), Option.getD_some]; exact List.getElem_mem _)
        obtain ⟨nn, hnn⟩ : ∃ nn, nn = rd_T38 l i := ⟨_, rfl⟩
        rw [← hnn] at hw_0 hw_1 hl1 hi1 hf
        have HW0 := Aside0.mk hw_0
        have HW1 := Aside0.mk hw_1
        have HR1 := Aside0.mk hi1
        have HC1 := Aside0.mk hl1
        have NN := Aside0.mk hnn
        have HF := Aside0.mk hf
        clear hi1 hl1 hw_0 hw_1 hnn hf
        have c7b0 : decide (i < (l.length : Int)) = true := decide_eq_true c7
        have HI7 := Aside0.mk c7
        replace c8 := eq_true c8
        have c7e := eq_true c7
        go_upto_block 1 with fail
        try go_wp2_with fail
        replace HBB := Aside0.mk (below_drew1 HBB.out)
        replace HS := Aside0.mk (Kd.S_drew HS.out)
        refine start_ (n := 16) (S := fun w' => w'.cell? (ad.add (i.toNat * 2)) = some (.int .i64 nn.f0) ∧ w'.cell? ⟨(ad.add (i.toNat * 2)).block, (ad.add (i.toNat * 2)).off + 1, none⟩ = some (.slice A1 nn.f1.length c1)) (ds := []) #[false, false, false, false, false, false, false, false, false, false, false, false, false, false, false, false] (by kernel_rfl) rfl rfl ⟨cellB HW0.out (HBB.out), cellB HW1.out (HBB.out)⟩ (fun hHeld => ?_)
        generalize wr.drew = w7 at HS HBB hHeld ⊢
        refine pure_ (i := 0) (N := some 34) (v := ?_) (a' := ?_) #[true, false, false, false, false, false, false, false, false, false, false, false, false, false, false, false] rfl rfl (by kernel_rfl) (fun _ _ _ h => h) (Or.inl ⟨by rfl, ?_⟩) ?_ ?_
        rotate_left
        · intro w'
          go_simp
          with_reducible rfl
        rotate_left
        · simp only [Act.put, List.setIfInBounds_toArray, List.set_cons_zero, List.set_cons_succ, i64_w, i32_w]
          rfl
        refine pure_ (i := 1) (N := some 35) (v := ?_) (a' := ?_) #[true, true, false, false, false, false, false, false, false, false, false, false, false, false, false, false] rfl rfl (by kernel_rfl) (fun _ _ _ h => h) (Or.inl ⟨by rfl, ?_⟩) ?_ ?_
        rotate_left
        · intro w'
          go_simp
          with_reducible rfl
        rotate_left
        · simp only [Act.put, List.setIfInBounds_toArray, List.set_cons_zero, List.set_cons_succ, i64_w, i32_w]
          rfl
        refine pure_ (i := 2) (N := some 36) (v := ?_) (a' := ?_) #[true, true, true, false, false, false, false, false, false, false, false, false, false, false, false, false] rfl rfl (by kernel_rfl) (fun _ _ _ h => h) (Or.inl ⟨by rfl, ?_⟩) ?_ ?_
        rotate_left
        · intro w'
          go_simp
          with_reducible rfl
        rotate_left
        · simp only [Act.put, List.setIfInBounds_toArray, List.set_cons_zero, List.set_cons_succ, i64_w, i32_w]
          rfl
        refine pure_ (i := 6) (N := some 40) (v := ?_) (a' := ?_) #[true, true, true, false, false, false, true, false, false, false, false, false, false, false, false, false] rfl rfl (by kernel_rfl) (fun _ _ _ h => h) (Or.inl ⟨by rfl, ?_⟩) ?_ ?_
        rotate_left
        · intro w'
          go_simp
          with_reducible rfl
        rotate_left
        · simp only [Act.put, List.setIfInBounds_toArray, List.set_cons_zero, List.set_cons_succ, i64_w, i32_w]
          rfl
        refine pure_ (i := 7) (N := some 41) (v := ?_) (a' := ?_) #[true, true, true, false, false, false, true, true, false, false, false, false, false, false, false, false] rfl rfl (by kernel_rfl) (fun _ _ _ h => h) (Or.inl ⟨by rfl, ?_⟩) ?_ ?_
        rotate_left
        · intro w'
          go_simp
          with_reducible rfl
        rotate_left
        · simp only [Act.put, List.setIfInBounds_toArray, List.set_cons_zero, List.set_cons_succ, i64_w, i32_w]
          rfl
        refine pure_ (i := 3) (N := some 37) (v := ?_) (a' := ?_) #[true, true, true, true, false, false, true, true, false, false, false, false, false, false, false, false] rfl rfl (by kernel_rfl) (fun _ _ _ h => h) (Or.inl ⟨by rfl, ?_⟩) ?_ ?_
        rotate_left
        · intro w'
          go_simp
          with_reducible rfl
        rotate_left
        · simp only [Act.put, List.setIfInBounds_toArray, List.set_cons_zero, List.set_cons_succ, i64_w, i32_w]
          rfl
        refine pure_ (i := 4) (N := some 38) (v := ?_) (a' := ?_) #[true, true, true, true, true, false, true, true, false, false, false, false, false, false, false, false] rfl rfl (by kernel_rfl) (fun _ _ _ h => h) (Or.inl ⟨by rfl, ?_⟩) ?_ ?_
        rotate_left
        · intro w'
          go_simp
          with_reducible rfl
        rotate_left
        · simp only [Act.put, List.setIfInBounds_toArray, List.set_cons_zero, List.set_cons_succ, i64_w, i32_w]
          rfl
        refine pure_ (i := 8) (N := some 42) (v := ?_) (a' := ?_) #[true, true, true, true, true, false, true, true, true, false, false, false, false, false, false, false] rfl rfl (by kernel_rfl) (fun _ _ _ h => h) (Or.inl ⟨by rfl, ?_⟩) ?_ ?_
        rotate_left
        · intro w'
          go_simp
          with_reducible rfl
        rotate_left
        · simp only [Act.put, List.setIfInBounds_toArray, List.set_cons_zero, List.set_cons_succ, i64_w, i32_w]
          rfl
        refine pure_ (i := 9) (N := some 43) (v := ?_) (a' := ?_) #[true, true, true, true, true, false, true, true, true, true, false, false, false, false, false, false] rfl rfl (by kernel_rfl) (fun _ _ _ h => h) (Or.inl ⟨by rfl, ?_⟩) ?_ ?_
        rotate_left
        · intro w'
          go_simp
          with_reducible rfl
        rotate_left
        · simp only [Act.put, List.setIfInBounds_toArray, List.set_cons_zero, List.set_cons_succ, i64_w, i32_w]
          rfl
        refine take_ (i := 5) (N := some 39) (v := ?_) (a' := ?_) #[true, true, true, true, true, true, true, true, true, true, false, false, false, false, false, false] rfl rfl (by kernel_rfl) (fun _ _ _ h => h) (Or.inl ⟨by rfl, ?_⟩) hHeld ?_ ?_
        rotate_left
        · rintro w' ⟨s0, s1⟩
          go_simp
          with_reducible rfl
        rotate_left
        · simp only [Act.put, List.setIfInBounds_toArray, List.set_cons_zero, List.set_cons_succ, i64_w, i32_w]
          rfl
        refine take_ (i := 10) (N := some 44) (v := ?_) (a' := ?_) #[true, true, true, true, true, true, true, true, true, true, true, false, false, false, false, false] rfl rfl (by kernel_rfl) (fun _ _ _ h => h) (Or.inl ⟨by rfl, ?_⟩) hHeld ?_ ?_
        rotate_left
        · rintro w' ⟨s0, s1⟩
          go_simp
          with_reducible rfl
        rotate_left
        · simp only [Act.put, List.setIfInBounds_toArray, List.set_cons_zero, List.set_cons_succ, i64_w, i32_w]
          rfl
        refine one_ (i := 11) (N := some 45) #[true, true, true, true, true, true, true, true, true, true, true, true, false, false, false, false] rfl rfl (by kernel_rfl) (by decide) (fun K hK => ?_)
        refine Kd.R_append_rows_step (Kd.int .u8) (w0 := w7) w7.heap.size (by rfl) (.const (.slice none 0 0)) (.tmp 44) 26 5 (.int .u8 0) 1 rfl Tryd.underlying26 info5 rfl (by decide) (by omega) (.slice none 0 0) ([] : List Int) nn.f1 _ _ _ (fun _ => True) (fun _ => False) rfl rfl ?aO ?aR (fun _ _ h => h) (fun _ h => h.elim) ?aF ?aB ?aS ?aL ?_
        (case aR => exact Kd.C_below HR1.out HBB.out)
        (case aB => exact Below.refl _ _)
        (case aF => exact (fun _ _ => trivial))
        (case aO => exact Kd.R_nil _ _ _ _ _)
        (case aS => exact Nat.le_refl _)
        (case aL => have := HF.out.2.2; simp only [List.length_nil]; omega)
        intro v45 w8 ho hb hg hat
        rw [List.nil_append] at ho
        have HOn := Aside0.mk (Kd.R_lower (Kd.R_mono (ok' := fun k_ => w7.heap.size ≤ k_) (Kd.R_bound ho) (fun k_ hk => hk.2.1)) (below_size HBB.out))
        replace HS := Aside0.mk (Kd.S_mono (ok' := fun k_ => True ∧ ¬ w7.heap.size ≤ k_) (Kd.S_old HS.out hb) (fun k_ hk => ⟨trivial, by have := hk.2; omega⟩))
        have HW7 := Aside0.mk (below_size HBB.out)
        replace HBB := Aside0.mk (below_step HBB.out hb)
        clear ho hb hg hat
        obtain ⟨Ao45, co45, eo45⟩ := Kd.R_slice HOn.out
        (first | subst eo45 | (injection eo45 with f1_ f2_ f3_; have f4_ := f1_.symm; have f5_ := f3_.symm; clear f1_ f2_ f3_; subst f4_; subst f5_))
        refine hK.out _ _ ⟨cellB HW0.out (HBB.out), cellB HW1.out (HBB.out)⟩ (fun hHeld => ?_)
        clear hK K
        refine norm_ (a' := ?_) ?_ ?_
        rotate_left
        · show Act.put _ (some 45) _ = _
          simp only [Act.put, List.setIfInBounds_toArray, List.set_cons_zero, List.set_cons_succ, i64_w, i32_w]
          rfl
        refine pure_ (i := 12) (N := some 46) (v := ?_) (a' := ?_) #[true, true, true, true, true, true, true, true, true, true, true, true, true, false, false, false] rfl rfl (by kernel_rfl) (fun _ _ _ h => h) (Or.inl ⟨by rfl, ?_⟩) ?_ ?_
        rotate_left
        · intro w'
          go_simp
          with_reducible rfl
        rotate_left
        · simp only [Act.put, List.setIfInBounds_toArray, List.set_cons_zero, List.set_cons_succ, i64_w, i32_w]
          rfl
        refine one_ (i := 13) (N := some 47) #[true, true, true, true, true, true, true, true, true, true, true, true, true, true, false, false] rfl rfl (by kernel_rfl) (by decide) (fun K hK => ?_)
        refine value_ (w1 := ?_) (v := ?_) (by rfl) rfl ?_ ?_
        rotate_left 2
        · go_simp
          constructor
          · rfl
          · rfl
        refine hK.out _ _ ⟨cellB HW0.out (below_alloc HBB.out _), cellB HW1.out (below_alloc HBB.out _)⟩ (fun hHeld => ?_)
        clear hK K
        refine norm_ (a' := ?_) ?_ ?_
        rotate_left
        · show Act.put _ (some 47) _ = _
          simp only [Act.put, List.setIfInBounds_toArray, List.set_cons_zero, List.set_cons_succ, i64_w, i32_w]
          rfl
        refine one_ (i := 14) (N := some 48) #[true, true, true, true, true, true, true, true, true, true, true, true, true, true, true, false] rfl rfl (by kernel_rfl) (by decide) (fun K hK => ?_)
        refine Kd.S_append_step k38 (w0 := w12) w12.heap.size (by rfl) (.tmp 34) (.tmp 47) 24 38 (.agg #[(.int .i64 0), (.slice none 0 0)]) 32 rfl Tryd.underlying24 info38 rfl (by decide) (by omega) u11 (l.take i.toNat) nn [.int .i64 nn.f0, .slice Ao45 nn.f1.length co45] (fun _ => True) (fun k_ => w7.heap.size ≤ k_) rfl rfl ?aP ?aE ?aF ?aO ?aB ?aS ?aL ?_
        (case aP => exact k38_mkM _ _ _ nn HOn.out)
        (case aE => exact fun k_ hk => ⟨trivial, fun he => ((Kd.S_R HS.out).1 k_ he.symm).2 hk⟩)
        (case aF => exact (fun _ _ => trivial))
        (case aO => exact HS.out)
        (case aB => exact HBB.out)
        (case aS => exact below_size HBB.out)
        (case aL => rw [List.length_take]; omega)
        intro v48 w9 ho hb hg hat
        replace HS := Aside0.mk ho
        replace HBB := Aside0.mk hb
        clear ho hb hg hat
        refine hK.out _ _ ⟨cellB HW0.out (HBB.out), cellB HW1.out (HBB.out)⟩ (fun hHeld => ?_)
        clear hK K
        refine norm_ (a' := ?_) ?_ ?_
        rotate_left
        · show Act.put _ (some 48) _ = _
          simp only [Act.put, List.setIfInBounds_toArray, List.set_cons_zero, List.set_cons_succ, i64_w, i32_w]
          rfl
        refine pure_ (i := 15) (N := some 11) (v := ?_) (a' := ?_) #[true, true, true, true, true, true, true, true, true, true, true, true, true, true, true, true] rfl rfl (by kernel_rfl) (fun _ _ _ h => h) (Or.inl ⟨by rfl, ?_⟩) ?_ ?_
        rotate_left
        · intro w'
          go_simp
          with_reducible rfl
        rotate_left
        · simp only [Act.put, List.setIfInBounds_toArray, List.set_cons_zero, List.set_cons_succ, i64_w, i32_w]
          rfl
        refine done_ (by kernel_rfl) ?_
        try go_wp2
        go_roundg k1
        case measure => have := HK.out; omega
        case rel =>
          have hw1 : wrap64 (i + 1) = i + 1 := by unfold wrap64; have := HI7.out; have := HI.out; omega
          have ht : l.take (i + 1).toNat = l.take i.toNat ++ [nn] := by rw [show (i + 1).toNat = i.toNat + 1 from by have := HI.out; omega, List.take_add_one, List.getElem?_eq_getElem (show i.toNat < l.length by have := HI7.out; have := HI.out; omega), NN.out]; unfold rd_T38; rw [List.getD_eq_getElem?_getD, List.getElem?_eq_getElem (show i.toNat < l.length by have := HI7.out; have := HI.out; omega)]; rfl
          exact ⟨i + 1, by rw [hw1], ⟨by have := HI.out; omega, by have := HI7.out; omega⟩, ⟨by have := HK.out; omega, by have := HK.out; omega⟩, ⟨by rw [ht]; exact HS.out⟩, HBB⟩
  case rest =>
    obtain ⟨HS, HBB⟩ := hcut
    obtain ⟨g, c, rfl, hgb, hgl, _⟩ := Kd.S_form HS.out (by omega)
    have HG := Aside0.mk hgb
    have HGL := Aside0.mk hgl
    clear hgb hgl
    have hz : ((l.length : Int) == 0) = false := by rw [beq_eq_false_iff_ne]; omega
    have hz1 : (l.length == 0) = false := by rw [beq_eq_false_iff_ne]; omega
    go_upto_block 2 with fail
    have hk0 : 0 ≤ a2 % (l.length : Int) := Int.emod_nonneg _ (by omega)
    have hk1 : a2 % (l.length : Int) < (l.length : Int) := Int.emod_lt_of_pos _ (by omega)
    generalize a2 % (l.length : Int) = kk at hk0 hk1 ⊢
    generalize bits .and .i64 a1 3 = d
    clear hz hz1
    go_cut [11] (fun v11 wd => ∃ (A : Option Addr) (c' : Nat) (xs : List S38), v11 = .slice A xs.length c' ∧ Aside0 (xs.length ≤ c') ∧ Aside0 (Kd.C k38 wd A xs.length xs) ∧ Aside0 (∀ x ∈ xs, Pure.IB x.f1) ∧ Aside0 (xs.length ≤ 6) ∧ Aside0 (Below w12.heap.size w12 wd))
    case first =>
      by_cases d0 : d = 0
      · subst d0
        obtain ⟨oki, cc, hcl, hM, hcc, hoki, hH⟩ := Kd.S_lend HS.out z38 kk hk0 hk1
        obtain ⟨v1, rfl, hR1⟩ := k38_openM hM
        have hx := hmem (l.getD kk.toNat z38) (by rw [List.getD_eq_getElem?_getD, List.getElem?_eq_getElem (show kk.toNat < l.length by omega), Option.getD_some]; exact List.getElem_mem _)
        have hxb := IBL.out (l.getD kk.toNat z38) (by rw [List.getD_eq_getElem?_getD, List.getElem?_eq_getElem (show kk.toNat < l.length by omega), Option.getD_some]; exact List.getElem_mem _)
        clear hcl
        generalize hxx : l.getD kk.toNat z38 = xx at hM hcc hH hR1 hx hxb
        obtain ⟨g1, c1, rfl, hb1, hl1, _⟩ := Kd.R_form hR1 (by omega)
        rw [hx.2.2] at hR1 hcc hH
        obtain ⟨_, _, hok1, hnc1, hcm1, cur, hh, hcs, ht⟩ := ownB hR1
        have hq0 : 0 ≤ a2 % 256 := Int.emod_nonneg _ (by decide)
        have hq1 : a2 % 256 < 256 := Int.emod_lt_of_pos _ (by decide)
        have hc1 : wc.cell? ⟨g, kk.toNat * 2 + 1, none⟩ = some (.slice (some ⟨g1, 0, none⟩) 256 c1) := hcc 1 _ rfl
        have hj : (a2 % 256).toNat < 256 := by omega
        have hby : wc.cell? ⟨g1, (a2 % 256).toNat, none⟩ = some (.int .u8 (xx.f1.getD (a2 % 256).toNat 0)) := (blk_cell hh _).trans (ownB_at ht (by omega) hj)
        have hfz := blk_frozen hh (a2 % 256).toNat
        have HH := Aside0.mk hH
        have HT1 := Aside0.mk ht
        have HK1 := Aside0.mk hh
        have OK1 := Aside0.mk hok1
        have GB1 := Aside0.mk hb1
        have HOK := Aside0.mk hoki
        have HX := Aside0.mk hx
        have HXB := Aside0.mk hxb
        have HN1 := Aside0.mk hnc1
        have HM1 := Aside0.mk hcm1
        have HS1 := Aside0.mk hcs
        have HXX := Aside0.mk hxx
        clear hH ht hh hok1 hb1 hoki hM hR1 hcc hx hxb hl1 hnc1 hcm1 hcs hxx
        replace hk0 := eq_true hk0
        replace hk1 := eq_true hk1
        replace hq0 := eq_true hq0
        replace hq1 := eq_true hq1
        go_wp2_with fail
        go_meet
        have u3w := Pure.wf_u8 HW3.out
        have hnb := xor_in (a := (xx.f1[(a2 % 256).toNat]?.getD 0)) (b := a3) (by rw [List.getElem?_eq_getElem (show (a2 % 256).toNat < xx.f1.length by have := HX.out.2.2; omega)]; exact HXB.out _ (List.getElem_mem _)) u3w
        generalize bits BinOp.xor IntKind.u8 (xx.f1[(a2 % 256).toNat]?.getD 0) a3 = nb at hnb ⊢
        generalize (a2 % 256).toNat = j at hj ⊢
        have hR' : Kd.R (Kd.int .u8) 5 (wc.setCell ⟨g1, j, none⟩ (.int .u8 nb)) w12.heap.size oki (.slice (some ⟨g1, 0, none⟩) 256 c1) (xx.f1.set j nb) :=
          mkownB (by rw [List.length_set]; exact HX.out.2.2.symm) GB1.out OK1.out HN1.out HM1.out (blk_set HK1.out j _) (by rw [Array.size_setIfInBounds]; exact HS1.out) (by
            rw [Array.toList_setIfInBounds, List.take_set, HT1.out]
            unfold encB
            rw [List.map_set])
        have hS' : Kd.S k38 38 (wc.setCell ⟨g1, j, none⟩ (.int .u8 nb)) w12.heap.size (fun _ => True) (.slice (some ⟨g, 0, none⟩) l.length c) (l.set kk.toNat ⟨xx.f0, xx.f1.set j nb⟩) :=
          Kd.H_back (Kd.H_step HH.out (fun k_ _ hno _ => Below.heap_setCell _ _ _ k_ (fun e_ => hno (e_ ▸ OK1.out)))) (k38_mkM _ _ _ (⟨xx.f0, xx.f1.set j nb⟩ : S38) (v1 := .slice (some ⟨g1, 0, none⟩) 256 c1) hR') (fun _ h_ => h_)
        obtain ⟨e_, hc', hC'⟩ := Kd.S_reads' hS'
        exact ⟨some ⟨g, 0, none⟩, c, l.set kk.toNat ⟨xx.f0, xx.f1.set j nb⟩, by rw [List.length_set], ⟨by rw [List.length_set]; exact hc'⟩, ⟨hC'⟩, ⟨fun x hx => by
          rcases List.mem_or_eq_of_mem_set hx with h | h
          · exact IBL.out x h
          · rw [h]
            intro q hq
            rcases List.mem_or_eq_of_mem_set hq with h | h
            · exact HXB.out q h
            · rw [h]; exact hnb⟩, ⟨by rw [List.length_set]; exact hl6⟩, ⟨below_set HBB.out GB1.out⟩⟩
      have db0 : (d == 0) = false := beq_eq_false_iff_ne.mpr d0
      by_cases d1 : d = 1
      · subst d1
        clear db0 d0
        obtain ⟨oki, cc, hcl, hM, hcc, hfr, hoki, hH⟩ := Kd.S_elem (Kd.S_mono (ok' := fun k_ => True ∧ ¬ False) HS.out (fun _ _ => ⟨trivial, fun h => h⟩)) z38 kk hk0 hk1
        obtain ⟨v1, rfl, hR1⟩ := k38_openM hM
        have hxb := IBL.out (l.getD kk.toNat z38) (by rw [List.getD_eq_getElem?_getD, List.getElem?_eq_getElem (show kk.toNat < l.length by omega), Option.getD_some]; exact List.getElem_mem _)
        clear hcl hM
        generalize hxx : l.getD kk.toNat z38 = xx at hcc hH hR1 hxb
        have hc0 : wc.cell? ⟨g, kk.toNat * 2, none⟩ = some (.int .i64 xx.f0) := hcc 0 _ rfl
        have hfz : wc.frozen? ⟨g, kk.toNat * 2, none⟩ = false := hfr 0
        have HH := Aside0.mk hH
        have HR1 := Aside0.mk hR1
        have HXB := Aside0.mk hxb
        have HK0 := Aside0.mk hk0
        have HK1 := Aside0.mk hk1
        clear hH hR1 hcc hfr hxb hoki hxx
        replace hk0 := eq_true hk0
        replace hk1 := eq_true hk1
        go_wp2_with fail
        go_meet
        have hS' := (Kd.S_seg (okg := fun _ => False) (okp := oki) HH.out HK0.out HK1.out (seg := [.int .i64 (wrap64 (xx.f0 + 1))]) (j := 0) (by show 0 + 1 ≤ 2; omega) (x' := (⟨wrap64 (xx.f0 + 1), xx.f1⟩ : S38)) (k38_mkM _ _ _ (⟨wrap64 (xx.f0 + 1), xx.f1⟩ : S38) (v1 := v1) HR1.out) (fun _ h_ => .inl h_) (fun _ h_ => h_.elim)).1
        obtain ⟨e_, hc', hC'⟩ := Kd.S_reads' hS'
        exact ⟨some ⟨g, 0, none⟩, c, l.set kk.toNat ⟨wrap64 (xx.f0 + 1), xx.f1⟩, by rw [List.length_set], ⟨by rw [List.length_set]; exact hc'⟩, ⟨hC'⟩, ⟨fun x hx => by
          rcases List.mem_or_eq_of_mem_set hx with h | h
          · exact IBL.out x h
          · rw [h]
            exact HXB.out⟩, ⟨by rw [List.length_set]; exact hl6⟩, ⟨below_set HBB.out HG.out⟩⟩
      have db1 : (d == 1) = false := beq_eq_false_iff_ne.mpr d1
      by_cases d2 : d = 2
      rotate_left
      · have db2 : (d == 2) = false := beq_eq_false_iff_ne.mpr d2
        obtain ⟨e_, hc', hC'⟩ := Kd.S_reads' HS.out
        have HC' := Aside0.mk hC'
        have HD' := Aside0.mk hc'
        clear hC' hc' e_
        go_wp2_with fail
        go_meet
        exact ⟨some ⟨g, 0, none⟩, c, l, rfl, HD', HC', IBL, ⟨hl6⟩, HBB⟩
      subst d2
      clear db0 db1 d0 d1
      obtain ⟨A2, n2, c2, hcut2, A3, c3, W3, hrun3, hc3, hC3, hB3⟩ := erase_run (Kd.S_R (Kd.S_drew HS.out)) (by have := (Kd.S_reads' HS.out).2.1; omega) hl6 kk hk0 hk1
      have hcut1 := fun W : World => cut_max (n := l.length) (c := c) (g := g) kk hk0 (by have := (Kd.S_reads' HS.out).2.1; omega) W
      have hw1 : wrap64 (kk + 1) = kk + 1 := by unfold wrap64; omega
      have HC3 := Aside0.mk hC3
      have HD3 := Aside0.mk hc3
      have HB3 := Aside0.mk hB3
      have HR3 := Aside0.mk hrun3
      clear hC3 hc3 hB3 hrun3 hk0 hk1
      go_upto_region 19 with fail
      try go_wp2_with fail
      refine start_ (n := 10) (S := fun w' => True) (ds := []) #[false, false, false, false, false, false, false, false, false, false] (by kernel_rfl) rfl rfl trivial (fun hHeld => ?_)
      refine pure_ (i := 0) (N := some 81) (v := ?_) (a' := ?_) #[true, false, false, false, false, false, false, false, false, false] rfl rfl (by kernel_rfl) (fun _ _ _ h => h) (Or.inl ⟨by rfl, ?_⟩) ?_ ?_
      rotate_left
      · intro w'
        go_simp
        with_reducible rfl
      rotate_left
      · simp only [Act.put, List.setIfInBounds_toArray, List.set_cons_zero, List.set_cons_succ, i64_w, i32_w]
        rfl
      refine pure_ (i := 1) (N := some 82) (v := ?_) (a' := ?_) #[true, true, false, false, false, false, false, false, false, false] rfl rfl (by kernel_rfl) (fun _ _ _ h => h) (Or.inl ⟨by rfl, ?_⟩) ?_ ?_
      rotate_left
      · intro w'
        go_simp
        with_reducible rfl
      rotate_left
      · simp only [Act.put, List.setIfInBounds_toArray, List.set_cons_zero, List.set_cons_succ, i64_w, i32_w]
        rfl
      refine pure_ (i := 2) (N := some 83) (v := ?_) (a' := ?_) #[true, true, true, false, false, false, false, false, false, false] rfl rfl (by kernel_rfl) (fun _ _ _ h => h) (Or.inl ⟨by rfl, ?_⟩) ?_ ?_
      rotate_left
      · intro w'
        go_simp
        with_reducible rfl
      rotate_left
      · simp only [Act.put, List.setIfInBounds_toArray, List.set_cons_zero, List.set_cons_succ, i64_w, i32_w]
        rfl
      refine pure_ (i := 4) (N := some 85) (v := ?_) (a' := ?_) #[true, true, true, false, true, false, false, false, false, false] rfl rfl (by kernel_rfl) (fun _ _ _ h => h) (Or.inl ⟨by rfl, ?_⟩) ?_ ?_
      rotate_left
      · intro w'
        go_simp
        with_reducible rfl
      rotate_left
      · simp only [Act.put, List.setIfInBounds_toArray, List.set_cons_zero, List.set_cons_succ, i64_w, i32_w]
        rfl
      refine pure_ (i := 5) (N := some 86) (v := ?_) (a' := ?_) #[true, true, true, false, true, true, false, false, false, false] rfl rfl (by kernel_rfl) (fun _ _ _ h => h) (Or.inl ⟨by rfl, ?_⟩) ?_ ?_
      rotate_left
      · intro w'
        go_simp
        with_reducible rfl
      rotate_left
      · simp only [Act.put, List.setIfInBounds_toArray, List.set_cons_zero, List.set_cons_succ, i64_w, i32_w]
        rfl
      refine pure_ (i := 3) (N := some 84) (v := ?_) (a' := ?_) #[true, true, true, true, true, true, false, false, false, false] rfl rfl (by kernel_rfl) (fun _ _ _ h => h) (Or.inl ⟨by rfl, ?_⟩) ?_ ?_
      rotate_left
      · intro w'
        go_simp
        with_reducible rfl
      rotate_left
      · simp only [Act.put, List.setIfInBounds_toArray, List.set_cons_zero, List.set_cons_succ, i64_w, i32_w]
        rfl
      refine pure_ (i := 6) (N := some 87) (v := ?_) (a' := ?_) #[true, true, true, true, true, true, true, false, false, false] rfl rfl (by kernel_rfl) (fun _ _ _ h => h) (Or.inl ⟨by rfl, ?_⟩) ?_ ?_
      rotate_left
      · intro w'
        go_simp
        with_reducible rfl
      rotate_left
      · simp only [Act.put, List.setIfInBounds_toArray, List.set_cons_zero, List.set_cons_succ, i64_w, i32_w]
        rfl
      refine pure_ (i := 7) (N := some 88) (v := ?_) (a' := ?_) #[true, true, true, true, true, true, true, true, false, false] rfl rfl (by kernel_rfl) (fun _ _ _ h => h) (Or.inl ⟨by rfl, ?_⟩) ?_ ?_
      rotate_left
      · intro w'
        go_simp
        with_reducible rfl
      rotate_left
      · simp only [Act.put, List.setIfInBounds_toArray, List.set_cons_zero, List.set_cons_succ, i64_w, i32_w]
        rfl
      refine one_ (i := 8) (N := some 89) #[true, true, true, true, true, true, true, true, true, false] rfl rfl (by kernel_rfl) (by decide) (fun K hK => ?_)
      refine step_append (by rfl) (.tmp 84) (.tmp 88) 24 24 rfl rfl rfl (HR3.out _) ?_
      refine hK.out _ _ trivial (fun hHeld => ?_)
      clear hK K
      refine norm_ (a' := ?_) ?_ ?_
      rotate_left
      · show Act.put _ (some 89) _ = _
        simp only [Act.put, List.setIfInBounds_toArray, List.set_cons_zero, List.set_cons_succ, i64_w, i32_w]
        rfl
      refine pure_ (i := 9) (N := some 11) (v := ?_) (a' := ?_) #[true, true, true, true, true, true, true, true, true, true] rfl rfl (by kernel_rfl) (fun _ _ _ h => h) (Or.inl ⟨by rfl, ?_⟩) ?_ ?_
      rotate_left
      · intro w'
        go_simp
        with_reducible rfl
      rotate_left
      · simp only [Act.put, List.setIfInBounds_toArray, List.set_cons_zero, List.set_cons_succ, i64_w, i32_w]
        rfl
      refine done_ (by kernel_rfl) ?_
      try go_wp2_with fail
      go_meet
      exact ⟨A3, c3, l.eraseIdx kk.toNat, rfl, HD3, HC3, ⟨fun x hx => IBL.out x (List.mem_of_mem_eraseIdx hx)⟩, ⟨Nat.le_trans (List.length_eraseIdx_le _ _) hl6⟩, ⟨below_step (below_drew1 HBB.out) HB3.out⟩⟩
    case rest =>
      clear HBB HS HG HGL hk0 hk1
      obtain ⟨A, c', xs, rfl, HXC, HXR, HXI, HX6, HBB⟩ := hcut
      obtain ⟨ea, hea⟩ : ∃ ea, ea = Pure.encF l := ⟨_, rfl⟩
      obtain ⟨eb, heb⟩ : ∃ eb, eb = Pure.encF xs := ⟨_, rfl⟩
      obtain ⟨q, hq⟩ : ∃ q, q = Pure.eqI l xs := ⟨_, rfl⟩
      have hX : eb.length ≠ 0 → ((strOfNums ea).toList == (strOfNums eb).toList) = q := fun h0 => by
        rw [hea, heb, hq]
        exact twins_eq hm IBL.out HXI.out (fun e => h0 (by rw [heb, e]; rfl))
      have AE1 := Pure.encode_is (l := l) (by omega) IBL.out (k := k) (by omega)
      have AE2 := Pure.encode_is (l := xs) (by have := HX6.out; omega) HXI.out (k := k) (by omega)
      have AQ1 := Pure.req_is (l := l) (m := xs) (by omega) (k := k) (by omega)
      have AQ2 := Pure.eq_is (l := l) (m := xs) (by omega) (k := k) (by omega)
      rw [← hea] at AE1
      rw [← heb] at AE2
      rw [← hq] at AQ1 AQ2
      have AE1 := Aside0.mk AE1
      have AE2 := Aside0.mk AE2
      have AQ1 := Aside0.mk AQ1
      have AQ2 := Aside0.mk AQ2
      have HX := Aside0.mk hX
      clear hea heb hq hX
      go_upto_region 21 with (first | ((with_reducible refine gate_callee (f := 11) rfl ?_); refine goesL_ (some 91) rfl rfl Tryd.func11 (by kernel_rfl) rfl #[.slice Al l.length cl] rfl (by (try simp only [List.map_toArray, List.map_cons, List.map_nil]); first | done | rfl | (simp only [List.length_drop, List.length_take]; rfl)) ?_; (with_reducible refine (change_Encode.calls k _ _ l ea _ ?side1 ?side2 AE1.out).mono ?_); (case side1 => exact Kd.C_below HL.out HBB.out); (case side2 => exact HLC.out); rintro e w21 ⟨v91, rfl, ho0, hb⟩; refine ⟨_, rfl, ?_⟩; have HOa := Aside0.mk ho0; replace HXR := Aside0.mk (Kd.C_below HXR.out hb); replace HBB := Aside0.mk (below_step HBB.out hb); (clear hb ho0); (obtain ⟨Aa, ca, ea_⟩ := Kd.R_slice HOa.out); subst ea_) | ((with_reducible refine gate_callee (f := 11) rfl ?_); refine goesL_ (some 93) rfl rfl Tryd.func11 (by kernel_rfl) rfl #[.slice A xs.length c'] rfl (by (try simp only [List.map_toArray, List.map_cons, List.map_nil]); first | done | rfl | (simp only [List.length_drop, List.length_take]; rfl)) ?_; (with_reducible refine (change_Encode.calls k _ _ xs eb _ ?side1 ?side2 AE2.out).mono ?_); (case side1 => exact HXR.out); (case side2 => exact HXC.out); rintro e w22 ⟨v93, rfl, ho0, hb⟩; refine ⟨_, rfl, ?_⟩; have HOb := Aside0.mk ho0; replace HOa := Aside0.mk (Kd.R_below HOa.out hb); replace HXR := Aside0.mk (Kd.C_below HXR.out hb); replace HBB := Aside0.mk (below_step HBB.out hb); (clear hb ho0); (obtain ⟨Ab, cb, eb_⟩ := Kd.R_slice HOb.out); subst eb_))
      try go_wp2_with fail
      clear AE1 AE2
      by_cases he0 : eb.length = 0
      · have hz0 : ((eb.length : Int) == 0) = true := beq_iff_eq.mpr (by omega)
        have hz1 : (eb.length == 0) = true := beq_iff_eq.mpr he0
        clear he0
        refine start_ (n := 24) (S := fun w' => True) (ds := []) #[false, false, false, false, false, false, false, false, false, false, false, false, false, false, false, false, false, false, false, false, false, false, false, false] (by kernel_rfl) rfl rfl trivial (fun hHeld => ?_)
        refine pure_ (i := 0) (N := some 94) (v := ?_) (a' := ?_) #[true, false, false, false, false, false, false, false, false, false, false, false, false, false, false, false, false, false, false, false, false, false, false, false] rfl rfl (by kernel_rfl) (fun _ _ _ h => h) (Or.inl ⟨by rfl, ?_⟩) ?_ ?_
        rotate_left
        · intro w'
          go_simp
          with_reducible rfl
        rotate_left
        · simp only [Act.put, List.setIfInBounds_toArray, List.set_cons_zero, List.set_cons_succ, i64_w, i32_w]
          rfl
        refine pure_ (i := 1) (N := some 95) (v := ?_) (a' := ?_) #[true, true, false, false, false, false, false, false, false, false, false, false, false, false, false, false, false, false, false, false, false, false, false, false] rfl rfl (by kernel_rfl) (fun _ _ _ h => h) (Or.inl ⟨by rfl, ?_⟩) ?_ ?_
        rotate_left
        · intro w'
          go_simp
          with_reducible rfl
        rotate_left
        · simp only [Act.put, List.setIfInBounds_toArray, List.set_cons_zero, List.set_cons_succ, i64_w, i32_w]
          rfl
        refine pure_ (i := 2) (N := some 96) (v := ?_) (a' := ?_) #[true, true, true, false, false, false, false, false, false, false, false, false, false, false, false, false, false, false, false, false, false, false, false, false] rfl rfl (by kernel_rfl) (fun _ _ _ h => h) (Or.inl ⟨by rfl, ?_⟩) ?_ ?_
        rotate_left
        · intro w'
          go_simp
          with_reducible rfl
        rotate_left
        · simp only [Act.put, List.setIfInBounds_toArray, List.set_cons_zero, List.set_cons_succ, i64_w, i32_w]
          rfl
        refine pure_ (i := 3) (N := some 97) (v := ?_) (a' := ?_) #[true, true, true, true, false, false, false, false, false, false, false, false, false, false, false, false, false, false, false, false, false, false, false, false] rfl rfl (by kernel_rfl) (fun _ _ _ h => h) (Or.inl ⟨by rfl, ?_⟩) ?_ ?_
        rotate_left
        · intro w'
          go_simp
          with_reducible rfl
        rotate_left
        · simp only [Act.put, List.setIfInBounds_toArray, List.set_cons_zero, List.set_cons_succ, i64_w, i32_w]
          rfl
        refine pure_ (i := 4) (N := some 98) (v := undef) (a' := ?_) #[true, true, true, true, true, false, false, false, false, false, false, false, false, false, false, false, false, false, false, false, false, false, false, false] rfl rfl (by kernel_rfl) (fun _ _ _ h => h) (Or.inr ⟨by rfl, rfl⟩) ?_ ?_
        rotate_left
        · simp only [Act.put, List.setIfInBounds_toArray, List.set_cons_zero, List.set_cons_succ, i64_w, i32_w]
          rfl
        refine pure_ (i := 5) (N := some 99) (v := undef) (a' := ?_) #[true, true, true, true, true, true, false, false, false, false, false, false, false, false, false, false, false, false, false, false, false, false, false, false] rfl rfl (by kernel_rfl) (fun _ _ _ h => h) (Or.inr ⟨by rfl, rfl⟩) ?_ ?_
        rotate_left
        · simp only [Act.put, List.setIfInBounds_toArray, List.set_cons_zero, List.set_cons_succ, i64_w, i32_w]
          rfl
        refine pure_ (i := 6) (N := some 100) (v := undef) (a' := ?_) #[true, true, true, true, true, true, true, false, false, false, false, false, false, false, false, false, false, false, false, false, false, false, false, false] rfl rfl (by kernel_rfl) (fun _ _ _ h => h) (Or.inr ⟨by rfl, rfl⟩) ?_ ?_
        rotate_left
        · simp only [Act.put, List.setIfInBounds_toArray, List.set_cons_zero, List.set_cons_succ, i64_w, i32_w]
          rfl
        refine pure_ (i := 7) (N := some 101) (v := undef) (a' := ?_) #[true, true, true, true, true, true, true, true, false, false, false, false, false, false, false, false, false, false, false, false, false, false, false, false] rfl rfl (by kernel_rfl) (fun _ _ _ h => h) (Or.inr ⟨by rfl, rfl⟩) ?_ ?_
        rotate_left
        · simp only [Act.put, List.setIfInBounds_toArray, List.set_cons_zero, List.set_cons_succ, i64_w, i32_w]
          rfl
        refine pure_ (i := 8) (N := some 102) (v := undef) (a' := ?_) #[true, true, true, true, true, true, true, true, true, false, false, false, false, false, false, false, false, false, false, false, false, false, false, false] rfl rfl (by kernel_rfl) (fun _ _ _ h => h) (Or.inr ⟨by rfl, rfl⟩) ?_ ?_
        rotate_left
        · simp only [Act.put, List.setIfInBounds_toArray, List.set_cons_zero, List.set_cons_succ, i64_w, i32_w]
          rfl
        refine pure_ (i := 9) (N := some 103) (v := undef) (a' := ?_) #[true, true, true, true, true, true, true, true, true, true, false, false, false, false, false, false, false, false, false, false, false, false, false, false] rfl rfl (by kernel_rfl) (fun _ _ _ h => h) (Or.inr ⟨by rfl, rfl⟩) ?_ ?_
        rotate_left
        · simp only [Act.put, List.setIfInBounds_toArray, List.set_cons_zero, List.set_cons_succ, i64_w, i32_w]
          rfl
        refine pure_ (i := 10) (N := some 104) (v := undef) (a' := ?_) #[true, true, true, true, true, true, true, true, true, true, true, false, false, false, false, false, false, false, false, false, false, false, false, false] rfl rfl (by kernel_rfl) (fun _ _ _ h => h) (Or.inr ⟨by rfl, rfl⟩) ?_ ?_
        rotate_left
        · simp only [Act.put, List.setIfInBounds_toArray, List.set_cons_zero, List.set_cons_succ, i64_w, i32_w]
          rfl
        refine pure_ (i := 11) (N := some 105) (v := undef) (a' := ?_) #[true, true, true, true, true, true, true, true, true, true, true, true, false, false, false, false, false, false, false, false, false, false, false, false] rfl rfl (by kernel_rfl) (fun _ _ _ h => h) (Or.inr ⟨by rfl, rfl⟩) ?_ ?_
        rotate_left
        · simp only [Act.put, List.setIfInBounds_toArray, List.set_cons_zero, List.set_cons_succ, i64_w, i32_w]
          rfl
        refine pure_ (i := 12) (N := some 106) (v := undef) (a' := ?_) #[true, true, true, true, true, true, true, true, true, true, true, true, true, false, false, false, false, false, false, false, false, false, false, false] rfl rfl (by kernel_rfl) (fun _ _ _ h => h) (Or.inr ⟨by rfl, rfl⟩) ?_ ?_
        rotate_left
        · simp only [Act.put, List.setIfInBounds_toArray, List.set_cons_zero, List.set_cons_succ, i64_w, i32_w]
          rfl
        refine pure_ (i := 13) (N := some 107) (v := undef) (a' := ?_) #[true, true, true, true, true, true, true, true, true, true, true, true, true, true, false, false, false, false, false, false, false, false, false, false] rfl rfl (by kernel_rfl) (fun _ _ _ h => h) (Or.inr ⟨by rfl, rfl⟩) ?_ ?_
        rotate_left
        · simp only [Act.put, List.setIfInBounds_toArray, List.set_cons_zero, List.set_cons_succ, i64_w, i32_w]
          rfl
        refine pure_ (i := 14) (N := some 108) (v := undef) (a' := ?_) #[true, true, true, true, true, true, true, true, true, true, true, true, true, true, true, false, false, false, false, false, false, false, false, false] rfl rfl (by kernel_rfl) (fun _ _ _ h => h) (Or.inr ⟨by rfl, rfl⟩) ?_ ?_
        rotate_left
        · simp only [Act.put, List.setIfInBounds_toArray, List.set_cons_zero, List.set_cons_succ, i64_w, i32_w]
          rfl
        refine pure_ (i := 15) (N := some 109) (v := undef) (a' := ?_) #[true, true, true, true, true, true, true, true, true, true, true, true, true, true, true, true, false, false, false, false, false, false, false, false] rfl rfl (by kernel_rfl) (fun _ _ _ h => h) (Or.inr ⟨by rfl, rfl⟩) ?_ ?_
        rotate_left
        · simp only [Act.put, List.setIfInBounds_toArray, List.set_cons_zero, List.set_cons_succ, i64_w, i32_w]
          rfl
        refine pure_ (i := 16) (N := some 110) (v := undef) (a' := ?_) #[true, true, true, true, true, true, true, true, true, true, true, true, true, true, true, true, true, false, false, false, false, false, false, false] rfl rfl (by kernel_rfl) (fun _ _ _ h => h) (Or.inr ⟨by rfl, rfl⟩) ?_ ?_
        rotate_left
        · simp only [Act.put, List.setIfInBounds_toArray, List.set_cons_zero, List.set_cons_succ, i64_w, i32_w]
          rfl
        refine pure_ (i := 17) (N := some 111) (v := undef) (a' := ?_) #[true, true, true, true, true, true, true, true, true, true, true, true, true, true, true, true, true, true, false, false, false, false, false, false] rfl rfl (by kernel_rfl) (fun _ _ _ h => h) (Or.inr ⟨by rfl, rfl⟩) ?_ ?_
        rotate_left
        · simp only [Act.put, List.setIfInBounds_toArray, List.set_cons_zero, List.set_cons_succ, i64_w, i32_w]
          rfl
        refine pure_ (i := 18) (N := some 112) (v := undef) (a' := ?_) #[true, true, true, true, true, true, true, true, true, true, true, true, true, true, true, true, true, true, true, false, false, false, false, false] rfl rfl (by kernel_rfl) (fun _ _ _ h => h) (Or.inr ⟨by rfl, rfl⟩) ?_ ?_
        rotate_left
        · simp only [Act.put, List.setIfInBounds_toArray, List.set_cons_zero, List.set_cons_succ, i64_w, i32_w]
          rfl
        refine pure_ (i := 19) (N := some 113) (v := undef) (a' := ?_) #[true, true, true, true, true, true, true, true, true, true, true, true, true, true, true, true, true, true, true, true, false, false, false, false] rfl rfl (by kernel_rfl) (fun _ _ _ h => h) (Or.inr ⟨by rfl, rfl⟩) ?_ ?_
        rotate_left
        · simp only [Act.put, List.setIfInBounds_toArray, List.set_cons_zero, List.set_cons_succ, i64_w, i32_w]
          rfl
        refine pure_ (i := 20) (N := some 114) (v := undef) (a' := ?_) #[true, true, true, true, true, true, true, true, true, true, true, true, true, true, true, true, true, true, true, true, true, false, false, false] rfl rfl (by kernel_rfl) (fun _ _ _ h => h) (Or.inr ⟨by rfl, rfl⟩) ?_ ?_
        rotate_left
        · simp only [Act.put, List.setIfInBounds_toArray, List.set_cons_zero, List.set_cons_succ, i64_w, i32_w]
          rfl
        refine pure_ (i := 21) (N := some 115) (v := undef) (a' := ?_) #[true, true, true, true, true, true, true, true, true, true, true, true, true, true, true, true, true, true, true, true, true, true, false, false] rfl rfl (by kernel_rfl) (fun _ _ _ h => h) (Or.inr ⟨by rfl, rfl⟩) ?_ ?_
        rotate_left
        · simp only [Act.put, List.setIfInBounds_toArray, List.set_cons_zero, List.set_cons_succ, i64_w, i32_w]
          rfl
        refine pure_ (i := 22) (N := some 116) (v := ?_) (a' := ?_) #[true, true, true, true, true, true, true, true, true, true, true, true, true, true, true, true, true, true, true, true, true, true, true, false] rfl rfl (by kernel_rfl) (fun _ _ _ h => h) (Or.inl ⟨by rfl, ?_⟩) ?_ ?_
        rotate_left
        · intro w'
          go_simp
          with_reducible rfl
        rotate_left
        · simp only [Act.put, List.setIfInBounds_toArray, List.set_cons_zero, List.set_cons_succ, i64_w, i32_w]
          rfl
        refine pure_ (i := 23) (N := some 8) (v := ?_) (a' := ?_) #[true, true, true, true, true, true, true, true, true, true, true, true, true, true, true, true, true, true, true, true, true, true, true, true] rfl rfl (by kernel_rfl) (fun _ _ _ h => h) (Or.inl ⟨by rfl, ?_⟩) ?_ ?_
        rotate_left
        · intro w'
          go_simp
          with_reducible rfl
        rotate_left
        · simp only [Act.put, List.setIfInBounds_toArray, List.set_cons_zero, List.set_cons_succ, i64_w, i32_w]
          rfl
        refine done_ (by kernel_rfl) ?_
        try go_wp2_with fail
        go_ret
        exact ⟨rfl, below_step HB12.out (below_drew1 HBB.out)⟩
      have hz0 : ((eb.length : Int) == 0) = false := beq_eq_false_iff_ne.mpr (by omega)
      have hz1 : (eb.length == 0) = false := beq_eq_false_iff_ne.mpr he0
      have hX := HX.out he0
      clear he0
      replace HOa := Aside0.mk (Kd.R_drew HOa.out)
      replace HOb := Aside0.mk (Kd.R_drew HOb.out)
      replace HXR := Aside0.mk (Kd.C_drew HXR.out)
      replace HBB := Aside0.mk (below_drew1 HBB.out)
      refine start_ (n := 24) (S := fun w' => (convert 26 9 (.slice Aa ea.length ca)).run Tryd.prog w' = .ok (.string (strOfNums ea)) w' ∧ (convert 26 9 (.slice Ab eb.length cb)).run Tryd.prog w' = .ok (.string (strOfNums eb)) w') (ds := []) #[false, false, false, false, false, false, false, false, false, false, false, false, false, false, false, false, false, false, false, false, false, false, false, false] (by kernel_rfl) rfl rfl ⟨(Kd.x_R_string (P := Tryd.prog) Tryd.underlying26 Tryd.underlying5 Tryd.underlying9 HOa.out).1, (Kd.x_R_string (P := Tryd.prog) Tryd.underlying26 Tryd.underlying5 Tryd.underlying9 HOb.out).1⟩ (fun hHeld => ?_)
      generalize w22.drew = w23 at HOa HOb HXR HBB hHeld ⊢
      refine pure_ (i := 0) (N := some 94) (v := ?_) (a' := ?_) #[true, false, false, false, false, false, false, false, false, false, false, false, false, false, false, false, false, false, false, false, false, false, false, false] rfl rfl (by kernel_rfl) (fun _ _ _ h => h) (Or.inl ⟨by rfl, ?_⟩) ?_ ?_
      rotate_left
      · intro w'
        go_simp
        with_reducible rfl
      rotate_left
      · simp only [Act.put, List.setIfInBounds_toArray, List.set_cons_zero, List.set_cons_succ, i64_w, i32_w]
        rfl
      refine pure_ (i := 1) (N := some 95) (v := ?_) (a' := ?_) #[true, true, false, false, false, false, false, false, false, false, false, false, false, false, false, false, false, false, false, false, false, false, false, false] rfl rfl (by kernel_rfl) (fun _ _ _ h => h) (Or.inl ⟨by rfl, ?_⟩) ?_ ?_
      rotate_left
      · intro w'
        go_simp
        with_reducible rfl
      rotate_left
      · simp only [Act.put, List.setIfInBounds_toArray, List.set_cons_zero, List.set_cons_succ, i64_w, i32_w]
        rfl
      refine pure_ (i := 2) (N := some 96) (v := ?_) (a' := ?_) #[true, true, true, false, false, false, false, false, false, false, false, false, false, false, false, false, false, false, false, false, false, false, false, false] rfl rfl (by kernel_rfl) (fun _ _ _ h => h) (Or.inl ⟨by rfl, ?_⟩) ?_ ?_
      rotate_left
      · intro w'
        go_simp
        with_reducible rfl
      rotate_left
      · simp only [Act.put, List.setIfInBounds_toArray, List.set_cons_zero, List.set_cons_succ, i64_w, i32_w]
        rfl
      refine pure_ (i := 3) (N := some 97) (v := ?_) (a' := ?_) #[true, true, true, true, false, false, false, false, false, false, false, false, false, false, false, false, false, false, false, false, false, false, false, false] rfl rfl (by kernel_rfl) (fun _ _ _ h => h) (Or.inl ⟨by rfl, ?_⟩) ?_ ?_
      rotate_left
      · intro w'
        go_simp
        with_reducible rfl
      rotate_left
      · simp only [Act.put, List.setIfInBounds_toArray, List.set_cons_zero, List.set_cons_succ, i64_w, i32_w]
        rfl
      refine pure_ (i := 4) (N := some 98) (v := ?_) (a' := ?_) #[true, true, true, true, true, false, false, false, false, false, false, false, false, false, false, false, false, false, false, false, false, false, false, false] rfl rfl (by kernel_rfl) (fun _ _ _ h => h) (Or.inl ⟨by rfl, ?_⟩) ?_ ?_
      rotate_left
      · intro w'
        go_simp
        with_reducible rfl
      rotate_left
      · simp only [Act.put, List.setIfInBounds_toArray, List.set_cons_zero, List.set_cons_succ, i64_w, i32_w]
        rfl
      refine pure_ (i := 6) (N := some 100) (v := ?_) (a' := ?_) #[true, true, true, true, true, false, true, false, false, false, false, false, false, false, false, false, false, false, false, false, false, false, false, false] rfl rfl (by kernel_rfl) (fun _ _ _ h => h) (Or.inl ⟨by rfl, ?_⟩) ?_ ?_
      rotate_left
      · intro w'
        go_simp
        with_reducible rfl
      rotate_left
      · simp only [Act.put, List.setIfInBounds_toArray, List.set_cons_zero, List.set_cons_succ, i64_w, i32_w]
        rfl
      refine pure_ (i := 9) (N := some 103) (v := ?_) (a' := ?_) #[true, true, true, true, true, false, true, false, false, true, false, false, false, false, false, false, false, false, false, false, false, false, false, false] rfl rfl (by kernel_rfl) (fun _ _ _ h => h) (Or.inl ⟨by rfl, ?_⟩) ?_ ?_
      rotate_left
      · intro w'
        go_simp
        with_reducible rfl
      rotate_left
      · simp only [Act.put, List.setIfInBounds_toArray, List.set_cons_zero, List.set_cons_succ, i64_w, i32_w]
        rfl
      refine pure_ (i := 10) (N := some 104) (v := ?_) (a' := ?_) #[true, true, true, true, true, false, true, false, false, true, true, false, false, false, false, false, false, false, false, false, false, false, false, false] rfl rfl (by kernel_rfl) (fun _ _ _ h => h) (Or.inl ⟨by rfl, ?_⟩) ?_ ?_
      rotate_left
      · intro w'
        go_simp
        with_reducible rfl
      rotate_left
      · simp only [Act.put, List.setIfInBounds_toArray, List.set_cons_zero, List.set_cons_succ, i64_w, i32_w]
        rfl
      refine take_ (i := 5) (N := some 99) (v := ?_) (a' := ?_) #[true, true, true, true, true, true, true, false, false, true, true, false, false, false, false, false, false, false, false, false, false, false, false, false] rfl rfl (by kernel_rfl) (fun _ _ _ h => h) (Or.inl ⟨by rfl, ?_⟩) hHeld ?_ ?_
      rotate_left
      · rintro w' ⟨s0, s1⟩
        go_simp
        with_reducible rfl
      rotate_left
      · simp only [Act.put, List.setIfInBounds_toArray, List.set_cons_zero, List.set_cons_succ, i64_w, i32_w]
        rfl
      refine take_ (i := 7) (N := some 101) (v := ?_) (a' := ?_) #[true, true, true, true, true, true, true, true, false, true, true, false, false, false, false, false, false, false, false, false, false, false, false, false] rfl rfl (by kernel_rfl) (fun _ _ _ h => h) (Or.inl ⟨by rfl, ?_⟩) hHeld ?_ ?_
      rotate_left
      · rintro w' ⟨s0, s1⟩
        go_simp
        with_reducible rfl
      rotate_left
      · simp only [Act.put, List.setIfInBounds_toArray, List.set_cons_zero, List.set_cons_succ, i64_w, i32_w]
        rfl
      refine pure_ (i := 8) (N := some 102) (v := ?_) (a' := ?_) #[true, true, true, true, true, true, true, true, true, true, true, false, false, false, false, false, false, false, false, false, false, false, false, false] rfl rfl (by kernel_rfl) (fun _ _ _ h => h) (Or.inl ⟨by rfl, ?_⟩) ?_ ?_
      rotate_left
      · intro w'
        go_simp
        with_reducible rfl
      rotate_left
      · simp only [Act.put, List.setIfInBounds_toArray, List.set_cons_zero, List.set_cons_succ, i64_w, i32_w]
        rfl
      refine one_ (i := 11) (N := some 105) #[true, true, true, true, true, true, true, true, true, true, true, true, false, false, false, false, false, false, false, false, false, false, false, false] rfl rfl (by kernel_rfl) (by decide) (fun K hK => ?_)
      refine goes_ Tryd.func16 (by kernel_rfl) rfl #[.slice Al l.length cl, .slice A xs.length c'] (by rfl) rfl rfl (by (try simp only [List.map_toArray, List.map_cons, List.map_nil]); first | done | rfl | (simp only [List.length_drop, List.length_take]; rfl)) ?_
      with_reducible refine (engrossref10_EqImages.calls k _ _ l _ _ xs q _ ?side1 ?side2 ?side3 ?side4 AQ1.out).mono ?_
      (case side1 => exact Kd.C_below HL.out HBB.out)
      (case side2 => exact HLC.out)
      (case side3 => exact HXR.out)
      (case side4 => exact HXC.out)
      rintro e w24 ⟨rfl, hd_⟩
      have hb := below_of_drawn hd_
      clear hd_
      refine ⟨_, rfl, ?_⟩
      replace HOa := Aside0.mk (Kd.R_below HOa.out hb)
      replace HOb := Aside0.mk (Kd.R_below HOb.out hb)
      replace HXR := Aside0.mk (Kd.C_below HXR.out hb)
      replace HBB := Aside0.mk (below_step HBB.out hb)
      clear hb
      refine hK.out _ _ ⟨(Kd.x_R_string (P := Tryd.prog) Tryd.underlying26 Tryd.underlying5 Tryd.underlying9 HOa.out).1, (Kd.x_R_string (P := Tryd.prog) Tryd.underlying26 Tryd.underlying5 Tryd.underlying9 HOb.out).1⟩ (fun hHeld => ?_)
      clear hK K
      refine norm_ (a' := ?_) ?_ ?_
      rotate_left
      · show Act.put _ (some 105) _ = _
        simp only [Act.put, List.setIfInBounds_toArray, List.set_cons_zero, List.set_cons_succ, i64_w, i32_w]
        rfl
      refine pure_ (i := 12) (N := some 106) (v := ?_) (a' := ?_) #[true, true, true, true, true, true, true, true, true, true, true, true, true, false, false, false, false, false, false, false, false, false, false, false] rfl rfl (by kernel_rfl) (fun _ _ _ h => h) (Or.inl ⟨by rfl, ?_⟩) ?_ ?_
      rotate_left
      · intro w'
        go_simp
        with_reducible rfl
      rotate_left
      · simp only [Act.put, List.setIfInBounds_toArray, List.set_cons_zero, List.set_cons_succ, i64_w, i32_w]
        rfl
      refine pure_ (i := 13) (N := some 107) (v := ?_) (a' := ?_) #[true, true, true, true, true, true, true, true, true, true, true, true, true, true, false, false, false, false, false, false, false, false, false, false] rfl rfl (by kernel_rfl) (fun _ _ _ h => h) (Or.inl ⟨by rfl, ?_⟩) ?_ ?_
      rotate_left
      · intro w'
        go_simp
        with_reducible rfl
      rotate_left
      · simp only [Act.put, List.setIfInBounds_toArray, List.set_cons_zero, List.set_cons_succ, i64_w, i32_w]
        rfl
      refine pure_ (i := 14) (N := some 108) (v := ?_) (a' := ?_) #[true, true, true, true, true, true, true, true, true, true, true, true, true, true, true, false, false, false, false, false, false, false, false, false] rfl rfl (by kernel_rfl) (fun _ _ _ h => h) (Or.inl ⟨by rfl, ?_⟩) ?_ ?_
      rotate_left
      · intro w'
        go_simp
        with_reducible rfl
      rotate_left
      · simp only [Act.put, List.setIfInBounds_toArray, List.set_cons_zero, List.set_cons_succ, i64_w, i32_w]
        rfl
      refine pure_ (i := 15) (N := some 109) (v := ?_) (a' := ?_) #[true, true, true, true, true, true, true, true, true, true, true, true, true, true, true, true, false, false, false, false, false, false, false, false] rfl rfl (by kernel_rfl) (fun _ _ _ h => h) (Or.inl ⟨by rfl, ?_⟩) ?_ ?_
      rotate_left
      · intro w'
        go_simp
        with_reducible rfl
      rotate_left
      · simp only [Act.put, List.setIfInBounds_toArray, List.set_cons_zero, List.set_cons_succ, i64_w, i32_w]
        rfl
      refine pure_ (i := 17) (N := some 111) (v := ?_) (a' := ?_) #[true, true, true, true, true, true, true, true, true, true, true, true, true, true, true, true, false, true, false, false, false, false, false, false] rfl rfl (by kernel_rfl) (fun _ _ _ h => h) (Or.inl ⟨by rfl, ?_⟩) ?_ ?_
      rotate_left
      · intro w'
        go_simp
        with_reducible rfl
      rotate_left
      · simp only [Act.put, List.setIfInBounds_toArray, List.set_cons_zero, List.set_cons_succ, i64_w, i32_w]
        rfl
      refine pure_ (i := 18) (N := some 112) (v := ?_) (a' := ?_) #[true, true, true, true, true, true, true, true, true, true, true, true, true, true, true, true, false, true, true, false, false, false, false, false] rfl rfl (by kernel_rfl) (fun _ _ _ h => h) (Or.inl ⟨by rfl, ?_⟩) ?_ ?_
      rotate_left
      · intro w'
        go_simp
        with_reducible rfl
      rotate_left
      · simp only [Act.put, List.setIfInBounds_toArray, List.set_cons_zero, List.set_cons_succ, i64_w, i32_w]
        rfl
      refine one_ (i := 16) (N := some 110) #[true, true, true, true, true, true, true, true, true, true, true, true, true, true, true, true, true, true, true, false, false, false, false, false] rfl rfl (by kernel_rfl) (by decide) (fun K hK => ?_)
      refine goes_ Tryd.func15 (by kernel_rfl) rfl #[.slice Al l.length cl, .slice A xs.length c'] (by rfl) rfl rfl (by (try simp only [List.map_toArray, List.map_cons, List.map_nil]); first | done | rfl | (simp only [List.length_drop, List.length_take]; rfl)) ?_
      with_reducible refine (change_Eq.calls k _ _ l _ _ xs q _ ?side1 ?side2 ?side3 ?side4 AQ2.out).mono ?_
      (case side1 => exact Kd.C_below HL.out HBB.out)
      (case side2 => exact HLC.out)
      (case side3 => exact HXR.out)
      (case side4 => exact HXC.out)
      rintro e w25 ⟨rfl, hd_⟩
      have hb := id hd_
      clear hd_
      refine ⟨_, rfl, ?_⟩
      replace HOa := Aside0.mk (Kd.R_below HOa.out hb)
      replace HOb := Aside0.mk (Kd.R_below HOb.out hb)
      replace HXR := Aside0.mk (Kd.C_below HXR.out hb)
      replace HBB := Aside0.mk (below_step HBB.out hb)
      clear hb
      refine hK.out _ _ ⟨(Kd.x_R_string (P := Tryd.prog) Tryd.underlying26 Tryd.underlying5 Tryd.underlying9 HOa.out).1, (Kd.x_R_string (P := Tryd.prog) Tryd.underlying26 Tryd.underlying5 Tryd.underlying9 HOb.out).1⟩ (fun hHeld => ?_)
      clear hK K
      refine norm_ (a' := ?_) ?_ ?_
      rotate_left
      · show Act.put _ (some 110) _ = _
        simp only [Act.put, List.setIfInBounds_toArray, List.set_cons_zero, List.set_cons_succ, i64_w, i32_w]
        rfl
      refine one_ (i := 19) (N := some 113) #[true, true, true, true, true, true, true, true, true, true, true, true, true, true, true, true, true, true, true, true, false, false, false, false] rfl rfl (by kernel_rfl) (by decide) (fun K hK => ?_)
      refine goes_ Tryd.func16 (by kernel_rfl) rfl #[.slice Al l.length cl, .slice A xs.length c'] (by rfl) rfl rfl (by (try simp only [List.map_toArray, List.map_cons, List.map_nil]); first | done | rfl | (simp only [List.length_drop, List.length_take]; rfl)) ?_
      with_reducible refine (engrossref10_EqImages.calls k _ _ l _ _ xs q _ ?side1 ?side2 ?side3 ?side4 AQ1.out).mono ?_
      (case side1 => exact Kd.C_below HL.out HBB.out)
      (case side2 => exact HLC.out)
      (case side3 => exact HXR.out)
      (case side4 => exact HXC.out)
      rintro e w26 ⟨rfl, hd_⟩
      have hb := below_of_drawn hd_
      clear hd_
      refine ⟨_, rfl, ?_⟩
      replace HOa := Aside0.mk (Kd.R_below HOa.out hb)
      replace HOb := Aside0.mk (Kd.R_below HOb.out hb)
      replace HXR := Aside0.mk (Kd.C_below HXR.out hb)
      replace HBB := Aside0.mk (below_step HBB.out hb)
      clear hb
      refine hK.out _ _ ⟨(Kd.x_R_string (P := Tryd.prog) Tryd.underlying26 Tryd.underlying5 Tryd.underlying9 HOa.out).1, (Kd.x_R_string (P := Tryd.prog) Tryd.underlying26 Tryd.underlying5 Tryd.underlying9 HOb.out).1⟩ (fun hHeld => ?_)
      clear hK K
      refine norm_ (a' := ?_) ?_ ?_
      rotate_left
      · show Act.put _ (some 113) _ = _
        simp only [Act.put, List.setIfInBounds_toArray, List.set_cons_zero, List.set_cons_succ, i64_w, i32_w]
        rfl
      refine pure_ (i := 20) (N := some 114) (v := ?_) (a' := ?_) #[true, true, true, true, true, true, true, true, true, true, true, true, true, true, true, true, true, true, true, true, true, false, false, false] rfl rfl (by kernel_rfl) (fun _ _ _ h => h) (Or.inl ⟨by rfl, ?_⟩) ?_ ?_
      rotate_left
      · intro w'
        go_simp
        with_reducible rfl
      rotate_left
      · simp only [Act.put, List.setIfInBounds_toArray, List.set_cons_zero, List.set_cons_succ, i64_w, i32_w]
        rfl
      refine pure_ (i := 21) (N := some 115) (v := ?_) (a' := ?_) #[true, true, true, true, true, true, true, true, true, true, true, true, true, true, true, true, true, true, true, true, true, true, false, false] rfl rfl (by kernel_rfl) (fun _ _ _ h => h) (Or.inl ⟨by rfl, ?_⟩) ?_ ?_
      rotate_left
      · intro w'
        go_simp
        with_reducible rfl
      rotate_left
      · simp only [Act.put, List.setIfInBounds_toArray, List.set_cons_zero, List.set_cons_succ, i64_w, i32_w]
        rfl
      refine pure_ (i := 22) (N := some 116) (v := ?_) (a' := ?_) #[true, true, true, true, true, true, true, true, true, true, true, true, true, true, true, true, true, true, true, true, true, true, true, false] rfl rfl (by kernel_rfl) (fun _ _ _ h => h) (Or.inl ⟨by rfl, ?_⟩) ?_ ?_
      rotate_left
      · intro w'
        go_simp
        with_reducible rfl
      rotate_left
      · simp only [Act.put, List.setIfInBounds_toArray, List.set_cons_zero, List.set_cons_succ, i64_w, i32_w]
        rfl
      refine pure_ (i := 23) (N := some 8) (v := ?_) (a' := ?_) #[true, true, true, true, true, true, true, true, true, true, true, true, true, true, true, true, true, true, true, true, true, true, true, true] rfl rfl (by kernel_rfl) (fun _ _ _ h => h) (Or.inl ⟨by rfl, ?_⟩) ?_ ?_
      rotate_left
      · intro w'
        go_simp
        with_reducible rfl
      rotate_left
      · simp only [Act.put, List.setIfInBounds_toArray, List.set_cons_zero, List.set_cons_succ, i64_w, i32_w]
        rfl
      refine done_ (by kernel_rfl) ?_
      try go_wp2_with fail
      go_ret
      exact ⟨rfl, below_step HB12.out HBB.out⟩
end Go.Proofs.YtijnfnlahhgpgaaDoor.P
