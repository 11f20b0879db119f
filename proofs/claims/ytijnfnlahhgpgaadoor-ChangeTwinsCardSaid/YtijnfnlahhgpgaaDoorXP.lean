/- engrossref10.Images as a Lean function, and that each call answers as it does. No condition. -/
import Derived.Test.YtijnfnlahhgpgaaDoorXM
import Derived.Test.YtijnfnlahhgpgaaDoorPx5
import Derived.Test.YtijnfnlahhgpgaaDoorPx6
set_option linter.unusedVariables false
set_option linter.unusedSimpArgs false
namespace Go.Proofs.YtijnfnlahhgpgaaDoor.P
open Go.RowKit Go.Proofs.YtijnfnlahhgpgaaDoorW.PrintWords Go.Proofs.YtijnfnlahhgpgaaDoorW.PrintLast Go.Proofs.YtijnfnlahhgpgaaDoorW.PrintMore
attribute [local go_sem] max2_int min2_int max_two min_two max_three min_three max_four min_four
attribute [local go_sem] x_str_gtr x_str_leq x_str_geq Instr.field asAgg
/-- A row without the noughts at its end. -/
def trimL : Nat → List Int → Option (List Int)
 | 0, _ => none
 | k + 1, x => if 0 < (x.length : Int) then (if rd x ((x.length : Int) - 1) = 0 then trimL k (x.take ((x.length : Int) - 1).toNat) else some x) else some x
def engrossref10_Images.l0 : Nat → List Int → List S38 → Int → Option (List Int)
 | 0, _, _, _ => none
 | k + 1, b, l, i => if i < (l.length : Int) then (if 0 ≤ i then ((trimL k (rd_T38 l i).f1).bind fun x => (engrossref1_Put.f k (rd_T38 l i).f0).bind fun p => (engrossref1_PutText.f k (strOfNums x)).bind fun q => (if b.length + p.length < 17592186044416 then (if (b ++ p).length + q.length < 17592186044416 then (engrossref10_Images.l0 k (b ++ p ++ q) l (wrap64 (i + 1))) else none) else none)) else none) else some b
def engrossref10_Images.f (k : Nat) (l : List S38) : Option (List Int) :=
  (engrossref10_MayImages.f k l).bind fun m => if m = true then ((engrossref1_Put.f k (l.length : Int)).bind fun b => engrossref10_Images.l0 k b l 0) else some []
theorem trimL.mono : ∀ k x, LeO (trimL k x) (trimL (k + 1) x)
 | 0 => fun _ r h => by simp [trimL] at h
 | k + 1 => fun x => by
  have ih := trimL.mono k
  unfold trimL
  exact LeO.ite (LeO.ite (ih _) (LeO.refl _)) (LeO.refl _)
theorem engrossref10_Images.mono_l : ∀ k b l i, LeO (engrossref10_Images.l0 k b l i) (engrossref10_Images.l0 (k + 1) b l i)
 | 0 => fun _ _ _ r h => by simp [engrossref10_Images.l0] at h
 | k + 1 => fun b l i => by
  have ih := engrossref10_Images.mono_l k
  unfold engrossref10_Images.l0
  exact LeO.ite (LeO.ite (LeO.bind (trimL.mono _ _) (fun _ => LeO.bind (engrossref1_Put.mono _ _) (fun _ => LeO.bind (engrossref1_PutText.mono _ _) (fun _ => LeO.ite (LeO.ite (ih _ _ _) (LeO.none _)) (LeO.none _))))) (LeO.none _)) (LeO.refl _)
theorem engrossref10_Images.mono : ∀ a0 k, LeO (engrossref10_Images.f k a0) (engrossref10_Images.f (k + 1) a0) := by
  intro a0 k
  unfold engrossref10_Images.f
  exact LeO.bind (engrossref10_MayImages.mono _ _) (fun _ => LeO.ite (LeO.bind (engrossref1_Put.mono _ _) (fun _ => engrossref10_Images.mono_l _ _ _ _)) (LeO.refl _))
set_option maxHeartbeats 8000000 in
set_option maxRecDepth 100000 in
theorem engrossref10_Images.calls (k : Nat) (A0 : Option Addr) (c0 : Nat) (l0 : List S38) (r : List Int) (w : World) (hr0 : Kd.C k38 w A0 l0.length l0) (hc0 : l0.length ≤ c0) (h : engrossref10_Images.f k l0 = some r) :
  Calls Tryd.prog 14 #[.slice A0 l0.length c0] w fun e w' => ∃ v0_ : Value, e = .returned (v0_) ∧ Kd.R (Kd.int .u8) 5 w' w.heap.size (fun _ => True) v0_ r ∧ Below w.heap.size w w' := by
  have hu38 := Tryd.underlying38
  have HR0 := Aside0.mk hr0
  have HC0 := Aside0.mk hc0
  clear hr0 hc0
  have HB := Aside0.mk (Below.refl w.heap.size w)
  unfold engrossref10_Images.f at h
  obtain ⟨m, hM, h1⟩ := Option.bind_eq_some_iff.1 h
  clear h
  have AM := Aside0.mk hM
  clear hM
  cases m
  · rw [if_neg (by decide)] at h1
    obtain rfl := Option.some.inj h1
    clear h1
    go_enter Tryd.func14, Tryd.ntmps14
    go_wp2_with (first | ((with_reducible refine gate_callee (f := 13) rfl ?_); refine goesL_ (some 7) rfl rfl Tryd.func13 (by kernel_rfl) rfl #[.slice A0 l0.length c0] rfl (by (try simp only [List.map_toArray, List.map_cons, List.map_nil]); first | done | rfl | (simp only [List.length_drop, List.length_take]; rfl)) ?_; (with_reducible refine (engrossref10_MayImages.calls k _ _ l0 false _ ?side1 ?side2 AM.out).mono ?_); (case side1 => exact HR0.out); (case side2 => exact HC0.out); rintro e w5 ⟨rfl, ⟨nd, rfl⟩⟩; refine ⟨_, rfl, ?_⟩))
    go_ret
    exact ⟨_, rfl, Kd.R_nil _ _ _ _ _, bC HB⟩
  rw [if_pos rfl] at h1
  obtain ⟨b0, hP, h2⟩ := Option.bind_eq_some_iff.1 h1
  clear h1
  have AP := Aside0.mk hP
  have H' := Aside0.mk h2
  clear hP h2
  go_enter Tryd.func14, Tryd.ntmps14
  go_wp2_with (first | ((with_reducible refine gate_callee (f := 13) rfl ?_); refine goesL_ (some 7) rfl rfl Tryd.func13 (by kernel_rfl) rfl #[.slice A0 l0.length c0] rfl (by (try simp only [List.map_toArray, List.map_cons, List.map_nil]); first | done | rfl | (simp only [List.length_drop, List.length_take]; rfl)) ?_; (with_reducible refine (engrossref10_MayImages.calls k _ _ l0 true _ ?side1 ?side2 AM.out).mono ?_); (case side1 => exact HR0.out); (case side2 => exact HC0.out); rintro e w5 ⟨rfl, ⟨nd, rfl⟩⟩; refine ⟨_, rfl, ?_⟩) | ((with_reducible refine gate_callee (f := 24) rfl ?_); refine goesL_ (some 11) rfl rfl Tryd.func24 (by kernel_rfl) rfl #[.int .i64 (l0.length : Int)] rfl (by (try simp only [List.map_toArray, List.map_cons, List.map_nil]); first | done | rfl | (simp only [List.length_drop, List.length_take]; rfl)) ?_; (with_reducible refine (engrossref1_Put.calls k (l0.length : Int) b0 _ AP.out).mono ?_); rintro e w6 ⟨v122, rfl, ho0, hb⟩; refine ⟨_, rfl, ?_⟩; have HO := Aside0.mk (Kd.R_lower ho0 (below_size (bC HB))); replace HB := bW HB hb; (try clear hb); (try clear ho0)))
  go_loopg [3, 4] k (fun kq v3 v4 w' => ∃ (bs : List Int) (i : Int), v4 = .int .i64 i ∧ Aside0 (engrossref10_Images.l0 kq bs l0 i = some r) ∧ Aside0 (kq ≤ k) ∧ Aside0 (Kd.R (Kd.int .u8) 5 w' w.heap.size (fun _ => True) v3 bs) ∧ Aside0 (Below w.heap.size w w'))
  case atStart => exact ⟨b0, 0, rfl, H', ⟨Nat.le_refl _⟩, HO, HB⟩
  case round =>
    clear H'
    obtain ⟨bs, i, rfl, HA, HK, HO, HB⟩ := hrel
    cases gk with
    | zero => exact absurd HA.out (by simp [engrossref10_Images.l0])
    | succ k1 =>
      have H := HA.out
      clear HA
      simp only [engrossref10_Images.l0] at H
      by_cases c7 : i < (l0.length : Int)
      rotate_left
      · rw [if_neg c7] at H
        have c7b0 : decide (i < (l0.length : Int)) = false := decide_eq_false c7
        clear c7
        obtain rfl := Option.some.inj H
        clear H
        go_wp2
        go_ret
        exact ⟨_, rfl, HO.out, HB.out⟩
      rw [if_pos c7] at H
      by_cases c8 : 0 ≤ i
      rotate_left
      · rw [if_neg c8] at H
        cases H
      rw [if_pos c8] at H
      obtain ⟨x, hX, H2⟩ := Option.bind_eq_some_iff.1 H
      clear H
      obtain ⟨p, hP1, H3⟩ := Option.bind_eq_some_iff.1 H2
      clear H2
      obtain ⟨q, hQ1, H4⟩ := Option.bind_eq_some_iff.1 H3
      clear H3
      by_cases c9 : bs.length + p.length < 17592186044416
      rotate_left
      · rw [if_neg c9] at H4
        cases H4
      rw [if_pos c9] at H4
      by_cases c10 : (bs ++ p).length + q.length < 17592186044416
      rotate_left
      · rw [if_neg c10] at H4
        cases H4
      rw [if_pos c10] at H4
      have AX := Aside0.mk hX
      have AP1 := Aside0.mk hP1
      have AQ1 := Aside0.mk hQ1
      have H' := Aside0.mk H4
      have LM1 := Aside0.mk c9
      have LM2 := Aside0.mk c10
      clear hX hP1 hQ1 H4 c9 c10
      obtain ⟨ad, A1, c1, e124, hw_0, hw_1, hl1, hi1⟩ := at_T38 HR0.out i c8 c7
      cases e124
      have hx_0 := (HB.out.cell (World.block_lt_of_cell? w _ hw_0)).trans hw_0
      have hx_1 := (HB.out.cell (World.block_lt_of_cell? w _ hw_1)).trans hw_1
      have HW0 := Aside0.mk hw_0
      have HR1 := Aside0.mk hi1
      have HC1 := Aside0.mk hl1
      clear hi1 hl1 hw_0 hw_1
      have c7b0 : decide (i < (l0.length : Int)) = true := decide_eq_true c7
      have p124 := eq_true c8
      have q124 := eq_true c7
      go_upto_block 2 with fail
      go_cut [5] (fun v5 wc => v5 = .slice A1 x.length c1 ∧ Aside0 (Kd.C (Kd.int .u8) w A1 x.length x) ∧ Aside0 (Kd.R (Kd.int .u8) 5 wc w.heap.size (fun _ => True) u3 bs) ∧ Aside0 (Below w.heap.size w wc))
      case first =>
        go_wp2_with fail
        go_loopg [5] k1 (fun kq v5 w' => ∃ y : List Int, v5 = .slice A1 y.length c1 ∧ Aside0 (trimL kq y = some x) ∧ Aside0 (kq ≤ k1) ∧ Aside0 (Kd.C (Kd.int .u8) w A1 y.length y) ∧ Aside0 (y.length ≤ c1) ∧ Aside0 (Kd.R (Kd.int .u8) 5 w' w.heap.size (fun _ => True) u3 bs) ∧ Aside0 (Below w.heap.size w w'))
        case atStart => exact ⟨_, rfl, AX, ⟨Nat.le_refl _⟩, HR1, HC1, HO, HB⟩
        case round =>
          clear HO HB hx_0 hx_1 HR1 HC1 AX c7b0 p124 q124
          obtain ⟨y, rfl, HA, HK2, HRy, HCy, HO, HB⟩ := hrel
          cases gk with
          | zero => exact absurd HA.out (by simp [trimL])
          | succ k2 =>
            have H := HA.out
            clear HA
            simp only [trimL] at H
            by_cases d1 : 0 < (y.length : Int)
            rotate_left
            · rw [if_neg d1] at H
              have d1b0 : decide (0 < (y.length : Int)) = false := decide_eq_false d1
              have d1b1 : decide (0 < y.length) = false := decide_eq_false (by omega)
              clear d1
              obtain rfl := Option.some.inj H
              clear H
              go_wp2_with fail
              go_meet
              exact ⟨rfl, HRy, HO, HB⟩
            rw [if_pos d1] at H
            obtain ⟨ad1, e1, hz⟩ := Kd.at_int HRy.out ((y.length : Int) - 1) (by omega) (by omega)
            cases e1
            have hxl := (HB.out.cell (World.block_lt_of_cell? w _ hz)).trans hz
            rw [show ((y.length : Int) - 1).toNat = y.length - 1 from by omega] at hxl
            have hle : (y.length : Int) ≤ 9223372036854775807 := by have := HRy.out.2.1; omega
            have hw64 : wrap64 ((y.length : Int) - 1) = (y.length : Int) - 1 := by unfold wrap64; omega
            have n1 : ((y.length : Int) - 1) < (y.length : Int) := by omega
            have n2 : (0 : Int) ≤ (y.length : Int) - 1 := by omega
            have n3 := eq_true (show (1 : Int) ≤ (y.length : Int) from by omega)
            have n4 := eq_false (show ¬ ((y.length : Int) < 1) from by omega)
            have d1b0 : decide (0 < (y.length : Int)) = true := decide_eq_true d1
            have d1b1 : decide (0 < y.length) = true := decide_eq_true (by omega)
            obtain ⟨i0, hi0, _, hsz, _⟩ := info_parts (P := Tryd.prog) info5
            by_cases d2 : rd y ((y.length : Int) - 1) = 0
            · rw [if_pos d2] at H
              have d2b0 : (rd y ((y.length : Int) - 1) == 0) = true := beq_iff_eq.mpr d2
              have hcut := cut_to (P := Tryd.prog) 26 5 .i64 Tryd.underlying26 hi0 (some ad1) y.length c1 ((y.length : Int) - 1) n2 (by omega) HCy.out
              have ht := Kd.C_take (m := ((y.length : Int) - 1).toNat) HRy.out (by omega)
              obtain ⟨y', hy'⟩ : ∃ y', y' = y.take ((y.length : Int) - 1).toNat := ⟨_, rfl⟩
              have hl' : y'.length = ((y.length : Int) - 1).toNat := by rw [hy', List.length_take]; omega
              rw [← hy'] at H ht
              rw [← hl'] at hcut
              have HL' := Aside0.mk (show y'.length ≤ c1 from by have := HCy.out; omega)
              have HR' := Aside0.mk ht
              have HA' := Aside0.mk H
              clear H ht hy' hl' d1 d2
              replace n1 := eq_true n1
              replace n2 := eq_true n2
              go_wp2_with fail
              go_roundg k2
              case measure => have := HK2.out; omega
              case rel => exact ⟨y', rfl, HA', ⟨by have := HK2.out; omega⟩, HR', HL', HO, HB⟩
            · rw [if_neg d2] at H
              have d2b0 : (rd y ((y.length : Int) - 1) == 0) = false := beq_eq_false_iff_ne.mpr d2
              obtain rfl := Option.some.inj H
              clear H d1 d2
              replace n1 := eq_true n1
              replace n2 := eq_true n2
              go_wp2_with fail
              go_meet
              exact ⟨rfl, HRy, HO, HB⟩
      case rest =>
        clear HO HB hx_0 hx_1
        obtain ⟨rfl, HRx, HO, HB⟩ := hcut
        try go_wp2_with fail
        replace HB := Aside0.mk (below_drew1 HB.out)
        replace HO := Aside0.mk (Kd.R_drew HO.out)
        refine start_ (n := 13) (S := fun w' => w'.cell? (ad.add (i.toNat * 2)) = some (.int .i64 (rd_T38 l0 i).f0) ∧ (convert 26 9 (.slice A1 x.length c1)).run Tryd.prog w' = .ok (.string (strOfNums x)) w') (ds := []) #[false, false, false, false, false, false, false, false, false, false, false, false, false] (by kernel_rfl) rfl rfl ⟨(HB.out.cell (World.block_lt_of_cell? w _ HW0.out)).trans HW0.out, (by have T_ := Kd.x_C_string (P := Tryd.prog) (A := A1) (c := c1) Tryd.underlying26 Tryd.underlying5 Tryd.underlying9 (Kd.C_below HRx.out HB.out); exact T_.1)⟩ (fun hHeld => ?_)
        generalize wc.drew = w7 at HO HB hHeld ⊢
        refine pure_ (i := 0) (N := some 40) (v := ?_) (a' := ?_) #[true, false, false, false, false, false, false, false, false, false, false, false, false] rfl rfl (by kernel_rfl) (fun _ _ _ h => h) (Or.inl ⟨by rfl, ?_⟩) ?_ ?_
        rotate_left
        · intro w'
          go_simp
          with_reducible rfl
        rotate_left
        · simp only [Act.put, List.setIfInBounds_toArray, List.set_cons_zero, List.set_cons_succ, i64_w, i32_w]
          rfl
        refine pure_ (i := 1) (N := some 41) (v := ?_) (a' := ?_) #[true, true, false, false, false, false, false, false, false, false, false, false, false] rfl rfl (by kernel_rfl) (fun _ _ _ h => h) (Or.inl ⟨by rfl, ?_⟩) ?_ ?_
        rotate_left
        · intro w'
          go_simp
          with_reducible rfl
        rotate_left
        · simp only [Act.put, List.setIfInBounds_toArray, List.set_cons_zero, List.set_cons_succ, i64_w, i32_w]
          rfl
        refine pure_ (i := 2) (N := some 42) (v := ?_) (a' := ?_) #[true, true, true, false, false, false, false, false, false, false, false, false, false] rfl rfl (by kernel_rfl) (fun _ _ _ h => h) (Or.inl ⟨by rfl, ?_⟩) ?_ ?_
        rotate_left
        · intro w'
          go_simp
          with_reducible rfl
        rotate_left
        · simp only [Act.put, List.setIfInBounds_toArray, List.set_cons_zero, List.set_cons_succ, i64_w, i32_w]
          rfl
        refine pure_ (i := 8) (N := some 48) (v := ?_) (a' := ?_) #[true, true, true, false, false, false, false, false, true, false, false, false, false] rfl rfl (by kernel_rfl) (fun _ _ _ h => h) (Or.inl ⟨by rfl, ?_⟩) ?_ ?_
        rotate_left
        · intro w'
          go_simp
          with_reducible rfl
        rotate_left
        · simp only [Act.put, List.setIfInBounds_toArray, List.set_cons_zero, List.set_cons_succ, i64_w, i32_w]
          rfl
        refine pure_ (i := 3) (N := some 43) (v := ?_) (a' := ?_) #[true, true, true, true, false, false, false, false, true, false, false, false, false] rfl rfl (by kernel_rfl) (fun _ _ _ h => h) (Or.inl ⟨by rfl, ?_⟩) ?_ ?_
        rotate_left
        · intro w'
          go_simp
          with_reducible rfl
        rotate_left
        · simp only [Act.put, List.setIfInBounds_toArray, List.set_cons_zero, List.set_cons_succ, i64_w, i32_w]
          rfl
        refine pure_ (i := 4) (N := some 44) (v := ?_) (a' := ?_) #[true, true, true, true, true, false, false, false, true, false, false, false, false] rfl rfl (by kernel_rfl) (fun _ _ _ h => h) (Or.inl ⟨by rfl, ?_⟩) ?_ ?_
        rotate_left
        · intro w'
          go_simp
          with_reducible rfl
        rotate_left
        · simp only [Act.put, List.setIfInBounds_toArray, List.set_cons_zero, List.set_cons_succ, i64_w, i32_w]
          rfl
        refine take_ (i := 5) (N := some 45) (v := ?_) (a' := ?_) #[true, true, true, true, true, true, false, false, true, false, false, false, false] rfl rfl (by kernel_rfl) (fun _ _ _ h => h) (Or.inl ⟨by rfl, ?_⟩) hHeld ?_ ?_
        rotate_left
        · rintro w' ⟨s0, s1⟩
          go_simp
          with_reducible rfl
        rotate_left
        · simp only [Act.put, List.setIfInBounds_toArray, List.set_cons_zero, List.set_cons_succ, i64_w, i32_w]
          rfl
        refine take_ (i := 9) (N := some 49) (v := ?_) (a' := ?_) #[true, true, true, true, true, true, false, false, true, true, false, false, false] rfl rfl (by kernel_rfl) (fun _ _ _ h => h) (Or.inl ⟨by rfl, ?_⟩) hHeld ?_ ?_
        rotate_left
        · rintro w' ⟨s0, s1⟩
          go_simp
          with_reducible rfl
        rotate_left
        · simp only [Act.put, List.setIfInBounds_toArray, List.set_cons_zero, List.set_cons_succ, i64_w, i32_w]
          rfl
        refine one_ (i := 6) (N := some 46) #[true, true, true, true, true, true, true, false, true, true, false, false, false] rfl rfl (by kernel_rfl) (by decide) (fun K hK => ?_)
        refine goes_ Tryd.func24 (by kernel_rfl) rfl #[.int .i64 (rd_T38 l0 i).f0] (by rfl) rfl rfl (by (try simp only [List.map_toArray, List.map_cons, List.map_nil]); first | done | rfl | (simp only [List.length_drop, List.length_take]; rfl)) ?_
        with_reducible refine (engrossref1_Put.calls k1 (rd_T38 l0 i).f0 p _ AP1.out).mono ?_
        rintro e w8 ⟨v128, rfl, ho0, hb⟩
        refine ⟨_, rfl, ?_⟩
        have HOp := Aside0.mk (Kd.R_lower (Kd.R_new' ho0 (Kd.R_lt HO.out)) (below_size (bC HB)))
        replace HO := Aside0.mk (Kd.R_elder' HO.out (Kd.R_base ho0) hb)
        replace HB := bW HB hb
        clear hb ho0
        obtain ⟨Aob, cob, eob⟩ := Kd.R_slice HO.out
        (first | subst eob | (injection eob with f1_ f2_ f3_; have f4_ := f1_.symm; have f5_ := f3_.symm; clear f1_ f2_ f3_; subst f4_; subst f5_))
        obtain ⟨Aop, cop, eop⟩ := Kd.R_slice HOp.out
        (first | subst eop | (injection eop with f1_ f2_ f3_; have f4_ := f1_.symm; have f5_ := f3_.symm; clear f1_ f2_ f3_; subst f4_; subst f5_))
        refine hK.out _ _ ⟨(HB.out.cell (World.block_lt_of_cell? w _ HW0.out)).trans HW0.out, (by have T_ := Kd.x_C_string (P := Tryd.prog) (A := A1) (c := c1) Tryd.underlying26 Tryd.underlying5 Tryd.underlying9 (Kd.C_below HRx.out HB.out); exact T_.1)⟩ (fun hHeld => ?_)
        clear hK K
        refine norm_ (a' := ?_) ?_ ?_
        rotate_left
        · show Act.put _ (some 46) _ = _
          simp only [Act.put, List.setIfInBounds_toArray, List.set_cons_zero, List.set_cons_succ, i64_w, i32_w]
          rfl
        refine one_ (i := 7) (N := some 47) #[true, true, true, true, true, true, true, true, true, true, false, false, false] rfl rfl (by kernel_rfl) (by decide) (fun K hK => ?_)
        refine Kd.R_append_rows_step (Kd.int .u8) (w0 := w) w.heap.size (by rfl) (.tmp 40) (.tmp 46) 26 5 (.int .u8 0) 1 rfl Tryd.underlying26 info5 rfl (by decide) (by omega) (.slice Aob (bs).length cob) (bs) p _ _ _ (fun k_ => some k_ ≠ (.slice Aop p.length cop : Value).ownBlock) (fun _ => False) rfl rfl ?aO ?aR (fun _ _ h => h) (fun _ h => h.elim) ?aF ?aB ?aS ?aL ?_
        (case aR => exact (Kd.R_reads' HOp.out).2.2)
        (case aB => exact (bC HB))
        (case aF => exact (fun k_ hk => Kd.fresh' (Kd.R_lt HOp.out) k_ hk))
        (case aO => exact Kd.R_mono HO.out (fun _ hk => hk.2))
        (case aS => exact (below_size (bC HB)))
        (case aL => have := LM1.out; omega)
        intro v47 w47 ho hb hg hat
        have HOn := Aside0.mk (ho)
        replace HB := Aside0.mk (hb)
        clear HO HOp
        have HO := HOn
        clear HOn ho hb hg hat
        replace HO := Aside0.mk (Kd.R_mono (ok' := fun _ => True) HO.out (fun _ _ => trivial))
        obtain ⟨Aoc, coc, eoc⟩ := Kd.R_slice HO.out
        (first | subst eoc | (injection eoc with f1_ f2_ f3_; have f4_ := f1_.symm; have f5_ := f3_.symm; clear f1_ f2_ f3_; subst f4_; subst f5_))
        refine hK.out _ _ ⟨(HB.out.cell (World.block_lt_of_cell? w _ HW0.out)).trans HW0.out, (by have T_ := Kd.x_C_string (P := Tryd.prog) (A := A1) (c := c1) Tryd.underlying26 Tryd.underlying5 Tryd.underlying9 (Kd.C_below HRx.out HB.out); exact T_.1)⟩ (fun hHeld => ?_)
        clear hK K
        refine norm_ (a' := ?_) ?_ ?_
        rotate_left
        · show Act.put _ (some 47) _ = _
          simp only [Act.put, List.setIfInBounds_toArray, List.set_cons_zero, List.set_cons_succ, i64_w, i32_w]
          rfl
        refine one_ (i := 10) (N := some 50) #[true, true, true, true, true, true, true, true, true, true, true, false, false] rfl rfl (by kernel_rfl) (by decide) (fun K hK => ?_)
        refine goes_ Tryd.func25 (by kernel_rfl) rfl #[.string (strOfNums x)] (by rfl) rfl rfl (by (try simp only [List.map_toArray, List.map_cons, List.map_nil]); first | done | rfl | (simp only [List.length_drop, List.length_take]; rfl)) ?_
        with_reducible refine (engrossref1_PutText.calls k1 (strOfNums x) q _ AQ1.out).mono ?_
        rintro e w9 ⟨v129, rfl, ho0, hb⟩
        refine ⟨_, rfl, ?_⟩
        have HOq := Aside0.mk (Kd.R_lower (Kd.R_new' ho0 (Kd.R_lt HO.out)) (below_size (bC HB)))
        replace HO := Aside0.mk (Kd.R_elder' HO.out (Kd.R_base ho0) hb)
        replace HB := bW HB hb
        clear hb ho0
        obtain ⟨Aoq, coq, eoq⟩ := Kd.R_slice HOq.out
        (first | subst eoq | (injection eoq with f1_ f2_ f3_; have f4_ := f1_.symm; have f5_ := f3_.symm; clear f1_ f2_ f3_; subst f4_; subst f5_))
        refine hK.out _ _ ⟨(HB.out.cell (World.block_lt_of_cell? w _ HW0.out)).trans HW0.out, (by have T_ := Kd.x_C_string (P := Tryd.prog) (A := A1) (c := c1) Tryd.underlying26 Tryd.underlying5 Tryd.underlying9 (Kd.C_below HRx.out HB.out); exact T_.1)⟩ (fun hHeld => ?_)
        clear hK K
        refine norm_ (a' := ?_) ?_ ?_
        rotate_left
        · show Act.put _ (some 50) _ = _
          simp only [Act.put, List.setIfInBounds_toArray, List.set_cons_zero, List.set_cons_succ, i64_w, i32_w]
          rfl
        refine one_ (i := 11) (N := some 51) #[true, true, true, true, true, true, true, true, true, true, true, true, false] rfl rfl (by kernel_rfl) (by decide) (fun K hK => ?_)
        refine Kd.R_append_rows_step (Kd.int .u8) (w0 := w) w.heap.size (by rfl) (.tmp 47) (.tmp 50) 26 5 (.int .u8 0) 1 rfl Tryd.underlying26 info5 rfl (by decide) (by omega) (.slice Aoc (bs ++ p).length coc) (bs ++ p) q _ _ _ (fun k_ => some k_ ≠ (.slice Aoq q.length coq : Value).ownBlock) (fun _ => False) rfl rfl ?aO ?aR (fun _ _ h => h) (fun _ h => h.elim) ?aF ?aB ?aS ?aL ?_
        (case aR => exact (Kd.R_reads' HOq.out).2.2)
        (case aB => exact (bC HB))
        (case aF => exact (fun k_ hk => Kd.fresh' (Kd.R_lt HOq.out) k_ hk))
        (case aO => exact Kd.R_mono HO.out (fun _ hk => hk.2))
        (case aS => exact (below_size (bC HB)))
        (case aL => have := LM2.out; omega)
        intro v51 w51 ho hb hg hat
        have HOn := Aside0.mk (ho)
        replace HB := Aside0.mk (hb)
        clear HO HOq
        have HO := HOn
        clear HOn ho hb hg hat
        refine hK.out _ _ ⟨(HB.out.cell (World.block_lt_of_cell? w _ HW0.out)).trans HW0.out, (by have T_ := Kd.x_C_string (P := Tryd.prog) (A := A1) (c := c1) Tryd.underlying26 Tryd.underlying5 Tryd.underlying9 (Kd.C_below HRx.out HB.out); exact T_.1)⟩ (fun hHeld => ?_)
        clear hK K
        refine norm_ (a' := ?_) ?_ ?_
        rotate_left
        · show Act.put _ (some 51) _ = _
          simp only [Act.put, List.setIfInBounds_toArray, List.set_cons_zero, List.set_cons_succ, i64_w, i32_w]
          rfl
        refine pure_ (i := 12) (N := some 3) (v := ?_) (a' := ?_) #[true, true, true, true, true, true, true, true, true, true, true, true, true] rfl rfl (by kernel_rfl) (fun _ _ _ h => h) (Or.inl ⟨by rfl, ?_⟩) ?_ ?_
        rotate_left
        · intro w'
          go_simp
          with_reducible rfl
        rotate_left
        · simp only [Act.put, List.setIfInBounds_toArray, List.set_cons_zero, List.set_cons_succ, i64_w, i32_w]
          rfl
        refine done_ (by kernel_rfl) ?_
        try go_wp2
        go_roundg k1
        case measure => have := HK.out; omega
        case rel => exact ⟨bs ++ p ++ q, wrap64 (i + 1), rfl, H', ⟨by have := HK.out; omega⟩, ⟨Kd.R_mono HO.out (fun _ _ => trivial)⟩, HB⟩
end Go.Proofs.YtijnfnlahhgpgaaDoor.P
