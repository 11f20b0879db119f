/- The law NodeFull returns true for every input: the words, the walks and the plain statement that its row needs. No condition. (Merged by a program of this session out of its own texts.) -/
import Derived.ArgAppend
import Derived.Below
import Derived.BigQuiet
import Derived.Deep.AppendLies
import Derived.Deep.CutBlock
import Derived.Deep.DeepCutAuto
import Derived.Deep.Draws
import Derived.Deep.LoopGhost
import Derived.Deep.OwnRows
import Derived.Deep.QuietTactic
import Derived.Deep.RegionHeld3
import Derived.KernelRfl
import Derived.Laws.BitsLemmas
import Derived.Laws.BytesArg
import Derived.Laws.Cover2
import Derived.Laws.Externs
import Derived.Laws.FloatArith
import Derived.Laws.IdiomCopy
import Derived.Laws.MakeOwn
import Derived.Laws.OwnMore
import Derived.Laws.Rows
import Derived.Laws.Slices
import Derived.Laws.StructEq
import Derived.Lib.AppendStr
import Derived.Lib.ConvBytes
import Derived.Maps.AppendAt
import Derived.OrdersHeld
import Derived.OwnWalk
import Derived.RowKit
import Derived.RowKit3
import Derived.Tactics
import Derived.Test.YtmmjpieafbjggaaProg
import Derived.WalkKit
import Derived.WideLaws
import Derived.Test.YtmmjpieafbjggaaQNodeFull4
import Derived.Test.YtmmjpieafbjggaaQNodeFull5
import Derived.Test.YtmmjpieafbjggaaQNodeFull6
import Derived.Test.YtmmjpieafbjggaaQNodeFull7
section
namespace Go.Proofs.Ytmmjpieafbjggaa.P
open Go.RowKit Go.Proofs.YtmmjpieafbjggaaW.PrintWords Go.Proofs.YtmmjpieafbjggaaW.PrintLast Go.Proofs.YtmmjpieafbjggaaW.PrintMore
attribute [local go_sem] max2_int min2_int max_two min_two max_three min_three max_four min_four   -- for this text's walks alone
attribute [local go_sem] x_str_gtr x_str_leq x_str_geq ext_bits ext_frombits ext_neg x_store_float Instr.field asAgg
set_option linter.unusedVariables false
set_option linter.unusedSimpArgs false
mutual
def engrosslaw11_NodeFull.j0 : Nat → Int → Int → Bool → Option (Bool)
 | 0, _, _, _ => none
 | k + 1, x0, x1, x28 => if x28 = true then (some true) else (engrosslaw11_NodeFull.l0 k x0 x1 0 true ([] : List (S56)))
def engrosslaw11_NodeFull.l0 : Nat → Int → Int → Int → Bool → List (S56) → Option (Bool)
 | 0, _, _, _, _, _ => none
 | k + 1, x0, x1, x7, x779000, x779001 => if x7 < x0 then (if 0 ≤ x1 then (if (x1 : Int).toNat ≤ 281474976710656 then (if x779001.length < 1599289640401 then (engrosslaw11_NodeFull.l0 k x0 x1 (wrap64 (x7 + 1)) x779000 (x779001 ++ [(⟨strOfNums (([(wrap64 (97 + (wrap64 (Int.tdiv x7 26)))) % 256, (wrap64 (97 + (Int.tmod x7 26))) % 256] : List Int)), (⟨2, 0, strOfNums (List.replicate (x1 : Int).toNat 0)⟩ : S54), 0, (⟨0, 0, (⟨#[]⟩ : ByteArray)⟩ : S54)⟩ : S56)])) else (none)) else (none)) else (none)) else ((engrosslaw11_Of.f k x779000 x779001 ([] : List ByteArray) ([] : List Int)).bind fun bt789 => ((node_Encode.f k bt789.1 bt789.2.1 bt789.2.2.1 bt789.2.2.2).bind fun bt799 => ((engrosslaw11_Of.f k x779000 x779001 ([] : List ByteArray) ([] : List Int)).bind fun bt803 => ((node_Size.f k bt803.1 bt803.2.1 bt803.2.2.1 bt803.2.2.2).bind fun t813 => (if t813 = (wrap64 (2 + (wrap64 (x0 * (wrap64 ((wrap64 (5 + x1)) + 1)))))) then (if ((bt799.2 == 0) == (decide ((wrap64 (2 + (wrap64 (x0 * (wrap64 ((wrap64 (5 + x1)) + 1)))))) ≤ 256))) = true then (if bt799.2 = 0 then (some true) else (some (bt799.2 == 4))) else (none)) else (none))))))
end
def engrosslaw11_NodeFull.f (k : Nat) (a0 : Int) (a1 : Int) : Option (Bool) := (engrosslaw11_begun.f k).bind fun t777 => (if t777 = true then (if a0 < 0 then (engrosslaw11_NodeFull.j0 k a0 a1 true) else (if a0 > 60 then (engrosslaw11_NodeFull.j0 k a0 a1 true) else (if a1 < 0 then (engrosslaw11_NodeFull.j0 k a0 a1 true) else (engrosslaw11_NodeFull.j0 k a0 a1 (decide (a1 > 20)))))) else (none))
def engrosslaw11_NodeFull.T10 : Bool × List (List Nat × List Nat) := (true, [([], []), ([0], [0]), ([1], [1]), ([2], [2]), ([], []), ([4], [4]), ([5], [5]), ([6], [6]), ([3, 7], [3, 7]), ([8], [8]), ([], []), ([10, 10], [10]), ([11], [11]), ([12], [12]), ([9, 13], [9, 13]), ([], []), ([15, 14, 0, 1, 2, 3, 4, 5, 6, 7, 8, 9, 10, 11, 12, 13, 14, 15], [14, 15])])
def engrosslaw11_NodeFull.B10 : List Nat := [0, 1, 3, 7, 0, 16, 48, 112, 255, 511, 0, 1024, 3072, 7168, 16383, 0, 65535]
theorem engrosslaw11_NodeFull.tab10 : rtab .any (opsOf Try.f6 10) = engrosslaw11_NodeFull.T10 := by kernel_rfl
theorem engrosslaw11_NodeFull.bits10 : waitsOk engrosslaw11_NodeFull.T10.2 engrosslaw11_NodeFull.B10 = true := by kernel_rfl
set_option maxHeartbeats 8000000 in
set_option maxRecDepth 100000 in
theorem engrosslaw11_NodeFull.calls (k : Nat) (a0 : Int) (a1 : Int) (r : Bool) (w : World) (h : engrosslaw11_NodeFull.f k a0 a1 = some r) :
  Calls Try.prog 6 #[.int .i64 a0, .int .i64 a1] w fun e w' => e = .returned (.bool r) ∧ Below w.heap.size w w' := by
 have hu26 := Try.underlying26
 have hu54 := Try.underlying54
 have hu56 := Try.underlying56
 have HB := Aside0.mk (Below.refl w.heap.size w)
 have H : ((engrosslaw11_begun.f k).bind fun t777 => (if t777 = true then (if a0 < 0 then (engrosslaw11_NodeFull.j0 k a0 a1 true) else (if a0 > 60 then (engrosslaw11_NodeFull.j0 k a0 a1 true) else (if a1 < 0 then (engrosslaw11_NodeFull.j0 k a0 a1 true) else (engrosslaw11_NodeFull.j0 k a0 a1 (decide (a1 > 20)))))) else (none))) = some r := h
 clear h
 replace H := Option.bind_eq_some_iff.mp H
 obtain ⟨t777, A30, H⟩ := H
 replace H : (if t777 = true then (if a0 < 0 then (engrosslaw11_NodeFull.j0 k a0 a1 true) else (if a0 > 60 then (engrosslaw11_NodeFull.j0 k a0 a1 true) else (if a1 < 0 then (engrosslaw11_NodeFull.j0 k a0 a1 true) else (engrosslaw11_NodeFull.j0 k a0 a1 (decide (a1 > 20)))))) else (none)) = some r := H
 have A3 := Aside0.mk A30
 clear A30
 by_cases c4 : t777 = true
 ·subst c4
  have H1 : (if a0 < 0 then (engrosslaw11_NodeFull.j0 k a0 a1 true) else (if a0 > 60 then (engrosslaw11_NodeFull.j0 k a0 a1 true) else (if a1 < 0 then (engrosslaw11_NodeFull.j0 k a0 a1 true) else (engrosslaw11_NodeFull.j0 k a0 a1 (decide (a1 > 20)))))) = some r := by rw [if_pos rfl] at H; exact H
  clear H
  have H := H1
  clear H1
  have HC5 := Aside0.mk H
  clear H
  go_enter Try.func6, Try.ntmps6
  go_upto_region 4 with (first | ((with_reducible refine gate_callee (f := 11) rfl ?_); refine goesL_ (some 12) rfl rfl Try.func11 (by kernel_rfl) rfl #[] rfl (by (try simp only [List.map_toArray, List.map_cons, List.map_nil]); first | done | rfl | (simp only [List.length_drop, List.length_take]; rfl)) ?_; (with_reducible refine (engrosslaw11_begun.calls k  true _ A3.out).mono ?_); rintro e w6 ⟨rfl, hb⟩; refine ⟨_, rfl, ?_⟩; replace HB := bW HB hb; (try clear hb); (try clear hb2); (try clear hk); (try clear hi)))
  (try simp only [Act.put, List.setIfInBounds_toArray, List.set_cons_zero, List.set_cons_succ])
  go_cut [28] (fun v28 wc => ∃ (kq : Nat) (x28_4 : Bool), v28 = .bool x28_4 ∧ Aside0 (engrosslaw11_NodeFull.j0 kq a0 a1 x28_4 = some r) ∧ Aside0 (kq ≤ k) ∧ Aside0 (Below w.heap.size w wc))
  case first =>
   have H := HC5.out
   clear HC5
   by_cases c7 : a0 < 0
   ·rw [if_pos c7] at H
    have c7b0 : decide (a0 < 0) = true := decide_eq_true c7
    clear c7
    (first | rw [c7b0] | (simp only [i64_w, i32_w]; rw [c7b0]) | skip)
    have H' := Aside0.mk H
    clear H
    go_wp2
    go_meet
    case rel => exact ⟨_, (true), (by first | rfl | (simp; done) | (simp [*]; done)), H', ⟨by first | omega | exact Nat.le_refl _⟩, ⟨by repeat (first | (with_reducible first | exact HB.out | apply below_alloc | apply pw_below_drewN | apply below_drew1) | exact HB.out)⟩⟩
   ·rw [if_neg c7] at H
    have c7b0 : decide (a0 < 0) = false := decide_eq_false c7
    clear c7
    (first | rw [c7b0] | (simp only [i64_w, i32_w]; rw [c7b0]) | skip)
    by_cases c8 : a0 > 60
    ·rw [if_pos c8] at H
     have c8b0 : decide (60 < a0) = true := decide_eq_true c8
     clear c8
     have H' := Aside0.mk H
     clear H
     go_wp2
     go_meet
     case rel => exact ⟨_, (true), (by first | rfl | (simp; done) | (simp [*]; done)), H', ⟨by first | omega | exact Nat.le_refl _⟩, ⟨by repeat (first | (with_reducible first | exact HB.out | apply below_alloc | apply pw_below_drewN | apply below_drew1) | exact HB.out)⟩⟩
    ·rw [if_neg c8] at H
     have c8b0 : decide (60 < a0) = false := decide_eq_false c8
     clear c8
     by_cases c9 : a1 < 0
     ·rw [if_pos c9] at H
      have c9b0 : decide (a1 < 0) = true := decide_eq_true c9
      clear c9
      have H' := Aside0.mk H
      clear H
      go_wp2
      go_meet
      case rel => exact ⟨_, (true), (by first | rfl | (simp; done) | (simp [*]; done)), H', ⟨by first | omega | exact Nat.le_refl _⟩, ⟨by repeat (first | (with_reducible first | exact HB.out | apply below_alloc | apply pw_below_drewN | apply below_drew1) | exact HB.out)⟩⟩
     ·rw [if_neg c9] at H
      have c9b0 : decide (a1 < 0) = false := decide_eq_false c9
      clear c9
      have H' := Aside0.mk H
      clear H
      go_wp2
      go_meet
      case rel => exact ⟨_, (decide (a1 > 20)), (by first | rfl | (simp; done) | (simp [*]; done)), H', ⟨by first | omega | exact Nat.le_refl _⟩, ⟨by repeat (first | (with_reducible first | exact HB.out | apply below_alloc | apply pw_below_drewN | apply below_drew1) | exact HB.out)⟩⟩
  case rest =>
   clear HC5
   try clear c1
   try clear p2
   try clear c4
   try clear c6
   try clear c7
   try clear c7b0
   try clear c8
   try clear c8b0
   try clear c9
   try clear c9b0
   obtain ⟨kq, x28_4, rfl, HA, HJ4, HB⟩ := hcut
   cases kq with
   | zero => exact absurd HA.out (by simp [engrosslaw11_NodeFull.j0])
   | succ kj4 =>
    have H := HA.out
    clear HA
    simp only [engrosslaw11_NodeFull.j0] at H
    by_cases c10 : x28_4 = true
    ·subst c10
     have H1 : (some true) = some r := by rw [if_pos rfl] at H; exact H
     clear H
     have H := H1
     clear H1
     obtain rfl := Option.some.inj H
     go_wp2
     go_ret
     exact ⟨by first | rfl | (simp [errW_none, errW_some] <;> rfl) | (simp [*, errW_none, errW_some] <;> rfl), by repeat (first | (with_reducible first | exact HB.out | apply below_alloc | apply pw_below_drewN | apply below_drew1) | exact HB.out)⟩
    ·replace c10 := Bool.eq_false_iff.mpr c10
     subst c10
     have H1 : (engrosslaw11_NodeFull.l0 kj4 a0 a1 0 true ([] : List (S56))) = some r := by rw [if_neg (show ¬ (false = true) by decide)] at H; exact H
     clear H
     have H := H1
     clear H1
     have H' := Aside0.mk H
     clear H
     go_wp2_with (first | ((with_reducible refine gate_dst (N := 6) rfl ?_); refine box_event ?hg (N := 6) ?hd (cs := #[.bool false, .slice none 0 0, .slice none 0 0, .slice none 0 0]) (t := 26) ?hr ?_; (case hd => rfl); (case hg => rfl); (case hr => first | (go_simp; done) | (go_simp; rfl)); intro gb778 hg w11 hbox hb; have BK778 := Aside0.mk (hbox); have GW778 := bZ HB hg; have GE778 := bZ HB hg; replace HB := bW HB hb; clear hb hbox hg; obtain ⟨hcz12_0, hcz12_1, hcz12_2, hcz12_3, hfz12_0, hfz12_1, hfz12_2, hfz12_3⟩ := bf4 (w := w11) BK778))
     go_loopg [7] kj4 (fun kq v7 w' => ∃ (x7_2 : Int) (x779001_2 : List (S56)) (u779001 : Value), v7 = .int .i64 x7_2 ∧ Aside0 (engrosslaw11_NodeFull.l0 kq a0 a1 x7_2 true x779001_2 = some r) ∧ Aside0 (kq ≤ kj4) ∧ Aside0 (Kd.R k56 56 w' w.heap.size (fun _ => True) u779001 x779001_2) ∧ Aside0 (w'.heap[gb778]? = some (.cells #[.bool true, u779001, (.slice none 0 0), (.slice none 0 0)] 26 (0, 0))) ∧ Aside0 (Below w.heap.size w w'))
     case atStart => exact ⟨(0), (([] : List (S56))), (.slice none 0 0), (by first | rfl | (simp; done) | (simp [*]; done)), H', ⟨Nat.le_refl _⟩, ⟨by first | exact Kd.R_nil _ _ _ _ _ | exact Kd.N_nil _ _ _ _ _ | exact Kd.V_nil _ _ _ _ _ | exact Kd.Q_nil _ _ _ _ _ | exact Kd.S_nil _ _ _ _ _⟩, ⟨by (with_reducible repeat (first | refine blk_drewN ?_ _ | refine blk_drew ?_ | refine blk_alloc ?_ _)); refine blk_put (cs := #[.bool true, .slice none 0 0, .slice none 0 0, .slice none 0 0]) ?_ 3 _ rfl; (with_reducible repeat (first | refine blk_drewN ?_ _ | refine blk_drew ?_ | refine blk_alloc ?_ _)); refine blk_put (cs := #[.bool true, .slice none 0 0, .slice none 0 0, .slice none 0 0]) ?_ 2 _ rfl; (with_reducible repeat (first | refine blk_drewN ?_ _ | refine blk_drew ?_ | refine blk_alloc ?_ _)); refine blk_put (cs := #[.bool true, .slice none 0 0, .slice none 0 0, .slice none 0 0]) ?_ 1 _ rfl; (with_reducible repeat (first | refine blk_drewN ?_ _ | refine blk_drew ?_ | refine blk_alloc ?_ _)); refine blk_put (cs := #[.bool false, .slice none 0 0, .slice none 0 0, .slice none 0 0]) ?_ 0 _ rfl; (with_reducible repeat (first | refine blk_drewN ?_ _ | refine blk_drew ?_ | refine blk_alloc ?_ _)); exact BK778.out⟩, ⟨by repeat (first | (with_reducible first | exact HB.out | apply below_alloc | apply pw_below_drewN | apply below_drew1 | refine below_set ?_ GE778.out) | exact HB.out)⟩⟩
     case round =>
      clear H'
      try clear c1
      try clear p2
      try clear c4
      try clear c6
      try clear c7
      try clear c7b0
      try clear c8
      try clear c8b0
      try clear c9
      try clear c9b0
      try clear c10
      try clear c11
      try clear hcz12_0
      try clear hcz12_1
      try clear hcz12_2
      try clear hcz12_3
      try clear hfz12_0
      try clear hfz12_1
      try clear hfz12_2
      try clear hfz12_3
      try clear p2
      obtain ⟨x7_2, x779001_2, u779001, rfl, HA, HK2, HO_779001, BK778, HB⟩ := hrel
      cases gk with
      | zero => exact absurd HA.out (by simp [engrosslaw11_NodeFull.l0])
      | succ k2 =>
       have H := HA.out
       clear HA
       simp only [engrosslaw11_NodeFull.l0] at H
       by_cases c13 : x7_2 < a0
       ·rw [if_pos c13] at H
        have c13b0 : decide (x7_2 < a0) = true := decide_eq_true c13
        clear c13
        obtain ⟨y779, hy779⟩ : ∃ y_ : List Int, y_ = (([(wrap64 (97 + (wrap64 (Int.tdiv x7_2 26)))) % 256, (wrap64 (97 + (Int.tmod x7_2 26))) % 256] : List Int)) := ⟨_, rfl⟩
        replace H : (if 0 ≤ a1 then (if (a1 : Int).toNat ≤ 281474976710656 then (if x779001_2.length < 1599289640401 then (engrosslaw11_NodeFull.l0 k2 a0 a1 (wrap64 (x7_2 + 1)) true (x779001_2 ++ [(⟨strOfNums y779, (⟨2, 0, strOfNums (List.replicate (a1 : Int).toNat 0)⟩ : S54), 0, (⟨0, 0, (⟨#[]⟩ : ByteArray)⟩ : S54)⟩ : S56)])) else (none)) else (none)) else (none)) = some r := by first | (rw [hy779]; with_reducible exact H) | (have H2_ := (Option.bind_some _ _).symm.trans H; rw [hy779]; with_reducible exact H2_) | (have H2_ := (Option.bind_some _ _).symm.trans H; with_reducible exact H2_) | with_reducible exact H | (rw [hy779]; exact H) | exact H
        have Ny779 := Aside0.mk hy779
        clear hy779
        by_cases c14 : 0 ≤ a1
        ·rw [if_pos c14] at H
         have c14b0 := eq_true c14
         have c14b1 : decide (0 ≤ a1) = true := decide_eq_true c14
         clear c14
         by_cases c15 : (a1 : Int).toNat ≤ 281474976710656
         ·rw [if_pos c15] at H
          have c15b0 := eq_true c15
          have c15b1 : decide ((a1 : Int).toNat ≤ 281474976710656) = true := decide_eq_true c15
          clear c15
          obtain ⟨y782, hy782⟩ : ∃ y_ : List Int, y_ = (List.replicate (a1 : Int).toNat 0) := ⟨_, rfl⟩
          replace H : (if x779001_2.length < 1599289640401 then (engrosslaw11_NodeFull.l0 k2 a0 a1 (wrap64 (x7_2 + 1)) true (x779001_2 ++ [(⟨strOfNums y779, (⟨2, 0, strOfNums y782⟩ : S54), 0, (⟨0, 0, (⟨#[]⟩ : ByteArray)⟩ : S54)⟩ : S56)])) else (none)) = some r := by first | (rw [hy782]; with_reducible exact H) | (have H2_ := (Option.bind_some _ _).symm.trans H; rw [hy782]; with_reducible exact H2_) | (have H2_ := (Option.bind_some _ _).symm.trans H; with_reducible exact H2_) | with_reducible exact H | (rw [hy782]; exact H) | exact H
          have Ny782 := Aside0.mk hy782
          clear hy782
          by_cases c16 : x779001_2.length < 1599289640401
          ·rw [if_pos c16] at H
           have LMc16 := Aside0.mk c16
           clear c16
           obtain ⟨y786, hy786⟩ : ∃ y_ : List (S56), y_ = (x779001_2 ++ [(⟨strOfNums y779, (⟨2, 0, strOfNums y782⟩ : S54), 0, (⟨0, 0, (⟨#[]⟩ : ByteArray)⟩ : S54)⟩ : S56)]) := ⟨_, rfl⟩
           replace H : (engrosslaw11_NodeFull.l0 k2 a0 a1 (wrap64 (x7_2 + 1)) true y786) = some r := by first | (rw [hy786]; with_reducible exact H) | (have H2_ := (Option.bind_some _ _).symm.trans H; rw [hy786]; with_reducible exact H2_) | (have H2_ := (Option.bind_some _ _).symm.trans H; with_reducible exact H2_) | with_reducible exact H | (rw [hy786]; exact H) | exact H
           have Ny786 := Aside0.mk hy786
           clear hy786
           have H' := Aside0.mk H
           clear H
           try go_wp2
           replace HO_779001 := Aside0.mk (Kd.R_drew HO_779001.out)
           replace BK778 := Aside0.mk (blk_drew BK778.out)
           replace HB := Aside0.mk (below_drew1 HB.out)
           refine start_ (n := 17) (S := fun w' => True) (ds := []) #[false, false, false, false, false, false, false, false, false, false, false, false, false, false, false, false, false] (by kernel_rfl) rfl rfl trivial (fun hHeld => ?_); refine with_tabW engrosslaw11_NodeFull.tab10 engrosslaw11_NodeFull.bits10 (fun HT_ HW_ => ?_)
           generalize wr.drew = w17 at HO_779001 BK778 HB hHeld ⊢
           refine pure_ (i := 0) (N := some 35) (v := ?_) (a' := ?_) #[true, false, false, false, false, false, false, false, false, false, false, false, false, false, false, false, false] rfl rfl (any_of HT_.out (by kernel_rfl)) (fun _ _ _ h => h) (Or.inl ⟨by rfl, ?_⟩) ?_ ?_
           rotate_left
           ·intro w'
            go_simp
            with_reducible rfl
           rotate_left
           ·simp only [Act.put, List.setIfInBounds_toArray, List.set_cons_zero, List.set_cons_succ, i64_w, i32_w]
            rfl
           refine pure_ (i := 1) (N := some 36) (v := ?_) (a' := ?_) #[true, true, false, false, false, false, false, false, false, false, false, false, false, false, false, false, false] rfl rfl (any_of HT_.out (by kernel_rfl)) (fun _ _ _ h => h) (Or.inl ⟨by rfl, ?_⟩) ?_ ?_
           rotate_left
           ·intro w'
            go_simp
            with_reducible rfl
           rotate_left
           ·simp only [Act.put, List.setIfInBounds_toArray, List.set_cons_zero, List.set_cons_succ, i64_w, i32_w]
            rfl
           refine pure_ (i := 2) (N := some 37) (v := ?_) (a' := ?_) #[true, true, true, false, false, false, false, false, false, false, false, false, false, false, false, false, false] rfl rfl (any_of HT_.out (by kernel_rfl)) (fun _ _ _ h => h) (Or.inl ⟨by rfl, ?_⟩) ?_ ?_
           rotate_left
           ·intro w'
            go_simp
            with_reducible rfl
           rotate_left
           ·simp only [Act.put, List.setIfInBounds_toArray, List.set_cons_zero, List.set_cons_succ, i64_w, i32_w]
            rfl
           refine pure_ (i := 3) (N := some 38) (v := ?_) (a' := ?_) #[true, true, true, true, false, false, false, false, false, false, false, false, false, false, false, false, false] rfl rfl (any_of HT_.out (by kernel_rfl)) (fun _ _ _ h => h) (Or.inl ⟨by rfl, ?_⟩) ?_ ?_
           rotate_left
           ·intro w'
            go_simp
            with_reducible rfl
           rotate_left
           ·simp only [Act.put, List.setIfInBounds_toArray, List.set_cons_zero, List.set_cons_succ, i64_w, i32_w]
            rfl
           refine pure_ (i := 4) (N := some 39) (v := ?_) (a' := ?_) #[true, true, true, true, true, false, false, false, false, false, false, false, false, false, false, false, false] rfl rfl (any_of HT_.out (by kernel_rfl)) (fun _ _ _ h => h) (Or.inl ⟨by rfl, ?_⟩) ?_ ?_
           rotate_left
           ·intro w'
            go_simp
            with_reducible rfl
           rotate_left
           ·simp only [Act.put, List.setIfInBounds_toArray, List.set_cons_zero, List.set_cons_succ, i64_w, i32_w]
            rfl
           refine pure_ (i := 5) (N := some 40) (v := ?_) (a' := ?_) #[true, true, true, true, true, true, false, false, false, false, false, false, false, false, false, false, false] rfl rfl (any_of HT_.out (by kernel_rfl)) (fun _ _ _ h => h) (Or.inl ⟨by rfl, ?_⟩) ?_ ?_
           rotate_left
           ·intro w'
            go_simp
            with_reducible rfl
           rotate_left
           ·simp only [Act.put, List.setIfInBounds_toArray, List.set_cons_zero, List.set_cons_succ, i64_w, i32_w]
            rfl
           refine pure_ (i := 6) (N := some 41) (v := ?_) (a' := ?_) #[true, true, true, true, true, true, true, false, false, false, false, false, false, false, false, false, false] rfl rfl (any_of HT_.out (by kernel_rfl)) (fun _ _ _ h => h) (Or.inl ⟨by rfl, ?_⟩) ?_ ?_
           rotate_left
           ·intro w'
            go_simp
            with_reducible rfl
           rotate_left
           ·simp only [Act.put, List.setIfInBounds_toArray, List.set_cons_zero, List.set_cons_succ, i64_w, i32_w]
            rfl
           refine pure_ (i := 7) (N := some 42) (v := ?_) (a' := ?_) #[true, true, true, true, true, true, true, true, false, false, false, false, false, false, false, false, false] rfl rfl (any_of HT_.out (by kernel_rfl)) (fun _ _ _ h => h) (Or.inl ⟨by rfl, ?_⟩) ?_ ?_
           rotate_left
           ·intro w'
            go_simp
            with_reducible rfl
           rotate_left
           ·simp only [Act.put, List.setIfInBounds_toArray, List.set_cons_zero, List.set_cons_succ, i64_w, i32_w]
            rfl
           refine pure_ (i := 10) (N := some 45) (v := ?_) (a' := ?_) #[true, true, true, true, true, true, true, true, false, false, true, false, false, false, false, false, false] rfl rfl (any_of HT_.out (by kernel_rfl)) (fun _ _ _ h => h) (Or.inl ⟨by rfl, ?_⟩) ?_ ?_
           rotate_left
           ·intro w'
            go_simp
            with_reducible rfl
           rotate_left
           ·simp only [Act.put, List.setIfInBounds_toArray, List.set_cons_zero, List.set_cons_succ, i64_w, i32_w]
            rfl
           refine join_ (σ := Value × Value × Nat) 1 #[true, true, true, true, true, true, true, true, true, true, true, true, true, true, true, true, false] (fun s_ => [(43, s_.1), (44, .string (strOfNums y779)), (46, s_.2.1), (47, .string (strOfNums y782)), (8, .pointer (some ⟨s_.2.2, 0, none⟩)), (48, .agg #[.int .i64 2, .float .f64 0, .string (strOfNums y782)]), (49, .agg #[.string (strOfNums y779), .int .i64 2, .float .f64 0, .string (strOfNums y782), .int .i64 0, .int .i64 0, .float .f64 0, .string (⟨#[]⟩ : ByteArray)])]) (fun s_ w' => (Kd.R (Kd.int .u8) 5 w' w.heap.size (fun k_ => some k_ ≠ (s_.2.1 : Value).ownBlock) s_.1 y779) ∧ (Kd.R (Kd.int .u8) 5 w' w.heap.size (fun k_ => some k_ ≠ (s_.1 : Value).ownBlock) s_.2.1 y782) ∧ (Kd.R k56 56 w' w.heap.size (fun k_ => k_ ≠ s_.2.2) u779001 x779001_2) ∧ (w'.heap[gb778]? = some (.cells #[.bool true, u779001, .slice none 0 0, .slice none 0 0] 26 (0, 0))) ∧ (w'.heap[s_.2.2]? = some (.cells #[.string (⟨#[]⟩ : ByteArray), .int .i64 0, .float .f64 0, .string (⟨#[]⟩ : ByteArray), .int .i64 0, .int .i64 0, .float .f64 0, .string (⟨#[]⟩ : ByteArray)] 56 (0, 0))) ∧ (w.heap.size ≤ s_.2.2) ∧ (w.heap.size ≤ s_.2.2) ∧ (gb778 ≠ s_.2.2) ∧ (s_.2.2 ≠ gb778) ∧ (Below w.heap.size w w')) ?_ ?_
           rotate_left
           ·intro hJ8_9_11_12_15
            refine join_ (σ := Value × Value) 2 #[true, true, true, true, true, true, true, true, true, true, true, true, true, true, true, false, false] (fun s_ => [(43, s_.1), (44, .string (strOfNums y779)), (46, s_.2), (47, .string (strOfNums y782)), (48, .agg #[.int .i64 2, .float .f64 0, .string (strOfNums y782)]), (49, .agg #[.string (strOfNums y779), .int .i64 2, .float .f64 0, .string (strOfNums y782), .int .i64 0, .int .i64 0, .float .f64 0, .string (⟨#[]⟩ : ByteArray)])]) (fun s_ w' => (Kd.R (Kd.int .u8) 5 w' w.heap.size (fun k_ => some k_ ≠ (s_.2 : Value).ownBlock) s_.1 y779) ∧ (Kd.R (Kd.int .u8) 5 w' w.heap.size (fun k_ => some k_ ≠ (s_.1 : Value).ownBlock) s_.2 y782) ∧ (Kd.R k56 56 w' w.heap.size (fun _ => True) u779001 x779001_2) ∧ (w'.heap[gb778]? = some (.cells #[.bool true, u779001, .slice none 0 0, .slice none 0 0] 26 (0, 0))) ∧ (Below w.heap.size w w')) ?_ ?_
            rotate_left
            ·intro hJ8_9_11_12
             refine join_ (σ := Value × Value × Nat) 4 #[true, true, true, true, true, true, true, true, true, true, true, true, false, false, false, true, false] (fun s_ => [(43, s_.1), (44, .string (strOfNums y779)), (46, s_.2.1), (8, .pointer (some ⟨s_.2.2, 0, none⟩))]) (fun s_ w' => (Kd.R (Kd.int .u8) 5 w' w.heap.size (fun k_ => some k_ ≠ (s_.2.1 : Value).ownBlock) s_.1 y779) ∧ (Kd.R (Kd.int .u8) 5 w' w.heap.size (fun k_ => some k_ ≠ (s_.1 : Value).ownBlock) s_.2.1 y782) ∧ (Kd.R k56 56 w' w.heap.size (fun k_ => k_ ≠ s_.2.2) u779001 x779001_2) ∧ (w'.heap[gb778]? = some (.cells #[.bool true, u779001, .slice none 0 0, .slice none 0 0] 26 (0, 0))) ∧ (w'.heap[s_.2.2]? = some (.cells #[.string (⟨#[]⟩ : ByteArray), .int .i64 0, .float .f64 0, .string (⟨#[]⟩ : ByteArray), .int .i64 0, .int .i64 0, .float .f64 0, .string (⟨#[]⟩ : ByteArray)] 56 (0, 0))) ∧ (w.heap.size ≤ s_.2.2) ∧ (w.heap.size ≤ s_.2.2) ∧ (gb778 ≠ s_.2.2) ∧ (s_.2.2 ≠ gb778) ∧ (Below w.heap.size w w')) ?_ ?_
             rotate_left
             ·intro hJ8_9_11_15
              refine join_ (σ := Value × Value × Nat) 3 #[true, true, true, true, true, true, true, true, true, false, true, true, true, true, false, true, false] (fun s_ => [(43, s_.1), (46, s_.2.1), (47, .string (strOfNums y782)), (8, .pointer (some ⟨s_.2.2, 0, none⟩)), (48, .agg #[.int .i64 2, .float .f64 0, .string (strOfNums y782)])]) (fun s_ w' => (Kd.R (Kd.int .u8) 5 w' w.heap.size (fun k_ => some k_ ≠ (s_.2.1 : Value).ownBlock) s_.1 y779) ∧ (Kd.R (Kd.int .u8) 5 w' w.heap.size (fun k_ => some k_ ≠ (s_.1 : Value).ownBlock) s_.2.1 y782) ∧ (Kd.R k56 56 w' w.heap.size (fun k_ => k_ ≠ s_.2.2) u779001 x779001_2) ∧ (w'.heap[gb778]? = some (.cells #[.bool true, u779001, .slice none 0 0, .slice none 0 0] 26 (0, 0))) ∧ (w'.heap[s_.2.2]? = some (.cells #[.string (⟨#[]⟩ : ByteArray), .int .i64 0, .float .f64 0, .string (⟨#[]⟩ : ByteArray), .int .i64 0, .int .i64 0, .float .f64 0, .string (⟨#[]⟩ : ByteArray)] 56 (0, 0))) ∧ (w.heap.size ≤ s_.2.2) ∧ (w.heap.size ≤ s_.2.2) ∧ (gb778 ≠ s_.2.2) ∧ (s_.2.2 ≠ gb778) ∧ (Below w.heap.size w w')) ?_ ?_
              rotate_left
              ·intro hJ8_11_12_15
               refine join_ (σ := Value × Value) 5 #[true, true, true, true, true, true, true, true, true, true, true, true, false, false, false, false, false] (fun s_ => [(43, s_.1), (44, .string (strOfNums y779)), (46, s_.2)]) (fun s_ w' => (Kd.R (Kd.int .u8) 5 w' w.heap.size (fun k_ => some k_ ≠ (s_.2 : Value).ownBlock) s_.1 y779) ∧ (Kd.R (Kd.int .u8) 5 w' w.heap.size (fun k_ => some k_ ≠ (s_.1 : Value).ownBlock) s_.2 y782) ∧ (Kd.R k56 56 w' w.heap.size (fun _ => True) u779001 x779001_2) ∧ (w'.heap[gb778]? = some (.cells #[.bool true, u779001, .slice none 0 0, .slice none 0 0] 26 (0, 0))) ∧ (Below w.heap.size w w')) ?_ ?_
               rotate_left
               ·intro hJ8_9_11
                refine join_ (σ := Value × Nat) 5 #[true, true, true, true, true, true, true, true, true, true, true, false, false, false, false, true, false] (fun s_ => [(43, s_.1), (44, .string (strOfNums y779)), (8, .pointer (some ⟨s_.2, 0, none⟩))]) (fun s_ w' => (Kd.R (Kd.int .u8) 5 w' w.heap.size (fun _ => True) s_.1 y779) ∧ (Kd.R k56 56 w' w.heap.size (fun k_ => k_ ≠ s_.2) u779001 x779001_2) ∧ (w'.heap[gb778]? = some (.cells #[.bool true, u779001, .slice none 0 0, .slice none 0 0] 26 (0, 0))) ∧ (w'.heap[s_.2]? = some (.cells #[.string (⟨#[]⟩ : ByteArray), .int .i64 0, .float .f64 0, .string (⟨#[]⟩ : ByteArray), .int .i64 0, .int .i64 0, .float .f64 0, .string (⟨#[]⟩ : ByteArray)] 56 (0, 0))) ∧ (w.heap.size ≤ s_.2) ∧ (w.heap.size ≤ s_.2) ∧ (gb778 ≠ s_.2) ∧ (s_.2 ≠ gb778) ∧ (Below w.heap.size w w')) ?_ ?_
                rotate_left
                ·intro hJ8_9_15
                 refine join_ (σ := Value × Value) 4 #[true, true, true, true, true, true, true, true, true, false, true, true, true, true, false, false, false] (fun s_ => [(43, s_.1), (46, s_.2), (47, .string (strOfNums y782)), (48, .agg #[.int .i64 2, .float .f64 0, .string (strOfNums y782)])]) (fun s_ w' => (Kd.R (Kd.int .u8) 5 w' w.heap.size (fun k_ => some k_ ≠ (s_.2 : Value).ownBlock) s_.1 y779) ∧ (Kd.R (Kd.int .u8) 5 w' w.heap.size (fun k_ => some k_ ≠ (s_.1 : Value).ownBlock) s_.2 y782) ∧ (Kd.R k56 56 w' w.heap.size (fun _ => True) u779001 x779001_2) ∧ (w'.heap[gb778]? = some (.cells #[.bool true, u779001, .slice none 0 0, .slice none 0 0] 26 (0, 0))) ∧ (Below w.heap.size w w')) ?_ ?_
                 rotate_left
                 ·intro hJ8_11_12
                  refine join_ (σ := Value × Value × Nat) 5 #[true, true, true, true, true, true, true, true, true, false, true, true, false, false, false, true, false] (fun s_ => [(43, s_.1), (46, s_.2.1), (8, .pointer (some ⟨s_.2.2, 0, none⟩))]) (fun s_ w' => (Kd.R (Kd.int .u8) 5 w' w.heap.size (fun k_ => some k_ ≠ (s_.2.1 : Value).ownBlock) s_.1 y779) ∧ (Kd.R (Kd.int .u8) 5 w' w.heap.size (fun k_ => some k_ ≠ (s_.1 : Value).ownBlock) s_.2.1 y782) ∧ (Kd.R k56 56 w' w.heap.size (fun k_ => k_ ≠ s_.2.2) u779001 x779001_2) ∧ (w'.heap[gb778]? = some (.cells #[.bool true, u779001, .slice none 0 0, .slice none 0 0] 26 (0, 0))) ∧ (w'.heap[s_.2.2]? = some (.cells #[.string (⟨#[]⟩ : ByteArray), .int .i64 0, .float .f64 0, .string (⟨#[]⟩ : ByteArray), .int .i64 0, .int .i64 0, .float .f64 0, .string (⟨#[]⟩ : ByteArray)] 56 (0, 0))) ∧ (w.heap.size ≤ s_.2.2) ∧ (w.heap.size ≤ s_.2.2) ∧ (gb778 ≠ s_.2.2) ∧ (s_.2.2 ≠ gb778) ∧ (Below w.heap.size w w')) ?_ ?_
                  rotate_left
                  ·intro hJ8_11_15
                   refine join_ (σ := Value × Nat) 4 #[true, true, true, true, true, true, true, true, false, false, true, true, true, true, false, true, false] (fun s_ => [(46, s_.1), (47, .string (strOfNums y782)), (8, .pointer (some ⟨s_.2, 0, none⟩)), (48, .agg #[.int .i64 2, .float .f64 0, .string (strOfNums y782)])]) (fun s_ w' => (Kd.R (Kd.int .u8) 5 w' w.heap.size (fun _ => True) s_.1 y782) ∧ (Kd.R k56 56 w' w.heap.size (fun k_ => k_ ≠ s_.2) u779001 x779001_2) ∧ (w'.heap[gb778]? = some (.cells #[.bool true, u779001, .slice none 0 0, .slice none 0 0] 26 (0, 0))) ∧ (w'.heap[s_.2]? = some (.cells #[.string (⟨#[]⟩ : ByteArray), .int .i64 0, .float .f64 0, .string (⟨#[]⟩ : ByteArray), .int .i64 0, .int .i64 0, .float .f64 0, .string (⟨#[]⟩ : ByteArray)] 56 (0, 0))) ∧ (w.heap.size ≤ s_.2) ∧ (w.heap.size ≤ s_.2) ∧ (gb778 ≠ s_.2) ∧ (s_.2 ≠ gb778) ∧ (Below w.heap.size w w')) ?_ ?_
                   rotate_left
                   ·intro hJ11_12_15
                    refine join_ (σ := Value) 6 #[true, true, true, true, true, true, true, true, true, true, true, false, false, false, false, false, false] (fun s_ => [(43, s_), (44, .string (strOfNums y779))]) (fun s_ w' => (Kd.R (Kd.int .u8) 5 w' w.heap.size (fun _ => True) s_ y779) ∧ (Kd.R k56 56 w' w.heap.size (fun _ => True) u779001 x779001_2) ∧ (w'.heap[gb778]? = some (.cells #[.bool true, u779001, .slice none 0 0, .slice none 0 0] 26 (0, 0))) ∧ (Below w.heap.size w w')) ?_ ?_
                    rotate_left
                    ·intro hJ8_9
                     refine join_ (σ := Value × Value) 6 #[true, true, true, true, true, true, true, true, true, false, true, true, false, false, false, false, false] (fun s_ => [(43, s_.1), (46, s_.2)]) (fun s_ w' => (Kd.R (Kd.int .u8) 5 w' w.heap.size (fun k_ => some k_ ≠ (s_.2 : Value).ownBlock) s_.1 y779) ∧ (Kd.R (Kd.int .u8) 5 w' w.heap.size (fun k_ => some k_ ≠ (s_.1 : Value).ownBlock) s_.2 y782) ∧ (Kd.R k56 56 w' w.heap.size (fun _ => True) u779001 x779001_2) ∧ (w'.heap[gb778]? = some (.cells #[.bool true, u779001, .slice none 0 0, .slice none 0 0] 26 (0, 0))) ∧ (Below w.heap.size w w')) ?_ ?_
                     rotate_left
                     ·intro hJ8_11
                      refine join_ (σ := Value × Nat) 6 #[true, true, true, true, true, true, true, true, true, false, true, false, false, false, false, true, false] (fun s_ => [(43, s_.1), (8, .pointer (some ⟨s_.2, 0, none⟩))]) (fun s_ w' => (Kd.R (Kd.int .u8) 5 w' w.heap.size (fun _ => True) s_.1 y779) ∧ (Kd.R k56 56 w' w.heap.size (fun k_ => k_ ≠ s_.2) u779001 x779001_2) ∧ (w'.heap[gb778]? = some (.cells #[.bool true, u779001, .slice none 0 0, .slice none 0 0] 26 (0, 0))) ∧ (w'.heap[s_.2]? = some (.cells #[.string (⟨#[]⟩ : ByteArray), .int .i64 0, .float .f64 0, .string (⟨#[]⟩ : ByteArray), .int .i64 0, .int .i64 0, .float .f64 0, .string (⟨#[]⟩ : ByteArray)] 56 (0, 0))) ∧ (w.heap.size ≤ s_.2) ∧ (w.heap.size ≤ s_.2) ∧ (gb778 ≠ s_.2) ∧ (s_.2 ≠ gb778) ∧ (Below w.heap.size w w')) ?_ ?_
                      rotate_left
                      ·intro hJ8_15
                       refine join_ (σ := Value) 5 #[true, true, true, true, true, true, true, true, false, false, true, true, true, true, false, false, false] (fun s_ => [(46, s_), (47, .string (strOfNums y782)), (48, .agg #[.int .i64 2, .float .f64 0, .string (strOfNums y782)])]) (fun s_ w' => (Kd.R (Kd.int .u8) 5 w' w.heap.size (fun _ => True) s_ y782) ∧ (Kd.R k56 56 w' w.heap.size (fun _ => True) u779001 x779001_2) ∧ (w'.heap[gb778]? = some (.cells #[.bool true, u779001, .slice none 0 0, .slice none 0 0] 26 (0, 0))) ∧ (Below w.heap.size w w')) ?_ ?_
                       rotate_left
                       ·intro hJ11_12
                        refine join_ (σ := Value × Nat) 6 #[true, true, true, true, true, true, true, true, false, false, true, true, false, false, false, true, false] (fun s_ => [(46, s_.1), (8, .pointer (some ⟨s_.2, 0, none⟩))]) (fun s_ w' => (Kd.R (Kd.int .u8) 5 w' w.heap.size (fun _ => True) s_.1 y782) ∧ (Kd.R k56 56 w' w.heap.size (fun k_ => k_ ≠ s_.2) u779001 x779001_2) ∧ (w'.heap[gb778]? = some (.cells #[.bool true, u779001, .slice none 0 0, .slice none 0 0] 26 (0, 0))) ∧ (w'.heap[s_.2]? = some (.cells #[.string (⟨#[]⟩ : ByteArray), .int .i64 0, .float .f64 0, .string (⟨#[]⟩ : ByteArray), .int .i64 0, .int .i64 0, .float .f64 0, .string (⟨#[]⟩ : ByteArray)] 56 (0, 0))) ∧ (w.heap.size ≤ s_.2) ∧ (w.heap.size ≤ s_.2) ∧ (gb778 ≠ s_.2) ∧ (s_.2 ≠ gb778) ∧ (Below w.heap.size w w')) ?_ ?_
                        rotate_left
                        ·intro hJ11_15
                         refine join_ (σ := Value) 7 #[true, true, true, true, true, true, true, true, true, false, true, false, false, false, false, false, false] (fun s_ => [(43, s_)]) (fun s_ w' => (Kd.R (Kd.int .u8) 5 w' w.heap.size (fun _ => True) s_ y779) ∧ (Kd.R k56 56 w' w.heap.size (fun _ => True) u779001 x779001_2) ∧ (w'.heap[gb778]? = some (.cells #[.bool true, u779001, .slice none 0 0, .slice none 0 0] 26 (0, 0))) ∧ (Below w.heap.size w w')) ?_ ?_
                         rotate_left
                         ·intro hJ8
                          refine join_ (σ := Value) 7 #[true, true, true, true, true, true, true, true, false, false, true, true, false, false, false, false, false] (fun s_ => [(46, s_)]) (fun s_ w' => (Kd.R (Kd.int .u8) 5 w' w.heap.size (fun _ => True) s_ y782) ∧ (Kd.R k56 56 w' w.heap.size (fun _ => True) u779001 x779001_2) ∧ (w'.heap[gb778]? = some (.cells #[.bool true, u779001, .slice none 0 0, .slice none 0 0] 26 (0, 0))) ∧ (Below w.heap.size w w')) ?_ ?_
                          rotate_left
                          ·intro hJ11
                           refine join_ (σ := Nat) 7 #[true, true, true, true, true, true, true, true, false, false, true, false, false, false, false, true, false] (fun s_ => [(8, .pointer (some ⟨s_, 0, none⟩))]) (fun s_ w' => (Kd.R k56 56 w' w.heap.size (fun k_ => k_ ≠ s_) u779001 x779001_2) ∧ (w'.heap[gb778]? = some (.cells #[.bool true, u779001, .slice none 0 0, .slice none 0 0] 26 (0, 0))) ∧ (w'.heap[s_]? = some (.cells #[.string (⟨#[]⟩ : ByteArray), .int .i64 0, .float .f64 0, .string (⟨#[]⟩ : ByteArray), .int .i64 0, .int .i64 0, .float .f64 0, .string (⟨#[]⟩ : ByteArray)] 56 (0, 0))) ∧ (w.heap.size ≤ s_) ∧ (w.heap.size ≤ s_) ∧ (gb778 ≠ s_) ∧ (s_ ≠ gb778) ∧ (Below w.heap.size w w')) ?_ ?_
                           rotate_left
                           ·intro hJ15
                            refine three_ (i := 8) (j := 11) (k := 15) (Ni := some 43) (Nj := some 46) (Nk := some 8) #[true, true, true, true, true, true, true, true, true, false, true, false, false, false, false, false, false] #[true, true, true, true, true, true, true, true, false, false, true, true, false, false, false, false, false] #[true, true, true, true, true, true, true, true, false, false, true, false, false, false, false, true, false] rfl rfl rfl rfl rfl rfl (three_of HT_.out (by kernel_rfl)) (by decide) (by decide) (by decide) (fun K hK => ?_) (fun K hK => ?_) (fun K hK => ?_)
                            ·skip
                             refine Kd.R_lit_step (Kd.int .u8) _ 5 ?hg (N := 43) ?hd (xs := ([(wrap64 (97 + (wrap64 (Int.tdiv x7_2 26)))) % 256, (wrap64 (97 + (Int.tmod x7_2 26))) % 256] : List Int)) (inner := [.int .u8 ((wrap64 (97 + (wrap64 (Int.tdiv x7_2 26)))) % 256), .int .u8 ((wrap64 (97 + (Int.tmod x7_2 26))) % 256)]) (ok := fun _ => True) (okp := fun _ => True) ?hr ?hp (fun _ hk => hk) trivial (Below.refl _ _) (Nat.le_refl _) (by simp) ?_; (case hd => rfl); (case hg => rfl); (case hr => first | (go_simp; done) | (go_simp; rfl)); (case hp => exact (Reps.one (show Kd.M (Kd.int .u8) _ _ _ ((wrap64 (97 + (wrap64 (Int.tdiv x7_2 26)))) % 256) [.int .u8 ((wrap64 (97 + (wrap64 (Int.tdiv x7_2 26)))) % 256)] from rfl) (Reps.one (show Kd.M (Kd.int .u8) _ _ _ ((wrap64 (97 + (Int.tmod x7_2 26))) % 256) [.int .u8 ((wrap64 (97 + (Int.tmod x7_2 26))) % 256)] from rfl) (Reps.none _ _))))
                             intro v780 w18 ho19 hb hg_ hnew_
                             clear hg_ hnew_
                             (first | rw [← Ny779.out] at ho19 | (simp only [Int.reduceToNat] at ho19; rw [← Ny779.out] at ho19))
                             have HO781 := Aside0.mk (Kd.R_lower ho19 (below_size (bC HB)))
                             replace HO_779001 := Aside0.mk (Kd.R_below (by (with_reducible repeat (first | apply Kd.R_alloc | apply Kd.R_drewN | apply Kd.R_drew)); exact HO_779001.out) hb)
                             replace BK778 := bB BK778 hb
                             replace HB := bW HB hb
                             clear hb ho19
                             refine hK.out _ _ trivial (fun hHeld => ?_)
                             clear hK K
                             refine norm_ (a' := ?_) ?_ ?_
                             rotate_left
                             ·show Act.put _ (some 43) _ = _
                              simp only [Act.put, List.setIfInBounds_toArray, List.set_cons_zero, List.set_cons_succ, i64_w, i32_w]
                              rfl
                             exact norm_ (by first | (simp only [putAll, Act.put, List.setIfInBounds_toArray, List.set_cons_zero, List.set_cons_succ]; done) | (simp only [putAll, Act.put, List.setIfInBounds_toArray, List.set_cons_zero, List.set_cons_succ]; rfl)) (hJ8 (v780) _ ⟨(by (with_reducible repeat (first | apply Kd.R_alloc | apply Kd.R_drewN | apply Kd.R_drew)); exact HO781.out), (by (with_reducible repeat (first | apply Kd.R_alloc | apply Kd.R_drewN | apply Kd.R_drew)); exact HO_779001.out), (bQ BK778), (bC HB)⟩)
                            ·skip
                             refine Kd.R_make_step (Kd.int .u8) _ 5 (by rfl) (N := 46) rfl 30 _ _ rfl a1 rfl rfl Try.underlying30 (.int .u8 0) 1 info5 rfl (by decide) (by omega) 0 (ok := fun _ => True) (okp := fun _ => True) rfl (fun _ hk => hk) trivial (of_decide_eq_true (by first | (with_reducible assumption) | assumption)) (Nat.le_trans (Nat.mul_le_mul_right _ (of_decide_eq_true (by first | (with_reducible assumption) | assumption) : a1.toNat ≤ 281474976710656)) (by omega)) (Below.refl _ _) (Nat.le_refl _) ?_
                             intro v783 w18 ho19 hb hg_ hnew_
                             clear hg_ hnew_
                             (first | rw [← Ny782.out] at ho19 | (simp only [Int.reduceToNat] at ho19; rw [← Ny782.out] at ho19))
                             have HO784 := Aside0.mk (Kd.R_lower ho19 (below_size (bC HB)))
                             replace HO_779001 := Aside0.mk (Kd.R_below (by (with_reducible repeat (first | apply Kd.R_alloc | apply Kd.R_drewN | apply Kd.R_drew)); exact HO_779001.out) hb)
                             replace BK778 := bB BK778 hb
                             replace HB := bW HB hb
                             clear hb ho19
                             refine hK.out _ _ trivial (fun hHeld => ?_)
                             clear hK K
                             refine norm_ (a' := ?_) ?_ ?_
                             rotate_left
                             ·show Act.put _ (some 46) _ = _
                              simp only [Act.put, List.setIfInBounds_toArray, List.set_cons_zero, List.set_cons_succ, i64_w, i32_w]
                              rfl
                             exact norm_ (by first | (simp only [putAll, Act.put, List.setIfInBounds_toArray, List.set_cons_zero, List.set_cons_succ]; done) | (simp only [putAll, Act.put, List.setIfInBounds_toArray, List.set_cons_zero, List.set_cons_succ]; rfl)) (hJ11 (v783) _ ⟨(by (with_reducible repeat (first | apply Kd.R_alloc | apply Kd.R_drewN | apply Kd.R_drew)); exact HO784.out), (by (with_reducible repeat (first | apply Kd.R_alloc | apply Kd.R_drewN | apply Kd.R_drew)); exact HO_779001.out), (bQ BK778), (bC HB)⟩)
                            ·skip
                             refine box_step ?hg (N := 8) ?hd (cs := #[.string (⟨#[]⟩ : ByteArray), .int .i64 0, .float .f64 0, .string (⟨#[]⟩ : ByteArray), .int .i64 0, .int .i64 0, .float .f64 0, .string (⟨#[]⟩ : ByteArray)]) (t := 56) ?hr ?_; (case hd => rfl); (case hg => rfl); (case hr => first | (go_simp; done) | (go_simp; rfl))
                             intro gb785 hg w18 hbox hb
                             have BK785 := Aside0.mk (hbox)
                             have GW785 := bZ HB hg
                             have GE785 := bZ HB hg
                             have NB778_785 := bL BK778 hg
                             have NB785_778 := bG BK778 hg
                             replace HO_779001 := Aside0.mk (Kd.R_below (Kd.R_elderB (by (with_reducible repeat (first | apply Kd.R_alloc | apply Kd.R_drewN | apply Kd.R_drew)); exact HO_779001.out) gb785 (Nat.le_of_eq hg.symm)) hb)
                             replace BK778 := bB BK778 hb
                             replace HB := bW HB hb
                             clear hb hbox hg
                             refine hK.out _ _ trivial (fun hHeld => ?_)
                             clear hK K
                             refine norm_ (a' := ?_) ?_ ?_
                             rotate_left
                             ·show Act.put _ (some 8) _ = _
                              simp only [Act.put, List.setIfInBounds_toArray, List.set_cons_zero, List.set_cons_succ, i64_w, i32_w]
                              rfl
                             exact norm_ (by first | (simp only [putAll, Act.put, List.setIfInBounds_toArray, List.set_cons_zero, List.set_cons_succ]; done) | (simp only [putAll, Act.put, List.setIfInBounds_toArray, List.set_cons_zero, List.set_cons_succ]; rfl)) (hJ15 (gb785) _ ⟨(by (with_reducible repeat (first | apply Kd.R_alloc | apply Kd.R_drewN | apply Kd.R_drew)); exact Kd.R_mono HO_779001.out (fun _ hk => hk.2)), (bQ BK778), (bQ BK785), GW785.out, GE785.out, NB778_785.out, NB785_778.out, (bC HB)⟩)
                           ·skip
                            rintro gb785 w19 ⟨h0_, h1_, h2_, h3_, h4_, h5_, h6_, h7_⟩
                            have n0_ : Aside0 (Kd.R k56 56 w19 w.heap.size (fun k_ => k_ ≠ gb785) u779001 x779001_2) := ⟨h0_⟩
                            have n1_ : Aside0 (w19.heap[gb778]? = some (.cells #[.bool true, u779001, .slice none 0 0, .slice none 0 0] 26 (0, 0))) := ⟨h1_⟩
                            have n2_ : Aside0 (w19.heap[gb785]? = some (.cells #[.string (⟨#[]⟩ : ByteArray), .int .i64 0, .float .f64 0, .string (⟨#[]⟩ : ByteArray), .int .i64 0, .int .i64 0, .float .f64 0, .string (⟨#[]⟩ : ByteArray)] 56 (0, 0))) := ⟨h2_⟩
                            have n3_ : Aside0 (w.heap.size ≤ gb785) := ⟨h3_⟩
                            have n4_ : Aside0 (w.heap.size ≤ gb785) := ⟨h4_⟩
                            have n5_ : Aside0 (gb778 ≠ gb785) := ⟨h5_⟩
                            have n6_ : Aside0 (gb785 ≠ gb778) := ⟨h6_⟩
                            have n7_ : Aside0 (Below w.heap.size w w19) := ⟨h7_⟩
                            clear HO_779001
                            clear BK778
                            clear HB
                            clear h0_ h1_ h2_ h3_ h4_ h5_ h6_ h7_
                            have HO_779001 := n0_
                            have BK778 := n1_
                            have BK785 := n2_
                            have GW785 := n3_
                            have GE785 := n4_
                            have NB778_785 := n5_
                            have NB785_778 := n6_
                            have HB := n7_
                            clear n0_ n1_ n2_ n3_ n4_ n5_ n6_ n7_
                            have hHeld := trivial
                            refine norm_ (a' := ?_) ?_ ?_
                            rotate_left
                            ·simp only [putAll, Act.put, List.setIfInBounds_toArray, List.set_cons_zero, List.set_cons_succ]
                             rfl
                            refine two_ (i := 8) (j := 11) (Ni := some 43) (Nj := some 46) #[true, true, true, true, true, true, true, true, true, false, true, false, false, false, false, true, false] #[true, true, true, true, true, true, true, true, false, false, true, true, false, false, false, true, false] rfl rfl rfl rfl (two_of HT_.out (by kernel_rfl)) (by decide) (by decide) (fun K hK => ?_) (fun K hK => ?_)
                            ·skip
                             refine Kd.R_lit_step (Kd.int .u8) _ 5 ?hg (N := 43) ?hd (xs := ([(wrap64 (97 + (wrap64 (Int.tdiv x7_2 26)))) % 256, (wrap64 (97 + (Int.tmod x7_2 26))) % 256] : List Int)) (inner := [.int .u8 ((wrap64 (97 + (wrap64 (Int.tdiv x7_2 26)))) % 256), .int .u8 ((wrap64 (97 + (Int.tmod x7_2 26))) % 256)]) (ok := fun _ => True) (okp := fun _ => True) ?hr ?hp (fun _ hk => hk) trivial (Below.refl _ _) (Nat.le_refl _) (by simp) ?_; (case hd => rfl); (case hg => rfl); (case hr => first | (go_simp; done) | (go_simp; rfl)); (case hp => exact (Reps.one (show Kd.M (Kd.int .u8) _ _ _ ((wrap64 (97 + (wrap64 (Int.tdiv x7_2 26)))) % 256) [.int .u8 ((wrap64 (97 + (wrap64 (Int.tdiv x7_2 26)))) % 256)] from rfl) (Reps.one (show Kd.M (Kd.int .u8) _ _ _ ((wrap64 (97 + (Int.tmod x7_2 26))) % 256) [.int .u8 ((wrap64 (97 + (Int.tmod x7_2 26))) % 256)] from rfl) (Reps.none _ _))))
                             intro v780 w20 ho21 hb hg_ hnew_
                             clear hg_ hnew_
                             (first | rw [← Ny779.out] at ho21 | (simp only [Int.reduceToNat] at ho21; rw [← Ny779.out] at ho21))
                             have HO781 := Aside0.mk (Kd.R_lower ho21 (below_size (bC HB)))
                             replace HO_779001 := Aside0.mk (Kd.R_below (by (with_reducible repeat (first | apply Kd.R_alloc | apply Kd.R_drewN | apply Kd.R_drew)); exact HO_779001.out) hb)
                             replace BK778 := bB BK778 hb
                             replace BK785 := bB BK785 hb
                             replace HB := bW HB hb
                             clear hb ho21
                             refine hK.out _ _ trivial (fun hHeld => ?_)
                             clear hK K
                             refine norm_ (a' := ?_) ?_ ?_
                             rotate_left
                             ·show Act.put _ (some 43) _ = _
                              simp only [Act.put, List.setIfInBounds_toArray, List.set_cons_zero, List.set_cons_succ, i64_w, i32_w]
                              rfl
                             exact norm_ (by first | (simp only [putAll, Act.put, List.setIfInBounds_toArray, List.set_cons_zero, List.set_cons_succ]; done) | (simp only [putAll, Act.put, List.setIfInBounds_toArray, List.set_cons_zero, List.set_cons_succ]; rfl)) (hJ8_15 (v780, gb785) _ ⟨(by (with_reducible repeat (first | apply Kd.R_alloc | apply Kd.R_drewN | apply Kd.R_drew)); exact HO781.out), (by (with_reducible repeat (first | apply Kd.R_alloc | apply Kd.R_drewN | apply Kd.R_drew)); exact HO_779001.out), (bQ BK778), (bQ BK785), GW785.out, GE785.out, NB778_785.out, NB785_778.out, (bC HB)⟩)
                            ·skip
                             refine Kd.R_make_step (Kd.int .u8) _ 5 (by rfl) (N := 46) rfl 30 _ _ rfl a1 rfl rfl Try.underlying30 (.int .u8 0) 1 info5 rfl (by decide) (by omega) 0 (ok := fun _ => True) (okp := fun _ => True) rfl (fun _ hk => hk) trivial (of_decide_eq_true (by first | (with_reducible assumption) | assumption)) (Nat.le_trans (Nat.mul_le_mul_right _ (of_decide_eq_true (by first | (with_reducible assumption) | assumption) : a1.toNat ≤ 281474976710656)) (by omega)) (Below.refl _ _) (Nat.le_refl _) ?_
                             intro v783 w20 ho21 hb hg_ hnew_
                             clear hg_ hnew_
                             (first | rw [← Ny782.out] at ho21 | (simp only [Int.reduceToNat] at ho21; rw [← Ny782.out] at ho21))
                             have HO784 := Aside0.mk (Kd.R_lower ho21 (below_size (bC HB)))
                             replace HO_779001 := Aside0.mk (Kd.R_below (by (with_reducible repeat (first | apply Kd.R_alloc | apply Kd.R_drewN | apply Kd.R_drew)); exact HO_779001.out) hb)
                             replace BK778 := bB BK778 hb
                             replace BK785 := bB BK785 hb
                             replace HB := bW HB hb
                             clear hb ho21
                             refine hK.out _ _ trivial (fun hHeld => ?_)
                             clear hK K
                             refine norm_ (a' := ?_) ?_ ?_
                             rotate_left
                             ·show Act.put _ (some 46) _ = _
                              simp only [Act.put, List.setIfInBounds_toArray, List.set_cons_zero, List.set_cons_succ, i64_w, i32_w]
                              rfl
                             exact norm_ (by first | (simp only [putAll, Act.put, List.setIfInBounds_toArray, List.set_cons_zero, List.set_cons_succ]; done) | (simp only [putAll, Act.put, List.setIfInBounds_toArray, List.set_cons_zero, List.set_cons_succ]; rfl)) (hJ11_15 (v783, gb785) _ ⟨(by (with_reducible repeat (first | apply Kd.R_alloc | apply Kd.R_drewN | apply Kd.R_drew)); exact HO784.out), (by (with_reducible repeat (first | apply Kd.R_alloc | apply Kd.R_drewN | apply Kd.R_drew)); exact HO_779001.out), (bQ BK778), (bQ BK785), GW785.out, GE785.out, NB778_785.out, NB785_778.out, (bC HB)⟩)
                          ·skip
                           rintro v783 w20 ⟨h0_, h1_, h2_, h3_⟩
                           have n0_ : Aside0 (Kd.R (Kd.int .u8) 5 w20 w.heap.size (fun _ => True) v783 y782) := ⟨h0_⟩
                           have n1_ : Aside0 (Kd.R k56 56 w20 w.heap.size (fun _ => True) u779001 x779001_2) := ⟨h1_⟩
                           have n2_ : Aside0 (w20.heap[gb778]? = some (.cells #[.bool true, u779001, .slice none 0 0, .slice none 0 0] 26 (0, 0))) := ⟨h2_⟩
                           have n3_ : Aside0 (Below w.heap.size w w20) := ⟨h3_⟩
                           clear HO_779001
                           clear BK778
                           clear HB
                           clear h0_ h1_ h2_ h3_
                           have HO784 := n0_
                           have HO_779001 := n1_
                           have BK778 := n2_
                           have HB := n3_
                           clear n0_ n1_ n2_ n3_
                           have hHeld := trivial
                           refine norm_ (a' := ?_) ?_ ?_
                           rotate_left
                           ·simp only [putAll, Act.put, List.setIfInBounds_toArray, List.set_cons_zero, List.set_cons_succ]
                            rfl
                           refine three_ (i := 8) (j := 12) (k := 15) (Ni := some 43) (Nj := some 47) (Nk := some 8) #[true, true, true, true, true, true, true, true, true, false, true, true, false, false, false, false, false] #[true, true, true, true, true, true, true, true, false, false, true, true, true, false, false, false, false] #[true, true, true, true, true, true, true, true, false, false, true, true, false, false, false, true, false] rfl rfl rfl rfl rfl rfl (three_of HT_.out (by kernel_rfl)) (by decide) (by decide) (by decide) (fun K hK => ?_) (fun K hK => ?_) (fun K hK => ?_)
                           ·skip
                            refine Kd.R_lit_step (Kd.int .u8) _ 5 ?hg (N := 43) ?hd (xs := ([(wrap64 (97 + (wrap64 (Int.tdiv x7_2 26)))) % 256, (wrap64 (97 + (Int.tmod x7_2 26))) % 256] : List Int)) (inner := [.int .u8 ((wrap64 (97 + (wrap64 (Int.tdiv x7_2 26)))) % 256), .int .u8 ((wrap64 (97 + (Int.tmod x7_2 26))) % 256)]) (ok := fun _ => True) (okp := fun _ => True) ?hr ?hp (fun _ hk => hk) trivial (Below.refl _ _) (Nat.le_refl _) (by simp) ?_; (case hd => rfl); (case hg => rfl); (case hr => first | (go_simp; done) | (go_simp; rfl)); (case hp => exact (Reps.one (show Kd.M (Kd.int .u8) _ _ _ ((wrap64 (97 + (wrap64 (Int.tdiv x7_2 26)))) % 256) [.int .u8 ((wrap64 (97 + (wrap64 (Int.tdiv x7_2 26)))) % 256)] from rfl) (Reps.one (show Kd.M (Kd.int .u8) _ _ _ ((wrap64 (97 + (Int.tmod x7_2 26))) % 256) [.int .u8 ((wrap64 (97 + (Int.tmod x7_2 26))) % 256)] from rfl) (Reps.none _ _))))
                            intro v780 w21 ho22 hb hg_ hnew_
                            clear hg_ hnew_
                            (first | rw [← Ny779.out] at ho22 | (simp only [Int.reduceToNat] at ho22; rw [← Ny779.out] at ho22))
                            have HO781 := Aside0.mk (Kd.R_lower (Kd.R_new' ho22 (Kd.R_lt (by (with_reducible repeat (first | apply Kd.R_alloc | apply Kd.R_drewN | apply Kd.R_drew)); exact HO784.out))) (below_size (bC HB)))
                            replace HO_779001 := Aside0.mk (Kd.R_below (by (with_reducible repeat (first | apply Kd.R_alloc | apply Kd.R_drewN | apply Kd.R_drew)); exact HO_779001.out) hb)
                            replace HO784 := Aside0.mk (Kd.R_elder' (by (with_reducible repeat (first | apply Kd.R_alloc | apply Kd.R_drewN | apply Kd.R_drew)); exact HO784.out) (Kd.R_base ho22) hb)
                            replace BK778 := bB BK778 hb
                            replace HB := bW HB hb
                            clear hb ho22
                            refine hK.out _ _ trivial (fun hHeld => ?_)
                            clear hK K
                            refine norm_ (a' := ?_) ?_ ?_
                            rotate_left
                            ·show Act.put _ (some 43) _ = _
                             simp only [Act.put, List.setIfInBounds_toArray, List.set_cons_zero, List.set_cons_succ, i64_w, i32_w]
                             rfl
                            exact norm_ (by first | (simp only [putAll, Act.put, List.setIfInBounds_toArray, List.set_cons_zero, List.set_cons_succ]; done) | (simp only [putAll, Act.put, List.setIfInBounds_toArray, List.set_cons_zero, List.set_cons_succ]; rfl)) (hJ8_11 (v780, v783) _ ⟨(by (with_reducible repeat (first | apply Kd.R_alloc | apply Kd.R_drewN | apply Kd.R_drew)); exact Kd.R_mono HO781.out (fun _ hk => hk.2)), (by (with_reducible repeat (first | apply Kd.R_alloc | apply Kd.R_drewN | apply Kd.R_drew)); exact Kd.R_mono HO784.out (fun _ hk => hk.2)), (by (with_reducible repeat (first | apply Kd.R_alloc | apply Kd.R_drewN | apply Kd.R_drew)); exact HO_779001.out), (bQ BK778), (bC HB)⟩)
                           ·skip
                            have hcv21 := own_string (P := Try.prog) Try.underlying30 Try.underlying5 Try.underlying9 (Kd.own_of_R HO784.out)
                            refine value_ (w1 := ?_) (v := ?_) (by rfl) rfl ?_ ?_
                            rotate_left 2
                            ·go_simp
                             constructor
                             ·rfl
                             ·rfl
                            clear hcv21
                            refine hK.out _ _ trivial (fun hHeld => ?_)
                            clear hK K
                            refine norm_ (a' := ?_) ?_ ?_
                            rotate_left
                            ·show Act.put _ (some 47) _ = _
                             simp only [Act.put, List.setIfInBounds_toArray, List.set_cons_zero, List.set_cons_succ, i64_w, i32_w]
                             rfl
                            refine pure_ (i := 13) (N := some 48) (v := ?_) (a' := ?_) #[true, true, true, true, true, true, true, true, false, false, true, true, true, true, false, false, false] rfl rfl (any_of HT_.out (by kernel_rfl)) (fun _ _ _ h => h) (Or.inl ⟨by rfl, ?_⟩) ?_ ?_
                            rotate_left
                            ·intro w'
                             go_simp
                             with_reducible rfl
                            rotate_left
                            ·simp only [Act.put, List.setIfInBounds_toArray, List.set_cons_zero, List.set_cons_succ, i64_w, i32_w]
                             rfl
                            exact norm_ (by first | (simp only [putAll, Act.put, List.setIfInBounds_toArray, List.set_cons_zero, List.set_cons_succ]; done) | (simp only [putAll, Act.put, List.setIfInBounds_toArray, List.set_cons_zero, List.set_cons_succ]; rfl)) (hJ11_12 (v783) _ ⟨(by (with_reducible repeat (first | apply Kd.R_alloc | apply Kd.R_drewN | apply Kd.R_drew)); exact HO784.out), (by (with_reducible repeat (first | apply Kd.R_alloc | apply Kd.R_drewN | apply Kd.R_drew)); exact HO_779001.out), (bQ BK778), (bC HB)⟩)
                           ·skip
                            refine box_step ?hg (N := 8) ?hd (cs := #[.string (⟨#[]⟩ : ByteArray), .int .i64 0, .float .f64 0, .string (⟨#[]⟩ : ByteArray), .int .i64 0, .int .i64 0, .float .f64 0, .string (⟨#[]⟩ : ByteArray)]) (t := 56) ?hr ?_; (case hd => rfl); (case hg => rfl); (case hr => first | (go_simp; done) | (go_simp; rfl))
                            intro gb785 hg w21 hbox hb
                            have BK785 := Aside0.mk (hbox)
                            have GW785 := bZ HB hg
                            have GE785 := bZ HB hg
                            have NB778_785 := bL BK778 hg
                            have NB785_778 := bG BK778 hg
                            replace HO_779001 := Aside0.mk (Kd.R_below (Kd.R_elderB (by (with_reducible repeat (first | apply Kd.R_alloc | apply Kd.R_drewN | apply Kd.R_drew)); exact HO_779001.out) gb785 (Nat.le_of_eq hg.symm)) hb)
                            replace HO784 := Aside0.mk (Kd.R_below (by (with_reducible repeat (first | apply Kd.R_alloc | apply Kd.R_drewN | apply Kd.R_drew)); exact HO784.out) hb)
                            replace BK778 := bB BK778 hb
                            replace HB := bW HB hb
                            clear hb hbox hg
                            refine hK.out _ _ trivial (fun hHeld => ?_)
                            clear hK K
                            refine norm_ (a' := ?_) ?_ ?_
                            rotate_left
                            ·show Act.put _ (some 8) _ = _
                             simp only [Act.put, List.setIfInBounds_toArray, List.set_cons_zero, List.set_cons_succ, i64_w, i32_w]
                             rfl
                            exact norm_ (by first | (simp only [putAll, Act.put, List.setIfInBounds_toArray, List.set_cons_zero, List.set_cons_succ]; done) | (simp only [putAll, Act.put, List.setIfInBounds_toArray, List.set_cons_zero, List.set_cons_succ]; rfl)) (hJ11_15 (v783, gb785) _ ⟨(by (with_reducible repeat (first | apply Kd.R_alloc | apply Kd.R_drewN | apply Kd.R_drew)); exact HO784.out), (by (with_reducible repeat (first | apply Kd.R_alloc | apply Kd.R_drewN | apply Kd.R_drew)); exact Kd.R_mono HO_779001.out (fun _ hk => hk.2)), (bQ BK778), (bQ BK785), GW785.out, GE785.out, NB778_785.out, NB785_778.out, (bC HB)⟩)
                         ·skip
                          rintro v780 w20 ⟨h0_, h1_, h2_, h3_⟩
                          have n0_ : Aside0 (Kd.R (Kd.int .u8) 5 w20 w.heap.size (fun _ => True) v780 y779) := ⟨h0_⟩
                          have n1_ : Aside0 (Kd.R k56 56 w20 w.heap.size (fun _ => True) u779001 x779001_2) := ⟨h1_⟩
                          have n2_ : Aside0 (w20.heap[gb778]? = some (.cells #[.bool true, u779001, .slice none 0 0, .slice none 0 0] 26 (0, 0))) := ⟨h2_⟩
                          have n3_ : Aside0 (Below w.heap.size w w20) := ⟨h3_⟩
                          clear HO_779001
                          clear BK778
                          clear HB
                          clear h0_ h1_ h2_ h3_
                          have HO781 := n0_
                          have HO_779001 := n1_
                          have BK778 := n2_
                          have HB := n3_
                          clear n0_ n1_ n2_ n3_
                          have hHeld := trivial
                          refine norm_ (a' := ?_) ?_ ?_
                          rotate_left
                          ·simp only [putAll, Act.put, List.setIfInBounds_toArray, List.set_cons_zero, List.set_cons_succ]
                           rfl
                          refine three_ (i := 9) (j := 11) (k := 15) (Ni := some 44) (Nj := some 46) (Nk := some 8) #[true, true, true, true, true, true, true, true, true, true, true, false, false, false, false, false, false] #[true, true, true, true, true, true, true, true, true, false, true, true, false, false, false, false, false] #[true, true, true, true, true, true, true, true, true, false, true, false, false, false, false, true, false] rfl rfl rfl rfl rfl rfl (three_of HT_.out (by kernel_rfl)) (by decide) (by decide) (by decide) (fun K hK => ?_) (fun K hK => ?_) (fun K hK => ?_)
                          ·skip
                           have hcv21 := own_string (P := Try.prog) Try.underlying30 Try.underlying5 Try.underlying9 (Kd.own_of_R HO781.out)
                           refine value_ (w1 := ?_) (v := ?_) (by rfl) rfl ?_ ?_
                           rotate_left 2
                           ·go_simp
                            constructor
                            ·rfl
                            ·rfl
                           clear hcv21
                           refine hK.out _ _ trivial (fun hHeld => ?_)
                           clear hK K
                           refine norm_ (a' := ?_) ?_ ?_
                           rotate_left
                           ·show Act.put _ (some 44) _ = _
                            simp only [Act.put, List.setIfInBounds_toArray, List.set_cons_zero, List.set_cons_succ, i64_w, i32_w]
                            rfl
                           exact norm_ (by first | (simp only [putAll, Act.put, List.setIfInBounds_toArray, List.set_cons_zero, List.set_cons_succ]; done) | (simp only [putAll, Act.put, List.setIfInBounds_toArray, List.set_cons_zero, List.set_cons_succ]; rfl)) (hJ8_9 (v780) _ ⟨(by (with_reducible repeat (first | apply Kd.R_alloc | apply Kd.R_drewN | apply Kd.R_drew)); exact HO781.out), (by (with_reducible repeat (first | apply Kd.R_alloc | apply Kd.R_drewN | apply Kd.R_drew)); exact HO_779001.out), (bQ BK778), (bC HB)⟩)
                          ·skip
                           refine Kd.R_make_step (Kd.int .u8) _ 5 (by rfl) (N := 46) rfl 30 _ _ rfl a1 rfl rfl Try.underlying30 (.int .u8 0) 1 info5 rfl (by decide) (by omega) 0 (ok := fun _ => True) (okp := fun _ => True) rfl (fun _ hk => hk) trivial (of_decide_eq_true (by first | (with_reducible assumption) | assumption)) (Nat.le_trans (Nat.mul_le_mul_right _ (of_decide_eq_true (by first | (with_reducible assumption) | assumption) : a1.toNat ≤ 281474976710656)) (by omega)) (Below.refl _ _) (Nat.le_refl _) ?_
                           intro v783 w21 ho22 hb hg_ hnew_
                           clear hg_ hnew_
                           (first | rw [← Ny782.out] at ho22 | (simp only [Int.reduceToNat] at ho22; rw [← Ny782.out] at ho22))
                           have HO784 := Aside0.mk (Kd.R_lower (Kd.R_new' ho22 (Kd.R_lt (by (with_reducible repeat (first | apply Kd.R_alloc | apply Kd.R_drewN | apply Kd.R_drew)); exact HO781.out))) (below_size (bC HB)))
                           replace HO_779001 := Aside0.mk (Kd.R_below (by (with_reducible repeat (first | apply Kd.R_alloc | apply Kd.R_drewN | apply Kd.R_drew)); exact HO_779001.out) hb)
                           replace HO781 := Aside0.mk (Kd.R_elder' (by (with_reducible repeat (first | apply Kd.R_alloc | apply Kd.R_drewN | apply Kd.R_drew)); exact HO781.out) (Kd.R_base ho22) hb)
                           replace BK778 := bB BK778 hb
                           replace HB := bW HB hb
                           clear hb ho22
                           refine hK.out _ _ trivial (fun hHeld => ?_)
                           clear hK K
                           refine norm_ (a' := ?_) ?_ ?_
                           rotate_left
                           ·show Act.put _ (some 46) _ = _
                            simp only [Act.put, List.setIfInBounds_toArray, List.set_cons_zero, List.set_cons_succ, i64_w, i32_w]
                            rfl
                           exact norm_ (by first | (simp only [putAll, Act.put, List.setIfInBounds_toArray, List.set_cons_zero, List.set_cons_succ]; done) | (simp only [putAll, Act.put, List.setIfInBounds_toArray, List.set_cons_zero, List.set_cons_succ]; rfl)) (hJ8_11 (v780, v783) _ ⟨(by (with_reducible repeat (first | apply Kd.R_alloc | apply Kd.R_drewN | apply Kd.R_drew)); exact Kd.R_mono HO781.out (fun _ hk => hk.2)), (by (with_reducible repeat (first | apply Kd.R_alloc | apply Kd.R_drewN | apply Kd.R_drew)); exact Kd.R_mono HO784.out (fun _ hk => hk.2)), (by (with_reducible repeat (first | apply Kd.R_alloc | apply Kd.R_drewN | apply Kd.R_drew)); exact HO_779001.out), (bQ BK778), (bC HB)⟩)
                          ·skip
                           refine box_step ?hg (N := 8) ?hd (cs := #[.string (⟨#[]⟩ : ByteArray), .int .i64 0, .float .f64 0, .string (⟨#[]⟩ : ByteArray), .int .i64 0, .int .i64 0, .float .f64 0, .string (⟨#[]⟩ : ByteArray)]) (t := 56) ?hr ?_; (case hd => rfl); (case hg => rfl); (case hr => first | (go_simp; done) | (go_simp; rfl))
                           intro gb785 hg w21 hbox hb
                           have BK785 := Aside0.mk (hbox)
                           have GW785 := bZ HB hg
                           have GE785 := bZ HB hg
                           have NB778_785 := bL BK778 hg
                           have NB785_778 := bG BK778 hg
                           replace HO_779001 := Aside0.mk (Kd.R_below (Kd.R_elderB (by (with_reducible repeat (first | apply Kd.R_alloc | apply Kd.R_drewN | apply Kd.R_drew)); exact HO_779001.out) gb785 (Nat.le_of_eq hg.symm)) hb)
                           replace HO781 := Aside0.mk (Kd.R_below (by (with_reducible repeat (first | apply Kd.R_alloc | apply Kd.R_drewN | apply Kd.R_drew)); exact HO781.out) hb)
                           replace BK778 := bB BK778 hb
                           replace HB := bW HB hb
                           clear hb hbox hg
                           refine hK.out _ _ trivial (fun hHeld => ?_)
                           clear hK K
                           refine norm_ (a' := ?_) ?_ ?_
                           rotate_left
                           ·show Act.put _ (some 8) _ = _
                            simp only [Act.put, List.setIfInBounds_toArray, List.set_cons_zero, List.set_cons_succ, i64_w, i32_w]
                            rfl
                           exact norm_ (by first | (simp only [putAll, Act.put, List.setIfInBounds_toArray, List.set_cons_zero, List.set_cons_succ]; done) | (simp only [putAll, Act.put, List.setIfInBounds_toArray, List.set_cons_zero, List.set_cons_succ]; rfl)) (hJ8_15 (v780, gb785) _ ⟨(by (with_reducible repeat (first | apply Kd.R_alloc | apply Kd.R_drewN | apply Kd.R_drew)); exact HO781.out), (by (with_reducible repeat (first | apply Kd.R_alloc | apply Kd.R_drewN | apply Kd.R_drew)); exact Kd.R_mono HO_779001.out (fun _ hk => hk.2)), (bQ BK778), (bQ BK785), GW785.out, GE785.out, NB778_785.out, NB785_778.out, (bC HB)⟩)
                        ·skip
                         rintro ⟨v783, gb785⟩ w21 ⟨h0_, h1_, h2_, h3_, h4_, h5_, h6_, h7_, h8_⟩
                         have n0_ : Aside0 (Kd.R (Kd.int .u8) 5 w21 w.heap.size (fun _ => True) v783 y782) := ⟨h0_⟩
                         have n1_ : Aside0 (Kd.R k56 56 w21 w.heap.size (fun k_ => k_ ≠ gb785) u779001 x779001_2) := ⟨h1_⟩
                         have n2_ : Aside0 (w21.heap[gb778]? = some (.cells #[.bool true, u779001, .slice none 0 0, .slice none 0 0] 26 (0, 0))) := ⟨h2_⟩
                         have n3_ : Aside0 (w21.heap[gb785]? = some (.cells #[.string (⟨#[]⟩ : ByteArray), .int .i64 0, .float .f64 0, .string (⟨#[]⟩ : ByteArray), .int .i64 0, .int .i64 0, .float .f64 0, .string (⟨#[]⟩ : ByteArray)] 56 (0, 0))) := ⟨h3_⟩
                         have n4_ : Aside0 (w.heap.size ≤ gb785) := ⟨h4_⟩
                         have n5_ : Aside0 (w.heap.size ≤ gb785) := ⟨h5_⟩
                         have n6_ : Aside0 (gb778 ≠ gb785) := ⟨h6_⟩
                         have n7_ : Aside0 (gb785 ≠ gb778) := ⟨h7_⟩
                         have n8_ : Aside0 (Below w.heap.size w w21) := ⟨h8_⟩
                         clear HO_779001
                         clear BK778
                         clear HB
                         clear h0_ h1_ h2_ h3_ h4_ h5_ h6_ h7_ h8_
                         have HO784 := n0_
                         have HO_779001 := n1_
                         have BK778 := n2_
                         have BK785 := n3_
                         have GW785 := n4_
                         have GE785 := n5_
                         have NB778_785 := n6_
                         have NB785_778 := n7_
                         have HB := n8_
                         clear n0_ n1_ n2_ n3_ n4_ n5_ n6_ n7_ n8_
                         have hHeld := trivial
                         refine norm_ (a' := ?_) ?_ ?_
                         rotate_left
                         ·simp only [putAll, Act.put, List.setIfInBounds_toArray, List.set_cons_zero, List.set_cons_succ]
                          rfl
                         refine two_ (i := 8) (j := 12) (Ni := some 43) (Nj := some 47) #[true, true, true, true, true, true, true, true, true, false, true, true, false, false, false, true, false] #[true, true, true, true, true, true, true, true, false, false, true, true, true, false, false, true, false] rfl rfl rfl rfl (two_of HT_.out (by kernel_rfl)) (by decide) (by decide) (fun K hK => ?_) (fun K hK => ?_)
                         ·skip
                          refine Kd.R_lit_step (Kd.int .u8) _ 5 ?hg (N := 43) ?hd (xs := ([(wrap64 (97 + (wrap64 (Int.tdiv x7_2 26)))) % 256, (wrap64 (97 + (Int.tmod x7_2 26))) % 256] : List Int)) (inner := [.int .u8 ((wrap64 (97 + (wrap64 (Int.tdiv x7_2 26)))) % 256), .int .u8 ((wrap64 (97 + (Int.tmod x7_2 26))) % 256)]) (ok := fun _ => True) (okp := fun _ => True) ?hr ?hp (fun _ hk => hk) trivial (Below.refl _ _) (Nat.le_refl _) (by simp) ?_; (case hd => rfl); (case hg => rfl); (case hr => first | (go_simp; done) | (go_simp; rfl)); (case hp => exact (Reps.one (show Kd.M (Kd.int .u8) _ _ _ ((wrap64 (97 + (wrap64 (Int.tdiv x7_2 26)))) % 256) [.int .u8 ((wrap64 (97 + (wrap64 (Int.tdiv x7_2 26)))) % 256)] from rfl) (Reps.one (show Kd.M (Kd.int .u8) _ _ _ ((wrap64 (97 + (Int.tmod x7_2 26))) % 256) [.int .u8 ((wrap64 (97 + (Int.tmod x7_2 26))) % 256)] from rfl) (Reps.none _ _))))
                          intro v780 w22 ho23 hb hg_ hnew_
                          clear hg_ hnew_
                          (first | rw [← Ny779.out] at ho23 | (simp only [Int.reduceToNat] at ho23; rw [← Ny779.out] at ho23))
                          have HO781 := Aside0.mk (Kd.R_lower (Kd.R_new' ho23 (Kd.R_lt (by (with_reducible repeat (first | apply Kd.R_alloc | apply Kd.R_drewN | apply Kd.R_drew)); exact HO784.out))) (below_size (bC HB)))
                          replace HO_779001 := Aside0.mk (Kd.R_below (by (with_reducible repeat (first | apply Kd.R_alloc | apply Kd.R_drewN | apply Kd.R_drew)); exact HO_779001.out) hb)
                          replace HO784 := Aside0.mk (Kd.R_elder' (by (with_reducible repeat (first | apply Kd.R_alloc | apply Kd.R_drewN | apply Kd.R_drew)); exact HO784.out) (Kd.R_base ho23) hb)
                          replace BK778 := bB BK778 hb
                          replace BK785 := bB BK785 hb
                          replace HB := bW HB hb
                          clear hb ho23
                          refine hK.out _ _ trivial (fun hHeld => ?_)
                          clear hK K
                          refine norm_ (a' := ?_) ?_ ?_
                          rotate_left
                          ·show Act.put _ (some 43) _ = _
                           simp only [Act.put, List.setIfInBounds_toArray, List.set_cons_zero, List.set_cons_succ, i64_w, i32_w]
                           rfl
                          exact norm_ (by first | (simp only [putAll, Act.put, List.setIfInBounds_toArray, List.set_cons_zero, List.set_cons_succ]; done) | (simp only [putAll, Act.put, List.setIfInBounds_toArray, List.set_cons_zero, List.set_cons_succ]; rfl)) (hJ8_11_15 (v780, v783, gb785) _ ⟨(by (with_reducible repeat (first | apply Kd.R_alloc | apply Kd.R_drewN | apply Kd.R_drew)); exact Kd.R_mono HO781.out (fun _ hk => hk.2)), (by (with_reducible repeat (first | apply Kd.R_alloc | apply Kd.R_drewN | apply Kd.R_drew)); exact Kd.R_mono HO784.out (fun _ hk => hk.2)), (by (with_reducible repeat (first | apply Kd.R_alloc | apply Kd.R_drewN | apply Kd.R_drew)); exact HO_779001.out), (bQ BK778), (bQ BK785), GW785.out, GE785.out, NB778_785.out, NB785_778.out, (bC HB)⟩)
                         ·skip
                          have hcv22 := own_string (P := Try.prog) Try.underlying30 Try.underlying5 Try.underlying9 (Kd.own_of_R HO784.out)
                          refine value_ (w1 := ?_) (v := ?_) (by rfl) rfl ?_ ?_
                          rotate_left 2
                          ·go_simp
                           constructor
                           ·rfl
                           ·rfl
                          clear hcv22
                          refine hK.out _ _ trivial (fun hHeld => ?_)
                          clear hK K
                          refine norm_ (a' := ?_) ?_ ?_
                          rotate_left
                          ·show Act.put _ (some 47) _ = _
                           simp only [Act.put, List.setIfInBounds_toArray, List.set_cons_zero, List.set_cons_succ, i64_w, i32_w]
                           rfl
                          refine pure_ (i := 13) (N := some 48) (v := ?_) (a' := ?_) #[true, true, true, true, true, true, true, true, false, false, true, true, true, true, false, true, false] rfl rfl (any_of HT_.out (by kernel_rfl)) (fun _ _ _ h => h) (Or.inl ⟨by rfl, ?_⟩) ?_ ?_
                          rotate_left
                          ·intro w'
                           go_simp
                           with_reducible rfl
                          rotate_left
                          ·simp only [Act.put, List.setIfInBounds_toArray, List.set_cons_zero, List.set_cons_succ, i64_w, i32_w]
                           rfl
                          exact norm_ (by first | (simp only [putAll, Act.put, List.setIfInBounds_toArray, List.set_cons_zero, List.set_cons_succ]; done) | (simp only [putAll, Act.put, List.setIfInBounds_toArray, List.set_cons_zero, List.set_cons_succ]; rfl)) (hJ11_12_15 (v783, gb785) _ ⟨(by (with_reducible repeat (first | apply Kd.R_alloc | apply Kd.R_drewN | apply Kd.R_drew)); exact HO784.out), (by (with_reducible repeat (first | apply Kd.R_alloc | apply Kd.R_drewN | apply Kd.R_drew)); exact HO_779001.out), (bQ BK778), (bQ BK785), GW785.out, GE785.out, NB778_785.out, NB785_778.out, (bC HB)⟩)
                       ·skip
                        rintro v783 w21 ⟨h0_, h1_, h2_, h3_⟩
                        have n0_ : Aside0 (Kd.R (Kd.int .u8) 5 w21 w.heap.size (fun _ => True) v783 y782) := ⟨h0_⟩
                        have n1_ : Aside0 (Kd.R k56 56 w21 w.heap.size (fun _ => True) u779001 x779001_2) := ⟨h1_⟩
                        have n2_ : Aside0 (w21.heap[gb778]? = some (.cells #[.bool true, u779001, .slice none 0 0, .slice none 0 0] 26 (0, 0))) := ⟨h2_⟩
                        have n3_ : Aside0 (Below w.heap.size w w21) := ⟨h3_⟩
                        clear HO_779001
                        clear BK778
                        clear HB
                        clear h0_ h1_ h2_ h3_
                        have HO784 := n0_
                        have HO_779001 := n1_
                        have BK778 := n2_
                        have HB := n3_
                        clear n0_ n1_ n2_ n3_
                        have hHeld := trivial
                        refine norm_ (a' := ?_) ?_ ?_
                        rotate_left
                        ·simp only [putAll, Act.put, List.setIfInBounds_toArray, List.set_cons_zero, List.set_cons_succ]
                         rfl
                        refine two_ (i := 8) (j := 15) (Ni := some 43) (Nj := some 8) #[true, true, true, true, true, true, true, true, true, false, true, true, true, true, false, false, false] #[true, true, true, true, true, true, true, true, false, false, true, true, true, true, false, true, false] rfl rfl rfl rfl (two_of HT_.out (by kernel_rfl)) (by decide) (by decide) (fun K hK => ?_) (fun K hK => ?_)
                        ·skip
                         refine Kd.R_lit_step (Kd.int .u8) _ 5 ?hg (N := 43) ?hd (xs := ([(wrap64 (97 + (wrap64 (Int.tdiv x7_2 26)))) % 256, (wrap64 (97 + (Int.tmod x7_2 26))) % 256] : List Int)) (inner := [.int .u8 ((wrap64 (97 + (wrap64 (Int.tdiv x7_2 26)))) % 256), .int .u8 ((wrap64 (97 + (Int.tmod x7_2 26))) % 256)]) (ok := fun _ => True) (okp := fun _ => True) ?hr ?hp (fun _ hk => hk) trivial (Below.refl _ _) (Nat.le_refl _) (by simp) ?_; (case hd => rfl); (case hg => rfl); (case hr => first | (go_simp; done) | (go_simp; rfl)); (case hp => exact (Reps.one (show Kd.M (Kd.int .u8) _ _ _ ((wrap64 (97 + (wrap64 (Int.tdiv x7_2 26)))) % 256) [.int .u8 ((wrap64 (97 + (wrap64 (Int.tdiv x7_2 26)))) % 256)] from rfl) (Reps.one (show Kd.M (Kd.int .u8) _ _ _ ((wrap64 (97 + (Int.tmod x7_2 26))) % 256) [.int .u8 ((wrap64 (97 + (Int.tmod x7_2 26))) % 256)] from rfl) (Reps.none _ _))))
                         intro v780 w22 ho23 hb hg_ hnew_
                         clear hg_ hnew_
                         (first | rw [← Ny779.out] at ho23 | (simp only [Int.reduceToNat] at ho23; rw [← Ny779.out] at ho23))
                         have HO781 := Aside0.mk (Kd.R_lower (Kd.R_new' ho23 (Kd.R_lt (by (with_reducible repeat (first | apply Kd.R_alloc | apply Kd.R_drewN | apply Kd.R_drew)); exact HO784.out))) (below_size (bC HB)))
                         replace HO_779001 := Aside0.mk (Kd.R_below (by (with_reducible repeat (first | apply Kd.R_alloc | apply Kd.R_drewN | apply Kd.R_drew)); exact HO_779001.out) hb)
                         replace HO784 := Aside0.mk (Kd.R_elder' (by (with_reducible repeat (first | apply Kd.R_alloc | apply Kd.R_drewN | apply Kd.R_drew)); exact HO784.out) (Kd.R_base ho23) hb)
                         replace BK778 := bB BK778 hb
                         replace HB := bW HB hb
                         clear hb ho23
                         refine hK.out _ _ trivial (fun hHeld => ?_)
                         clear hK K
                         refine norm_ (a' := ?_) ?_ ?_
                         rotate_left
                         ·show Act.put _ (some 43) _ = _
                          simp only [Act.put, List.setIfInBounds_toArray, List.set_cons_zero, List.set_cons_succ, i64_w, i32_w]
                          rfl
                         exact norm_ (by first | (simp only [putAll, Act.put, List.setIfInBounds_toArray, List.set_cons_zero, List.set_cons_succ]; done) | (simp only [putAll, Act.put, List.setIfInBounds_toArray, List.set_cons_zero, List.set_cons_succ]; rfl)) (hJ8_11_12 (v780, v783) _ ⟨(by (with_reducible repeat (first | apply Kd.R_alloc | apply Kd.R_drewN | apply Kd.R_drew)); exact Kd.R_mono HO781.out (fun _ hk => hk.2)), (by (with_reducible repeat (first | apply Kd.R_alloc | apply Kd.R_drewN | apply Kd.R_drew)); exact Kd.R_mono HO784.out (fun _ hk => hk.2)), (by (with_reducible repeat (first | apply Kd.R_alloc | apply Kd.R_drewN | apply Kd.R_drew)); exact HO_779001.out), (bQ BK778), (bC HB)⟩)
                        ·skip
                         refine box_step ?hg (N := 8) ?hd (cs := #[.string (⟨#[]⟩ : ByteArray), .int .i64 0, .float .f64 0, .string (⟨#[]⟩ : ByteArray), .int .i64 0, .int .i64 0, .float .f64 0, .string (⟨#[]⟩ : ByteArray)]) (t := 56) ?hr ?_; (case hd => rfl); (case hg => rfl); (case hr => first | (go_simp; done) | (go_simp; rfl))
                         intro gb785 hg w22 hbox hb
                         have BK785 := Aside0.mk (hbox)
                         have GW785 := bZ HB hg
                         have GE785 := bZ HB hg
                         have NB778_785 := bL BK778 hg
                         have NB785_778 := bG BK778 hg
                         replace HO_779001 := Aside0.mk (Kd.R_below (Kd.R_elderB (by (with_reducible repeat (first | apply Kd.R_alloc | apply Kd.R_drewN | apply Kd.R_drew)); exact HO_779001.out) gb785 (Nat.le_of_eq hg.symm)) hb)
                         replace HO784 := Aside0.mk (Kd.R_below (by (with_reducible repeat (first | apply Kd.R_alloc | apply Kd.R_drewN | apply Kd.R_drew)); exact HO784.out) hb)
                         replace BK778 := bB BK778 hb
                         replace HB := bW HB hb
                         clear hb hbox hg
                         refine hK.out _ _ trivial (fun hHeld => ?_)
                         clear hK K
                         refine norm_ (a' := ?_) ?_ ?_
                         rotate_left
                         ·show Act.put _ (some 8) _ = _
                          simp only [Act.put, List.setIfInBounds_toArray, List.set_cons_zero, List.set_cons_succ, i64_w, i32_w]
                          rfl
                         exact norm_ (by first | (simp only [putAll, Act.put, List.setIfInBounds_toArray, List.set_cons_zero, List.set_cons_succ]; done) | (simp only [putAll, Act.put, List.setIfInBounds_toArray, List.set_cons_zero, List.set_cons_succ]; rfl)) (hJ11_12_15 (v783, gb785) _ ⟨(by (with_reducible repeat (first | apply Kd.R_alloc | apply Kd.R_drewN | apply Kd.R_drew)); exact HO784.out), (by (with_reducible repeat (first | apply Kd.R_alloc | apply Kd.R_drewN | apply Kd.R_drew)); exact Kd.R_mono HO_779001.out (fun _ hk => hk.2)), (bQ BK778), (bQ BK785), GW785.out, GE785.out, NB778_785.out, NB785_778.out, (bC HB)⟩)
                      ·skip
                       rintro ⟨v780, gb785⟩ w21 ⟨h0_, h1_, h2_, h3_, h4_, h5_, h6_, h7_, h8_⟩
                       have n0_ : Aside0 (Kd.R (Kd.int .u8) 5 w21 w.heap.size (fun _ => True) v780 y779) := ⟨h0_⟩
                       have n1_ : Aside0 (Kd.R k56 56 w21 w.heap.size (fun k_ => k_ ≠ gb785) u779001 x779001_2) := ⟨h1_⟩
                       have n2_ : Aside0 (w21.heap[gb778]? = some (.cells #[.bool true, u779001, .slice none 0 0, .slice none 0 0] 26 (0, 0))) := ⟨h2_⟩
                       have n3_ : Aside0 (w21.heap[gb785]? = some (.cells #[.string (⟨#[]⟩ : ByteArray), .int .i64 0, .float .f64 0, .string (⟨#[]⟩ : ByteArray), .int .i64 0, .int .i64 0, .float .f64 0, .string (⟨#[]⟩ : ByteArray)] 56 (0, 0))) := ⟨h3_⟩
                       have n4_ : Aside0 (w.heap.size ≤ gb785) := ⟨h4_⟩
                       have n5_ : Aside0 (w.heap.size ≤ gb785) := ⟨h5_⟩
                       have n6_ : Aside0 (gb778 ≠ gb785) := ⟨h6_⟩
                       have n7_ : Aside0 (gb785 ≠ gb778) := ⟨h7_⟩
                       have n8_ : Aside0 (Below w.heap.size w w21) := ⟨h8_⟩
                       clear HO_779001
                       clear BK778
                       clear HB
                       clear h0_ h1_ h2_ h3_ h4_ h5_ h6_ h7_ h8_
                       have HO781 := n0_
                       have HO_779001 := n1_
                       have BK778 := n2_
                       have BK785 := n3_
                       have GW785 := n4_
                       have GE785 := n5_
                       have NB778_785 := n6_
                       have NB785_778 := n7_
                       have HB := n8_
                       clear n0_ n1_ n2_ n3_ n4_ n5_ n6_ n7_ n8_
                       have hHeld := trivial
                       refine norm_ (a' := ?_) ?_ ?_
                       rotate_left
                       ·simp only [putAll, Act.put, List.setIfInBounds_toArray, List.set_cons_zero, List.set_cons_succ]
                        rfl
                       refine two_ (i := 9) (j := 11) (Ni := some 44) (Nj := some 46) #[true, true, true, true, true, true, true, true, true, true, true, false, false, false, false, true, false] #[true, true, true, true, true, true, true, true, true, false, true, true, false, false, false, true, false] rfl rfl rfl rfl (two_of HT_.out (by kernel_rfl)) (by decide) (by decide) (fun K hK => ?_) (fun K hK => ?_)
                       ·skip
                        have hcv22 := own_string (P := Try.prog) Try.underlying30 Try.underlying5 Try.underlying9 (Kd.own_of_R HO781.out)
                        refine value_ (w1 := ?_) (v := ?_) (by rfl) rfl ?_ ?_
                        rotate_left 2
                        ·go_simp
                         constructor
                         ·rfl
                         ·rfl
                        clear hcv22
                        refine hK.out _ _ trivial (fun hHeld => ?_)
                        clear hK K
                        refine norm_ (a' := ?_) ?_ ?_
                        rotate_left
                        ·show Act.put _ (some 44) _ = _
                         simp only [Act.put, List.setIfInBounds_toArray, List.set_cons_zero, List.set_cons_succ, i64_w, i32_w]
                         rfl
                        exact norm_ (by first | (simp only [putAll, Act.put, List.setIfInBounds_toArray, List.set_cons_zero, List.set_cons_succ]; done) | (simp only [putAll, Act.put, List.setIfInBounds_toArray, List.set_cons_zero, List.set_cons_succ]; rfl)) (hJ8_9_15 (v780, gb785) _ ⟨(by (with_reducible repeat (first | apply Kd.R_alloc | apply Kd.R_drewN | apply Kd.R_drew)); exact HO781.out), (by (with_reducible repeat (first | apply Kd.R_alloc | apply Kd.R_drewN | apply Kd.R_drew)); exact HO_779001.out), (bQ BK778), (bQ BK785), GW785.out, GE785.out, NB778_785.out, NB785_778.out, (bC HB)⟩)
                       ·skip
                        refine Kd.R_make_step (Kd.int .u8) _ 5 (by rfl) (N := 46) rfl 30 _ _ rfl a1 rfl rfl Try.underlying30 (.int .u8 0) 1 info5 rfl (by decide) (by omega) 0 (ok := fun _ => True) (okp := fun _ => True) rfl (fun _ hk => hk) trivial (of_decide_eq_true (by first | (with_reducible assumption) | assumption)) (Nat.le_trans (Nat.mul_le_mul_right _ (of_decide_eq_true (by first | (with_reducible assumption) | assumption) : a1.toNat ≤ 281474976710656)) (by omega)) (Below.refl _ _) (Nat.le_refl _) ?_
                        intro v783 w22 ho23 hb hg_ hnew_
                        clear hg_ hnew_
                        (first | rw [← Ny782.out] at ho23 | (simp only [Int.reduceToNat] at ho23; rw [← Ny782.out] at ho23))
                        have HO784 := Aside0.mk (Kd.R_lower (Kd.R_new' ho23 (Kd.R_lt (by (with_reducible repeat (first | apply Kd.R_alloc | apply Kd.R_drewN | apply Kd.R_drew)); exact HO781.out))) (below_size (bC HB)))
                        replace HO_779001 := Aside0.mk (Kd.R_below (by (with_reducible repeat (first | apply Kd.R_alloc | apply Kd.R_drewN | apply Kd.R_drew)); exact HO_779001.out) hb)
                        replace HO781 := Aside0.mk (Kd.R_elder' (by (with_reducible repeat (first | apply Kd.R_alloc | apply Kd.R_drewN | apply Kd.R_drew)); exact HO781.out) (Kd.R_base ho23) hb)
                        replace BK778 := bB BK778 hb
                        replace BK785 := bB BK785 hb
                        replace HB := bW HB hb
                        clear hb ho23
                        refine hK.out _ _ trivial (fun hHeld => ?_)
                        clear hK K
                        refine norm_ (a' := ?_) ?_ ?_
                        rotate_left
                        ·show Act.put _ (some 46) _ = _
                         simp only [Act.put, List.setIfInBounds_toArray, List.set_cons_zero, List.set_cons_succ, i64_w, i32_w]
                         rfl
                        exact norm_ (by first | (simp only [putAll, Act.put, List.setIfInBounds_toArray, List.set_cons_zero, List.set_cons_succ]; done) | (simp only [putAll, Act.put, List.setIfInBounds_toArray, List.set_cons_zero, List.set_cons_succ]; rfl)) (hJ8_11_15 (v780, v783, gb785) _ ⟨(by (with_reducible repeat (first | apply Kd.R_alloc | apply Kd.R_drewN | apply Kd.R_drew)); exact Kd.R_mono HO781.out (fun _ hk => hk.2)), (by (with_reducible repeat (first | apply Kd.R_alloc | apply Kd.R_drewN | apply Kd.R_drew)); exact Kd.R_mono HO784.out (fun _ hk => hk.2)), (by (with_reducible repeat (first | apply Kd.R_alloc | apply Kd.R_drewN | apply Kd.R_drew)); exact HO_779001.out), (bQ BK778), (bQ BK785), GW785.out, GE785.out, NB778_785.out, NB785_778.out, (bC HB)⟩)
                     ·skip
                      rintro ⟨v780, v783⟩ w22 ⟨h0_, h1_, h2_, h3_, h4_⟩
                      have n0_ : Aside0 (Kd.R (Kd.int .u8) 5 w22 w.heap.size (fun k_ => some k_ ≠ (v783 : Value).ownBlock) v780 y779) := ⟨h0_⟩
                      have n1_ : Aside0 (Kd.R (Kd.int .u8) 5 w22 w.heap.size (fun k_ => some k_ ≠ (v780 : Value).ownBlock) v783 y782) := ⟨h1_⟩
                      have n2_ : Aside0 (Kd.R k56 56 w22 w.heap.size (fun _ => True) u779001 x779001_2) := ⟨h2_⟩
                      have n3_ : Aside0 (w22.heap[gb778]? = some (.cells #[.bool true, u779001, .slice none 0 0, .slice none 0 0] 26 (0, 0))) := ⟨h3_⟩
                      have n4_ : Aside0 (Below w.heap.size w w22) := ⟨h4_⟩
                      clear HO_779001
                      clear BK778
                      clear HB
                      clear h0_ h1_ h2_ h3_ h4_
                      have HO781 := n0_
                      have HO784 := n1_
                      have HO_779001 := n2_
                      have BK778 := n3_
                      have HB := n4_
                      clear n0_ n1_ n2_ n3_ n4_
                      have hHeld := trivial
                      refine norm_ (a' := ?_) ?_ ?_
                      rotate_left
                      ·simp only [putAll, Act.put, List.setIfInBounds_toArray, List.set_cons_zero, List.set_cons_succ]
                       rfl
                      refine three_ (i := 9) (j := 12) (k := 15) (Ni := some 44) (Nj := some 47) (Nk := some 8) #[true, true, true, true, true, true, true, true, true, true, true, true, false, false, false, false, false] #[true, true, true, true, true, true, true, true, true, false, true, true, true, false, false, false, false] #[true, true, true, true, true, true, true, true, true, false, true, true, false, false, false, true, false] rfl rfl rfl rfl rfl rfl (three_of HT_.out (by kernel_rfl)) (by decide) (by decide) (by decide) (fun K hK => ?_) (fun K hK => ?_) (fun K hK => ?_)
                      ·skip
                       have hcv23 := own_string (P := Try.prog) Try.underlying30 Try.underlying5 Try.underlying9 (Kd.own_of_R HO781.out)
                       refine value_ (w1 := ?_) (v := ?_) (by rfl) rfl ?_ ?_
                       rotate_left 2
                       ·go_simp
                        constructor
                        ·rfl
                        ·rfl
                       clear hcv23
                       refine hK.out _ _ trivial (fun hHeld => ?_)
                       clear hK K
                       refine norm_ (a' := ?_) ?_ ?_
                       rotate_left
                       ·show Act.put _ (some 44) _ = _
                        simp only [Act.put, List.setIfInBounds_toArray, List.set_cons_zero, List.set_cons_succ, i64_w, i32_w]
                        rfl
                       exact norm_ (by first | (simp only [putAll, Act.put, List.setIfInBounds_toArray, List.set_cons_zero, List.set_cons_succ]; done) | (simp only [putAll, Act.put, List.setIfInBounds_toArray, List.set_cons_zero, List.set_cons_succ]; rfl)) (hJ8_9_11 (v780, v783) _ ⟨(by (with_reducible repeat (first | apply Kd.R_alloc | apply Kd.R_drewN | apply Kd.R_drew)); exact HO781.out), (by (with_reducible repeat (first | apply Kd.R_alloc | apply Kd.R_drewN | apply Kd.R_drew)); exact HO784.out), (by (with_reducible repeat (first | apply Kd.R_alloc | apply Kd.R_drewN | apply Kd.R_drew)); exact HO_779001.out), (bQ BK778), (bC HB)⟩)
                      ·skip
                       have hcv23 := own_string (P := Try.prog) Try.underlying30 Try.underlying5 Try.underlying9 (Kd.own_of_R HO784.out)
                       refine value_ (w1 := ?_) (v := ?_) (by rfl) rfl ?_ ?_
                       rotate_left 2
                       ·go_simp
                        constructor
                        ·rfl
                        ·rfl
                       clear hcv23
                       refine hK.out _ _ trivial (fun hHeld => ?_)
                       clear hK K
                       refine norm_ (a' := ?_) ?_ ?_
                       rotate_left
                       ·show Act.put _ (some 47) _ = _
                        simp only [Act.put, List.setIfInBounds_toArray, List.set_cons_zero, List.set_cons_succ, i64_w, i32_w]
                        rfl
                       refine pure_ (i := 13) (N := some 48) (v := ?_) (a' := ?_) #[true, true, true, true, true, true, true, true, true, false, true, true, true, true, false, false, false] rfl rfl (any_of HT_.out (by kernel_rfl)) (fun _ _ _ h => h) (Or.inl ⟨by rfl, ?_⟩) ?_ ?_
                       rotate_left
                       ·intro w'
                        go_simp
                        with_reducible rfl
                       rotate_left
                       ·simp only [Act.put, List.setIfInBounds_toArray, List.set_cons_zero, List.set_cons_succ, i64_w, i32_w]
                        rfl
                       exact norm_ (by first | (simp only [putAll, Act.put, List.setIfInBounds_toArray, List.set_cons_zero, List.set_cons_succ]; done) | (simp only [putAll, Act.put, List.setIfInBounds_toArray, List.set_cons_zero, List.set_cons_succ]; rfl)) (hJ8_11_12 (v780, v783) _ ⟨(by (with_reducible repeat (first | apply Kd.R_alloc | apply Kd.R_drewN | apply Kd.R_drew)); exact HO781.out), (by (with_reducible repeat (first | apply Kd.R_alloc | apply Kd.R_drewN | apply Kd.R_drew)); exact HO784.out), (by (with_reducible repeat (first | apply Kd.R_alloc | apply Kd.R_drewN | apply Kd.R_drew)); exact HO_779001.out), (bQ BK778), (bC HB)⟩)
                      ·skip
                       refine box_step ?hg (N := 8) ?hd (cs := #[.string (⟨#[]⟩ : ByteArray), .int .i64 0, .float .f64 0, .string (⟨#[]⟩ : ByteArray), .int .i64 0, .int .i64 0, .float .f64 0, .string (⟨#[]⟩ : ByteArray)]) (t := 56) ?hr ?_; (case hd => rfl); (case hg => rfl); (case hr => first | (go_simp; done) | (go_simp; rfl))
                       intro gb785 hg w23 hbox hb
                       have BK785 := Aside0.mk (hbox)
                       have GW785 := bZ HB hg
                       have GE785 := bZ HB hg
                       have NB778_785 := bL BK778 hg
                       have NB785_778 := bG BK778 hg
                       replace HO_779001 := Aside0.mk (Kd.R_below (Kd.R_elderB (by (with_reducible repeat (first | apply Kd.R_alloc | apply Kd.R_drewN | apply Kd.R_drew)); exact HO_779001.out) gb785 (Nat.le_of_eq hg.symm)) hb)
                       replace HO781 := Aside0.mk (Kd.R_below (by (with_reducible repeat (first | apply Kd.R_alloc | apply Kd.R_drewN | apply Kd.R_drew)); exact HO781.out) hb)
                       replace HO784 := Aside0.mk (Kd.R_below (by (with_reducible repeat (first | apply Kd.R_alloc | apply Kd.R_drewN | apply Kd.R_drew)); exact HO784.out) hb)
                       replace BK778 := bB BK778 hb
                       replace HB := bW HB hb
                       clear hb hbox hg
                       refine hK.out _ _ trivial (fun hHeld => ?_)
                       clear hK K
                       refine norm_ (a' := ?_) ?_ ?_
                       rotate_left
                       ·show Act.put _ (some 8) _ = _
                        simp only [Act.put, List.setIfInBounds_toArray, List.set_cons_zero, List.set_cons_succ, i64_w, i32_w]
                        rfl
                       exact norm_ (by first | (simp only [putAll, Act.put, List.setIfInBounds_toArray, List.set_cons_zero, List.set_cons_succ]; done) | (simp only [putAll, Act.put, List.setIfInBounds_toArray, List.set_cons_zero, List.set_cons_succ]; rfl)) (hJ8_11_15 (v780, v783, gb785) _ ⟨(by (with_reducible repeat (first | apply Kd.R_alloc | apply Kd.R_drewN | apply Kd.R_drew)); exact HO781.out), (by (with_reducible repeat (first | apply Kd.R_alloc | apply Kd.R_drewN | apply Kd.R_drew)); exact HO784.out), (by (with_reducible repeat (first | apply Kd.R_alloc | apply Kd.R_drewN | apply Kd.R_drew)); exact Kd.R_mono HO_779001.out (fun _ hk => hk.2)), (bQ BK778), (bQ BK785), GW785.out, GE785.out, NB778_785.out, NB785_778.out, (bC HB)⟩)
                    ·skip
                     rintro v780 w21 ⟨h0_, h1_, h2_, h3_⟩
                     have n0_ : Aside0 (Kd.R (Kd.int .u8) 5 w21 w.heap.size (fun _ => True) v780 y779) := ⟨h0_⟩
                     have n1_ : Aside0 (Kd.R k56 56 w21 w.heap.size (fun _ => True) u779001 x779001_2) := ⟨h1_⟩
                     have n2_ : Aside0 (w21.heap[gb778]? = some (.cells #[.bool true, u779001, .slice none 0 0, .slice none 0 0] 26 (0, 0))) := ⟨h2_⟩
                     have n3_ : Aside0 (Below w.heap.size w w21) := ⟨h3_⟩
                     clear HO_779001
                     clear BK778
                     clear HB
                     clear h0_ h1_ h2_ h3_
                     have HO781 := n0_
                     have HO_779001 := n1_
                     have BK778 := n2_
                     have HB := n3_
                     clear n0_ n1_ n2_ n3_
                     have hHeld := trivial
                     refine norm_ (a' := ?_) ?_ ?_
                     rotate_left
                     ·simp only [putAll, Act.put, List.setIfInBounds_toArray, List.set_cons_zero, List.set_cons_succ]
                      rfl
                     refine two_ (i := 11) (j := 15) (Ni := some 46) (Nj := some 8) #[true, true, true, true, true, true, true, true, true, true, true, true, false, false, false, false, false] #[true, true, true, true, true, true, true, true, true, true, true, false, false, false, false, true, false] rfl rfl rfl rfl (two_of HT_.out (by kernel_rfl)) (by decide) (by decide) (fun K hK => ?_) (fun K hK => ?_)
                     ·skip
                      refine Kd.R_make_step (Kd.int .u8) _ 5 (by rfl) (N := 46) rfl 30 _ _ rfl a1 rfl rfl Try.underlying30 (.int .u8 0) 1 info5 rfl (by decide) (by omega) 0 (ok := fun _ => True) (okp := fun _ => True) rfl (fun _ hk => hk) trivial (of_decide_eq_true (by first | (with_reducible assumption) | assumption)) (Nat.le_trans (Nat.mul_le_mul_right _ (of_decide_eq_true (by first | (with_reducible assumption) | assumption) : a1.toNat ≤ 281474976710656)) (by omega)) (Below.refl _ _) (Nat.le_refl _) ?_
                      intro v783 w22 ho23 hb hg_ hnew_
                      clear hg_ hnew_
                      (first | rw [← Ny782.out] at ho23 | (simp only [Int.reduceToNat] at ho23; rw [← Ny782.out] at ho23))
                      have HO784 := Aside0.mk (Kd.R_lower (Kd.R_new' ho23 (Kd.R_lt (by (with_reducible repeat (first | apply Kd.R_alloc | apply Kd.R_drewN | apply Kd.R_drew)); exact HO781.out))) (below_size (bC HB)))
                      replace HO_779001 := Aside0.mk (Kd.R_below (by (with_reducible repeat (first | apply Kd.R_alloc | apply Kd.R_drewN | apply Kd.R_drew)); exact HO_779001.out) hb)
                      replace HO781 := Aside0.mk (Kd.R_elder' (by (with_reducible repeat (first | apply Kd.R_alloc | apply Kd.R_drewN | apply Kd.R_drew)); exact HO781.out) (Kd.R_base ho23) hb)
                      replace BK778 := bB BK778 hb
                      replace HB := bW HB hb
                      clear hb ho23
                      refine hK.out _ _ trivial (fun hHeld => ?_)
                      clear hK K
                      refine norm_ (a' := ?_) ?_ ?_
                      rotate_left
                      ·show Act.put _ (some 46) _ = _
                       simp only [Act.put, List.setIfInBounds_toArray, List.set_cons_zero, List.set_cons_succ, i64_w, i32_w]
                       rfl
                      exact norm_ (by first | (simp only [putAll, Act.put, List.setIfInBounds_toArray, List.set_cons_zero, List.set_cons_succ]; done) | (simp only [putAll, Act.put, List.setIfInBounds_toArray, List.set_cons_zero, List.set_cons_succ]; rfl)) (hJ8_9_11 (v780, v783) _ ⟨(by (with_reducible repeat (first | apply Kd.R_alloc | apply Kd.R_drewN | apply Kd.R_drew)); exact Kd.R_mono HO781.out (fun _ hk => hk.2)), (by (with_reducible repeat (first | apply Kd.R_alloc | apply Kd.R_drewN | apply Kd.R_drew)); exact Kd.R_mono HO784.out (fun _ hk => hk.2)), (by (with_reducible repeat (first | apply Kd.R_alloc | apply Kd.R_drewN | apply Kd.R_drew)); exact HO_779001.out), (bQ BK778), (bC HB)⟩)
                     ·skip
                      refine box_step ?hg (N := 8) ?hd (cs := #[.string (⟨#[]⟩ : ByteArray), .int .i64 0, .float .f64 0, .string (⟨#[]⟩ : ByteArray), .int .i64 0, .int .i64 0, .float .f64 0, .string (⟨#[]⟩ : ByteArray)]) (t := 56) ?hr ?_; (case hd => rfl); (case hg => rfl); (case hr => first | (go_simp; done) | (go_simp; rfl))
                      intro gb785 hg w22 hbox hb
                      have BK785 := Aside0.mk (hbox)
                      have GW785 := bZ HB hg
                      have GE785 := bZ HB hg
                      have NB778_785 := bL BK778 hg
                      have NB785_778 := bG BK778 hg
                      replace HO_779001 := Aside0.mk (Kd.R_below (Kd.R_elderB (by (with_reducible repeat (first | apply Kd.R_alloc | apply Kd.R_drewN | apply Kd.R_drew)); exact HO_779001.out) gb785 (Nat.le_of_eq hg.symm)) hb)
                      replace HO781 := Aside0.mk (Kd.R_below (by (with_reducible repeat (first | apply Kd.R_alloc | apply Kd.R_drewN | apply Kd.R_drew)); exact HO781.out) hb)
                      replace BK778 := bB BK778 hb
                      replace HB := bW HB hb
                      clear hb hbox hg
                      refine hK.out _ _ trivial (fun hHeld => ?_)
                      clear hK K
                      refine norm_ (a' := ?_) ?_ ?_
                      rotate_left
                      ·show Act.put _ (some 8) _ = _
                       simp only [Act.put, List.setIfInBounds_toArray, List.set_cons_zero, List.set_cons_succ, i64_w, i32_w]
                       rfl
                      exact norm_ (by first | (simp only [putAll, Act.put, List.setIfInBounds_toArray, List.set_cons_zero, List.set_cons_succ]; done) | (simp only [putAll, Act.put, List.setIfInBounds_toArray, List.set_cons_zero, List.set_cons_succ]; rfl)) (hJ8_9_15 (v780, gb785) _ ⟨(by (with_reducible repeat (first | apply Kd.R_alloc | apply Kd.R_drewN | apply Kd.R_drew)); exact HO781.out), (by (with_reducible repeat (first | apply Kd.R_alloc | apply Kd.R_drewN | apply Kd.R_drew)); exact Kd.R_mono HO_779001.out (fun _ hk => hk.2)), (bQ BK778), (bQ BK785), GW785.out, GE785.out, NB778_785.out, NB785_778.out, (bC HB)⟩)
                   ·skip
                    rintro ⟨v783, gb785⟩ w22 ⟨h0_, h1_, h2_, h3_, h4_, h5_, h6_, h7_, h8_⟩
                    have n0_ : Aside0 (Kd.R (Kd.int .u8) 5 w22 w.heap.size (fun _ => True) v783 y782) := ⟨h0_⟩
                    have n1_ : Aside0 (Kd.R k56 56 w22 w.heap.size (fun k_ => k_ ≠ gb785) u779001 x779001_2) := ⟨h1_⟩
                    have n2_ : Aside0 (w22.heap[gb778]? = some (.cells #[.bool true, u779001, .slice none 0 0, .slice none 0 0] 26 (0, 0))) := ⟨h2_⟩
                    have n3_ : Aside0 (w22.heap[gb785]? = some (.cells #[.string (⟨#[]⟩ : ByteArray), .int .i64 0, .float .f64 0, .string (⟨#[]⟩ : ByteArray), .int .i64 0, .int .i64 0, .float .f64 0, .string (⟨#[]⟩ : ByteArray)] 56 (0, 0))) := ⟨h3_⟩
                    have n4_ : Aside0 (w.heap.size ≤ gb785) := ⟨h4_⟩
                    have n5_ : Aside0 (w.heap.size ≤ gb785) := ⟨h5_⟩
                    have n6_ : Aside0 (gb778 ≠ gb785) := ⟨h6_⟩
                    have n7_ : Aside0 (gb785 ≠ gb778) := ⟨h7_⟩
                    have n8_ : Aside0 (Below w.heap.size w w22) := ⟨h8_⟩
                    clear HO_779001
                    clear BK778
                    clear HB
                    clear h0_ h1_ h2_ h3_ h4_ h5_ h6_ h7_ h8_
                    have HO784 := n0_
                    have HO_779001 := n1_
                    have BK778 := n2_
                    have BK785 := n3_
                    have GW785 := n4_
                    have GE785 := n5_
                    have NB778_785 := n6_
                    have NB785_778 := n7_
                    have HB := n8_
                    clear n0_ n1_ n2_ n3_ n4_ n5_ n6_ n7_ n8_
                    have hHeld := trivial
                    refine norm_ (a' := ?_) ?_ ?_
                    rotate_left
                    ·simp only [putAll, Act.put, List.setIfInBounds_toArray, List.set_cons_zero, List.set_cons_succ]
                     rfl
                    refine one_ (i := 8) (N := some 43) #[true, true, true, true, true, true, true, true, true, false, true, true, true, true, false, true, false] rfl rfl (one_of HT_.out (by kernel_rfl)) (by decide) (fun K hK => ?_)
                    refine Kd.R_lit_step (Kd.int .u8) _ 5 ?hg (N := 43) ?hd (xs := ([(wrap64 (97 + (wrap64 (Int.tdiv x7_2 26)))) % 256, (wrap64 (97 + (Int.tmod x7_2 26))) % 256] : List Int)) (inner := [.int .u8 ((wrap64 (97 + (wrap64 (Int.tdiv x7_2 26)))) % 256), .int .u8 ((wrap64 (97 + (Int.tmod x7_2 26))) % 256)]) (ok := fun _ => True) (okp := fun _ => True) ?hr ?hp (fun _ hk => hk) trivial (Below.refl _ _) (Nat.le_refl _) (by simp) ?_; (case hd => rfl); (case hg => rfl); (case hr => first | (go_simp; done) | (go_simp; rfl)); (case hp => exact (Reps.one (show Kd.M (Kd.int .u8) _ _ _ ((wrap64 (97 + (wrap64 (Int.tdiv x7_2 26)))) % 256) [.int .u8 ((wrap64 (97 + (wrap64 (Int.tdiv x7_2 26)))) % 256)] from rfl) (Reps.one (show Kd.M (Kd.int .u8) _ _ _ ((wrap64 (97 + (Int.tmod x7_2 26))) % 256) [.int .u8 ((wrap64 (97 + (Int.tmod x7_2 26))) % 256)] from rfl) (Reps.none _ _))))
                    intro v780 w23 ho24 hb hg_ hnew_
                    clear hg_ hnew_
                    (first | rw [← Ny779.out] at ho24 | (simp only [Int.reduceToNat] at ho24; rw [← Ny779.out] at ho24))
                    have HO781 := Aside0.mk (Kd.R_lower (Kd.R_new' ho24 (Kd.R_lt (by (with_reducible repeat (first | apply Kd.R_alloc | apply Kd.R_drewN | apply Kd.R_drew)); exact HO784.out))) (below_size (bC HB)))
                    replace HO_779001 := Aside0.mk (Kd.R_below (by (with_reducible repeat (first | apply Kd.R_alloc | apply Kd.R_drewN | apply Kd.R_drew)); exact HO_779001.out) hb)
                    replace HO784 := Aside0.mk (Kd.R_elder' (by (with_reducible repeat (first | apply Kd.R_alloc | apply Kd.R_drewN | apply Kd.R_drew)); exact HO784.out) (Kd.R_base ho24) hb)
                    replace BK778 := bB BK778 hb
                    replace BK785 := bB BK785 hb
                    replace HB := bW HB hb
                    clear hb ho24
                    refine hK.out _ _ trivial (fun hHeld => ?_)
                    clear hK K
                    refine norm_ (a' := ?_) ?_ ?_
                    rotate_left
                    ·show Act.put _ (some 43) _ = _
                     simp only [Act.put, List.setIfInBounds_toArray, List.set_cons_zero, List.set_cons_succ, i64_w, i32_w]
                     rfl
                    exact norm_ (by first | (simp only [putAll, Act.put, List.setIfInBounds_toArray, List.set_cons_zero, List.set_cons_succ]; done) | (simp only [putAll, Act.put, List.setIfInBounds_toArray, List.set_cons_zero, List.set_cons_succ]; rfl)) (hJ8_11_12_15 (v780, v783, gb785) _ ⟨(by (with_reducible repeat (first | apply Kd.R_alloc | apply Kd.R_drewN | apply Kd.R_drew)); exact Kd.R_mono HO781.out (fun _ hk => hk.2)), (by (with_reducible repeat (first | apply Kd.R_alloc | apply Kd.R_drewN | apply Kd.R_drew)); exact Kd.R_mono HO784.out (fun _ hk => hk.2)), (by (with_reducible repeat (first | apply Kd.R_alloc | apply Kd.R_drewN | apply Kd.R_drew)); exact HO_779001.out), (bQ BK778), (bQ BK785), GW785.out, GE785.out, NB778_785.out, NB785_778.out, (bC HB)⟩)
                  ·skip
                   rintro ⟨v780, v783, gb785⟩ w23 ⟨h0_, h1_, h2_, h3_, h4_, h5_, h6_, h7_, h8_, h9_⟩
                   have n0_ : Aside0 (Kd.R (Kd.int .u8) 5 w23 w.heap.size (fun k_ => some k_ ≠ (v783 : Value).ownBlock) v780 y779) := ⟨h0_⟩
                   have n1_ : Aside0 (Kd.R (Kd.int .u8) 5 w23 w.heap.size (fun k_ => some k_ ≠ (v780 : Value).ownBlock) v783 y782) := ⟨h1_⟩
                   have n2_ : Aside0 (Kd.R k56 56 w23 w.heap.size (fun k_ => k_ ≠ gb785) u779001 x779001_2) := ⟨h2_⟩
                   have n3_ : Aside0 (w23.heap[gb778]? = some (.cells #[.bool true, u779001, .slice none 0 0, .slice none 0 0] 26 (0, 0))) := ⟨h3_⟩
                   have n4_ : Aside0 (w23.heap[gb785]? = some (.cells #[.string (⟨#[]⟩ : ByteArray), .int .i64 0, .float .f64 0, .string (⟨#[]⟩ : ByteArray), .int .i64 0, .int .i64 0, .float .f64 0, .string (⟨#[]⟩ : ByteArray)] 56 (0, 0))) := ⟨h4_⟩
                   have n5_ : Aside0 (w.heap.size ≤ gb785) := ⟨h5_⟩
                   have n6_ : Aside0 (w.heap.size ≤ gb785) := ⟨h6_⟩
                   have n7_ : Aside0 (gb778 ≠ gb785) := ⟨h7_⟩
                   have n8_ : Aside0 (gb785 ≠ gb778) := ⟨h8_⟩
                   have n9_ : Aside0 (Below w.heap.size w w23) := ⟨h9_⟩
                   clear HO_779001
                   clear BK778
                   clear HB
                   clear h0_ h1_ h2_ h3_ h4_ h5_ h6_ h7_ h8_ h9_
                   have HO781 := n0_
                   have HO784 := n1_
                   have HO_779001 := n2_
                   have BK778 := n3_
                   have BK785 := n4_
                   have GW785 := n5_
                   have GE785 := n6_
                   have NB778_785 := n7_
                   have NB785_778 := n8_
                   have HB := n9_
                   clear n0_ n1_ n2_ n3_ n4_ n5_ n6_ n7_ n8_ n9_
                   have hHeld := trivial
                   refine norm_ (a' := ?_) ?_ ?_
                   rotate_left
                   ·simp only [putAll, Act.put, List.setIfInBounds_toArray, List.set_cons_zero, List.set_cons_succ]
                    rfl
                   refine two_ (i := 9) (j := 12) (Ni := some 44) (Nj := some 47) #[true, true, true, true, true, true, true, true, true, true, true, true, false, false, false, true, false] #[true, true, true, true, true, true, true, true, true, false, true, true, true, false, false, true, false] rfl rfl rfl rfl (two_of HT_.out (by kernel_rfl)) (by decide) (by decide) (fun K hK => ?_) (fun K hK => ?_)
                   ·skip
                    have hcv24 := own_string (P := Try.prog) Try.underlying30 Try.underlying5 Try.underlying9 (Kd.own_of_R HO781.out)
                    refine value_ (w1 := ?_) (v := ?_) (by rfl) rfl ?_ ?_
                    rotate_left 2
                    ·go_simp
                     constructor
                     ·rfl
                     ·rfl
                    clear hcv24
                    refine hK.out _ _ trivial (fun hHeld => ?_)
                    clear hK K
                    refine norm_ (a' := ?_) ?_ ?_
                    rotate_left
                    ·show Act.put _ (some 44) _ = _
                     simp only [Act.put, List.setIfInBounds_toArray, List.set_cons_zero, List.set_cons_succ, i64_w, i32_w]
                     rfl
                    exact norm_ (by first | (simp only [putAll, Act.put, List.setIfInBounds_toArray, List.set_cons_zero, List.set_cons_succ]; done) | (simp only [putAll, Act.put, List.setIfInBounds_toArray, List.set_cons_zero, List.set_cons_succ]; rfl)) (hJ8_9_11_15 (v780, v783, gb785) _ ⟨(by (with_reducible repeat (first | apply Kd.R_alloc | apply Kd.R_drewN | apply Kd.R_drew)); exact HO781.out), (by (with_reducible repeat (first | apply Kd.R_alloc | apply Kd.R_drewN | apply Kd.R_drew)); exact HO784.out), (by (with_reducible repeat (first | apply Kd.R_alloc | apply Kd.R_drewN | apply Kd.R_drew)); exact HO_779001.out), (bQ BK778), (bQ BK785), GW785.out, GE785.out, NB778_785.out, NB785_778.out, (bC HB)⟩)
                   ·skip
                    have hcv24 := own_string (P := Try.prog) Try.underlying30 Try.underlying5 Try.underlying9 (Kd.own_of_R HO784.out)
                    refine value_ (w1 := ?_) (v := ?_) (by rfl) rfl ?_ ?_
                    rotate_left 2
                    ·go_simp
                     constructor
                     ·rfl
                     ·rfl
                    clear hcv24
                    refine hK.out _ _ trivial (fun hHeld => ?_)
                    clear hK K
                    refine norm_ (a' := ?_) ?_ ?_
                    rotate_left
                    ·show Act.put _ (some 47) _ = _
                     simp only [Act.put, List.setIfInBounds_toArray, List.set_cons_zero, List.set_cons_succ, i64_w, i32_w]
                     rfl
                    refine pure_ (i := 13) (N := some 48) (v := ?_) (a' := ?_) #[true, true, true, true, true, true, true, true, true, false, true, true, true, true, false, true, false] rfl rfl (any_of HT_.out (by kernel_rfl)) (fun _ _ _ h => h) (Or.inl ⟨by rfl, ?_⟩) ?_ ?_
                    rotate_left
                    ·intro w'
                     go_simp
                     with_reducible rfl
                    rotate_left
                    ·simp only [Act.put, List.setIfInBounds_toArray, List.set_cons_zero, List.set_cons_succ, i64_w, i32_w]
                     rfl
                    exact norm_ (by first | (simp only [putAll, Act.put, List.setIfInBounds_toArray, List.set_cons_zero, List.set_cons_succ]; done) | (simp only [putAll, Act.put, List.setIfInBounds_toArray, List.set_cons_zero, List.set_cons_succ]; rfl)) (hJ8_11_12_15 (v780, v783, gb785) _ ⟨(by (with_reducible repeat (first | apply Kd.R_alloc | apply Kd.R_drewN | apply Kd.R_drew)); exact HO781.out), (by (with_reducible repeat (first | apply Kd.R_alloc | apply Kd.R_drewN | apply Kd.R_drew)); exact HO784.out), (by (with_reducible repeat (first | apply Kd.R_alloc | apply Kd.R_drewN | apply Kd.R_drew)); exact HO_779001.out), (bQ BK778), (bQ BK785), GW785.out, GE785.out, NB778_785.out, NB785_778.out, (bC HB)⟩)
                 ·skip
                  rintro ⟨v780, v783⟩ w23 ⟨h0_, h1_, h2_, h3_, h4_⟩
                  have n0_ : Aside0 (Kd.R (Kd.int .u8) 5 w23 w.heap.size (fun k_ => some k_ ≠ (v783 : Value).ownBlock) v780 y779) := ⟨h0_⟩
                  have n1_ : Aside0 (Kd.R (Kd.int .u8) 5 w23 w.heap.size (fun k_ => some k_ ≠ (v780 : Value).ownBlock) v783 y782) := ⟨h1_⟩
                  have n2_ : Aside0 (Kd.R k56 56 w23 w.heap.size (fun _ => True) u779001 x779001_2) := ⟨h2_⟩
                  have n3_ : Aside0 (w23.heap[gb778]? = some (.cells #[.bool true, u779001, .slice none 0 0, .slice none 0 0] 26 (0, 0))) := ⟨h3_⟩
                  have n4_ : Aside0 (Below w.heap.size w w23) := ⟨h4_⟩
                  clear HO_779001
                  clear BK778
                  clear HB
                  clear h0_ h1_ h2_ h3_ h4_
                  have HO781 := n0_
                  have HO784 := n1_
                  have HO_779001 := n2_
                  have BK778 := n3_
                  have HB := n4_
                  clear n0_ n1_ n2_ n3_ n4_
                  have hHeld := trivial
                  refine norm_ (a' := ?_) ?_ ?_
                  rotate_left
                  ·simp only [putAll, Act.put, List.setIfInBounds_toArray, List.set_cons_zero, List.set_cons_succ]
                   rfl
                  refine two_ (i := 9) (j := 15) (Ni := some 44) (Nj := some 8) #[true, true, true, true, true, true, true, true, true, true, true, true, true, true, false, false, false] #[true, true, true, true, true, true, true, true, true, false, true, true, true, true, false, true, false] rfl rfl rfl rfl (two_of HT_.out (by kernel_rfl)) (by decide) (by decide) (fun K hK => ?_) (fun K hK => ?_)
                  ·skip
                   have hcv24 := own_string (P := Try.prog) Try.underlying30 Try.underlying5 Try.underlying9 (Kd.own_of_R HO781.out)
                   refine value_ (w1 := ?_) (v := ?_) (by rfl) rfl ?_ ?_
                   rotate_left 2
                   ·go_simp
                    constructor
                    ·rfl
                    ·rfl
                   clear hcv24
                   refine hK.out _ _ trivial (fun hHeld => ?_)
                   clear hK K
                   refine norm_ (a' := ?_) ?_ ?_
                   rotate_left
                   ·show Act.put _ (some 44) _ = _
                    simp only [Act.put, List.setIfInBounds_toArray, List.set_cons_zero, List.set_cons_succ, i64_w, i32_w]
                    rfl
                   refine pure_ (i := 14) (N := some 49) (v := ?_) (a' := ?_) #[true, true, true, true, true, true, true, true, true, true, true, true, true, true, true, false, false] rfl rfl (any_of HT_.out (by kernel_rfl)) (fun _ _ _ h => h) (Or.inl ⟨by rfl, ?_⟩) ?_ ?_
                   rotate_left
                   ·intro w'
                    go_simp
                    with_reducible rfl
                   rotate_left
                   ·simp only [Act.put, List.setIfInBounds_toArray, List.set_cons_zero, List.set_cons_succ, i64_w, i32_w]
                    rfl
                   exact norm_ (by first | (simp only [putAll, Act.put, List.setIfInBounds_toArray, List.set_cons_zero, List.set_cons_succ]; done) | (simp only [putAll, Act.put, List.setIfInBounds_toArray, List.set_cons_zero, List.set_cons_succ]; rfl)) (hJ8_9_11_12 (v780, v783) _ ⟨(by (with_reducible repeat (first | apply Kd.R_alloc | apply Kd.R_drewN | apply Kd.R_drew)); exact HO781.out), (by (with_reducible repeat (first | apply Kd.R_alloc | apply Kd.R_drewN | apply Kd.R_drew)); exact HO784.out), (by (with_reducible repeat (first | apply Kd.R_alloc | apply Kd.R_drewN | apply Kd.R_drew)); exact HO_779001.out), (bQ BK778), (bC HB)⟩)
                  ·skip
                   refine box_step ?hg (N := 8) ?hd (cs := #[.string (⟨#[]⟩ : ByteArray), .int .i64 0, .float .f64 0, .string (⟨#[]⟩ : ByteArray), .int .i64 0, .int .i64 0, .float .f64 0, .string (⟨#[]⟩ : ByteArray)]) (t := 56) ?hr ?_; (case hd => rfl); (case hg => rfl); (case hr => first | (go_simp; done) | (go_simp; rfl))
                   intro gb785 hg w24 hbox hb
                   have BK785 := Aside0.mk (hbox)
                   have GW785 := bZ HB hg
                   have GE785 := bZ HB hg
                   have NB778_785 := bL BK778 hg
                   have NB785_778 := bG BK778 hg
                   replace HO_779001 := Aside0.mk (Kd.R_below (Kd.R_elderB (by (with_reducible repeat (first | apply Kd.R_alloc | apply Kd.R_drewN | apply Kd.R_drew)); exact HO_779001.out) gb785 (Nat.le_of_eq hg.symm)) hb)
                   replace HO781 := Aside0.mk (Kd.R_below (by (with_reducible repeat (first | apply Kd.R_alloc | apply Kd.R_drewN | apply Kd.R_drew)); exact HO781.out) hb)
                   replace HO784 := Aside0.mk (Kd.R_below (by (with_reducible repeat (first | apply Kd.R_alloc | apply Kd.R_drewN | apply Kd.R_drew)); exact HO784.out) hb)
                   replace BK778 := bB BK778 hb
                   replace HB := bW HB hb
                   clear hb hbox hg
                   refine hK.out _ _ trivial (fun hHeld => ?_)
                   clear hK K
                   refine norm_ (a' := ?_) ?_ ?_
                   rotate_left
                   ·show Act.put _ (some 8) _ = _
                    simp only [Act.put, List.setIfInBounds_toArray, List.set_cons_zero, List.set_cons_succ, i64_w, i32_w]
                    rfl
                   exact norm_ (by first | (simp only [putAll, Act.put, List.setIfInBounds_toArray, List.set_cons_zero, List.set_cons_succ]; done) | (simp only [putAll, Act.put, List.setIfInBounds_toArray, List.set_cons_zero, List.set_cons_succ]; rfl)) (hJ8_11_12_15 (v780, v783, gb785) _ ⟨(by (with_reducible repeat (first | apply Kd.R_alloc | apply Kd.R_drewN | apply Kd.R_drew)); exact HO781.out), (by (with_reducible repeat (first | apply Kd.R_alloc | apply Kd.R_drewN | apply Kd.R_drew)); exact HO784.out), (by (with_reducible repeat (first | apply Kd.R_alloc | apply Kd.R_drewN | apply Kd.R_drew)); exact Kd.R_mono HO_779001.out (fun _ hk => hk.2)), (bQ BK778), (bQ BK785), GW785.out, GE785.out, NB778_785.out, NB785_778.out, (bC HB)⟩)
                ·skip
                 rintro ⟨v780, gb785⟩ w22 ⟨h0_, h1_, h2_, h3_, h4_, h5_, h6_, h7_, h8_⟩
                 have n0_ : Aside0 (Kd.R (Kd.int .u8) 5 w22 w.heap.size (fun _ => True) v780 y779) := ⟨h0_⟩
                 have n1_ : Aside0 (Kd.R k56 56 w22 w.heap.size (fun k_ => k_ ≠ gb785) u779001 x779001_2) := ⟨h1_⟩
                 have n2_ : Aside0 (w22.heap[gb778]? = some (.cells #[.bool true, u779001, .slice none 0 0, .slice none 0 0] 26 (0, 0))) := ⟨h2_⟩
                 have n3_ : Aside0 (w22.heap[gb785]? = some (.cells #[.string (⟨#[]⟩ : ByteArray), .int .i64 0, .float .f64 0, .string (⟨#[]⟩ : ByteArray), .int .i64 0, .int .i64 0, .float .f64 0, .string (⟨#[]⟩ : ByteArray)] 56 (0, 0))) := ⟨h3_⟩
                 have n4_ : Aside0 (w.heap.size ≤ gb785) := ⟨h4_⟩
                 have n5_ : Aside0 (w.heap.size ≤ gb785) := ⟨h5_⟩
                 have n6_ : Aside0 (gb778 ≠ gb785) := ⟨h6_⟩
                 have n7_ : Aside0 (gb785 ≠ gb778) := ⟨h7_⟩
                 have n8_ : Aside0 (Below w.heap.size w w22) := ⟨h8_⟩
                 clear HO_779001
                 clear BK778
                 clear HB
                 clear h0_ h1_ h2_ h3_ h4_ h5_ h6_ h7_ h8_
                 have HO781 := n0_
                 have HO_779001 := n1_
                 have BK778 := n2_
                 have BK785 := n3_
                 have GW785 := n4_
                 have GE785 := n5_
                 have NB778_785 := n6_
                 have NB785_778 := n7_
                 have HB := n8_
                 clear n0_ n1_ n2_ n3_ n4_ n5_ n6_ n7_ n8_
                 have hHeld := trivial
                 refine norm_ (a' := ?_) ?_ ?_
                 rotate_left
                 ·simp only [putAll, Act.put, List.setIfInBounds_toArray, List.set_cons_zero, List.set_cons_succ]
                  rfl
                 refine one_ (i := 11) (N := some 46) #[true, true, true, true, true, true, true, true, true, true, true, true, false, false, false, true, false] rfl rfl (one_of HT_.out (by kernel_rfl)) (by decide) (fun K hK => ?_)
                 refine Kd.R_make_step (Kd.int .u8) _ 5 (by rfl) (N := 46) rfl 30 _ _ rfl a1 rfl rfl Try.underlying30 (.int .u8 0) 1 info5 rfl (by decide) (by omega) 0 (ok := fun _ => True) (okp := fun _ => True) rfl (fun _ hk => hk) trivial (of_decide_eq_true (by first | (with_reducible assumption) | assumption)) (Nat.le_trans (Nat.mul_le_mul_right _ (of_decide_eq_true (by first | (with_reducible assumption) | assumption) : a1.toNat ≤ 281474976710656)) (by omega)) (Below.refl _ _) (Nat.le_refl _) ?_
                 intro v783 w23 ho24 hb hg_ hnew_
                 clear hg_ hnew_
                 (first | rw [← Ny782.out] at ho24 | (simp only [Int.reduceToNat] at ho24; rw [← Ny782.out] at ho24))
                 have HO784 := Aside0.mk (Kd.R_lower (Kd.R_new' ho24 (Kd.R_lt (by (with_reducible repeat (first | apply Kd.R_alloc | apply Kd.R_drewN | apply Kd.R_drew)); exact HO781.out))) (below_size (bC HB)))
                 replace HO_779001 := Aside0.mk (Kd.R_below (by (with_reducible repeat (first | apply Kd.R_alloc | apply Kd.R_drewN | apply Kd.R_drew)); exact HO_779001.out) hb)
                 replace HO781 := Aside0.mk (Kd.R_elder' (by (with_reducible repeat (first | apply Kd.R_alloc | apply Kd.R_drewN | apply Kd.R_drew)); exact HO781.out) (Kd.R_base ho24) hb)
                 replace BK778 := bB BK778 hb
                 replace BK785 := bB BK785 hb
                 replace HB := bW HB hb
                 clear hb ho24
                 refine hK.out _ _ trivial (fun hHeld => ?_)
                 clear hK K
                 refine norm_ (a' := ?_) ?_ ?_
                 rotate_left
                 ·show Act.put _ (some 46) _ = _
                  simp only [Act.put, List.setIfInBounds_toArray, List.set_cons_zero, List.set_cons_succ, i64_w, i32_w]
                  rfl
                 exact norm_ (by first | (simp only [putAll, Act.put, List.setIfInBounds_toArray, List.set_cons_zero, List.set_cons_succ]; done) | (simp only [putAll, Act.put, List.setIfInBounds_toArray, List.set_cons_zero, List.set_cons_succ]; rfl)) (hJ8_9_11_15 (v780, v783, gb785) _ ⟨(by (with_reducible repeat (first | apply Kd.R_alloc | apply Kd.R_drewN | apply Kd.R_drew)); exact Kd.R_mono HO781.out (fun _ hk => hk.2)), (by (with_reducible repeat (first | apply Kd.R_alloc | apply Kd.R_drewN | apply Kd.R_drew)); exact Kd.R_mono HO784.out (fun _ hk => hk.2)), (by (with_reducible repeat (first | apply Kd.R_alloc | apply Kd.R_drewN | apply Kd.R_drew)); exact HO_779001.out), (bQ BK778), (bQ BK785), GW785.out, GE785.out, NB778_785.out, NB785_778.out, (bC HB)⟩)
               ·skip
                rintro ⟨v780, v783⟩ w23 ⟨h0_, h1_, h2_, h3_, h4_⟩
                have n0_ : Aside0 (Kd.R (Kd.int .u8) 5 w23 w.heap.size (fun k_ => some k_ ≠ (v783 : Value).ownBlock) v780 y779) := ⟨h0_⟩
                have n1_ : Aside0 (Kd.R (Kd.int .u8) 5 w23 w.heap.size (fun k_ => some k_ ≠ (v780 : Value).ownBlock) v783 y782) := ⟨h1_⟩
                have n2_ : Aside0 (Kd.R k56 56 w23 w.heap.size (fun _ => True) u779001 x779001_2) := ⟨h2_⟩
                have n3_ : Aside0 (w23.heap[gb778]? = some (.cells #[.bool true, u779001, .slice none 0 0, .slice none 0 0] 26 (0, 0))) := ⟨h3_⟩
                have n4_ : Aside0 (Below w.heap.size w w23) := ⟨h4_⟩
                clear HO_779001
                clear BK778
                clear HB
                clear h0_ h1_ h2_ h3_ h4_
                have HO781 := n0_
                have HO784 := n1_
                have HO_779001 := n2_
                have BK778 := n3_
                have HB := n4_
                clear n0_ n1_ n2_ n3_ n4_
                have hHeld := trivial
                refine norm_ (a' := ?_) ?_ ?_
                rotate_left
                ·simp only [putAll, Act.put, List.setIfInBounds_toArray, List.set_cons_zero, List.set_cons_succ]
                 rfl
                refine two_ (i := 12) (j := 15) (Ni := some 47) (Nj := some 8) #[true, true, true, true, true, true, true, true, true, true, true, true, true, false, false, false, false] #[true, true, true, true, true, true, true, true, true, true, true, true, false, false, false, true, false] rfl rfl rfl rfl (two_of HT_.out (by kernel_rfl)) (by decide) (by decide) (fun K hK => ?_) (fun K hK => ?_)
                ·skip
                 have hcv24 := own_string (P := Try.prog) Try.underlying30 Try.underlying5 Try.underlying9 (Kd.own_of_R HO784.out)
                 refine value_ (w1 := ?_) (v := ?_) (by rfl) rfl ?_ ?_
                 rotate_left 2
                 ·go_simp
                  constructor
                  ·rfl
                  ·rfl
                 clear hcv24
                 refine hK.out _ _ trivial (fun hHeld => ?_)
                 clear hK K
                 refine norm_ (a' := ?_) ?_ ?_
                 rotate_left
                 ·show Act.put _ (some 47) _ = _
                  simp only [Act.put, List.setIfInBounds_toArray, List.set_cons_zero, List.set_cons_succ, i64_w, i32_w]
                  rfl
                 refine pure_ (i := 13) (N := some 48) (v := ?_) (a' := ?_) #[true, true, true, true, true, true, true, true, true, true, true, true, true, true, false, false, false] rfl rfl (any_of HT_.out (by kernel_rfl)) (fun _ _ _ h => h) (Or.inl ⟨by rfl, ?_⟩) ?_ ?_
                 rotate_left
                 ·intro w'
                  go_simp
                  with_reducible rfl
                 rotate_left
                 ·simp only [Act.put, List.setIfInBounds_toArray, List.set_cons_zero, List.set_cons_succ, i64_w, i32_w]
                  rfl
                 refine pure_ (i := 14) (N := some 49) (v := ?_) (a' := ?_) #[true, true, true, true, true, true, true, true, true, true, true, true, true, true, true, false, false] rfl rfl (any_of HT_.out (by kernel_rfl)) (fun _ _ _ h => h) (Or.inl ⟨by rfl, ?_⟩) ?_ ?_
                 rotate_left
                 ·intro w'
                  go_simp
                  with_reducible rfl
                 rotate_left
                 ·simp only [Act.put, List.setIfInBounds_toArray, List.set_cons_zero, List.set_cons_succ, i64_w, i32_w]
                  rfl
                 exact norm_ (by first | (simp only [putAll, Act.put, List.setIfInBounds_toArray, List.set_cons_zero, List.set_cons_succ]; done) | (simp only [putAll, Act.put, List.setIfInBounds_toArray, List.set_cons_zero, List.set_cons_succ]; rfl)) (hJ8_9_11_12 (v780, v783) _ ⟨(by (with_reducible repeat (first | apply Kd.R_alloc | apply Kd.R_drewN | apply Kd.R_drew)); exact HO781.out), (by (with_reducible repeat (first | apply Kd.R_alloc | apply Kd.R_drewN | apply Kd.R_drew)); exact HO784.out), (by (with_reducible repeat (first | apply Kd.R_alloc | apply Kd.R_drewN | apply Kd.R_drew)); exact HO_779001.out), (bQ BK778), (bC HB)⟩)
                ·skip
                 refine box_step ?hg (N := 8) ?hd (cs := #[.string (⟨#[]⟩ : ByteArray), .int .i64 0, .float .f64 0, .string (⟨#[]⟩ : ByteArray), .int .i64 0, .int .i64 0, .float .f64 0, .string (⟨#[]⟩ : ByteArray)]) (t := 56) ?hr ?_; (case hd => rfl); (case hg => rfl); (case hr => first | (go_simp; done) | (go_simp; rfl))
                 intro gb785 hg w24 hbox hb
                 have BK785 := Aside0.mk (hbox)
                 have GW785 := bZ HB hg
                 have GE785 := bZ HB hg
                 have NB778_785 := bL BK778 hg
                 have NB785_778 := bG BK778 hg
                 replace HO_779001 := Aside0.mk (Kd.R_below (Kd.R_elderB (by (with_reducible repeat (first | apply Kd.R_alloc | apply Kd.R_drewN | apply Kd.R_drew)); exact HO_779001.out) gb785 (Nat.le_of_eq hg.symm)) hb)
                 replace HO781 := Aside0.mk (Kd.R_below (by (with_reducible repeat (first | apply Kd.R_alloc | apply Kd.R_drewN | apply Kd.R_drew)); exact HO781.out) hb)
                 replace HO784 := Aside0.mk (Kd.R_below (by (with_reducible repeat (first | apply Kd.R_alloc | apply Kd.R_drewN | apply Kd.R_drew)); exact HO784.out) hb)
                 replace BK778 := bB BK778 hb
                 replace HB := bW HB hb
                 clear hb hbox hg
                 refine hK.out _ _ trivial (fun hHeld => ?_)
                 clear hK K
                 refine norm_ (a' := ?_) ?_ ?_
                 rotate_left
                 ·show Act.put _ (some 8) _ = _
                  simp only [Act.put, List.setIfInBounds_toArray, List.set_cons_zero, List.set_cons_succ, i64_w, i32_w]
                  rfl
                 exact norm_ (by first | (simp only [putAll, Act.put, List.setIfInBounds_toArray, List.set_cons_zero, List.set_cons_succ]; done) | (simp only [putAll, Act.put, List.setIfInBounds_toArray, List.set_cons_zero, List.set_cons_succ]; rfl)) (hJ8_9_11_15 (v780, v783, gb785) _ ⟨(by (with_reducible repeat (first | apply Kd.R_alloc | apply Kd.R_drewN | apply Kd.R_drew)); exact HO781.out), (by (with_reducible repeat (first | apply Kd.R_alloc | apply Kd.R_drewN | apply Kd.R_drew)); exact HO784.out), (by (with_reducible repeat (first | apply Kd.R_alloc | apply Kd.R_drewN | apply Kd.R_drew)); exact Kd.R_mono HO_779001.out (fun _ hk => hk.2)), (bQ BK778), (bQ BK785), GW785.out, GE785.out, NB778_785.out, NB785_778.out, (bC HB)⟩)
              ·skip
               rintro ⟨v780, v783, gb785⟩ w24 ⟨h0_, h1_, h2_, h3_, h4_, h5_, h6_, h7_, h8_, h9_⟩
               have n0_ : Aside0 (Kd.R (Kd.int .u8) 5 w24 w.heap.size (fun k_ => some k_ ≠ (v783 : Value).ownBlock) v780 y779) := ⟨h0_⟩
               have n1_ : Aside0 (Kd.R (Kd.int .u8) 5 w24 w.heap.size (fun k_ => some k_ ≠ (v780 : Value).ownBlock) v783 y782) := ⟨h1_⟩
               have n2_ : Aside0 (Kd.R k56 56 w24 w.heap.size (fun k_ => k_ ≠ gb785) u779001 x779001_2) := ⟨h2_⟩
               have n3_ : Aside0 (w24.heap[gb778]? = some (.cells #[.bool true, u779001, .slice none 0 0, .slice none 0 0] 26 (0, 0))) := ⟨h3_⟩
               have n4_ : Aside0 (w24.heap[gb785]? = some (.cells #[.string (⟨#[]⟩ : ByteArray), .int .i64 0, .float .f64 0, .string (⟨#[]⟩ : ByteArray), .int .i64 0, .int .i64 0, .float .f64 0, .string (⟨#[]⟩ : ByteArray)] 56 (0, 0))) := ⟨h4_⟩
               have n5_ : Aside0 (w.heap.size ≤ gb785) := ⟨h5_⟩
               have n6_ : Aside0 (w.heap.size ≤ gb785) := ⟨h6_⟩
               have n7_ : Aside0 (gb778 ≠ gb785) := ⟨h7_⟩
               have n8_ : Aside0 (gb785 ≠ gb778) := ⟨h8_⟩
               have n9_ : Aside0 (Below w.heap.size w w24) := ⟨h9_⟩
               clear HO_779001
               clear BK778
               clear HB
               clear h0_ h1_ h2_ h3_ h4_ h5_ h6_ h7_ h8_ h9_
               have HO781 := n0_
               have HO784 := n1_
               have HO_779001 := n2_
               have BK778 := n3_
               have BK785 := n4_
               have GW785 := n5_
               have GE785 := n6_
               have NB778_785 := n7_
               have NB785_778 := n8_
               have HB := n9_
               clear n0_ n1_ n2_ n3_ n4_ n5_ n6_ n7_ n8_ n9_
               have hHeld := trivial
               refine norm_ (a' := ?_) ?_ ?_
               rotate_left
               ·simp only [putAll, Act.put, List.setIfInBounds_toArray, List.set_cons_zero, List.set_cons_succ]
                rfl
               refine one_ (i := 9) (N := some 44) #[true, true, true, true, true, true, true, true, true, true, true, true, true, true, false, true, false] rfl rfl (one_of HT_.out (by kernel_rfl)) (by decide) (fun K hK => ?_)
               have hcv25 := own_string (P := Try.prog) Try.underlying30 Try.underlying5 Try.underlying9 (Kd.own_of_R HO781.out)
               refine value_ (w1 := ?_) (v := ?_) (by rfl) rfl ?_ ?_
               rotate_left 2
               ·go_simp
                constructor
                ·rfl
                ·rfl
               clear hcv25
               refine hK.out _ _ trivial (fun hHeld => ?_)
               clear hK K
               refine norm_ (a' := ?_) ?_ ?_
               rotate_left
               ·show Act.put _ (some 44) _ = _
                simp only [Act.put, List.setIfInBounds_toArray, List.set_cons_zero, List.set_cons_succ, i64_w, i32_w]
                rfl
               refine pure_ (i := 14) (N := some 49) (v := ?_) (a' := ?_) #[true, true, true, true, true, true, true, true, true, true, true, true, true, true, true, true, false] rfl rfl (any_of HT_.out (by kernel_rfl)) (fun _ _ _ h => h) (Or.inl ⟨by rfl, ?_⟩) ?_ ?_
               rotate_left
               ·intro w'
                go_simp
                with_reducible rfl
               rotate_left
               ·simp only [Act.put, List.setIfInBounds_toArray, List.set_cons_zero, List.set_cons_succ, i64_w, i32_w]
                rfl
               exact norm_ (by first | (simp only [putAll, Act.put, List.setIfInBounds_toArray, List.set_cons_zero, List.set_cons_succ]; done) | (simp only [putAll, Act.put, List.setIfInBounds_toArray, List.set_cons_zero, List.set_cons_succ]; rfl)) (hJ8_9_11_12_15 (v780, v783, gb785) _ ⟨(by (with_reducible repeat (first | apply Kd.R_alloc | apply Kd.R_drewN | apply Kd.R_drew)); exact HO781.out), (by (with_reducible repeat (first | apply Kd.R_alloc | apply Kd.R_drewN | apply Kd.R_drew)); exact HO784.out), (by (with_reducible repeat (first | apply Kd.R_alloc | apply Kd.R_drewN | apply Kd.R_drew)); exact HO_779001.out), (bQ BK778), (bQ BK785), GW785.out, GE785.out, NB778_785.out, NB785_778.out, (bC HB)⟩)
             ·skip
              rintro ⟨v780, v783, gb785⟩ w24 ⟨h0_, h1_, h2_, h3_, h4_, h5_, h6_, h7_, h8_, h9_⟩
              have n0_ : Aside0 (Kd.R (Kd.int .u8) 5 w24 w.heap.size (fun k_ => some k_ ≠ (v783 : Value).ownBlock) v780 y779) := ⟨h0_⟩
              have n1_ : Aside0 (Kd.R (Kd.int .u8) 5 w24 w.heap.size (fun k_ => some k_ ≠ (v780 : Value).ownBlock) v783 y782) := ⟨h1_⟩
              have n2_ : Aside0 (Kd.R k56 56 w24 w.heap.size (fun k_ => k_ ≠ gb785) u779001 x779001_2) := ⟨h2_⟩
              have n3_ : Aside0 (w24.heap[gb778]? = some (.cells #[.bool true, u779001, .slice none 0 0, .slice none 0 0] 26 (0, 0))) := ⟨h3_⟩
              have n4_ : Aside0 (w24.heap[gb785]? = some (.cells #[.string (⟨#[]⟩ : ByteArray), .int .i64 0, .float .f64 0, .string (⟨#[]⟩ : ByteArray), .int .i64 0, .int .i64 0, .float .f64 0, .string (⟨#[]⟩ : ByteArray)] 56 (0, 0))) := ⟨h4_⟩
              have n5_ : Aside0 (w.heap.size ≤ gb785) := ⟨h5_⟩
              have n6_ : Aside0 (w.heap.size ≤ gb785) := ⟨h6_⟩
              have n7_ : Aside0 (gb778 ≠ gb785) := ⟨h7_⟩
              have n8_ : Aside0 (gb785 ≠ gb778) := ⟨h8_⟩
              have n9_ : Aside0 (Below w.heap.size w w24) := ⟨h9_⟩
              clear HO_779001
              clear BK778
              clear HB
              clear h0_ h1_ h2_ h3_ h4_ h5_ h6_ h7_ h8_ h9_
              have HO781 := n0_
              have HO784 := n1_
              have HO_779001 := n2_
              have BK778 := n3_
              have BK785 := n4_
              have GW785 := n5_
              have GE785 := n6_
              have NB778_785 := n7_
              have NB785_778 := n8_
              have HB := n9_
              clear n0_ n1_ n2_ n3_ n4_ n5_ n6_ n7_ n8_ n9_
              have hHeld := trivial
              refine norm_ (a' := ?_) ?_ ?_
              rotate_left
              ·simp only [putAll, Act.put, List.setIfInBounds_toArray, List.set_cons_zero, List.set_cons_succ]
               rfl
              refine one_ (i := 12) (N := some 47) #[true, true, true, true, true, true, true, true, true, true, true, true, true, false, false, true, false] rfl rfl (one_of HT_.out (by kernel_rfl)) (by decide) (fun K hK => ?_)
              have hcv25 := own_string (P := Try.prog) Try.underlying30 Try.underlying5 Try.underlying9 (Kd.own_of_R HO784.out)
              refine value_ (w1 := ?_) (v := ?_) (by rfl) rfl ?_ ?_
              rotate_left 2
              ·go_simp
               constructor
               ·rfl
               ·rfl
              clear hcv25
              refine hK.out _ _ trivial (fun hHeld => ?_)
              clear hK K
              refine norm_ (a' := ?_) ?_ ?_
              rotate_left
              ·show Act.put _ (some 47) _ = _
               simp only [Act.put, List.setIfInBounds_toArray, List.set_cons_zero, List.set_cons_succ, i64_w, i32_w]
               rfl
              refine pure_ (i := 13) (N := some 48) (v := ?_) (a' := ?_) #[true, true, true, true, true, true, true, true, true, true, true, true, true, true, false, true, false] rfl rfl (any_of HT_.out (by kernel_rfl)) (fun _ _ _ h => h) (Or.inl ⟨by rfl, ?_⟩) ?_ ?_
              rotate_left
              ·intro w'
               go_simp
               with_reducible rfl
              rotate_left
              ·simp only [Act.put, List.setIfInBounds_toArray, List.set_cons_zero, List.set_cons_succ, i64_w, i32_w]
               rfl
              refine pure_ (i := 14) (N := some 49) (v := ?_) (a' := ?_) #[true, true, true, true, true, true, true, true, true, true, true, true, true, true, true, true, false] rfl rfl (any_of HT_.out (by kernel_rfl)) (fun _ _ _ h => h) (Or.inl ⟨by rfl, ?_⟩) ?_ ?_
              rotate_left
              ·intro w'
               go_simp
               with_reducible rfl
              rotate_left
              ·simp only [Act.put, List.setIfInBounds_toArray, List.set_cons_zero, List.set_cons_succ, i64_w, i32_w]
               rfl
              exact norm_ (by first | (simp only [putAll, Act.put, List.setIfInBounds_toArray, List.set_cons_zero, List.set_cons_succ]; done) | (simp only [putAll, Act.put, List.setIfInBounds_toArray, List.set_cons_zero, List.set_cons_succ]; rfl)) (hJ8_9_11_12_15 (v780, v783, gb785) _ ⟨(by (with_reducible repeat (first | apply Kd.R_alloc | apply Kd.R_drewN | apply Kd.R_drew)); exact HO781.out), (by (with_reducible repeat (first | apply Kd.R_alloc | apply Kd.R_drewN | apply Kd.R_drew)); exact HO784.out), (by (with_reducible repeat (first | apply Kd.R_alloc | apply Kd.R_drewN | apply Kd.R_drew)); exact HO_779001.out), (bQ BK778), (bQ BK785), GW785.out, GE785.out, NB778_785.out, NB785_778.out, (bC HB)⟩)
            ·skip
             rintro ⟨v780, v783⟩ w24 ⟨h0_, h1_, h2_, h3_, h4_⟩
             have n0_ : Aside0 (Kd.R (Kd.int .u8) 5 w24 w.heap.size (fun k_ => some k_ ≠ (v783 : Value).ownBlock) v780 y779) := ⟨h0_⟩
             have n1_ : Aside0 (Kd.R (Kd.int .u8) 5 w24 w.heap.size (fun k_ => some k_ ≠ (v780 : Value).ownBlock) v783 y782) := ⟨h1_⟩
             have n2_ : Aside0 (Kd.R k56 56 w24 w.heap.size (fun _ => True) u779001 x779001_2) := ⟨h2_⟩
             have n3_ : Aside0 (w24.heap[gb778]? = some (.cells #[.bool true, u779001, .slice none 0 0, .slice none 0 0] 26 (0, 0))) := ⟨h3_⟩
             have n4_ : Aside0 (Below w.heap.size w w24) := ⟨h4_⟩
             clear HO_779001
             clear BK778
             clear HB
             clear h0_ h1_ h2_ h3_ h4_
             have HO781 := n0_
             have HO784 := n1_
             have HO_779001 := n2_
             have BK778 := n3_
             have HB := n4_
             clear n0_ n1_ n2_ n3_ n4_
             have hHeld := trivial
             refine norm_ (a' := ?_) ?_ ?_
             rotate_left
             ·simp only [putAll, Act.put, List.setIfInBounds_toArray, List.set_cons_zero, List.set_cons_succ]
              rfl
             refine one_ (i := 15) (N := some 8) #[true, true, true, true, true, true, true, true, true, true, true, true, true, true, true, true, false] rfl rfl (one_of HT_.out (by kernel_rfl)) (by decide) (fun K hK => ?_)
             refine box_step ?hg (N := 8) ?hd (cs := #[.string (⟨#[]⟩ : ByteArray), .int .i64 0, .float .f64 0, .string (⟨#[]⟩ : ByteArray), .int .i64 0, .int .i64 0, .float .f64 0, .string (⟨#[]⟩ : ByteArray)]) (t := 56) ?hr ?_; (case hd => rfl); (case hg => rfl); (case hr => first | (go_simp; done) | (go_simp; rfl))
             intro gb785 hg w25 hbox hb
             have BK785 := Aside0.mk (hbox)
             have GW785 := bZ HB hg
             have GE785 := bZ HB hg
             have NB778_785 := bL BK778 hg
             have NB785_778 := bG BK778 hg
             replace HO_779001 := Aside0.mk (Kd.R_below (Kd.R_elderB (by (with_reducible repeat (first | apply Kd.R_alloc | apply Kd.R_drewN | apply Kd.R_drew)); exact HO_779001.out) gb785 (Nat.le_of_eq hg.symm)) hb)
             replace HO781 := Aside0.mk (Kd.R_below (by (with_reducible repeat (first | apply Kd.R_alloc | apply Kd.R_drewN | apply Kd.R_drew)); exact HO781.out) hb)
             replace HO784 := Aside0.mk (Kd.R_below (by (with_reducible repeat (first | apply Kd.R_alloc | apply Kd.R_drewN | apply Kd.R_drew)); exact HO784.out) hb)
             replace BK778 := bB BK778 hb
             replace HB := bW HB hb
             clear hb hbox hg
             refine hK.out _ _ trivial (fun hHeld => ?_)
             clear hK K
             refine norm_ (a' := ?_) ?_ ?_
             rotate_left
             ·show Act.put _ (some 8) _ = _
              simp only [Act.put, List.setIfInBounds_toArray, List.set_cons_zero, List.set_cons_succ, i64_w, i32_w]
              rfl
             exact norm_ (by first | (simp only [putAll, Act.put, List.setIfInBounds_toArray, List.set_cons_zero, List.set_cons_succ]; done) | (simp only [putAll, Act.put, List.setIfInBounds_toArray, List.set_cons_zero, List.set_cons_succ]; rfl)) (hJ8_9_11_12_15 (v780, v783, gb785) _ ⟨(by (with_reducible repeat (first | apply Kd.R_alloc | apply Kd.R_drewN | apply Kd.R_drew)); exact HO781.out), (by (with_reducible repeat (first | apply Kd.R_alloc | apply Kd.R_drewN | apply Kd.R_drew)); exact HO784.out), (by (with_reducible repeat (first | apply Kd.R_alloc | apply Kd.R_drewN | apply Kd.R_drew)); exact Kd.R_mono HO_779001.out (fun _ hk => hk.2)), (bQ BK778), (bQ BK785), GW785.out, GE785.out, NB778_785.out, NB785_778.out, (bC HB)⟩)
           rintro ⟨v780, v783, gb785⟩ w25 ⟨h0_, h1_, h2_, h3_, h4_, h5_, h6_, h7_, h8_, h9_⟩
           have n0_ : Aside0 (Kd.R (Kd.int .u8) 5 w25 w.heap.size (fun k_ => some k_ ≠ (v783 : Value).ownBlock) v780 y779) := ⟨h0_⟩
           have n1_ : Aside0 (Kd.R (Kd.int .u8) 5 w25 w.heap.size (fun k_ => some k_ ≠ (v780 : Value).ownBlock) v783 y782) := ⟨h1_⟩
           have n2_ : Aside0 (Kd.R k56 56 w25 w.heap.size (fun k_ => k_ ≠ gb785) u779001 x779001_2) := ⟨h2_⟩
           have n3_ : Aside0 (w25.heap[gb778]? = some (.cells #[.bool true, u779001, .slice none 0 0, .slice none 0 0] 26 (0, 0))) := ⟨h3_⟩
           have n4_ : Aside0 (w25.heap[gb785]? = some (.cells #[.string (⟨#[]⟩ : ByteArray), .int .i64 0, .float .f64 0, .string (⟨#[]⟩ : ByteArray), .int .i64 0, .int .i64 0, .float .f64 0, .string (⟨#[]⟩ : ByteArray)] 56 (0, 0))) := ⟨h4_⟩
           have n5_ : Aside0 (w.heap.size ≤ gb785) := ⟨h5_⟩
           have n6_ : Aside0 (w.heap.size ≤ gb785) := ⟨h6_⟩
           have n7_ : Aside0 (gb778 ≠ gb785) := ⟨h7_⟩
           have n8_ : Aside0 (gb785 ≠ gb778) := ⟨h8_⟩
           have n9_ : Aside0 (Below w.heap.size w w25) := ⟨h9_⟩
           clear HO_779001
           clear BK778
           clear HB
           clear h0_ h1_ h2_ h3_ h4_ h5_ h6_ h7_ h8_ h9_
           have HO781 := n0_
           have HO784 := n1_
           have HO_779001 := n2_
           have BK778 := n3_
           have BK785 := n4_
           have GW785 := n5_
           have GE785 := n6_
           have NB778_785 := n7_
           have NB785_778 := n8_
           have HB := n9_
           clear n0_ n1_ n2_ n3_ n4_ n5_ n6_ n7_ n8_ n9_
           have hHeld := trivial
           refine norm_ (a' := ?_) ?_ ?_
           rotate_left
           ·simp only [putAll, Act.put, List.setIfInBounds_toArray, List.set_cons_zero, List.set_cons_succ]
            rfl
           refine one_ (i := 16) (N := none) #[true, true, true, true, true, true, true, true, true, true, true, true, true, true, true, true, true] rfl rfl (one_of HT_.out (by kernel_rfl)) (by decide) (fun K hK => ?_)
           have hs26 : w25.cell? ⟨gb785, 0, none⟩ = some (.string (⟨#[]⟩ : ByteArray)) := (blk_cell BK785.out 0).trans rfl
           have hfs26 := blk_frozen BK785.out 0
           have hns26_0 := NB778_785.out
           have hms26_0 := NB785_778.out
           have hs27 : w25.cell? ⟨gb785, 1, none⟩ = some (.int .i64 0) := (blk_cell BK785.out 1).trans rfl
           have hfs27 := blk_frozen BK785.out 1
           have hns27_0 := NB778_785.out
           have hms27_0 := NB785_778.out
           have hs28 : w25.cell? ⟨gb785, 2, none⟩ = some (.float .f64 0) := (blk_cell BK785.out 2).trans rfl
           have hfs28 := blk_frozen BK785.out 2
           have hns28_0 := NB778_785.out
           have hms28_0 := NB785_778.out
           have hs29 : w25.cell? ⟨gb785, 3, none⟩ = some (.string (⟨#[]⟩ : ByteArray)) := (blk_cell BK785.out 3).trans rfl
           have hfs29 := blk_frozen BK785.out 3
           have hns29_0 := NB778_785.out
           have hms29_0 := NB785_778.out
           have hs30 : w25.cell? ⟨gb785, 4, none⟩ = some (.int .i64 0) := (blk_cell BK785.out 4).trans rfl
           have hfs30 := blk_frozen BK785.out 4
           have hns30_0 := NB778_785.out
           have hms30_0 := NB785_778.out
           have hs31 : w25.cell? ⟨gb785, 5, none⟩ = some (.int .i64 0) := (blk_cell BK785.out 5).trans rfl
           have hfs31 := blk_frozen BK785.out 5
           have hns31_0 := NB778_785.out
           have hms31_0 := NB785_778.out
           have hs32 : w25.cell? ⟨gb785, 6, none⟩ = some (.float .f64 0) := (blk_cell BK785.out 6).trans rfl
           have hfs32 := blk_frozen BK785.out 6
           have hns32_0 := NB778_785.out
           have hms32_0 := NB785_778.out
           have hs33 : w25.cell? ⟨gb785, 7, none⟩ = some (.string (⟨#[]⟩ : ByteArray)) := (blk_cell BK785.out 7).trans rfl
           have hfs33 := blk_frozen BK785.out 7
           have hns33_0 := NB778_785.out
           have hms33_0 := NB785_778.out
           with_reducible refine skip_ (w1 := ?_) (by with_unfolding_all rfl) (by with_unfolding_all rfl) ?_ ?_
           rotate_left
           ·go_simp
            rfl
           refine hK.out _ _ trivial (fun hHeld => ?_)
           clear hK K
           refine done_ (done_of HT_.out (by kernel_rfl)) ?_
           have hnb34 := NB778_785.out
           have hnc34 := NB785_778.out
           obtain ⟨hcz35_0, hcz35_1, hcz35_2, hcz35_3, hfz35_0, hfz35_1, hfz35_2, hfz35_3⟩ := bf4 (w := w25) BK778
           obtain ⟨hcz36_0, hcz36_1, hcz36_2, hcz36_3, hcz36_4, hcz36_5, hcz36_6, hcz36_7, hfz36_0, hfz36_1, hfz36_2, hfz36_3, hfz36_4, hfz36_5, hfz36_6, hfz36_7⟩ := bf8 (w := w25) BK785
           try go_wp2_with (first | ((with_reducible refine gate_builtin (b := .append) (xs := #[.tmp 51, .tmp 53]) rfl ?_); at_builtin; refine Kd.R_append k56 (w0 := w) w.heap.size rfl (.tmp 51) (.tmp 53) 22 56 (.agg #[(.string ⟨#[]⟩), (.int .i64 0), (.float .f64 0), (.string ⟨#[]⟩), (.int .i64 0), (.int .i64 0), (.float .f64 0), (.string ⟨#[]⟩)]) 88 rfl Try.underlying22 info56 rfl (by decide) (by omega) u779001 x779001_2 (⟨strOfNums y779, (⟨2, 0, strOfNums y782⟩ : S54), 0, (⟨0, 0, (⟨#[]⟩ : ByteArray)⟩ : S54)⟩ : S56) [.string (strOfNums y779), .int .i64 2, .float .f64 0, .string (strOfNums y782), .int .i64 0, .int .i64 0, .float .f64 0, .string (⟨#[]⟩ : ByteArray)] (fun k_ => k_ ≠ gb785) (fun _ => False) rfl (by first | (go_simp; done) | (go_simp; rfl)) ?aP (fun _ hk => hk.elim) ?aF ?aO ?aB ?aS ?aL ?_; (case aP => exact k56_mkM _ _ _ (⟨strOfNums y779, (⟨2, 0, strOfNums y782⟩ : S54), 0, (⟨0, 0, (⟨#[]⟩ : ByteArray)⟩ : S54)⟩ : S56)); (case aB => exact (bC HB)); (case aF => exact (fun k_ hk => Kd.freshB (g := gb785) (o := .cells #[.string (strOfNums y779), .int .i64 2, .float .f64 0, .string (strOfNums y782), .int .i64 0, .int .i64 0, .float .f64 0, .string (⟨#[]⟩ : ByteArray)] 56 (0, 0)) (bR BK785) k_ hk)); (case aO => exact (by (with_reducible repeat (first | apply Kd.R_alloc | apply Kd.R_drewN | apply Kd.R_drew)); exact Kd.R_mono (Kd.R_far (p := ⟨gb785, 7, none⟩) (Kd.R_far (p := ⟨gb785, 6, none⟩) (Kd.R_far (p := ⟨gb785, 5, none⟩) (Kd.R_far (p := ⟨gb785, 4, none⟩) (Kd.R_far (p := ⟨gb785, 3, none⟩) (Kd.R_far (p := ⟨gb785, 2, none⟩) (Kd.R_far (p := ⟨gb785, 1, none⟩) (Kd.R_far (p := ⟨gb785, 0, none⟩) (Kd.R_mono HO_779001.out (fun k_ hk => (⟨hk, hk⟩ : _ ∧ k_ ≠ gb785))) (fun _ hk => hk.2) (.string (strOfNums y779))) (fun _ hk => hk.2) (.int .i64 2)) (fun _ hk => hk.2) (.float .f64 0)) (fun _ hk => hk.2) (.string (strOfNums y782))) (fun _ hk => hk.2) (.int .i64 0)) (fun _ hk => hk.2) (.int .i64 0)) (fun _ hk => hk.2) (.float .f64 0)) (fun _ hk => hk.2) (.string (⟨#[]⟩ : ByteArray))) (fun _ hk => hk.1))); (case aS => exact (below_size (bC HB))); (case aL => have := LMc16.out; omega); intro v787 w37 ho hb hg hat; rw [← Ny786.out] at ho; have HO788 := Aside0.mk (ho); replace BK778 := Aside0.mk (blk_grown (bQ BK778) hg (Kd.R_ne HO_779001.out BK778.out (by decide))); replace HO781 := Aside0.mk (Kd.R_over' (by (with_reducible repeat (first | apply Kd.R_alloc | apply Kd.R_drewN | apply Kd.R_drew)); exact (Kd.R_mono (Kd.R_far (p := ⟨gb785, 7, none⟩) (Kd.R_far (p := ⟨gb785, 6, none⟩) (Kd.R_far (p := ⟨gb785, 5, none⟩) (Kd.R_far (p := ⟨gb785, 4, none⟩) (Kd.R_far (p := ⟨gb785, 3, none⟩) (Kd.R_far (p := ⟨gb785, 2, none⟩) (Kd.R_far (p := ⟨gb785, 1, none⟩) (Kd.R_far (p := ⟨gb785, 0, none⟩) (Kd.R_types HO781.out BK785.out (by decide)) (fun _ hk => hk.2) (.string (strOfNums y779))) (fun _ hk => hk.2) (.int .i64 2)) (fun _ hk => hk.2) (.float .f64 0)) (fun _ hk => hk.2) (.string (strOfNums y782))) (fun _ hk => hk.2) (.int .i64 0)) (fun _ hk => hk.2) (.int .i64 0)) (fun _ hk => hk.2) (.float .f64 0)) (fun _ hk => hk.2) (.string (⟨#[]⟩ : ByteArray))) (fun _ h_ => h_.1))) (Kd.R_typed (by (with_reducible repeat (first | apply Kd.R_alloc | apply Kd.R_drewN | apply Kd.R_drew)); exact (Kd.R_mono (Kd.R_far (p := ⟨gb785, 7, none⟩) (Kd.R_far (p := ⟨gb785, 6, none⟩) (Kd.R_far (p := ⟨gb785, 5, none⟩) (Kd.R_far (p := ⟨gb785, 4, none⟩) (Kd.R_far (p := ⟨gb785, 3, none⟩) (Kd.R_far (p := ⟨gb785, 2, none⟩) (Kd.R_far (p := ⟨gb785, 1, none⟩) (Kd.R_far (p := ⟨gb785, 0, none⟩) (Kd.R_mono HO_779001.out (fun k_ hk => (⟨hk, hk⟩ : _ ∧ k_ ≠ gb785))) (fun _ hk => hk.2) (.string (strOfNums y779))) (fun _ hk => hk.2) (.int .i64 2)) (fun _ hk => hk.2) (.float .f64 0)) (fun _ hk => hk.2) (.string (strOfNums y782))) (fun _ hk => hk.2) (.int .i64 0)) (fun _ hk => hk.2) (.int .i64 0)) (fun _ hk => hk.2) (.float .f64 0)) (fun _ hk => hk.2) (.string (⟨#[]⟩ : ByteArray))) (fun _ h_ => h_.1)))) (by decide) hg); replace HO784 := Aside0.mk (Kd.R_over' (by (with_reducible repeat (first | apply Kd.R_alloc | apply Kd.R_drewN | apply Kd.R_drew)); exact (Kd.R_mono (Kd.R_far (p := ⟨gb785, 7, none⟩) (Kd.R_far (p := ⟨gb785, 6, none⟩) (Kd.R_far (p := ⟨gb785, 5, none⟩) (Kd.R_far (p := ⟨gb785, 4, none⟩) (Kd.R_far (p := ⟨gb785, 3, none⟩) (Kd.R_far (p := ⟨gb785, 2, none⟩) (Kd.R_far (p := ⟨gb785, 1, none⟩) (Kd.R_far (p := ⟨gb785, 0, none⟩) (Kd.R_types HO784.out BK785.out (by decide)) (fun _ hk => hk.2) (.string (strOfNums y779))) (fun _ hk => hk.2) (.int .i64 2)) (fun _ hk => hk.2) (.float .f64 0)) (fun _ hk => hk.2) (.string (strOfNums y782))) (fun _ hk => hk.2) (.int .i64 0)) (fun _ hk => hk.2) (.int .i64 0)) (fun _ hk => hk.2) (.float .f64 0)) (fun _ hk => hk.2) (.string (⟨#[]⟩ : ByteArray))) (fun _ h_ => h_.1))) (Kd.R_typed (by (with_reducible repeat (first | apply Kd.R_alloc | apply Kd.R_drewN | apply Kd.R_drew)); exact (Kd.R_mono (Kd.R_far (p := ⟨gb785, 7, none⟩) (Kd.R_far (p := ⟨gb785, 6, none⟩) (Kd.R_far (p := ⟨gb785, 5, none⟩) (Kd.R_far (p := ⟨gb785, 4, none⟩) (Kd.R_far (p := ⟨gb785, 3, none⟩) (Kd.R_far (p := ⟨gb785, 2, none⟩) (Kd.R_far (p := ⟨gb785, 1, none⟩) (Kd.R_far (p := ⟨gb785, 0, none⟩) (Kd.R_mono HO_779001.out (fun k_ hk => (⟨hk, hk⟩ : _ ∧ k_ ≠ gb785))) (fun _ hk => hk.2) (.string (strOfNums y779))) (fun _ hk => hk.2) (.int .i64 2)) (fun _ hk => hk.2) (.float .f64 0)) (fun _ hk => hk.2) (.string (strOfNums y782))) (fun _ hk => hk.2) (.int .i64 0)) (fun _ hk => hk.2) (.int .i64 0)) (fun _ hk => hk.2) (.float .f64 0)) (fun _ hk => hk.2) (.string (⟨#[]⟩ : ByteArray))) (fun _ h_ => h_.1)))) (by decide) hg); replace BK785 := Aside0.mk (blk_grown (g := gb785) (o := .cells #[.string (strOfNums y779), .int .i64 2, .float .f64 0, .string (strOfNums y782), .int .i64 0, .int .i64 0, .float .f64 0, .string (⟨#[]⟩ : ByteArray)] 56 (0, 0)) (bR BK785) hg (Kd.R_away HO_779001.out (fun _ hk => hk))); replace HB := Aside0.mk (hb); clear HO_779001; clear ho hb hg hat; obtain ⟨Ao38, co38, eo38⟩ := Kd.R_slice HO788.out; subst eo38; obtain ⟨hcz39_0, hcz39_1, hcz39_2, hcz39_3, hfz39_0, hfz39_1, hfz39_2, hfz39_3⟩ := bf4 (w := w37) BK778))
           go_roundg k2
           case measure => have := HJ4.out; have := HK2.out; omega
           case rel => exact ⟨(wrap64 (x7_2 + 1)), (y786), (.slice Ao38 y786.length co38), (by first | rfl | (simp; done) | (simp [*]; done)), H', ⟨by have := HJ4.out; have := HK2.out; omega⟩, ⟨by (with_reducible repeat (first | apply Kd.R_alloc | apply Kd.R_drewN | apply Kd.R_drew)); exact Kd.R_mono (Kd.R_far (p := ⟨gb778, 1, none⟩) (Kd.R_types HO788.out BK778.out (by decide)) (fun _ hk => hk.2) (.slice Ao38 y786.length co38)) (fun _ hk => trivial)⟩, ⟨by (with_reducible repeat (first | refine blk_drewN ?_ _ | refine blk_drew ?_ | refine blk_alloc ?_ _)); refine blk_put (cs := #[.bool true, u779001, .slice none 0 0, .slice none 0 0]) ?_ 1 _ rfl; (with_reducible repeat (first | refine blk_drewN ?_ _ | refine blk_drew ?_ | refine blk_alloc ?_ _)); exact BK778.out⟩, ⟨by repeat (first | (with_reducible first | exact HB.out | apply below_alloc | apply pw_below_drewN | apply below_drew1 | refine below_set ?_ GE778.out | refine below_set ?_ GE785.out) | exact HB.out)⟩⟩
          ·rw [if_neg c16] at H
           exact absurd H (by simp)
         ·rw [if_neg c15] at H
          exact absurd H (by simp)
        ·rw [if_neg c14] at H
         exact absurd H (by simp)
       ·rw [if_neg c13] at H
        have c13b0 : decide (x7_2 < a0) = false := decide_eq_false c13
        clear c13
        replace H := Option.bind_eq_some_iff.mp H
        obtain ⟨⟨t789, t790, t793, t796⟩, A400, H⟩ := H
        replace H : ((node_Encode.f k2 t789 t790 t793 t796).bind fun bt799 => ((engrosslaw11_Of.f k2 true x779001_2 ([] : List ByteArray) ([] : List Int)).bind fun bt803 => ((node_Size.f k2 bt803.1 bt803.2.1 bt803.2.2.1 bt803.2.2.2).bind fun t813 => (if t813 = (wrap64 (2 + (wrap64 (a0 * (wrap64 ((wrap64 (5 + a1)) + 1)))))) then (if ((bt799.2 == 0) == (decide ((wrap64 (2 + (wrap64 (a0 * (wrap64 ((wrap64 (5 + a1)) + 1)))))) ≤ 256))) = true then (if bt799.2 = 0 then (some true) else (some (bt799.2 == 4))) else (none)) else (none))))) = some r := H
        have A40 := Aside0.mk A400
        clear A400
        replace H := Option.bind_eq_some_iff.mp H
        obtain ⟨⟨t799, t802⟩, A410, H⟩ := H
        replace H : ((engrosslaw11_Of.f k2 true x779001_2 ([] : List ByteArray) ([] : List Int)).bind fun bt803 => ((node_Size.f k2 bt803.1 bt803.2.1 bt803.2.2.1 bt803.2.2.2).bind fun t813 => (if t813 = (wrap64 (2 + (wrap64 (a0 * (wrap64 ((wrap64 (5 + a1)) + 1)))))) then (if ((t802 == 0) == (decide ((wrap64 (2 + (wrap64 (a0 * (wrap64 ((wrap64 (5 + a1)) + 1)))))) ≤ 256))) = true then (if t802 = 0 then (some true) else (some (t802 == 4))) else (none)) else (none)))) = some r := H
        have A41 := Aside0.mk A410
        clear A410
        replace H := Option.bind_eq_some_iff.mp H
        obtain ⟨⟨t803, t804, t807, t810⟩, A420, H⟩ := H
        replace H : ((node_Size.f k2 t803 t804 t807 t810).bind fun t813 => (if t813 = (wrap64 (2 + (wrap64 (a0 * (wrap64 ((wrap64 (5 + a1)) + 1)))))) then (if ((t802 == 0) == (decide ((wrap64 (2 + (wrap64 (a0 * (wrap64 ((wrap64 (5 + a1)) + 1)))))) ≤ 256))) = true then (if t802 = 0 then (some true) else (some (t802 == 4))) else (none)) else (none))) = some r := H
        have A42 := Aside0.mk A420
        clear A420
        replace H := Option.bind_eq_some_iff.mp H
        obtain ⟨t813, A430, H⟩ := H
        replace H : (if t813 = (wrap64 (2 + (wrap64 (a0 * (wrap64 ((wrap64 (5 + a1)) + 1)))))) then (if ((t802 == 0) == (decide ((wrap64 (2 + (wrap64 (a0 * (wrap64 ((wrap64 (5 + a1)) + 1)))))) ≤ 256))) = true then (if t802 = 0 then (some true) else (some (t802 == 4))) else (none)) else (none)) = some r := H
        have A43 := Aside0.mk A430
        clear A430
        by_cases c44 : t813 = (wrap64 (2 + (wrap64 (a0 * (wrap64 ((wrap64 (5 + a1)) + 1))))))
        ·rw [if_pos c44] at H
         have c44b0 : (t813 == (wrap64 (2 + (wrap64 (a0 * (wrap64 ((wrap64 (5 + a1)) + 1))))))) = true := beq_iff_eq.mpr c44
         have c44b1 : (t813 != (wrap64 (2 + (wrap64 (a0 * (wrap64 ((wrap64 (5 + a1)) + 1))))))) = false := bne_eq_false_iff_eq.mpr c44
         clear c44
         by_cases c45 : ((t802 == 0) == (decide ((wrap64 (2 + (wrap64 (a0 * (wrap64 ((wrap64 (5 + a1)) + 1)))))) ≤ 256))) = true
         ·rw [if_pos c45] at H
          have c45b0 : ((t802 == 0) == (decide ((wrap64 (2 + (wrap64 (a0 * (wrap64 ((wrap64 (5 + a1)) + 1)))))) ≤ 256))) = true := c45
          (try (have c45b1 : decide ((t802 == 0) = (decide ((wrap64 (2 + (wrap64 (a0 * (wrap64 ((wrap64 (5 + a1)) + 1)))))) ≤ 256))) = true := by simpa using c45))
          (try (have c45b2 : ((t802 == 0) == (decide ((wrap64 (2 + (wrap64 (a0 * (wrap64 ((wrap64 (5 + a1)) + 1)))))) ≤ 256))) = true := by simpa using c45))
          clear c45
          by_cases c46 : t802 = 0
          ·rw [if_pos c46] at H
           have c46b0 : (t802 == 0) = true := beq_iff_eq.mpr c46
           have c46b1 : (t802 != 0) = false := bne_eq_false_iff_eq.mpr c46
           clear c46
           obtain rfl := Option.some.inj H
           obtain ⟨hcz47_0, hcz47_1, hcz47_2, hcz47_3, hfz47_0, hfz47_1, hfz47_2, hfz47_3⟩ := bf4 (w := wr) BK778
           obtain ⟨Ao48, co48, eo48⟩ := Kd.R_slice HO_779001.out
           subst eo48
           go_wp2_with (first | (go_at_call 17; refine calls_of_args (args' := #[.agg #[.bool true, .slice Ao48 x779001_2.length co48, .slice none ([] : List ByteArray).length 0, .slice none ([] : List Int).length 0]]) (by first | rfl | ((try simp only [List.map_toArray, List.map_cons, List.map_nil]); rfl)) ?_; (with_reducible refine (engrosslaw11_Of.calls k2 true _ _ x779001_2 (fun k_ => False) _ _ ([] : List ByteArray) (fun k_ => False) _ _ ([] : List Int) t789 t790 t793 t796 _ ?side1 ?side2 ?side3 ?side4 A40.out).mono ?_); (case side1 => repeat (first | exact (Kd.R_reads' HO_779001.out).2.2 | (with_reducible refine Kd.C_alloc ?_ _) | (with_reducible refine Kd.C_drewN ?_ _) | (with_reducible refine Kd.C_drew ?_))); (case side2 => exact (Kd.R_reads' HO_779001.out).2.1); (case side3 => exact Kd.V_nil _ _ _ _ _); (case side4 => exact Kd.V_nil _ _ _ _ _); rintro e w49 ⟨v791, v794, v797, rfl, ho0, ho1, ho2, hb⟩; have HO792 := Aside0.mk (Kd.R_lower (Kd.R_mono (ok' := fun k_ => True) ho0 (fun _ hk_ => trivial)) (below_size (bC HB))); have HO795 := Aside0.mk (Kd.V_lower (Kd.V_mono (ok' := fun k_ => some k_ ≠ (v791 : Value).ownBlock ∧ some k_ ≠ (.slice Ao48 x779001_2.length co48 : Value).ownBlock ∧ k_ ≠ gb778) ho1 (fun k_ hk_ => ⟨hk_.2, Or.elim hk_.1 (fun hs_ => Or.elim hs_ (fun hs_ => (hs_).elim) (fun hs_ => (hs_).elim)) (fun hn_ => (Kd.fresh' (Kd.R_lt (by (with_reducible repeat (first | apply Kd.R_alloc | apply Kd.R_drewN | apply Kd.R_drew)); exact HO_779001.out)) k_ hn_)), Or.elim hk_.1 (fun hs_ => Or.elim hs_ (fun hs_ => (hs_).elim) (fun hs_ => (hs_).elim)) (fun hn_ => (Kd.freshB (bQ BK778) k_ hn_))⟩)) (below_size (bC HB))); have HO798 := Aside0.mk (Kd.V_lower (Kd.V_mono (ok' := fun k_ => some k_ ≠ (v791 : Value).ownBlock ∧ some k_ ≠ (.slice Ao48 x779001_2.length co48 : Value).ownBlock ∧ k_ ≠ gb778) ho2 (fun k_ hk_ => ⟨hk_.2, Or.elim hk_.1 (fun hs_ => Or.elim hs_ (fun hs_ => (hs_).elim) (fun hs_ => (hs_).elim)) (fun hn_ => (Kd.fresh' (Kd.R_lt (by (with_reducible repeat (first | apply Kd.R_alloc | apply Kd.R_drewN | apply Kd.R_drew)); exact HO_779001.out)) k_ hn_)), Or.elim hk_.1 (fun hs_ => Or.elim hs_ (fun hs_ => (hs_).elim) (fun hs_ => (hs_).elim)) (fun hn_ => (Kd.freshB (bQ BK778) k_ hn_))⟩)) (below_size (bC HB))); replace HO_779001 := Aside0.mk (Kd.R_below (by (with_reducible repeat (first | apply Kd.R_alloc | apply Kd.R_drewN | apply Kd.R_drew)); exact HO_779001.out) hb); replace BK778 := bB BK778 hb; replace HB := bW HB hb; (try clear A40); (try clear hb); (try clear hb2); (try clear hk); (try clear hi); (try clear ho0); (try clear ho1); (try clear ho2); obtain ⟨Ao50, co50, eo50⟩ := Kd.R_slice HO792.out; subst eo50; obtain ⟨Ao51, co51, eo51⟩ := Kd.V_slice HO795.out; subst eo51; obtain ⟨Ao52, co52, eo52⟩ := Kd.V_slice HO798.out; subst eo52) | ((with_reducible refine gate_callee (f := 19) rfl ?_); refine goesL_ (some 65) rfl rfl Try.func19 (by kernel_rfl) rfl #[.agg #[.bool t789, .slice Ao50 t790.length co50, .slice Ao51 t793.length co51, .slice Ao52 t796.length co52]] rfl (by (try simp only [List.map_toArray, List.map_cons, List.map_nil]); first | done | rfl | (simp only [List.length_drop, List.length_take]; rfl)) ?_; (with_reducible refine (node_Encode.calls k2 t789 _ _ t790 _ _ t793 _ _ t796 t799 t802 _ ?side1 ?side2 ?side3 ?side4 ?side5 ?side6 A41.out).mono ?_); (case side1 => repeat (first | exact (Kd.R_reads' HO792.out).2.2 | (with_reducible refine Kd.C_alloc ?_ _) | (with_reducible refine Kd.C_drewN ?_ _) | (with_reducible refine Kd.C_drew ?_))); (case side2 => exact (Kd.R_reads' HO792.out).2.1); (case side3 => repeat (first | exact (Kd.V_reads' HO795.out).2.2 | (with_reducible refine Kd.C_alloc ?_ _) | (with_reducible refine Kd.C_drewN ?_ _) | (with_reducible refine Kd.C_drew ?_))); (case side4 => exact (Kd.V_reads' HO795.out).2.1); (case side5 => repeat (first | exact (Kd.V_reads' HO798.out).2.2 | (with_reducible refine Kd.C_alloc ?_ _) | (with_reducible refine Kd.C_drewN ?_ _) | (with_reducible refine Kd.C_drew ?_))); (case side6 => exact (Kd.V_reads' HO798.out).2.1); rintro e w53 ⟨v800, rfl, ho0, hb⟩; refine ⟨_, rfl, ?_⟩; have HO801 := Aside0.mk (Kd.R_lower ho0 (below_size (bC HB))); replace HO_779001 := Aside0.mk (Kd.R_below (by (with_reducible repeat (first | apply Kd.R_alloc | apply Kd.R_drewN | apply Kd.R_drew)); exact HO_779001.out) hb); replace HO792 := Aside0.mk (Kd.R_below (by (with_reducible repeat (first | apply Kd.R_alloc | apply Kd.R_drewN | apply Kd.R_drew)); exact HO792.out) hb); replace HO795 := Aside0.mk (Kd.V_elder' (by (with_reducible repeat (first | apply Kd.V_alloc | apply Kd.V_drewN | apply Kd.V_drew)); exact HO795.out) (Kd.R_base ho0) hb); replace HO798 := Aside0.mk (Kd.V_elder' (by (with_reducible repeat (first | apply Kd.V_alloc | apply Kd.V_drewN | apply Kd.V_drew)); exact HO798.out) (Kd.R_base ho0) hb); replace BK778 := bB BK778 hb; replace HB := bW HB hb; (try clear hb); (try clear hb2); (try clear hk); (try clear hi); (try clear ho0); obtain ⟨hcz54_0, hcz54_1, hcz54_2, hcz54_3, hfz54_0, hfz54_1, hfz54_2, hfz54_3⟩ := bf4 (w := w53) BK778) | (go_at_call 17; refine calls_of_args (args' := #[.agg #[.bool true, .slice Ao48 x779001_2.length co48, .slice none ([] : List ByteArray).length 0, .slice none ([] : List Int).length 0]]) (by first | rfl | ((try simp only [List.map_toArray, List.map_cons, List.map_nil]); rfl)) ?_; (with_reducible refine (engrosslaw11_Of.calls k2 true _ _ x779001_2 (fun k_ => False) _ _ ([] : List ByteArray) (fun k_ => False) _ _ ([] : List Int) t803 t804 t807 t810 _ ?side1 ?side2 ?side3 ?side4 A42.out).mono ?_); (case side1 => repeat (first | exact (Kd.R_reads' HO_779001.out).2.2 | (with_reducible refine Kd.C_alloc ?_ _) | (with_reducible refine Kd.C_drewN ?_ _) | (with_reducible refine Kd.C_drew ?_))); (case side2 => exact (Kd.R_reads' HO_779001.out).2.1); (case side3 => exact Kd.V_nil _ _ _ _ _); (case side4 => exact Kd.V_nil _ _ _ _ _); rintro e w55 ⟨v805, v808, v811, rfl, ho0, ho1, ho2, hb⟩; have HO806 := Aside0.mk (Kd.R_lower (Kd.R_new' (Kd.R_mono (ok' := fun k_ => True) ho0 (fun _ hk_ => trivial)) (Kd.R_lt (by (with_reducible repeat (first | apply Kd.R_alloc | apply Kd.R_drewN | apply Kd.R_drew)); exact HO792.out))) (below_size (bC HB))); have HO809 := Aside0.mk (Kd.V_lower (Kd.V_mono (ok' := fun k_ => some k_ ≠ (v805 : Value).ownBlock ∧ some k_ ≠ (.slice Ao48 x779001_2.length co48 : Value).ownBlock ∧ some k_ ≠ (.slice Ao50 t790.length co50 : Value).ownBlock ∧ some k_ ≠ (v800 : Value).ownBlock ∧ k_ ≠ gb778) ho1 (fun k_ hk_ => ⟨hk_.2, Or.elim hk_.1 (fun hs_ => Or.elim hs_ (fun hs_ => (hs_).elim) (fun hs_ => (hs_).elim)) (fun hn_ => (Kd.fresh' (Kd.R_lt (by (with_reducible repeat (first | apply Kd.R_alloc | apply Kd.R_drewN | apply Kd.R_drew)); exact HO_779001.out)) k_ hn_)), Or.elim hk_.1 (fun hs_ => Or.elim hs_ (fun hs_ => (hs_).elim) (fun hs_ => (hs_).elim)) (fun hn_ => (Kd.fresh' (Kd.R_lt (by (with_reducible repeat (first | apply Kd.R_alloc | apply Kd.R_drewN | apply Kd.R_drew)); exact HO792.out)) k_ hn_)), Or.elim hk_.1 (fun hs_ => Or.elim hs_ (fun hs_ => (hs_).elim) (fun hs_ => (hs_).elim)) (fun hn_ => (Kd.fresh' (Kd.R_lt (by (with_reducible repeat (first | apply Kd.R_alloc | apply Kd.R_drewN | apply Kd.R_drew)); exact HO801.out)) k_ hn_)), Or.elim hk_.1 (fun hs_ => Or.elim hs_ (fun hs_ => (hs_).elim) (fun hs_ => (hs_).elim)) (fun hn_ => (Kd.freshB (bQ BK778) k_ hn_))⟩)) (below_size (bC HB))); have HO812 := Aside0.mk (Kd.V_lower (Kd.V_mono (ok' := fun k_ => some k_ ≠ (v805 : Value).ownBlock ∧ some k_ ≠ (.slice Ao48 x779001_2.length co48 : Value).ownBlock ∧ some k_ ≠ (.slice Ao50 t790.length co50 : Value).ownBlock ∧ some k_ ≠ (v800 : Value).ownBlock ∧ k_ ≠ gb778) ho2 (fun k_ hk_ => ⟨hk_.2, Or.elim hk_.1 (fun hs_ => Or.elim hs_ (fun hs_ => (hs_).elim) (fun hs_ => (hs_).elim)) (fun hn_ => (Kd.fresh' (Kd.R_lt (by (with_reducible repeat (first | apply Kd.R_alloc | apply Kd.R_drewN | apply Kd.R_drew)); exact HO_779001.out)) k_ hn_)), Or.elim hk_.1 (fun hs_ => Or.elim hs_ (fun hs_ => (hs_).elim) (fun hs_ => (hs_).elim)) (fun hn_ => (Kd.fresh' (Kd.R_lt (by (with_reducible repeat (first | apply Kd.R_alloc | apply Kd.R_drewN | apply Kd.R_drew)); exact HO792.out)) k_ hn_)), Or.elim hk_.1 (fun hs_ => Or.elim hs_ (fun hs_ => (hs_).elim) (fun hs_ => (hs_).elim)) (fun hn_ => (Kd.fresh' (Kd.R_lt (by (with_reducible repeat (first | apply Kd.R_alloc | apply Kd.R_drewN | apply Kd.R_drew)); exact HO801.out)) k_ hn_)), Or.elim hk_.1 (fun hs_ => Or.elim hs_ (fun hs_ => (hs_).elim) (fun hs_ => (hs_).elim)) (fun hn_ => (Kd.freshB (bQ BK778) k_ hn_))⟩)) (below_size (bC HB))); replace HO_779001 := Aside0.mk (Kd.R_below (by (with_reducible repeat (first | apply Kd.R_alloc | apply Kd.R_drewN | apply Kd.R_drew)); exact HO_779001.out) hb); replace HO792 := Aside0.mk (Kd.R_elder' (by (with_reducible repeat (first | apply Kd.R_alloc | apply Kd.R_drewN | apply Kd.R_drew)); exact HO792.out) (Kd.R_base ho0) hb); replace HO795 := Aside0.mk (Kd.V_elder' (by (with_reducible repeat (first | apply Kd.V_alloc | apply Kd.V_drewN | apply Kd.V_drew)); exact HO795.out) (Kd.R_base ho0) hb); replace HO798 := Aside0.mk (Kd.V_elder' (by (with_reducible repeat (first | apply Kd.V_alloc | apply Kd.V_drewN | apply Kd.V_drew)); exact HO798.out) (Kd.R_base ho0) hb); replace HO801 := Aside0.mk (Kd.R_below (by (with_reducible repeat (first | apply Kd.R_alloc | apply Kd.R_drewN | apply Kd.R_drew)); exact HO801.out) hb); replace BK778 := bB BK778 hb; replace HB := bW HB hb; (try clear A42); (try clear hb); (try clear hb2); (try clear hk); (try clear hi); (try clear ho0); (try clear ho1); (try clear ho2); obtain ⟨Ao56, co56, eo56⟩ := Kd.R_slice HO806.out; subst eo56; obtain ⟨Ao57, co57, eo57⟩ := Kd.V_slice HO809.out; subst eo57; obtain ⟨Ao58, co58, eo58⟩ := Kd.V_slice HO812.out; subst eo58) | ((with_reducible refine gate_callee (f := 18) rfl ?_); refine goesL_ (some 70) rfl rfl Try.func18 (by kernel_rfl) rfl #[.agg #[.bool t803, .slice Ao56 t804.length co56, .slice Ao57 t807.length co57, .slice Ao58 t810.length co58]] rfl (by (try simp only [List.map_toArray, List.map_cons, List.map_nil]); first | done | rfl | (simp only [List.length_drop, List.length_take]; rfl)) ?_; (with_reducible refine (node_Size.calls k2 t803 _ _ t804 _ _ t807 _ _ t810 t813 _ ?side1 ?side2 ?side3 ?side4 ?side5 ?side6 A43.out).mono ?_); (case side1 => repeat (first | exact (Kd.R_reads' HO806.out).2.2 | (with_reducible refine Kd.C_alloc ?_ _) | (with_reducible refine Kd.C_drewN ?_ _) | (with_reducible refine Kd.C_drew ?_))); (case side2 => exact (Kd.R_reads' HO806.out).2.1); (case side3 => repeat (first | exact (Kd.V_reads' HO809.out).2.2 | (with_reducible refine Kd.C_alloc ?_ _) | (with_reducible refine Kd.C_drewN ?_ _) | (with_reducible refine Kd.C_drew ?_))); (case side4 => exact (Kd.V_reads' HO809.out).2.1); (case side5 => repeat (first | exact (Kd.V_reads' HO812.out).2.2 | (with_reducible refine Kd.C_alloc ?_ _) | (with_reducible refine Kd.C_drewN ?_ _) | (with_reducible refine Kd.C_drew ?_))); (case side6 => exact (Kd.V_reads' HO812.out).2.1); rintro e w59 ⟨rfl, hb⟩; refine ⟨_, rfl, ?_⟩; replace HO_779001 := Aside0.mk (Kd.R_below (by (with_reducible repeat (first | apply Kd.R_alloc | apply Kd.R_drewN | apply Kd.R_drew)); exact HO_779001.out) hb); replace HO792 := Aside0.mk (Kd.R_below (by (with_reducible repeat (first | apply Kd.R_alloc | apply Kd.R_drewN | apply Kd.R_drew)); exact HO792.out) hb); replace HO795 := Aside0.mk (Kd.V_below (by (with_reducible repeat (first | apply Kd.V_alloc | apply Kd.V_drewN | apply Kd.V_drew)); exact HO795.out) hb); replace HO798 := Aside0.mk (Kd.V_below (by (with_reducible repeat (first | apply Kd.V_alloc | apply Kd.V_drewN | apply Kd.V_drew)); exact HO798.out) hb); replace HO801 := Aside0.mk (Kd.R_below (by (with_reducible repeat (first | apply Kd.R_alloc | apply Kd.R_drewN | apply Kd.R_drew)); exact HO801.out) hb); replace HO806 := Aside0.mk (Kd.R_below (by (with_reducible repeat (first | apply Kd.R_alloc | apply Kd.R_drewN | apply Kd.R_drew)); exact HO806.out) hb); replace HO809 := Aside0.mk (Kd.V_below (by (with_reducible repeat (first | apply Kd.V_alloc | apply Kd.V_drewN | apply Kd.V_drew)); exact HO809.out) hb); replace HO812 := Aside0.mk (Kd.V_below (by (with_reducible repeat (first | apply Kd.V_alloc | apply Kd.V_drewN | apply Kd.V_drew)); exact HO812.out) hb); replace BK778 := bB BK778 hb; replace HB := bW HB hb; (try clear hb); (try clear hb2); (try clear hk); (try clear hi)))
           all_goals (try (exfalso; rename_i hh_; rw [c46b0] at c45b0; first | exact absurd (by simpa using c45b0) (Int.not_le.2 hh_) | exact absurd hh_ (by simpa using c45b0)))
           all_goals go_ret
           all_goals exact ⟨by first | rfl | (simp [errW_none, errW_some] <;> rfl) | (simp [*, errW_none, errW_some] <;> rfl), by repeat (first | (with_reducible first | exact HB.out | apply below_alloc | apply pw_below_drewN | apply below_drew1 | refine below_set ?_ GE778.out) | exact HB.out)⟩
          ·rw [if_neg c46] at H
           have c46b0 : (t802 == 0) = false := beq_eq_false_iff_ne.mpr c46
           have c46b1 : (t802 != 0) = true := bne_iff_ne.mpr c46
           obtain rfl := Option.some.inj H
           obtain ⟨hcz60_0, hcz60_1, hcz60_2, hcz60_3, hfz60_0, hfz60_1, hfz60_2, hfz60_3⟩ := bf4 (w := wr) BK778
           obtain ⟨Ao61, co61, eo61⟩ := Kd.R_slice HO_779001.out
           subst eo61
           go_wp2_with (first | (go_at_call 17; refine calls_of_args (args' := #[.agg #[.bool true, .slice Ao61 x779001_2.length co61, .slice none ([] : List ByteArray).length 0, .slice none ([] : List Int).length 0]]) (by first | rfl | ((try simp only [List.map_toArray, List.map_cons, List.map_nil]); rfl)) ?_; (with_reducible refine (engrosslaw11_Of.calls k2 true _ _ x779001_2 (fun k_ => False) _ _ ([] : List ByteArray) (fun k_ => False) _ _ ([] : List Int) t789 t790 t793 t796 _ ?side1 ?side2 ?side3 ?side4 A40.out).mono ?_); (case side1 => repeat (first | exact (Kd.R_reads' HO_779001.out).2.2 | (with_reducible refine Kd.C_alloc ?_ _) | (with_reducible refine Kd.C_drewN ?_ _) | (with_reducible refine Kd.C_drew ?_))); (case side2 => exact (Kd.R_reads' HO_779001.out).2.1); (case side3 => exact Kd.V_nil _ _ _ _ _); (case side4 => exact Kd.V_nil _ _ _ _ _); rintro e w62 ⟨v791, v794, v797, rfl, ho0, ho1, ho2, hb⟩; have HO792 := Aside0.mk (Kd.R_lower (Kd.R_mono (ok' := fun k_ => True) ho0 (fun _ hk_ => trivial)) (below_size (bC HB))); have HO795 := Aside0.mk (Kd.V_lower (Kd.V_mono (ok' := fun k_ => some k_ ≠ (v791 : Value).ownBlock ∧ some k_ ≠ (.slice Ao61 x779001_2.length co61 : Value).ownBlock ∧ k_ ≠ gb778) ho1 (fun k_ hk_ => ⟨hk_.2, Or.elim hk_.1 (fun hs_ => Or.elim hs_ (fun hs_ => (hs_).elim) (fun hs_ => (hs_).elim)) (fun hn_ => (Kd.fresh' (Kd.R_lt (by (with_reducible repeat (first | apply Kd.R_alloc | apply Kd.R_drewN | apply Kd.R_drew)); exact HO_779001.out)) k_ hn_)), Or.elim hk_.1 (fun hs_ => Or.elim hs_ (fun hs_ => (hs_).elim) (fun hs_ => (hs_).elim)) (fun hn_ => (Kd.freshB (bQ BK778) k_ hn_))⟩)) (below_size (bC HB))); have HO798 := Aside0.mk (Kd.V_lower (Kd.V_mono (ok' := fun k_ => some k_ ≠ (v791 : Value).ownBlock ∧ some k_ ≠ (.slice Ao61 x779001_2.length co61 : Value).ownBlock ∧ k_ ≠ gb778) ho2 (fun k_ hk_ => ⟨hk_.2, Or.elim hk_.1 (fun hs_ => Or.elim hs_ (fun hs_ => (hs_).elim) (fun hs_ => (hs_).elim)) (fun hn_ => (Kd.fresh' (Kd.R_lt (by (with_reducible repeat (first | apply Kd.R_alloc | apply Kd.R_drewN | apply Kd.R_drew)); exact HO_779001.out)) k_ hn_)), Or.elim hk_.1 (fun hs_ => Or.elim hs_ (fun hs_ => (hs_).elim) (fun hs_ => (hs_).elim)) (fun hn_ => (Kd.freshB (bQ BK778) k_ hn_))⟩)) (below_size (bC HB))); replace HO_779001 := Aside0.mk (Kd.R_below (by (with_reducible repeat (first | apply Kd.R_alloc | apply Kd.R_drewN | apply Kd.R_drew)); exact HO_779001.out) hb); replace BK778 := bB BK778 hb; replace HB := bW HB hb; (try clear A40); (try clear hb); (try clear hb2); (try clear hk); (try clear hi); (try clear ho0); (try clear ho1); (try clear ho2); obtain ⟨Ao63, co63, eo63⟩ := Kd.R_slice HO792.out; subst eo63; obtain ⟨Ao64, co64, eo64⟩ := Kd.V_slice HO795.out; subst eo64; obtain ⟨Ao65, co65, eo65⟩ := Kd.V_slice HO798.out; subst eo65) | ((with_reducible refine gate_callee (f := 19) rfl ?_); refine goesL_ (some 65) rfl rfl Try.func19 (by kernel_rfl) rfl #[.agg #[.bool t789, .slice Ao63 t790.length co63, .slice Ao64 t793.length co64, .slice Ao65 t796.length co65]] rfl (by (try simp only [List.map_toArray, List.map_cons, List.map_nil]); first | done | rfl | (simp only [List.length_drop, List.length_take]; rfl)) ?_; (with_reducible refine (node_Encode.calls k2 t789 _ _ t790 _ _ t793 _ _ t796 t799 t802 _ ?side1 ?side2 ?side3 ?side4 ?side5 ?side6 A41.out).mono ?_); (case side1 => repeat (first | exact (Kd.R_reads' HO792.out).2.2 | (with_reducible refine Kd.C_alloc ?_ _) | (with_reducible refine Kd.C_drewN ?_ _) | (with_reducible refine Kd.C_drew ?_))); (case side2 => exact (Kd.R_reads' HO792.out).2.1); (case side3 => repeat (first | exact (Kd.V_reads' HO795.out).2.2 | (with_reducible refine Kd.C_alloc ?_ _) | (with_reducible refine Kd.C_drewN ?_ _) | (with_reducible refine Kd.C_drew ?_))); (case side4 => exact (Kd.V_reads' HO795.out).2.1); (case side5 => repeat (first | exact (Kd.V_reads' HO798.out).2.2 | (with_reducible refine Kd.C_alloc ?_ _) | (with_reducible refine Kd.C_drewN ?_ _) | (with_reducible refine Kd.C_drew ?_))); (case side6 => exact (Kd.V_reads' HO798.out).2.1); rintro e w66 ⟨v800, rfl, ho0, hb⟩; refine ⟨_, rfl, ?_⟩; have HO801 := Aside0.mk (Kd.R_lower ho0 (below_size (bC HB))); replace HO_779001 := Aside0.mk (Kd.R_below (by (with_reducible repeat (first | apply Kd.R_alloc | apply Kd.R_drewN | apply Kd.R_drew)); exact HO_779001.out) hb); replace HO792 := Aside0.mk (Kd.R_below (by (with_reducible repeat (first | apply Kd.R_alloc | apply Kd.R_drewN | apply Kd.R_drew)); exact HO792.out) hb); replace HO795 := Aside0.mk (Kd.V_elder' (by (with_reducible repeat (first | apply Kd.V_alloc | apply Kd.V_drewN | apply Kd.V_drew)); exact HO795.out) (Kd.R_base ho0) hb); replace HO798 := Aside0.mk (Kd.V_elder' (by (with_reducible repeat (first | apply Kd.V_alloc | apply Kd.V_drewN | apply Kd.V_drew)); exact HO798.out) (Kd.R_base ho0) hb); replace BK778 := bB BK778 hb; replace HB := bW HB hb; (try clear hb); (try clear hb2); (try clear hk); (try clear hi); (try clear ho0); obtain ⟨hcz67_0, hcz67_1, hcz67_2, hcz67_3, hfz67_0, hfz67_1, hfz67_2, hfz67_3⟩ := bf4 (w := w66) BK778) | (go_at_call 17; refine calls_of_args (args' := #[.agg #[.bool true, .slice Ao61 x779001_2.length co61, .slice none ([] : List ByteArray).length 0, .slice none ([] : List Int).length 0]]) (by first | rfl | ((try simp only [List.map_toArray, List.map_cons, List.map_nil]); rfl)) ?_; (with_reducible refine (engrosslaw11_Of.calls k2 true _ _ x779001_2 (fun k_ => False) _ _ ([] : List ByteArray) (fun k_ => False) _ _ ([] : List Int) t803 t804 t807 t810 _ ?side1 ?side2 ?side3 ?side4 A42.out).mono ?_); (case side1 => repeat (first | exact (Kd.R_reads' HO_779001.out).2.2 | (with_reducible refine Kd.C_alloc ?_ _) | (with_reducible refine Kd.C_drewN ?_ _) | (with_reducible refine Kd.C_drew ?_))); (case side2 => exact (Kd.R_reads' HO_779001.out).2.1); (case side3 => exact Kd.V_nil _ _ _ _ _); (case side4 => exact Kd.V_nil _ _ _ _ _); rintro e w68 ⟨v805, v808, v811, rfl, ho0, ho1, ho2, hb⟩; have HO806 := Aside0.mk (Kd.R_lower (Kd.R_new' (Kd.R_mono (ok' := fun k_ => True) ho0 (fun _ hk_ => trivial)) (Kd.R_lt (by (with_reducible repeat (first | apply Kd.R_alloc | apply Kd.R_drewN | apply Kd.R_drew)); exact HO792.out))) (below_size (bC HB))); have HO809 := Aside0.mk (Kd.V_lower (Kd.V_mono (ok' := fun k_ => some k_ ≠ (v805 : Value).ownBlock ∧ some k_ ≠ (.slice Ao61 x779001_2.length co61 : Value).ownBlock ∧ some k_ ≠ (.slice Ao63 t790.length co63 : Value).ownBlock ∧ some k_ ≠ (v800 : Value).ownBlock ∧ k_ ≠ gb778) ho1 (fun k_ hk_ => ⟨hk_.2, Or.elim hk_.1 (fun hs_ => Or.elim hs_ (fun hs_ => (hs_).elim) (fun hs_ => (hs_).elim)) (fun hn_ => (Kd.fresh' (Kd.R_lt (by (with_reducible repeat (first | apply Kd.R_alloc | apply Kd.R_drewN | apply Kd.R_drew)); exact HO_779001.out)) k_ hn_)), Or.elim hk_.1 (fun hs_ => Or.elim hs_ (fun hs_ => (hs_).elim) (fun hs_ => (hs_).elim)) (fun hn_ => (Kd.fresh' (Kd.R_lt (by (with_reducible repeat (first | apply Kd.R_alloc | apply Kd.R_drewN | apply Kd.R_drew)); exact HO792.out)) k_ hn_)), Or.elim hk_.1 (fun hs_ => Or.elim hs_ (fun hs_ => (hs_).elim) (fun hs_ => (hs_).elim)) (fun hn_ => (Kd.fresh' (Kd.R_lt (by (with_reducible repeat (first | apply Kd.R_alloc | apply Kd.R_drewN | apply Kd.R_drew)); exact HO801.out)) k_ hn_)), Or.elim hk_.1 (fun hs_ => Or.elim hs_ (fun hs_ => (hs_).elim) (fun hs_ => (hs_).elim)) (fun hn_ => (Kd.freshB (bQ BK778) k_ hn_))⟩)) (below_size (bC HB))); have HO812 := Aside0.mk (Kd.V_lower (Kd.V_mono (ok' := fun k_ => some k_ ≠ (v805 : Value).ownBlock ∧ some k_ ≠ (.slice Ao61 x779001_2.length co61 : Value).ownBlock ∧ some k_ ≠ (.slice Ao63 t790.length co63 : Value).ownBlock ∧ some k_ ≠ (v800 : Value).ownBlock ∧ k_ ≠ gb778) ho2 (fun k_ hk_ => ⟨hk_.2, Or.elim hk_.1 (fun hs_ => Or.elim hs_ (fun hs_ => (hs_).elim) (fun hs_ => (hs_).elim)) (fun hn_ => (Kd.fresh' (Kd.R_lt (by (with_reducible repeat (first | apply Kd.R_alloc | apply Kd.R_drewN | apply Kd.R_drew)); exact HO_779001.out)) k_ hn_)), Or.elim hk_.1 (fun hs_ => Or.elim hs_ (fun hs_ => (hs_).elim) (fun hs_ => (hs_).elim)) (fun hn_ => (Kd.fresh' (Kd.R_lt (by (with_reducible repeat (first | apply Kd.R_alloc | apply Kd.R_drewN | apply Kd.R_drew)); exact HO792.out)) k_ hn_)), Or.elim hk_.1 (fun hs_ => Or.elim hs_ (fun hs_ => (hs_).elim) (fun hs_ => (hs_).elim)) (fun hn_ => (Kd.fresh' (Kd.R_lt (by (with_reducible repeat (first | apply Kd.R_alloc | apply Kd.R_drewN | apply Kd.R_drew)); exact HO801.out)) k_ hn_)), Or.elim hk_.1 (fun hs_ => Or.elim hs_ (fun hs_ => (hs_).elim) (fun hs_ => (hs_).elim)) (fun hn_ => (Kd.freshB (bQ BK778) k_ hn_))⟩)) (below_size (bC HB))); replace HO_779001 := Aside0.mk (Kd.R_below (by (with_reducible repeat (first | apply Kd.R_alloc | apply Kd.R_drewN | apply Kd.R_drew)); exact HO_779001.out) hb); replace HO792 := Aside0.mk (Kd.R_elder' (by (with_reducible repeat (first | apply Kd.R_alloc | apply Kd.R_drewN | apply Kd.R_drew)); exact HO792.out) (Kd.R_base ho0) hb); replace HO795 := Aside0.mk (Kd.V_elder' (by (with_reducible repeat (first | apply Kd.V_alloc | apply Kd.V_drewN | apply Kd.V_drew)); exact HO795.out) (Kd.R_base ho0) hb); replace HO798 := Aside0.mk (Kd.V_elder' (by (with_reducible repeat (first | apply Kd.V_alloc | apply Kd.V_drewN | apply Kd.V_drew)); exact HO798.out) (Kd.R_base ho0) hb); replace HO801 := Aside0.mk (Kd.R_below (by (with_reducible repeat (first | apply Kd.R_alloc | apply Kd.R_drewN | apply Kd.R_drew)); exact HO801.out) hb); replace BK778 := bB BK778 hb; replace HB := bW HB hb; (try clear A42); (try clear hb); (try clear hb2); (try clear hk); (try clear hi); (try clear ho0); (try clear ho1); (try clear ho2); obtain ⟨Ao69, co69, eo69⟩ := Kd.R_slice HO806.out; subst eo69; obtain ⟨Ao70, co70, eo70⟩ := Kd.V_slice HO809.out; subst eo70; obtain ⟨Ao71, co71, eo71⟩ := Kd.V_slice HO812.out; subst eo71) | ((with_reducible refine gate_callee (f := 18) rfl ?_); refine goesL_ (some 70) rfl rfl Try.func18 (by kernel_rfl) rfl #[.agg #[.bool t803, .slice Ao69 t804.length co69, .slice Ao70 t807.length co70, .slice Ao71 t810.length co71]] rfl (by (try simp only [List.map_toArray, List.map_cons, List.map_nil]); first | done | rfl | (simp only [List.length_drop, List.length_take]; rfl)) ?_; (with_reducible refine (node_Size.calls k2 t803 _ _ t804 _ _ t807 _ _ t810 t813 _ ?side1 ?side2 ?side3 ?side4 ?side5 ?side6 A43.out).mono ?_); (case side1 => repeat (first | exact (Kd.R_reads' HO806.out).2.2 | (with_reducible refine Kd.C_alloc ?_ _) | (with_reducible refine Kd.C_drewN ?_ _) | (with_reducible refine Kd.C_drew ?_))); (case side2 => exact (Kd.R_reads' HO806.out).2.1); (case side3 => repeat (first | exact (Kd.V_reads' HO809.out).2.2 | (with_reducible refine Kd.C_alloc ?_ _) | (with_reducible refine Kd.C_drewN ?_ _) | (with_reducible refine Kd.C_drew ?_))); (case side4 => exact (Kd.V_reads' HO809.out).2.1); (case side5 => repeat (first | exact (Kd.V_reads' HO812.out).2.2 | (with_reducible refine Kd.C_alloc ?_ _) | (with_reducible refine Kd.C_drewN ?_ _) | (with_reducible refine Kd.C_drew ?_))); (case side6 => exact (Kd.V_reads' HO812.out).2.1); rintro e w72 ⟨rfl, hb⟩; refine ⟨_, rfl, ?_⟩; replace HO_779001 := Aside0.mk (Kd.R_below (by (with_reducible repeat (first | apply Kd.R_alloc | apply Kd.R_drewN | apply Kd.R_drew)); exact HO_779001.out) hb); replace HO792 := Aside0.mk (Kd.R_below (by (with_reducible repeat (first | apply Kd.R_alloc | apply Kd.R_drewN | apply Kd.R_drew)); exact HO792.out) hb); replace HO795 := Aside0.mk (Kd.V_below (by (with_reducible repeat (first | apply Kd.V_alloc | apply Kd.V_drewN | apply Kd.V_drew)); exact HO795.out) hb); replace HO798 := Aside0.mk (Kd.V_below (by (with_reducible repeat (first | apply Kd.V_alloc | apply Kd.V_drewN | apply Kd.V_drew)); exact HO798.out) hb); replace HO801 := Aside0.mk (Kd.R_below (by (with_reducible repeat (first | apply Kd.R_alloc | apply Kd.R_drewN | apply Kd.R_drew)); exact HO801.out) hb); replace HO806 := Aside0.mk (Kd.R_below (by (with_reducible repeat (first | apply Kd.R_alloc | apply Kd.R_drewN | apply Kd.R_drew)); exact HO806.out) hb); replace HO809 := Aside0.mk (Kd.V_below (by (with_reducible repeat (first | apply Kd.V_alloc | apply Kd.V_drewN | apply Kd.V_drew)); exact HO809.out) hb); replace HO812 := Aside0.mk (Kd.V_below (by (with_reducible repeat (first | apply Kd.V_alloc | apply Kd.V_drewN | apply Kd.V_drew)); exact HO812.out) hb); replace BK778 := bB BK778 hb; replace HB := bW HB hb; (try clear hb); (try clear hb2); (try clear hk); (try clear hi)))
           all_goals (try (exfalso; rename_i hh_; rw [c46b0] at c45b0; first | exact absurd (by simpa using c45b0) (Int.not_le.2 hh_) | exact absurd hh_ (by simpa using c45b0)))
           all_goals go_ret
           all_goals exact ⟨by first | rfl | (simp [errW_none, errW_some] <;> rfl) | (simp [*, errW_none, errW_some] <;> rfl), by repeat (first | (with_reducible first | exact HB.out | apply below_alloc | apply pw_below_drewN | apply below_drew1 | refine below_set ?_ GE778.out) | exact HB.out)⟩
         ·rw [if_neg c45] at H
          exact absurd H (by simp)
        ·rw [if_neg c44] at H
         exact absurd H (by simp)
 ·replace c4 := Bool.eq_false_iff.mpr c4
  subst c4
  have H1 : (none) = some r := by rw [if_neg (show ¬ (false = true) by decide)] at H; exact H
  clear H
  have H := H1
  clear H1
  exact absurd H (by simp)
/-- THE ONE PURE STATEMENT of engrosslaw11_NodeFull: yours. -/
def engrosslaw11_NodeFull.Pure : Prop := ∀ (a0 : Int) (a1 : Int), (Lit.int .i64 a0).wf = true → (Lit.int .i64 a1).wf = true → ∃ k, engrosslaw11_NodeFull.f k a0 a1 = some true
theorem engrosslaw11_NodeFull.walk (P : engrosslaw11_NodeFull.Pure) (a0 : Int) (a1 : Int) (w : World) (w0 : (Lit.int .i64 a0).wf = true) (w1 : (Lit.int .i64 a1).wf = true) :
  Calls Try.prog 6 #[.int .i64 a0, .int .i64 a1] w fun e w' => e = .returned (.bool true) ∧ Below w.heap.size w w' := by
 obtain ⟨k, h⟩ := P a0 a1 w0 w1
 refine (engrosslaw11_NodeFull.calls k a0 a1 true w h).mono ?_
 rintro e w' ⟨rfl, hd⟩
 exact ⟨rfl, hd⟩
end Go.Proofs.Ytmmjpieafbjggaa.P
end
section
set_option linter.unusedVariables false
set_option linter.unusedSimpArgs false
namespace Go.Proofs.Ytmmjpieafbjggaa.Pure
open Go.RowKit Go.Proofs.Ytmmjpieafbjggaa.P Go.Proofs.YtmmjpieafbjggaaW.PrintWords Go.Proofs.YtmmjpieafbjggaaW.PrintLast Go.Proofs.YtmmjpieafbjggaaW.PrintMore
theorem begun11 {k : Nat} (hk : 100 ≤ k) : engrosslaw11_begun.f k = some true :=
  at_rounds (g := fun k => engrosslaw11_begun.f k) (fun k => engrosslaw11_begun.mono k) hk (show engrosslaw11_begun.f 100 = some true by decide +kernel)
end Go.Proofs.Ytmmjpieafbjggaa.Pure
end
