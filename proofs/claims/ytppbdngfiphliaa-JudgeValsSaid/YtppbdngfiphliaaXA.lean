/- engrosslaw28.JudgeVals: each call returns true. Condition: the row's own. -/
import Derived.Test.YtppbdngfiphliaaJudA
import Derived.Test.YtppbdngfiphliaaXU
import Derived.Laws.Tables
import Derived.Test.YtppbdngfiphliaaPx3
import Derived.Test.YtppbdngfiphliaaPx4
import Derived.Test.YtppbdngfiphliaaPx7
import Derived.Test.YtppbdngfiphliaaPx8
set_option linter.unusedVariables false
set_option linter.unusedSimpArgs false
namespace Go.Proofs.Ytppbdngfiphliaa.P
open Go.RowKit Go.Proofs.YtppbdngfiphliaaW.PrintWords Go.Proofs.YtppbdngfiphliaaW.PrintLast Go.Proofs.YtppbdngfiphliaaW.PrintMore
attribute [local go_sem] max2_int min2_int max_two min_two max_three min_three max_four min_four
attribute [local go_sem] x_str_gtr x_str_leq x_str_geq ext_bits ext_frombits ext_neg x_store_float Instr.field asAgg
theorem below_setRow {B : Nat} {w0 w : World} {g : Nat} {cs : Array Value} (h : Below B w0 w) (hg : B ≤ g) : Below B w0 (w.setRow g cs) :=
  h.trans ⟨rfl, rfl, rfl, by unfold World.setRow; simp, fun i hi => setRow_other w g i cs (by omega)⟩
theorem cellB {w W : World} {a : Addr} {v : Value} (h : w.cell? a = some v) (hb : Below w.heap.size w W) : W.cell? a = some v := (hb.cell (World.block_lt_of_cell? w _ h)).trans h
theorem event_fill {W : World} {ops : Array Oper} {rest : List Oper} {o : Oper} {a : Act} {Q : Exit → Act → World → Prop} (hgd : o.guard = none) (ty : TypeId) (x y : Operand) (ho : o.op = .store ty x y)
    (g : Nat) (cells : Array Value) (hx : a.eval x = .pointer (some ⟨g, 0, none⟩)) (hy : a.eval y = .agg cells) (t : TypeId) (old : Array Value) (hg : W.heap[g]? = some (.cells old t (0, 0))) (hi : (Try.prog.info? ty).map (·.size) = some cells.size)
    (hold : old.size = cells.size) (h1 : cells.all (·.oneCell') = true)
    (h : ∀ w1, w1.heap[g]? = some (.cells cells t (0, 0)) → (∀ B w0, Below B w0 W → B ≤ g → Below B w0 w1) → wpList Try.prog ops Q rest (a.put o.dst undef) w1) : wpList Try.prog ops Q (o :: rest) a W :=
  wpList_store_row hgd ty x y ho g cells hx hy t old hg hi hold h1 (h _ (setRow_heap _ _ _ _ _ _ hg) (fun B w0 hb hB => below_setRow hb hB))
theorem R_elderB2 {α : Type} {d : Kd α} {e base : Nat} {w : World} {ok : Nat → Prop} {v : Value} {xs : List α} (h : d.R e w base ok v xs) (a : Nat) (ha : w.heap.size ≤ a) : d.R e w base (fun k => ok k ∧ k ≠ a) v xs := Kd.R_mono (Kd.R_bound h) (fun k hk => ⟨hk.1, by have := hk.2.2.1; omega⟩)
def fcells (l : List Nat) : Array Value := (l.map (Value.float .f64)).toArray
theorem fcells_size (l : List Nat) : (fcells l).size = l.length := by simp [fcells]
theorem fcells_at {l : List Nat} {i : Nat} (h : i < l.length) : (fcells l)[i]? = some (.float .f64 (l.getD i 0)) := by
  simp [fcells, List.getD, h]
theorem fcells_set (l : List Nat) (i : Nat) (x : Nat) : (fcells l).setIfInBounds i (.float .f64 x) = fcells (l.set i x) := by
  apply Array.ext'
  simp [fcells, List.map_set]
set_option maxHeartbeats 8000000 in
set_option maxRecDepth 100000 in
theorem engrosslaw28_JudgeVals.calls (A0 : Option Addr) (c0 : Nat) (l0 : List Int) (A1 : Option Addr) (c1 : Nat) (l1 : List Bool) (w : World) (hr0 : Kd.C (Kd.int .i64) w A0 l0.length l0) (hc0 : l0.length ≤ c0) (hr1 : Kd.C Kd.bool w A1 l1.length l1) (hc1 : l1.length ≤ c1) :
  Calls Try.prog 6 #[.slice A0 l0.length c0, .slice A1 l1.length c1] w fun e w' => e = .returned (.bool true) ∧ Below w.heap.size w w' := by
  have HR0 := Aside0.mk hr0
  have HC0 := Aside0.mk hc0
  have HR1 := Aside0.mk hr1
  have HC1 := Aside0.mk hc1
  clear hr0 hc0 hr1 hc1
  have HB := Aside0.mk (Below.refl w.heap.size w)
  obtain ⟨k, hk⟩ : ∃ k : Nat, 5000 ≤ k := ⟨5000, Nat.le_refl _⟩
  have AB := Aside0.mk (Pure.begun28 (k := k) (by omega))
  have hu46 := Try.underlying46
  have hu38 := Try.underlying38
  have hu31 := Try.underlying31
  have hi46 : (Try.prog.info? 46).map (·.size) = some 26 := by kernel_rfl
  go_enter Try.func6, Try.ntmps6
  go_upto_block 0 with (first | ((with_reducible refine gate_callee (f := 7) rfl ?_); refine goesL_ (some 16) rfl rfl Try.func7 (by kernel_rfl) rfl #[] rfl (by (try simp only [List.map_toArray, List.map_cons, List.map_nil]); first | done | rfl | (simp only [List.length_drop, List.length_take]; rfl)) ?_; (with_reducible refine (engrosslaw28_begun.calls k true _ AB.out).mono ?_); rintro e w11 ⟨rfl, hb⟩; refine ⟨_, rfl, ?_⟩; replace HB := bW HB hb; (try clear hb)) | ((with_reducible refine gate_dst (N := 7) rfl ?_); refine box_event ?hg (N := 7) ?hd (cs := #[.float .f64 0, .float .f64 0, .float .f64 0, .float .f64 0, .float .f64 0, .float .f64 0, .float .f64 0, .float .f64 0, .float .f64 0, .float .f64 0, .float .f64 0, .float .f64 0, .float .f64 0, .float .f64 0, .float .f64 0, .float .f64 0, .float .f64 0, .float .f64 0, .float .f64 0, .float .f64 0, .float .f64 0, .float .f64 0, .float .f64 0, .float .f64 0, .float .f64 0, .float .f64 0]) (t := 46) ?hr ?_; (case hd => rfl); (case hg => rfl); (case hr => first | (go_simp; done) | (go_simp; rfl)); intro gb7 hg w12 hbox hb; have BK7 := Aside0.mk (hbox); have GW7 := bZ HB hg; replace HB := bW HB hb; clear hb hbox hg) | ((with_reducible refine gate_store (t := 46) (p := 7) rfl ?_); refine event_fill rfl 46 _ _ rfl gb7 #[.float .f64 0, .float .f64 0, .float .f64 0, .float .f64 0, .float .f64 0, .float .f64 0, .float .f64 0, .float .f64 0, .float .f64 0, .float .f64 0, .float .f64 0, .float .f64 0, .float .f64 0, .float .f64 0, .float .f64 0, .float .f64 0, .float .f64 0, .float .f64 0, .float .f64 0, .float .f64 0, .float .f64 0, .float .f64 0, .float .f64 0, .float .f64 0, .float .f64 0, .float .f64 0] rfl rfl 46 _ BK7.out hi46 rfl (by kernel_rfl) ?_; intro w13 hbox hbel; replace HB := Aside0.mk (hbel _ _ HB.out GW7.out); replace BK7 := Aside0.mk hbox; clear hbox hbel))
  replace BK7 := Aside0.mk (show w13.heap[gb7]? = some (.cells (fcells (List.replicate 26 0)) 46 (0, 0)) from BK7.out)
  go_cut [6] (fun v6 wc => Aside0 (Kd.R k38 38 wc w.heap.size (fun _ => True) v6 (Pure.stV l0 l1 (min l0.length 30)).1) ∧ Aside0 (wc.heap[gb7]? = some (.cells (fcells (Pure.stV l0 l1 (min l0.length 30)).2) 46 (0, 0))) ∧ Aside0 (Below w.heap.size w wc))
  case first =>
    go_wp2_with fail
    go_loopg [6, 8] 40 (fun kq v6 v8 w' => ∃ i : Int, v8 = .int .i64 i ∧ Aside0 (0 ≤ i ∧ i ≤ 30 ∧ i ≤ (l0.length : Int)) ∧ Aside0 (30 - i < (kq : Int) ∧ kq ≤ 40) ∧ Aside0 (Kd.R k38 38 w' w.heap.size (fun _ => True) v6 (Pure.stV l0 l1 i.toNat).1) ∧ Aside0 (w'.heap[gb7]? = some (.cells (fcells (Pure.stV l0 l1 i.toNat).2) 46 (0, 0))) ∧ Aside0 (Below w.heap.size w w'))
    case atStart => exact ⟨0, rfl, ⟨by omega, by omega, by omega⟩, ⟨by omega, by omega⟩, ⟨Kd.R_nil _ _ _ _ _⟩, BK7, HB⟩
    case round =>
      clear HB BK7
      obtain ⟨i, rfl, HI, HK, HO, BK7, HB⟩ := hrel
      cases gk with
      | zero => exact absurd HK.out.1 (by have := HI.out; omega)
      | succ k1 =>
        by_cases c7 : i < (l0.length : Int) ∧ i < 30
        rotate_left
        · have hI := HI.out
          have e0 : i = ((min l0.length 30 : Nat) : Int) := by omega
          have e1 : i.toNat = min l0.length 30 := by omega
          rw [e1] at HO BK7
          by_cases c6 : i < (l0.length : Int)
          · have b7 : decide (i < (l0.length : Int)) = true := decide_eq_true c6
            have b8 : decide (i < 30) = false := decide_eq_false (by omega)
            clear c7 c6 e0 e1 hI
            go_wp2_with fail
            go_meet
            exact ⟨HO, BK7, HB⟩
          · have b7 : decide (i < (l0.length : Int)) = false := decide_eq_false c6
            clear c7 c6 e0 e1 hI
            go_wp2_with fail
            go_meet
            exact ⟨HO, BK7, HB⟩
        obtain ⟨c7, c8⟩ := c7
        have h0 : 0 ≤ i := HI.out.1
        obtain ⟨ad, e0, hz⟩ := Kd.at_int HR0.out i h0 c7
        cases e0
        have hx := cellB hz HB.out
        have HZ := Aside0.mk hz
        clear hz
        have b7 : decide (i < (l0.length : Int)) = true := decide_eq_true c7
        have b8 : decide (i < 30) = true := decide_eq_true c8
        have ht1 : wrap64 (Int.tmod (rd l0 i) 26 + 26) = Int.tmod (rd l0 i) 26 + 26 := by unfold wrap64; have := Pure.tm26 (rd l0 i); omega
        have C7 := Aside0.mk c7
        have C8 := Aside0.mk c8
        have H0 := Aside0.mk h0
        replace c7 := eq_true c7
        replace h0 := eq_true h0
        go_upto_region 10 with fail
        have hkk : Int.tmod (Int.tmod (rd l0 i) 26 + 26) 26 = Pure.kx (rd l0 i) := rfl
        rw [hkk]
        have hk0 := Pure.kx_in (rd l0 i)
        obtain ⟨kk, hK⟩ : ∃ kk, kk = Pure.kx (rd l0 i) := ⟨_, rfl⟩
        rw [← hK] at hk0 ⊢
        have KK := Aside0.mk hK
        clear hkk hK ht1
        obtain ⟨hk0, hk1⟩ := hk0
        have K0 := Aside0.mk hk0
        have K1 := Aside0.mk hk1
        have ht2 : wrap64 (97 + kk) = 97 + kk := by unfold wrap64; omega
        have ht3 : (97 + kk) % 256 = 97 + kk := by omega
        go_upto_region 11 with (first | ((with_reducible refine gate_dst (N := 40) rfl ?_); refine Kd.R_lit (Kd.int .u8) _ 5 ?hg (N := 40) ?hd (xs := ([97 + kk] : List Int)) (inner := [.int .u8 (97 + kk)]) (ok := fun _ => True) (okp := fun _ => True) ?hr ?hp (fun _ hk => hk) trivial (Below.refl _ _) (Nat.le_refl _) (by simp) ?_; (case hd => rfl); (case hg => rfl); (case hr => first | (go_simp; done) | (go_simp; rfl)); (case hp => exact (Reps.one (show Kd.M (Kd.int .u8) _ _ _ (97 + kk) [.int .u8 (97 + kk)] from rfl) (Reps.none _ _))); intro v40 w14 ho hb hg_ hnew_; (clear hg_ hnew_); (obtain ⟨As, cs_, es_⟩ := Kd.R_slice ho); subst es_; have hcv := (Kd.x_R_string (P := Try.prog) Try.underlying47 Try.underlying5 Try.underlying9 ho).1; rw [show strOfNums [97 + kk] = Pure.kB kk from rfl, show ([97 + kk] : List Int).length = 1 from rfl] at hcv; replace HO := Aside0.mk (Kd.R_below HO.out hb); replace BK7 := bB BK7 hb; replace HB := bW HB hb; clear hb ho) | ((with_reducible refine gate_dst (N := 10) rfl ?_); refine box_event ?hg (N := 10) ?hd (cs := #[.string ⟨#[]⟩, .int .i64 0, .float .f64 0, .string ⟨#[]⟩]) (t := 38) ?hr ?_; (case hd => rfl); (case hg => rfl); (case hr => first | (go_simp; done) | (go_simp; rfl)); intro gb10 hg w15 hbox hb; have BK10 := Aside0.mk (hbox); have GW10 := bZ HB hg; have NB7_10 := bL BK7 hg; have NB10_7 := bG BK7 hg; replace HO := Aside0.mk (Kd.R_below (R_elderB2 HO.out gb10 (Nat.le_of_eq hg.symm)) hb); replace BK7 := bB BK7 hb; replace HB := bW HB hb; clear hb hbox hg hx; obtain ⟨hcz_0, hcz_1, hcz_2, hcz_3, hfz_0, hfz_1, hfz_2, hfz_3⟩ := bf4 (w := w15) BK10))
        obtain ⟨hsl1, hsl2⟩ := Pure.stV_len l0 l1 i.toNat
        obtain ⟨ws, hws⟩ : ∃ ws, ws = (Pure.stV l0 l1 i.toNat).1 := ⟨_, rfl⟩
        obtain ⟨ls, hls⟩ : ∃ ls, ls = (Pure.stV l0 l1 i.toNat).2 := ⟨_, rfl⟩
        rw [← hws] at HO hsl1
        rw [← hls] at BK7 hsl2
        have WS := Aside0.mk hws
        have LS := Aside0.mk hls
        have L26 := Aside0.mk hsl2
        have L30 := Aside0.mk hsl1
        clear hws hls hsl1 hsl2 hcz_0 hcz_1 hcz_2 hcz_3 hfz_0 hfz_1 hfz_2 hfz_3
        have n1_ : Aside0 (((((w15.setCell ⟨gb10, 0, none⟩ (.string (Pure.kB kk))).setCell ⟨gb10, 1, none⟩ (.int .i64 0)).setCell ⟨gb10, 2, none⟩ (.float .f64 0)).setCell ⟨gb10, 3, none⟩ (.string ⟨#[]⟩)).heap[gb10]? = some (.cells #[.string (Pure.kB kk), .int .i64 0, .float .f64 0, .string ⟨#[]⟩] 38 (0, 0))) := ⟨bR BK10⟩
        have n2_ : Aside0 (((((w15.setCell ⟨gb10, 0, none⟩ (.string (Pure.kB kk))).setCell ⟨gb10, 1, none⟩ (.int .i64 0)).setCell ⟨gb10, 2, none⟩ (.float .f64 0)).setCell ⟨gb10, 3, none⟩ (.string ⟨#[]⟩)).heap[gb7]? = some (.cells (fcells ls) 46 (0, 0))) := ⟨bQ BK7⟩
        have n3_ : Aside0 (Kd.R k38 38 ((((w15.setCell ⟨gb10, 0, none⟩ (.string (Pure.kB kk))).setCell ⟨gb10, 1, none⟩ (.int .i64 0)).setCell ⟨gb10, 2, none⟩ (.float .f64 0)).setCell ⟨gb10, 3, none⟩ (.string ⟨#[]⟩)) w.heap.size (fun k_ => True ∧ k_ ≠ gb10) u6 ws) := ⟨Kd.R_far (p := ⟨gb10, 3, none⟩) (Kd.R_far (p := ⟨gb10, 2, none⟩) (Kd.R_far (p := ⟨gb10, 1, none⟩) (Kd.R_far (p := ⟨gb10, 0, none⟩) HO.out (fun _ hk => hk.2) _) (fun _ hk => hk.2) _) (fun _ hk => hk.2) _) (fun _ hk => hk.2) _⟩
        have n4_ : Aside0 (Below w.heap.size w ((((w15.setCell ⟨gb10, 0, none⟩ (.string (Pure.kB kk))).setCell ⟨gb10, 1, none⟩ (.int .i64 0)).setCell ⟨gb10, 2, none⟩ (.float .f64 0)).setCell ⟨gb10, 3, none⟩ (.string ⟨#[]⟩))) := ⟨bC HB⟩
        generalize (((w15.setCell ⟨gb10, 0, none⟩ (.string (Pure.kB kk))).setCell ⟨gb10, 1, none⟩ (.int .i64 0)).setCell ⟨gb10, 2, none⟩ (.float .f64 0)).setCell ⟨gb10, 3, none⟩ (.string ⟨#[]⟩) = w16 at n1_ n2_ n3_ n4_ ⊢
        clear HO BK10 BK7 HB
        have hk7 : kk.toNat < ls.length := by have := L26.out; omega
        have hc7 : w16.cell? ⟨gb7, kk.toNat, none⟩ = some (.float .f64 (ls.getD kk.toNat 0)) := (blk_cell n2_.out _).trans (fcells_at hk7)
        have hf7 := blk_frozen n2_.out kk.toNat
        clear hk7
        have e7 : (0 ≤ kk) = True := eq_true hk0
        have e8 : (kk < 26) = True := eq_true hk1
        go_upto_region 12 with fail
        have m1_ : Aside0 ((w16.setCell ⟨gb7, kk.toNat, none⟩ (.float .f64 0)).heap[gb10]? = some (.cells #[.string (Pure.kB kk), .int .i64 0, .float .f64 0, .string ⟨#[]⟩] 38 (0, 0))) := ⟨blk_far n1_.out NB10_7.out _⟩
        have m2_ : Aside0 ((w16.setCell ⟨gb7, kk.toNat, none⟩ (.float .f64 0)).heap[gb7]? = some (.cells (fcells (ls.set kk.toNat 0)) 46 (0, 0))) := ⟨blk_put n2_.out _ _ (fcells_set _ _ _)⟩
        have m3_ : Aside0 (Kd.R k38 38 (w16.setCell ⟨gb7, kk.toNat, none⟩ (.float .f64 0)) w.heap.size (fun k_ => True ∧ k_ ≠ gb10) u6 ws) := ⟨Kd.R_mono (Kd.R_far (p := ⟨gb7, kk.toNat, none⟩) (Kd.R_types n3_.out n2_.out (by decide)) (fun _ hk => hk.2) _) (fun _ hk => hk.1)⟩
        have m4_ : Aside0 (Below w.heap.size w (w16.setCell ⟨gb7, kk.toNat, none⟩ (.float .f64 0))) := ⟨below_set n4_.out GW7.out⟩
        generalize w16.setCell ⟨gb7, kk.toNat, none⟩ (.float .f64 0) = w17 at m1_ m2_ m3_ m4_ ⊢
        clear n1_ n2_ n3_ n4_ hc7 hf7
        have h7s : kk.toNat < (ls.set kk.toNat 0).length := by rw [List.length_set]; have := L26.out; omega
        have wi1 : wrap64 (i + 1) = i + 1 := by unfold wrap64; have := C8.out; have := H0.out; omega
        have hstep : Pure.stV l0 l1 (i + 1).toNat = Pure.stepV l0 l1 i (ws, ls) := by
          rw [show (i + 1).toNat = i.toNat + 1 from by have := H0.out; omega]
          show Pure.stepV l0 l1 ((i.toNat : Nat) : Int) (Pure.stV l0 l1 i.toNat) = _
          rw [show ((i.toNat : Nat) : Int) = i from by have := H0.out; omega, WS.out, LS.out]
        have HST := Aside0.mk hstep
        clear hstep
        by_cases g1 : i < (l1.length : Int)
        rotate_left
        · have g1b : decide ((l1.length : Int) ≤ i) = true := decide_eq_true (by omega)
          have GG := Aside0.mk g1
          have hc7 : w17.cell? ⟨gb7, kk.toNat, none⟩ = some (.float .f64 ((ls.set kk.toNat 0).getD kk.toNat 0)) := (blk_cell m2_.out _).trans (fcells_at h7s)
          have hf7 := blk_frozen m2_.out kk.toNat
          clear h7s
          go_upto_region 14 with fail
          have n1_ : Aside0 ((w17.setCell ⟨gb7, kk.toNat, none⟩ (.float .f64 (Pure.fl (i + 1)))).heap[gb10]? = some (.cells #[.string (Pure.kB kk), .int .i64 0, .float .f64 0, .string ⟨#[]⟩] 38 (0, 0))) := ⟨blk_far m1_.out NB10_7.out _⟩
          have n2_ : Aside0 ((w17.setCell ⟨gb7, kk.toNat, none⟩ (.float .f64 (Pure.fl (i + 1)))).heap[gb7]? = some (.cells (fcells (ls.set kk.toNat (Pure.fl (i + 1)))) 46 (0, 0))) := ⟨blk_put m2_.out _ _ (by rw [fcells_set, List.set_set])⟩
          have n3_ : Aside0 (Kd.R k38 38 (w17.setCell ⟨gb7, kk.toNat, none⟩ (.float .f64 (Pure.fl (i + 1)))) w.heap.size (fun k_ => True ∧ k_ ≠ gb10) u6 ws) := ⟨Kd.R_mono (Kd.R_far (p := ⟨gb7, kk.toNat, none⟩) (Kd.R_types m3_.out m2_.out (by decide)) (fun _ hk => hk.2) _) (fun _ hk => hk.1)⟩
          have n4_ : Aside0 (Below w.heap.size w (w17.setCell ⟨gb7, kk.toNat, none⟩ (.float .f64 (Pure.fl (i + 1))))) := ⟨below_set m4_.out GW7.out⟩
          rw [show floatOfInt .f64 (i + 1) = Pure.fl (i + 1) from rfl]
          generalize w17.setCell ⟨gb7, kk.toNat, none⟩ (.float .f64 (Pure.fl (i + 1))) = w18 at n1_ n2_ n3_ n4_ ⊢
          clear m1_ m2_ m3_ m4_ hc7 hf7
          have h7t : kk.toNat < (ls.set kk.toNat (Pure.fl (i + 1))).length := by rw [List.length_set]; have := L26.out; omega
          have hc7 : w18.cell? ⟨gb7, kk.toNat, none⟩ = some (.float .f64 (Pure.fl (i + 1))) := by
            have e_ := (blk_cell n2_.out kk.toNat).trans (fcells_at h7t)
            rw [List.length_set] at h7t
            rw [List.getD_eq_getElem?_getD, List.getElem?_set_self h7t] at e_
            exact e_
          obtain ⟨hcz_0, hcz_1, hcz_2, hcz_3, hfz_0, hfz_1, hfz_2, hfz_3⟩ := bf4 (w := w18) n1_
          clear h7t
          go_upto_region 15 with fail
          have m1_ : Aside0 ((((w18.setCell ⟨gb10, 1, none⟩ (.int .i64 1)).setCell ⟨gb10, 2, none⟩ (.float .f64 (Pure.fl (i + 1)))).setCell ⟨gb10, 3, none⟩ (.string ⟨#[]⟩)).heap[gb10]? = some (.cells #[.string (Pure.kB kk), .int .i64 1, .float .f64 (Pure.fl (i + 1)), .string ⟨#[]⟩] 38 (0, 0))) := ⟨bR n1_⟩
          have m2_ : Aside0 ((((w18.setCell ⟨gb10, 1, none⟩ (.int .i64 1)).setCell ⟨gb10, 2, none⟩ (.float .f64 (Pure.fl (i + 1)))).setCell ⟨gb10, 3, none⟩ (.string ⟨#[]⟩)).heap[gb7]? = some (.cells (fcells (ls.set kk.toNat (Pure.fl (i + 1)))) 46 (0, 0))) := ⟨bQ n2_⟩
          have m3_ : Aside0 (Kd.R k38 38 (((w18.setCell ⟨gb10, 1, none⟩ (.int .i64 1)).setCell ⟨gb10, 2, none⟩ (.float .f64 (Pure.fl (i + 1)))).setCell ⟨gb10, 3, none⟩ (.string ⟨#[]⟩)) w.heap.size (fun k_ => True ∧ k_ ≠ gb10) u6 ws) := ⟨Kd.R_far (p := ⟨gb10, 3, none⟩) (Kd.R_far (p := ⟨gb10, 2, none⟩) (Kd.R_far (p := ⟨gb10, 1, none⟩) n3_.out (fun _ hk => hk.2) _) (fun _ hk => hk.2) _) (fun _ hk => hk.2) _⟩
          have m4_ : Aside0 (Below w.heap.size w (((w18.setCell ⟨gb10, 1, none⟩ (.int .i64 1)).setCell ⟨gb10, 2, none⟩ (.float .f64 (Pure.fl (i + 1)))).setCell ⟨gb10, 3, none⟩ (.string ⟨#[]⟩))) := ⟨below_set (below_set (below_set n4_.out GW10.out) GW10.out) GW10.out⟩
          generalize ((w18.setCell ⟨gb10, 1, none⟩ (.int .i64 1)).setCell ⟨gb10, 2, none⟩ (.float .f64 (Pure.fl (i + 1)))).setCell ⟨gb10, 3, none⟩ (.string ⟨#[]⟩) = w19 at m1_ m2_ m3_ m4_ ⊢
          clear n1_ n2_ n3_ n4_ hc7 hcz_0 hcz_1 hcz_2 hcz_3 hfz_0 hfz_1 hfz_2 hfz_3
          obtain ⟨hcz_0, hcz_1, hcz_2, hcz_3, hfz_0, hfz_1, hfz_2, hfz_3⟩ := bf4 (w := w19) m1_
          have HO := Aside0.mk (Kd.R_mono (ok' := fun _ => True) m3_.out (fun _ _ => trivial))
          have HB := m4_
          have hE : Pure.stV l0 l1 (i + 1).toNat = (ws ++ [(⟨Pure.kB kk, ⟨1, Pure.fl (i + 1), ⟨#[]⟩⟩⟩ : S38)], ls.set kk.toNat (Pure.fl (i + 1))) := by
            rw [HST.out]
            unfold Pure.stepV
            rw [if_neg (fun h => absurd h.1 GG.out), ← KK.out]
            try rfl
          have HE := Aside0.mk hE
          clear hE
          go_wp2_with (first | ((with_reducible refine gate_builtin (b := .append) (xs := #[.tmp 66, .tmp 68]) rfl ?_); at_builtin; refine Kd.R_append k38 (w0 := w) w.heap.size rfl (.tmp 66) (.tmp 68) 22 38 (.agg #[(.string ⟨#[]⟩), (.int .i64 0), (.float .f64 0), (.string ⟨#[]⟩)]) 48 rfl Try.underlying22 info38 rfl (by decide) (by omega) u6 ws (⟨Pure.kB kk, ⟨1, Pure.fl (i + 1), ⟨#[]⟩⟩⟩ : S38) [.string (Pure.kB kk), .int .i64 1, .float .f64 (Pure.fl (i + 1)), .string ⟨#[]⟩] (fun _ => True) (fun _ => False) rfl rfl ?aP (fun _ hk => hk.elim) ?aF ?aO ?aB ?aS ?aL ?_; (case aP => exact k38_mkM _ _ _ (⟨Pure.kB kk, ⟨1, Pure.fl (i + 1), ⟨#[]⟩⟩⟩ : S38)); (case aB => exact HB.out); (case aF => exact fun _ _ => trivial); (case aO => exact HO.out); (case aS => exact below_size HB.out); (case aL => have := L30.out; have := C8.out; omega); intro v69 w20 ho hb hg hat; have HO2 := Aside0.mk ho; have HB2 := Aside0.mk hb; have BK2 := Aside0.mk (blk_grown m2_.out hg (Kd.R_ne HO.out m2_.out (by decide))); clear ho hb hg hat))
          go_roundg k1
          case measure => have := HK.out; omega
          case rel => exact ⟨i + 1, by first | rfl | rw [wi1], ⟨by have := H0.out; omega, by have := C8.out; omega, by have := C7.out; omega⟩, ⟨by have := HK.out; omega, by have := HK.out; omega⟩, ⟨by rw [HE.out]; exact HO2.out⟩, ⟨by rw [HE.out]; exact BK2.out⟩, HB2⟩
        have g1b : decide ((l1.length : Int) ≤ i) = false := decide_eq_false (by omega)
        obtain ⟨ad1, e1, hz1⟩ := Kd.at_bool HR1.out i H0.out g1
        cases e1
        have hx1 := cellB hz1 m4_.out
        have GG := Aside0.mk g1
        replace g1 := eq_true g1
        clear hz1
        cases hgv : rdOf false l1 i
        · rw [hgv] at hx1
          have GV := Aside0.mk hgv
          clear hgv
          have hc7 : w17.cell? ⟨gb7, kk.toNat, none⟩ = some (.float .f64 ((ls.set kk.toNat 0).getD kk.toNat 0)) := (blk_cell m2_.out _).trans (fcells_at h7s)
          have hf7 := blk_frozen m2_.out kk.toNat
          clear h7s
          go_upto_region 14 with fail
          have n1_ : Aside0 ((w17.setCell ⟨gb7, kk.toNat, none⟩ (.float .f64 (Pure.fl (i + 1)))).heap[gb10]? = some (.cells #[.string (Pure.kB kk), .int .i64 0, .float .f64 0, .string ⟨#[]⟩] 38 (0, 0))) := ⟨blk_far m1_.out NB10_7.out _⟩
          have n2_ : Aside0 ((w17.setCell ⟨gb7, kk.toNat, none⟩ (.float .f64 (Pure.fl (i + 1)))).heap[gb7]? = some (.cells (fcells (ls.set kk.toNat (Pure.fl (i + 1)))) 46 (0, 0))) := ⟨blk_put m2_.out _ _ (by rw [fcells_set, List.set_set])⟩
          have n3_ : Aside0 (Kd.R k38 38 (w17.setCell ⟨gb7, kk.toNat, none⟩ (.float .f64 (Pure.fl (i + 1)))) w.heap.size (fun k_ => True ∧ k_ ≠ gb10) u6 ws) := ⟨Kd.R_mono (Kd.R_far (p := ⟨gb7, kk.toNat, none⟩) (Kd.R_types m3_.out m2_.out (by decide)) (fun _ hk => hk.2) _) (fun _ hk => hk.1)⟩
          have n4_ : Aside0 (Below w.heap.size w (w17.setCell ⟨gb7, kk.toNat, none⟩ (.float .f64 (Pure.fl (i + 1))))) := ⟨below_set m4_.out GW7.out⟩
          rw [show floatOfInt .f64 (i + 1) = Pure.fl (i + 1) from rfl]
          generalize w17.setCell ⟨gb7, kk.toNat, none⟩ (.float .f64 (Pure.fl (i + 1))) = w18 at n1_ n2_ n3_ n4_ ⊢
          clear m1_ m2_ m3_ m4_ hc7 hf7
          have h7t : kk.toNat < (ls.set kk.toNat (Pure.fl (i + 1))).length := by rw [List.length_set]; have := L26.out; omega
          have hc7 : w18.cell? ⟨gb7, kk.toNat, none⟩ = some (.float .f64 (Pure.fl (i + 1))) := by
            have e_ := (blk_cell n2_.out kk.toNat).trans (fcells_at h7t)
            rw [List.length_set] at h7t
            rw [List.getD_eq_getElem?_getD, List.getElem?_set_self h7t] at e_
            exact e_
          obtain ⟨hcz_0, hcz_1, hcz_2, hcz_3, hfz_0, hfz_1, hfz_2, hfz_3⟩ := bf4 (w := w18) n1_
          clear h7t
          go_upto_region 15 with fail
          have m1_ : Aside0 ((((w18.setCell ⟨gb10, 1, none⟩ (.int .i64 1)).setCell ⟨gb10, 2, none⟩ (.float .f64 (Pure.fl (i + 1)))).setCell ⟨gb10, 3, none⟩ (.string ⟨#[]⟩)).heap[gb10]? = some (.cells #[.string (Pure.kB kk), .int .i64 1, .float .f64 (Pure.fl (i + 1)), .string ⟨#[]⟩] 38 (0, 0))) := ⟨bR n1_⟩
          have m2_ : Aside0 ((((w18.setCell ⟨gb10, 1, none⟩ (.int .i64 1)).setCell ⟨gb10, 2, none⟩ (.float .f64 (Pure.fl (i + 1)))).setCell ⟨gb10, 3, none⟩ (.string ⟨#[]⟩)).heap[gb7]? = some (.cells (fcells (ls.set kk.toNat (Pure.fl (i + 1)))) 46 (0, 0))) := ⟨bQ n2_⟩
          have m3_ : Aside0 (Kd.R k38 38 (((w18.setCell ⟨gb10, 1, none⟩ (.int .i64 1)).setCell ⟨gb10, 2, none⟩ (.float .f64 (Pure.fl (i + 1)))).setCell ⟨gb10, 3, none⟩ (.string ⟨#[]⟩)) w.heap.size (fun k_ => True ∧ k_ ≠ gb10) u6 ws) := ⟨Kd.R_far (p := ⟨gb10, 3, none⟩) (Kd.R_far (p := ⟨gb10, 2, none⟩) (Kd.R_far (p := ⟨gb10, 1, none⟩) n3_.out (fun _ hk => hk.2) _) (fun _ hk => hk.2) _) (fun _ hk => hk.2) _⟩
          have m4_ : Aside0 (Below w.heap.size w (((w18.setCell ⟨gb10, 1, none⟩ (.int .i64 1)).setCell ⟨gb10, 2, none⟩ (.float .f64 (Pure.fl (i + 1)))).setCell ⟨gb10, 3, none⟩ (.string ⟨#[]⟩))) := ⟨below_set (below_set (below_set n4_.out GW10.out) GW10.out) GW10.out⟩
          generalize ((w18.setCell ⟨gb10, 1, none⟩ (.int .i64 1)).setCell ⟨gb10, 2, none⟩ (.float .f64 (Pure.fl (i + 1)))).setCell ⟨gb10, 3, none⟩ (.string ⟨#[]⟩) = w19 at m1_ m2_ m3_ m4_ ⊢
          clear n1_ n2_ n3_ n4_ hc7 hcz_0 hcz_1 hcz_2 hcz_3 hfz_0 hfz_1 hfz_2 hfz_3
          obtain ⟨hcz_0, hcz_1, hcz_2, hcz_3, hfz_0, hfz_1, hfz_2, hfz_3⟩ := bf4 (w := w19) m1_
          have HO := Aside0.mk (Kd.R_mono (ok' := fun _ => True) m3_.out (fun _ _ => trivial))
          have HB := m4_
          have hE : Pure.stV l0 l1 (i + 1).toNat = (ws ++ [(⟨Pure.kB kk, ⟨1, Pure.fl (i + 1), ⟨#[]⟩⟩⟩ : S38)], ls.set kk.toNat (Pure.fl (i + 1))) := by
            rw [HST.out]
            unfold Pure.stepV
            rw [if_neg (fun h => absurd h.2 (by rw [GV.out]; decide)), ← KK.out]
            try rfl
          have HE := Aside0.mk hE
          clear hE
          go_wp2_with (first | ((with_reducible refine gate_builtin (b := .append) (xs := #[.tmp 66, .tmp 68]) rfl ?_); at_builtin; refine Kd.R_append k38 (w0 := w) w.heap.size rfl (.tmp 66) (.tmp 68) 22 38 (.agg #[(.string ⟨#[]⟩), (.int .i64 0), (.float .f64 0), (.string ⟨#[]⟩)]) 48 rfl Try.underlying22 info38 rfl (by decide) (by omega) u6 ws (⟨Pure.kB kk, ⟨1, Pure.fl (i + 1), ⟨#[]⟩⟩⟩ : S38) [.string (Pure.kB kk), .int .i64 1, .float .f64 (Pure.fl (i + 1)), .string ⟨#[]⟩] (fun _ => True) (fun _ => False) rfl rfl ?aP (fun _ hk => hk.elim) ?aF ?aO ?aB ?aS ?aL ?_; (case aP => exact k38_mkM _ _ _ (⟨Pure.kB kk, ⟨1, Pure.fl (i + 1), ⟨#[]⟩⟩⟩ : S38)); (case aB => exact HB.out); (case aF => exact fun _ _ => trivial); (case aO => exact HO.out); (case aS => exact below_size HB.out); (case aL => have := L30.out; have := C8.out; omega); intro v69 w20 ho hb hg hat; have HO2 := Aside0.mk ho; have HB2 := Aside0.mk hb; have BK2 := Aside0.mk (blk_grown m2_.out hg (Kd.R_ne HO.out m2_.out (by decide))); clear ho hb hg hat))
          go_roundg k1
          case measure => have := HK.out; omega
          case rel => exact ⟨i + 1, by first | rfl | rw [wi1], ⟨by have := H0.out; omega, by have := C8.out; omega, by have := C7.out; omega⟩, ⟨by have := HK.out; omega, by have := HK.out; omega⟩, ⟨by rw [HE.out]; exact HO2.out⟩, ⟨by rw [HE.out]; exact BK2.out⟩, HB2⟩
        · rw [hgv] at hx1
          have GV := Aside0.mk hgv
          clear hgv h7s
          go_upto_region 15 with fail
          obtain ⟨hcz_0, hcz_1, hcz_2, hcz_3, hfz_0, hfz_1, hfz_2, hfz_3⟩ := bf4 (w := w17) m1_
          have HO := Aside0.mk (Kd.R_mono (ok' := fun _ => True) m3_.out (fun _ _ => trivial))
          have HB := m4_
          have hE : Pure.stV l0 l1 (i + 1).toNat = (ws ++ [(⟨Pure.kB kk, ⟨0, 0, ⟨#[]⟩⟩⟩ : S38)], ls.set kk.toNat (0)) := by
            rw [HST.out]
            unfold Pure.stepV
            rw [if_pos ⟨GG.out, GV.out⟩, ← KK.out]
            try rfl
          have HE := Aside0.mk hE
          clear hE
          go_wp2_with (first | ((with_reducible refine gate_builtin (b := .append) (xs := #[.tmp 66, .tmp 68]) rfl ?_); at_builtin; refine Kd.R_append k38 (w0 := w) w.heap.size rfl (.tmp 66) (.tmp 68) 22 38 (.agg #[(.string ⟨#[]⟩), (.int .i64 0), (.float .f64 0), (.string ⟨#[]⟩)]) 48 rfl Try.underlying22 info38 rfl (by decide) (by omega) u6 ws (⟨Pure.kB kk, ⟨0, 0, ⟨#[]⟩⟩⟩ : S38) [.string (Pure.kB kk), .int .i64 0, .float .f64 (0), .string ⟨#[]⟩] (fun _ => True) (fun _ => False) rfl rfl ?aP (fun _ hk => hk.elim) ?aF ?aO ?aB ?aS ?aL ?_; (case aP => exact k38_mkM _ _ _ (⟨Pure.kB kk, ⟨0, 0, ⟨#[]⟩⟩⟩ : S38)); (case aB => exact HB.out); (case aF => exact fun _ _ => trivial); (case aO => exact HO.out); (case aS => exact below_size HB.out); (case aL => have := L30.out; have := C8.out; omega); intro v69 w20 ho hb hg hat; have HO2 := Aside0.mk ho; have HB2 := Aside0.mk hb; have BK2 := Aside0.mk (blk_grown m2_.out hg (Kd.R_ne HO.out m2_.out (by decide))); clear ho hb hg hat))
          go_roundg k1
          case measure => have := HK.out; omega
          case rel => exact ⟨i + 1, by first | rfl | rw [wi1], ⟨by have := H0.out; omega, by have := C8.out; omega, by have := C7.out; omega⟩, ⟨by have := HK.out; omega, by have := HK.out; omega⟩, ⟨by rw [HE.out]; exact HO2.out⟩, ⟨by rw [HE.out]; exact BK2.out⟩, HB2⟩
  case rest =>
    clear HB BK7
    obtain ⟨HO, BK7, HB⟩ := hcut
    have hln := (Pure.stV_len l0 l1 (min l0.length 30))
    obtain ⟨ws, hws⟩ : ∃ ws, ws = (Pure.stV l0 l1 (min l0.length 30)).1 := ⟨_, rfl⟩
    obtain ⟨ls, hls⟩ : ∃ ls, ls = (Pure.stV l0 l1 (min l0.length 30)).2 := ⟨_, rfl⟩
    have hV := Pure.vals_is l0 l1 (min l0.length 30) (by omega)
    have hN := Pure.cnt_is l0 l1 (min l0.length 30) (by omega)
    have hD := Pure.lsum_in l0 l1 (min l0.length 30) (by omega)
    rw [← hws] at HO hln hV hN
    rw [← hls] at BK7 hln hV hN hD
    have hov := Pure.over_is [] ws (by simp) (by omega) (k := k) (by omega)
    rw [if_pos (show Pure.goodP none [] = true from rfl)] at hov
    have hgd := Pure.fold_good ws (l := []) rfl
    have hfl := Pure.fold_len ws []
    obtain ⟨d, hd⟩ : ∃ d, d = ws.foldl Pure.stepP [] := ⟨_, rfl⟩
    rw [← hd] at hV hN hov hgd hfl
    have hdl : d.length ≤ 30 := by simp at hfl; omega
    have AO := Aside0.mk hov
    have HV := Aside0.mk hV
    have HN := Aside0.mk hN
    have HD := Aside0.mk hD
    have L26 := Aside0.mk hln.2
    have DL := Aside0.mk hdl
    have AS := Aside0.mk (Pure.sorted_is d (by omega) (k := k) (by omega))
    rw [hgd] at AS
    clear hws hls hd hV hN hD hov hgd hfl hdl hln
    obtain ⟨Aw, cw, ew⟩ := Kd.R_slice HO.out
    subst ew
    go_wp2_with (first | ((with_reducible refine gate_callee (f := 19) rfl ?_); refine goesL_ (some 71) rfl rfl Try.func19 (by kernel_rfl) rfl #[.slice none 0 0, .slice Aw ws.length cw] rfl (by (try simp only [List.map_toArray, List.map_cons, List.map_nil]); first | done | rfl | (simp only [List.length_drop, List.length_take]; rfl)) ?_; refine (judge_Over.calls k none 0 ([] : List S38) Aw cw ws d _ ?side1 ?side2 ?side3 ?side4 AO.out).mono ?_; (case side1 => exact Kd.C_nil _ _); (case side2 => exact Nat.le_refl _); (case side3 => exact (Kd.R_reads' HO.out).2.2); (case side4 => exact (Kd.R_reads' HO.out).2.1); rintro e w30 ⟨v71, rfl, ho0, hb⟩; refine ⟨_, rfl, ?_⟩; have HOd := Aside0.mk (Kd.R_lower ho0 (below_size HB.out)); replace BK7 := bB BK7 hb; replace HB := bW HB hb; (clear hb ho0); (obtain ⟨Ad, cd, ed⟩ := Kd.R_slice HOd.out); subst ed))
    go_loopg [12, 13] 30 (fun kq v12 v13 w' => ∃ kk : Int, v13 = .int .i64 kk ∧ v12 = .int .i64 ((Pure.cntL ls kk.toNat : Nat) : Int) ∧ Aside0 (0 ≤ kk ∧ kk ≤ 26) ∧ Aside0 (26 - kk < (kq : Int) ∧ kq ≤ 30) ∧ Aside0 (Kd.R k38 38 w' w.heap.size (fun _ => True) (.slice Ad d.length cd) d) ∧ Aside0 (w'.heap[gb7]? = some (.cells (fcells ls) 46 (0, 0))) ∧ Aside0 (Below w.heap.size w w'))
    case atStart => exact ⟨0, rfl, rfl, ⟨by omega, by omega⟩, ⟨by omega, by omega⟩, HOd, BK7, HB⟩
    case round =>
      clear HB BK7 HOd HO
      obtain ⟨kk, rfl, rfl, HI, HK, HOd, BK7, HB⟩ := hrel
      cases gk with
      | zero => exact absurd HK.out.1 (by have := HI.out; omega)
      | succ k1 =>
        by_cases c7 : kk < 26
        rotate_left
        · have e26 : kk = 26 := by have := HI.out; omega
          subst e26
          have e7 : decide ((26 : Int) < 26) = false := rfl
          have hn26 : (d.length : Int) = ((Pure.cntL ls (26 : Int).toNat : Nat) : Int) := by rw [HN.out]; rfl
          generalize ((Pure.cntL ls (26 : Int).toNat : Nat) : Int) = cq at hn26 ⊢
          subst hn26
          clear HI HK c7
          go_wp2_with (first | (go_at_call 10; refine calls_of_args (args' := #[.slice Ad d.length cd]) (by first | rfl | ((try simp only [List.map_toArray, List.map_cons, List.map_nil]); rfl)) ?_; (with_reducible refine (judge_Sorted.calls k _ _ d true _ ?side1 ?side2 AS.out).mono ?_); (case side1 => exact (Kd.R_reads' HOd.out).2.2); (case side2 => exact (Kd.R_reads' HOd.out).2.1); rintro e w35 ⟨rfl, hb⟩; replace HB := bW HB hb; clear hb))
          try go_ret
          exact ⟨rfl, HB.out⟩
        have c7b : decide (kk < 26) = true := decide_eq_true c7
        have hk0 := HI.out.1
        have hk7 : kk.toNat < ls.length := by have := L26.out; omega
        have hval := (Pure.val_is d (Pure.kB kk) (by have := DL.out; omega) (k := k) (by omega)).1
        rw [HV.out kk hk0 c7] at hval
        have ht2 : wrap64 (97 + kk) = 97 + kk := by unfold wrap64; omega
        have ht3 : (97 + kk) % 256 = 97 + kk := by omega
        have C7 := Aside0.mk c7
        have H0 := Aside0.mk hk0
        have K7 := Aside0.mk hk7
        have e7 : (0 ≤ kk) = True := eq_true hk0
        have e8 : (kk < 26) = True := eq_true c7
        clear hk7
        by_cases hf0 : ls.getD kk.toNat 0 = 0
        · rw [if_pos hf0] at hval
          have AV := Aside0.mk hval
          clear hval
          go_upto_region 22 with (first | ((with_reducible refine gate_dst (N := 81) rfl ?_); refine Kd.R_lit (Kd.int .u8) _ 5 ?hg (N := 81) ?hd (xs := ([97 + kk] : List Int)) (inner := [.int .u8 (97 + kk)]) (ok := fun _ => True) (okp := fun _ => True) ?hr ?hp (fun _ hk => hk) trivial (Below.refl _ _) (Nat.le_refl _) (by simp) ?_; (case hd => rfl); (case hg => rfl); (case hr => first | (go_simp; done) | (go_simp; rfl)); (case hp => exact (Reps.one (show Kd.M (Kd.int .u8) _ _ _ (97 + kk) [.int .u8 (97 + kk)] from rfl) (Reps.none _ _))); intro v81 w14 ho hb hg_ hnew_; (clear hg_ hnew_); (obtain ⟨As, cs_, es_⟩ := Kd.R_slice ho); subst es_; have hcv := (Kd.x_R_string (P := Try.prog) Try.underlying47 Try.underlying5 Try.underlying9 ho).1; rw [show strOfNums [97 + kk] = Pure.kB kk from rfl, show ([97 + kk] : List Int).length = 1 from rfl] at hcv; replace HOd := Aside0.mk (Kd.R_below HOd.out hb); replace BK7 := bB BK7 hb; replace HB := bW HB hb; clear hb ho) | ((with_reducible refine gate_callee (f := 16) rfl ?_); refine goesL_ (some 83) rfl rfl Try.func16 (by kernel_rfl) rfl #[.slice Ad d.length cd, .string (Pure.kB kk)] rfl (by (try simp only [List.map_toArray, List.map_cons, List.map_nil]); first | done | rfl | (simp only [List.length_drop, List.length_take]; rfl)) ?_; (with_reducible refine (judge_Val.calls k _ _ d (Pure.kB kk) (0) (0) (⟨#[]⟩) (false) _ ?side1 ?side2 AV.out).mono ?_); (case side1 => exact (Kd.R_reads' HOd.out).2.2); (case side2 => exact (Kd.R_reads' HOd.out).2.1); rintro e w31 ⟨rfl, hb⟩; refine ⟨_, rfl, ?_⟩; replace HOd := Aside0.mk (Kd.R_below HOd.out hb); replace BK7 := bB BK7 hb; replace HB := bW HB hb; clear hb) | ((with_reducible refine gate_dst (N := 14) rfl ?_); refine box_event ?hg (N := 14) ?hd (cs := #[.int .i64 0, .float .f64 0, .string ⟨#[]⟩]) (t := 31) ?hr ?_; (case hd => rfl); (case hg => rfl); (case hr => first | (go_simp; done) | (go_simp; rfl)); intro gb14 hg w32 hbox hb; have BK14 := Aside0.mk (hbox); have GW14 := bZ HB hg; have NB7_14 := bL BK7 hg; replace HOd := Aside0.mk (Kd.R_below HOd.out hb); replace BK7 := bB BK7 hb; replace HB := bW HB hb; clear hb hbox hg; obtain ⟨hcz_0, hcz_1, hcz_2, hfz_0, hfz_1, hfz_2⟩ := bf3 (w := w32) BK14))
          have n1_ : Aside0 ((((w32.setCell ⟨gb14, 0, none⟩ (.int .i64 0)).setCell ⟨gb14, 1, none⟩ (.float .f64 (0))).setCell ⟨gb14, 2, none⟩ (.string ⟨#[]⟩)).heap[gb14]? = some (.cells #[.int .i64 0, .float .f64 (0), .string ⟨#[]⟩] 31 (0, 0))) := ⟨bR BK14⟩
          have n2_ : Aside0 ((((w32.setCell ⟨gb14, 0, none⟩ (.int .i64 0)).setCell ⟨gb14, 1, none⟩ (.float .f64 (0))).setCell ⟨gb14, 2, none⟩ (.string ⟨#[]⟩)).heap[gb7]? = some (.cells (fcells ls) 46 (0, 0))) := ⟨bQ BK7⟩
          have n3_ : Aside0 (Kd.R k38 38 (((w32.setCell ⟨gb14, 0, none⟩ (.int .i64 0)).setCell ⟨gb14, 1, none⟩ (.float .f64 (0))).setCell ⟨gb14, 2, none⟩ (.string ⟨#[]⟩)) w.heap.size (fun _ => True) (.slice Ad d.length cd) d) := ⟨Kd.R_set (Kd.R_set (Kd.R_set HOd.out BK14.out (by decide) 0 _) (blk_set BK14.out 0 _) (by decide) 1 _) (blk_set (blk_set BK14.out 0 _) 1 _) (by decide) 2 _⟩
          have n4_ : Aside0 (Below w.heap.size w (((w32.setCell ⟨gb14, 0, none⟩ (.int .i64 0)).setCell ⟨gb14, 1, none⟩ (.float .f64 (0))).setCell ⟨gb14, 2, none⟩ (.string ⟨#[]⟩))) := ⟨below_set (below_set (below_set HB.out GW14.out) GW14.out) GW14.out⟩
          generalize ((w32.setCell ⟨gb14, 0, none⟩ (.int .i64 0)).setCell ⟨gb14, 1, none⟩ (.float .f64 (0))).setCell ⟨gb14, 2, none⟩ (.string ⟨#[]⟩) = w33 at n1_ n2_ n3_ n4_ ⊢
          clear BK14 BK7 HOd HB hcz_0 hcz_1 hcz_2 hfz_0 hfz_1 hfz_2
          replace n1_ := Aside0.mk (blk_drew n1_.out)
          replace n2_ := Aside0.mk (blk_drew n2_.out)
          replace n3_ := Aside0.mk (Kd.R_drew n3_.out)
          replace n4_ := Aside0.mk (below_drew1 n4_.out)
          try go_wp2_with fail

          have hc7 := (blk_cell n2_.out kk.toNat).trans (fcells_at K7.out)
          rw [hf0] at hc7
          have hc14 : w33.drew.cell? ⟨gb14, 1, none⟩ = some (.float .f64 0) := (blk_cell n1_.out 1).trans rfl
          have hgt : ∀ W : World, (binOp .gtr 29 (.float .f64 0) (.float .f64 0)).run Try.prog W = .ok (.bool false) W := fun W => by
            have := Pure.nought_gt
            simp [binOp, Op.floatCmp, this]
          refine start_ (n := 17) (S := fun w' => w'.cell? ⟨gb7, kk.toNat, none⟩ = some (.float .f64 (0)) ∧ w'.cell? ⟨gb14, 1, none⟩ = some (.float .f64 (0))) (ds := []) #[false, false, false, false, false, false, false, false, false, false, false, false, false, false, false, false, false] (by kernel_rfl) rfl rfl ⟨hc7, hc14⟩ (fun hHeld => ?_)
          refine pure_ (i := 0) (N := some 86) (v := ?_) (a' := ?_) #[true, false, false, false, false, false, false, false, false, false, false, false, false, false, false, false, false] rfl rfl (by kernel_rfl) (fun _ _ _ h => h) (Or.inl ⟨by rfl, ?_⟩) ?_ ?_
          rotate_left
          · intro w'
            go_simp
            with_reducible rfl
          rotate_left
          · simp only [Act.put, List.setIfInBounds_toArray, List.set_cons_zero, List.set_cons_succ, i64_w, i32_w]
            rfl
          refine pure_ (i := 1) (N := some 87) (v := ?_) (a' := ?_) #[true, true, false, false, false, false, false, false, false, false, false, false, false, false, false, false, false] rfl rfl (by kernel_rfl) (fun _ _ _ h => h) (Or.inl ⟨by rfl, ?_⟩) ?_ ?_
          rotate_left
          · intro w'
            go_simp
            with_reducible rfl
          rotate_left
          · simp only [Act.put, List.setIfInBounds_toArray, List.set_cons_zero, List.set_cons_succ, i64_w, i32_w]
            rfl
          refine pure_ (i := 2) (N := some 88) (v := ?_) (a' := ?_) #[true, true, true, false, false, false, false, false, false, false, false, false, false, false, false, false, false] rfl rfl (by kernel_rfl) (fun _ _ _ h => h) (Or.inl ⟨by rfl, ?_⟩) ?_ ?_
          rotate_left
          · intro w'
            go_simp
            with_reducible rfl
          rotate_left
          · simp only [Act.put, List.setIfInBounds_toArray, List.set_cons_zero, List.set_cons_succ, i64_w, i32_w]
            rfl
          refine take_ (i := 3) (N := some 89) (v := ?_) (a' := ?_) #[true, true, true, true, false, false, false, false, false, false, false, false, false, false, false, false, false] rfl rfl (by kernel_rfl) (fun _ _ _ h => h) (Or.inl ⟨by rfl, ?_⟩) hHeld ?_ ?_
          rotate_left
          · rintro w' ⟨s0, s1⟩
            go_simp
            with_reducible rfl
          rotate_left
          · simp only [Act.put, List.setIfInBounds_toArray, List.set_cons_zero, List.set_cons_succ, i64_w, i32_w]
            rfl
          refine pure_ (i := 4) (N := some 90) (v := ?_) (a' := ?_) #[true, true, true, true, true, false, false, false, false, false, false, false, false, false, false, false, false] rfl rfl (by kernel_rfl) (fun _ _ _ h => h) (Or.inl ⟨by rfl, ?_⟩) ?_ ?_
          rotate_left
          · intro w'
            go_simp
            with_reducible rfl
          rotate_left
          · simp only [Act.put, List.setIfInBounds_toArray, List.set_cons_zero, List.set_cons_succ, i64_w, i32_w]
            rfl
          refine pure_ (i := 5) (N := some 91) (v := ?_) (a' := ?_) #[true, true, true, true, true, true, false, false, false, false, false, false, false, false, false, false, false] rfl rfl (by kernel_rfl) (fun _ _ _ h => h) (Or.inl ⟨by rfl, ?_⟩) ?_ ?_
          rotate_left
          · intro w'
            go_simp
            try simp only [Bool.not_true, Bool.not_true, Bool.not_false]
            with_reducible rfl
          rotate_left
          · simp only [Act.put, List.setIfInBounds_toArray, List.set_cons_zero, List.set_cons_succ, i64_w, i32_w]
            rfl
          refine pure_ (i := 6) (N := some 92) (v := ?_) (a' := ?_) #[true, true, true, true, true, true, true, false, false, false, false, false, false, false, false, false, false] rfl rfl (by kernel_rfl) (fun _ _ _ h => h) (Or.inl ⟨by rfl, ?_⟩) ?_ ?_
          rotate_left
          · intro w'
            go_simp
            with_reducible rfl
          rotate_left
          · simp only [Act.put, List.setIfInBounds_toArray, List.set_cons_zero, List.set_cons_succ, i64_w, i32_w]
            rfl
          refine pure_ (i := 7) (N := some 93) (v := ?_) (a' := ?_) #[true, true, true, true, true, true, true, true, false, false, false, false, false, false, false, false, false] rfl rfl (by kernel_rfl) (fun _ _ _ h => h) (Or.inl ⟨by rfl, ?_⟩) ?_ ?_
          rotate_left
          · intro w'
            go_simp
            with_reducible rfl
          rotate_left
          · simp only [Act.put, List.setIfInBounds_toArray, List.set_cons_zero, List.set_cons_succ, i64_w, i32_w]
            rfl
          refine pure_ (i := 8) (N := some 94) (v := ?_) (a' := ?_) #[true, true, true, true, true, true, true, true, true, false, false, false, false, false, false, false, false] rfl rfl (by kernel_rfl) (fun _ _ _ h => h) (Or.inl ⟨by rfl, ?_⟩) ?_ ?_
          rotate_left
          · intro w'
            go_simp
            with_reducible rfl
          rotate_left
          · simp only [Act.put, List.setIfInBounds_toArray, List.set_cons_zero, List.set_cons_succ, i64_w, i32_w]
            rfl
          refine pure_ (i := 9) (N := some 95) (v := undef) (a' := ?_) #[true, true, true, true, true, true, true, true, true, true, false, false, false, false, false, false, false] rfl rfl (by kernel_rfl) (fun _ _ _ h => h) (Or.inr ⟨by rfl, rfl⟩) ?_ ?_
          rotate_left
          · simp only [Act.put, List.setIfInBounds_toArray, List.set_cons_zero, List.set_cons_succ, i64_w, i32_w]
            rfl
          refine pure_ (i := 10) (N := some 96) (v := undef) (a' := ?_) #[true, true, true, true, true, true, true, true, true, true, true, false, false, false, false, false, false] rfl rfl (by kernel_rfl) (fun _ _ _ h => h) (Or.inr ⟨by rfl, rfl⟩) ?_ ?_
          rotate_left
          · simp only [Act.put, List.setIfInBounds_toArray, List.set_cons_zero, List.set_cons_succ, i64_w, i32_w]
            rfl
          refine pure_ (i := 11) (N := some 97) (v := undef) (a' := ?_) #[true, true, true, true, true, true, true, true, true, true, true, true, false, false, false, false, false] rfl rfl (by kernel_rfl) (fun _ _ _ h => h) (Or.inr ⟨by rfl, rfl⟩) ?_ ?_
          rotate_left
          · simp only [Act.put, List.setIfInBounds_toArray, List.set_cons_zero, List.set_cons_succ, i64_w, i32_w]
            rfl
          refine pure_ (i := 12) (N := some 98) (v := undef) (a' := ?_) #[true, true, true, true, true, true, true, true, true, true, true, true, true, false, false, false, false] rfl rfl (by kernel_rfl) (fun _ _ _ h => h) (Or.inr ⟨by rfl, rfl⟩) ?_ ?_
          rotate_left
          · simp only [Act.put, List.setIfInBounds_toArray, List.set_cons_zero, List.set_cons_succ, i64_w, i32_w]
            rfl
          refine pure_ (i := 13) (N := some 99) (v := undef) (a' := ?_) #[true, true, true, true, true, true, true, true, true, true, true, true, true, true, false, false, false] rfl rfl (by kernel_rfl) (fun _ _ _ h => h) (Or.inr ⟨by rfl, rfl⟩) ?_ ?_
          rotate_left
          · simp only [Act.put, List.setIfInBounds_toArray, List.set_cons_zero, List.set_cons_succ, i64_w, i32_w]
            rfl
          refine pure_ (i := 14) (N := some 100) (v := undef) (a' := ?_) #[true, true, true, true, true, true, true, true, true, true, true, true, true, true, true, false, false] rfl rfl (by kernel_rfl) (fun _ _ _ h => h) (Or.inr ⟨by rfl, rfl⟩) ?_ ?_
          rotate_left
          · simp only [Act.put, List.setIfInBounds_toArray, List.set_cons_zero, List.set_cons_succ, i64_w, i32_w]
            rfl
          refine pure_ (i := 15) (N := some 101) (v := ?_) (a' := ?_) #[true, true, true, true, true, true, true, true, true, true, true, true, true, true, true, true, false] rfl rfl (by kernel_rfl) (fun _ _ _ h => h) (Or.inl ⟨by rfl, ?_⟩) ?_ ?_
          rotate_left
          · intro w'
            go_simp
            with_reducible rfl
          rotate_left
          · simp only [Act.put, List.setIfInBounds_toArray, List.set_cons_zero, List.set_cons_succ, i64_w, i32_w]
            rfl
          refine pure_ (i := 16) (N := some 102) (v := ?_) (a' := ?_) #[true, true, true, true, true, true, true, true, true, true, true, true, true, true, true, true, true] rfl rfl (by kernel_rfl) (fun _ _ _ h => h) (Or.inl ⟨by rfl, ?_⟩) ?_ ?_
          rotate_left
          · intro w'
            go_simp
            with_reducible rfl
          rotate_left
          · simp only [Act.put, List.setIfInBounds_toArray, List.set_cons_zero, List.set_cons_succ, i64_w, i32_w]
            rfl
          refine done_ (by kernel_rfl) ?_
          try go_wp2_with fail
          go_roundg k1
          case measure => have := HK.out; omega
          case rel => exact ⟨kk + 1, by first | rfl | rw [show wrap64 (kk + 1) = kk + 1 from by unfold wrap64; have := C7.out; have := H0.out; omega], by rw [show (kk + 1).toNat = kk.toNat + 1 from by have := H0.out; omega, Pure.cntL, if_pos hf0, Nat.add_zero], ⟨by have := H0.out; omega, by have := C7.out; omega⟩, ⟨by have := HK.out; omega, by have := HK.out; omega⟩, n3_, n2_, n4_⟩
        · rw [if_neg hf0] at hval
          have hfl := Pure.fl_gt ((HD.out kk.toNat).resolve_left hf0)
          obtain ⟨fv, hfv⟩ : ∃ fv, fv = ls.getD kk.toNat 0 := ⟨_, rfl⟩
          rw [← hfv] at hval hfl hf0
          have AV := Aside0.mk hval
          have HFV := Aside0.mk hfv
          have HF0 := Aside0.mk hf0
          have hgt : ∀ W : World, (binOp .gtr 29 (.float .f64 fv) (.float .f64 0)).run Try.prog W = .ok (.bool true) W := fun W => by
            have := hfl.1
            simp [binOp, Op.floatCmp, this]
          have hne : ∀ W : World, (binOp .neq 29 (.float .f64 fv) (.float .f64 fv)).run Try.prog W = .ok (.bool false) W := fun W => by
            have := hfl.2
            simp [binOp, Op.floatCmp, this]
          have hft := hfl.1
          have hfe := hfl.2
          have hcn : wrap64 ((Pure.cntL ls kk.toNat : Nat) + 1) = (Pure.cntL ls kk.toNat : Int) + 1 := by
            have := Pure.cntL_le ls kk.toNat
            unfold wrap64; have := C7.out; have := H0.out; omega
          clear hval hfv hf0 hfl
          go_upto_region 22 with (first | ((with_reducible refine gate_dst (N := 81) rfl ?_); refine Kd.R_lit (Kd.int .u8) _ 5 ?hg (N := 81) ?hd (xs := ([97 + kk] : List Int)) (inner := [.int .u8 (97 + kk)]) (ok := fun _ => True) (okp := fun _ => True) ?hr ?hp (fun _ hk => hk) trivial (Below.refl _ _) (Nat.le_refl _) (by simp) ?_; (case hd => rfl); (case hg => rfl); (case hr => first | (go_simp; done) | (go_simp; rfl)); (case hp => exact (Reps.one (show Kd.M (Kd.int .u8) _ _ _ (97 + kk) [.int .u8 (97 + kk)] from rfl) (Reps.none _ _))); intro v81 w14 ho hb hg_ hnew_; (clear hg_ hnew_); (obtain ⟨As, cs_, es_⟩ := Kd.R_slice ho); subst es_; have hcv := (Kd.x_R_string (P := Try.prog) Try.underlying47 Try.underlying5 Try.underlying9 ho).1; rw [show strOfNums [97 + kk] = Pure.kB kk from rfl, show ([97 + kk] : List Int).length = 1 from rfl] at hcv; replace HOd := Aside0.mk (Kd.R_below HOd.out hb); replace BK7 := bB BK7 hb; replace HB := bW HB hb; clear hb ho) | ((with_reducible refine gate_callee (f := 16) rfl ?_); refine goesL_ (some 83) rfl rfl Try.func16 (by kernel_rfl) rfl #[.slice Ad d.length cd, .string (Pure.kB kk)] rfl (by (try simp only [List.map_toArray, List.map_cons, List.map_nil]); first | done | rfl | (simp only [List.length_drop, List.length_take]; rfl)) ?_; (with_reducible refine (judge_Val.calls k _ _ d (Pure.kB kk) (1) (fv) (⟨#[]⟩) (true) _ ?side1 ?side2 AV.out).mono ?_); (case side1 => exact (Kd.R_reads' HOd.out).2.2); (case side2 => exact (Kd.R_reads' HOd.out).2.1); rintro e w31 ⟨rfl, hb⟩; refine ⟨_, rfl, ?_⟩; replace HOd := Aside0.mk (Kd.R_below HOd.out hb); replace BK7 := bB BK7 hb; replace HB := bW HB hb; clear hb) | ((with_reducible refine gate_dst (N := 14) rfl ?_); refine box_event ?hg (N := 14) ?hd (cs := #[.int .i64 0, .float .f64 0, .string ⟨#[]⟩]) (t := 31) ?hr ?_; (case hd => rfl); (case hg => rfl); (case hr => first | (go_simp; done) | (go_simp; rfl)); intro gb14 hg w32 hbox hb; have BK14 := Aside0.mk (hbox); have GW14 := bZ HB hg; have NB7_14 := bL BK7 hg; replace HOd := Aside0.mk (Kd.R_below HOd.out hb); replace BK7 := bB BK7 hb; replace HB := bW HB hb; clear hb hbox hg; obtain ⟨hcz_0, hcz_1, hcz_2, hfz_0, hfz_1, hfz_2⟩ := bf3 (w := w32) BK14))
          have n1_ : Aside0 ((((w32.setCell ⟨gb14, 0, none⟩ (.int .i64 1)).setCell ⟨gb14, 1, none⟩ (.float .f64 (fv))).setCell ⟨gb14, 2, none⟩ (.string ⟨#[]⟩)).heap[gb14]? = some (.cells #[.int .i64 1, .float .f64 (fv), .string ⟨#[]⟩] 31 (0, 0))) := ⟨bR BK14⟩
          have n2_ : Aside0 ((((w32.setCell ⟨gb14, 0, none⟩ (.int .i64 1)).setCell ⟨gb14, 1, none⟩ (.float .f64 (fv))).setCell ⟨gb14, 2, none⟩ (.string ⟨#[]⟩)).heap[gb7]? = some (.cells (fcells ls) 46 (0, 0))) := ⟨bQ BK7⟩
          have n3_ : Aside0 (Kd.R k38 38 (((w32.setCell ⟨gb14, 0, none⟩ (.int .i64 1)).setCell ⟨gb14, 1, none⟩ (.float .f64 (fv))).setCell ⟨gb14, 2, none⟩ (.string ⟨#[]⟩)) w.heap.size (fun _ => True) (.slice Ad d.length cd) d) := ⟨Kd.R_set (Kd.R_set (Kd.R_set HOd.out BK14.out (by decide) 0 _) (blk_set BK14.out 0 _) (by decide) 1 _) (blk_set (blk_set BK14.out 0 _) 1 _) (by decide) 2 _⟩
          have n4_ : Aside0 (Below w.heap.size w (((w32.setCell ⟨gb14, 0, none⟩ (.int .i64 1)).setCell ⟨gb14, 1, none⟩ (.float .f64 (fv))).setCell ⟨gb14, 2, none⟩ (.string ⟨#[]⟩))) := ⟨below_set (below_set (below_set HB.out GW14.out) GW14.out) GW14.out⟩
          generalize ((w32.setCell ⟨gb14, 0, none⟩ (.int .i64 1)).setCell ⟨gb14, 1, none⟩ (.float .f64 (fv))).setCell ⟨gb14, 2, none⟩ (.string ⟨#[]⟩) = w33 at n1_ n2_ n3_ n4_ ⊢
          clear BK14 BK7 HOd HB hcz_0 hcz_1 hcz_2 hfz_0 hfz_1 hfz_2
          replace n1_ := Aside0.mk (blk_drew n1_.out)
          replace n2_ := Aside0.mk (blk_drew n2_.out)
          replace n3_ := Aside0.mk (Kd.R_drew n3_.out)
          replace n4_ := Aside0.mk (below_drew1 n4_.out)
          try go_wp2_with fail

          have hc7 := (blk_cell n2_.out kk.toNat).trans (fcells_at K7.out)
          rw [← HFV.out] at hc7
          have hc14 : w33.drew.cell? ⟨gb14, 1, none⟩ = some (.float .f64 fv) := (blk_cell n1_.out 1).trans rfl
          refine start_ (n := 17) (S := fun w' => w'.cell? ⟨gb7, kk.toNat, none⟩ = some (.float .f64 (fv)) ∧ w'.cell? ⟨gb14, 1, none⟩ = some (.float .f64 (fv))) (ds := []) #[false, false, false, false, false, false, false, false, false, false, false, false, false, false, false, false, false] (by kernel_rfl) rfl rfl ⟨hc7, hc14⟩ (fun hHeld => ?_)
          refine pure_ (i := 0) (N := some 86) (v := ?_) (a' := ?_) #[true, false, false, false, false, false, false, false, false, false, false, false, false, false, false, false, false] rfl rfl (by kernel_rfl) (fun _ _ _ h => h) (Or.inl ⟨by rfl, ?_⟩) ?_ ?_
          rotate_left
          · intro w'
            go_simp
            with_reducible rfl
          rotate_left
          · simp only [Act.put, List.setIfInBounds_toArray, List.set_cons_zero, List.set_cons_succ, i64_w, i32_w]
            rfl
          refine pure_ (i := 1) (N := some 87) (v := ?_) (a' := ?_) #[true, true, false, false, false, false, false, false, false, false, false, false, false, false, false, false, false] rfl rfl (by kernel_rfl) (fun _ _ _ h => h) (Or.inl ⟨by rfl, ?_⟩) ?_ ?_
          rotate_left
          · intro w'
            go_simp
            with_reducible rfl
          rotate_left
          · simp only [Act.put, List.setIfInBounds_toArray, List.set_cons_zero, List.set_cons_succ, i64_w, i32_w]
            rfl
          refine pure_ (i := 2) (N := some 88) (v := ?_) (a' := ?_) #[true, true, true, false, false, false, false, false, false, false, false, false, false, false, false, false, false] rfl rfl (by kernel_rfl) (fun _ _ _ h => h) (Or.inl ⟨by rfl, ?_⟩) ?_ ?_
          rotate_left
          · intro w'
            go_simp
            with_reducible rfl
          rotate_left
          · simp only [Act.put, List.setIfInBounds_toArray, List.set_cons_zero, List.set_cons_succ, i64_w, i32_w]
            rfl
          refine take_ (i := 3) (N := some 89) (v := ?_) (a' := ?_) #[true, true, true, true, false, false, false, false, false, false, false, false, false, false, false, false, false] rfl rfl (by kernel_rfl) (fun _ _ _ h => h) (Or.inl ⟨by rfl, ?_⟩) hHeld ?_ ?_
          rotate_left
          · rintro w' ⟨s0, s1⟩
            go_simp
            with_reducible rfl
          rotate_left
          · simp only [Act.put, List.setIfInBounds_toArray, List.set_cons_zero, List.set_cons_succ, i64_w, i32_w]
            rfl
          refine pure_ (i := 4) (N := some 90) (v := ?_) (a' := ?_) #[true, true, true, true, true, false, false, false, false, false, false, false, false, false, false, false, false] rfl rfl (by kernel_rfl) (fun _ _ _ h => h) (Or.inl ⟨by rfl, ?_⟩) ?_ ?_
          rotate_left
          · intro w'
            go_simp
            try simp only [hft, Bool.not_true, Bool.not_false]
            with_reducible rfl
          rotate_left
          · simp only [Act.put, List.setIfInBounds_toArray, List.set_cons_zero, List.set_cons_succ, i64_w, i32_w]
            rfl
          refine pure_ (i := 5) (N := some 91) (v := ?_) (a' := ?_) #[true, true, true, true, true, true, false, false, false, false, false, false, false, false, false, false, false] rfl rfl (by kernel_rfl) (fun _ _ _ h => h) (Or.inl ⟨by rfl, ?_⟩) ?_ ?_
          rotate_left
          · intro w'
            go_simp
            try simp only [Bool.not_true, Bool.not_true, Bool.not_false]
            with_reducible rfl
          rotate_left
          · simp only [Act.put, List.setIfInBounds_toArray, List.set_cons_zero, List.set_cons_succ, i64_w, i32_w]
            rfl
          refine pure_ (i := 6) (N := some 92) (v := ?_) (a' := ?_) #[true, true, true, true, true, true, true, false, false, false, false, false, false, false, false, false, false] rfl rfl (by kernel_rfl) (fun _ _ _ h => h) (Or.inl ⟨by rfl, ?_⟩) ?_ ?_
          rotate_left
          · intro w'
            go_simp
            with_reducible rfl
          rotate_left
          · simp only [Act.put, List.setIfInBounds_toArray, List.set_cons_zero, List.set_cons_succ, i64_w, i32_w]
            rfl
          refine pure_ (i := 7) (N := some 93) (v := ?_) (a' := ?_) #[true, true, true, true, true, true, true, true, false, false, false, false, false, false, false, false, false] rfl rfl (by kernel_rfl) (fun _ _ _ h => h) (Or.inl ⟨by rfl, ?_⟩) ?_ ?_
          rotate_left
          · intro w'
            go_simp
            with_reducible rfl
          rotate_left
          · simp only [Act.put, List.setIfInBounds_toArray, List.set_cons_zero, List.set_cons_succ, i64_w, i32_w]
            rfl
          refine pure_ (i := 8) (N := some 94) (v := ?_) (a' := ?_) #[true, true, true, true, true, true, true, true, true, false, false, false, false, false, false, false, false] rfl rfl (by kernel_rfl) (fun _ _ _ h => h) (Or.inl ⟨by rfl, ?_⟩) ?_ ?_
          rotate_left
          · intro w'
            go_simp
            with_reducible rfl
          rotate_left
          · simp only [Act.put, List.setIfInBounds_toArray, List.set_cons_zero, List.set_cons_succ, i64_w, i32_w]
            rfl
          refine pure_ (i := 9) (N := some 95) (v := ?_) (a' := ?_) #[true, true, true, true, true, true, true, true, true, true, false, false, false, false, false, false, false] rfl rfl (by kernel_rfl) (fun _ _ _ h => h) (Or.inl ⟨by rfl, ?_⟩) ?_ ?_
          rotate_left
          · intro w'
            go_simp
            with_reducible rfl
          rotate_left
          · simp only [Act.put, List.setIfInBounds_toArray, List.set_cons_zero, List.set_cons_succ, i64_w, i32_w]
            rfl
          refine pure_ (i := 11) (N := some 97) (v := ?_) (a' := ?_) #[true, true, true, true, true, true, true, true, true, true, false, true, false, false, false, false, false] rfl rfl (by kernel_rfl) (fun _ _ _ h => h) (Or.inl ⟨by rfl, ?_⟩) ?_ ?_
          rotate_left
          · intro w'
            go_simp
            with_reducible rfl
          rotate_left
          · simp only [Act.put, List.setIfInBounds_toArray, List.set_cons_zero, List.set_cons_succ, i64_w, i32_w]
            rfl
          refine pure_ (i := 12) (N := some 98) (v := ?_) (a' := ?_) #[true, true, true, true, true, true, true, true, true, true, false, true, true, false, false, false, false] rfl rfl (by kernel_rfl) (fun _ _ _ h => h) (Or.inl ⟨by rfl, ?_⟩) ?_ ?_
          rotate_left
          · intro w'
            go_simp
            with_reducible rfl
          rotate_left
          · simp only [Act.put, List.setIfInBounds_toArray, List.set_cons_zero, List.set_cons_succ, i64_w, i32_w]
            rfl
          refine take_ (i := 10) (N := some 96) (v := ?_) (a' := ?_) #[true, true, true, true, true, true, true, true, true, true, true, true, true, false, false, false, false] rfl rfl (by kernel_rfl) (fun _ _ _ h => h) (Or.inl ⟨by rfl, ?_⟩) hHeld ?_ ?_
          rotate_left
          · rintro w' ⟨s0, s1⟩
            go_simp
            with_reducible rfl
          rotate_left
          · simp only [Act.put, List.setIfInBounds_toArray, List.set_cons_zero, List.set_cons_succ, i64_w, i32_w]
            rfl
          refine take_ (i := 13) (N := some 99) (v := ?_) (a' := ?_) #[true, true, true, true, true, true, true, true, true, true, true, true, true, true, false, false, false] rfl rfl (by kernel_rfl) (fun _ _ _ h => h) (Or.inl ⟨by rfl, ?_⟩) hHeld ?_ ?_
          rotate_left
          · rintro w' ⟨s0, s1⟩
            go_simp
            with_reducible rfl
          rotate_left
          · simp only [Act.put, List.setIfInBounds_toArray, List.set_cons_zero, List.set_cons_succ, i64_w, i32_w]
            rfl
          refine pure_ (i := 14) (N := some 100) (v := ?_) (a' := ?_) #[true, true, true, true, true, true, true, true, true, true, true, true, true, true, true, false, false] rfl rfl (by kernel_rfl) (fun _ _ _ h => h) (Or.inl ⟨by rfl, ?_⟩) ?_ ?_
          rotate_left
          · intro w'
            go_simp
            try simp only [hfe, Bool.not_true, Bool.not_false]
            with_reducible rfl
          rotate_left
          · simp only [Act.put, List.setIfInBounds_toArray, List.set_cons_zero, List.set_cons_succ, i64_w, i32_w]
            rfl
          refine pure_ (i := 15) (N := some 101) (v := ?_) (a' := ?_) #[true, true, true, true, true, true, true, true, true, true, true, true, true, true, true, true, false] rfl rfl (by kernel_rfl) (fun _ _ _ h => h) (Or.inl ⟨by rfl, ?_⟩) ?_ ?_
          rotate_left
          · intro w'
            go_simp
            with_reducible rfl
          rotate_left
          · simp only [Act.put, List.setIfInBounds_toArray, List.set_cons_zero, List.set_cons_succ, i64_w, i32_w]
            rfl
          refine pure_ (i := 16) (N := some 102) (v := ?_) (a' := ?_) #[true, true, true, true, true, true, true, true, true, true, true, true, true, true, true, true, true] rfl rfl (by kernel_rfl) (fun _ _ _ h => h) (Or.inl ⟨by rfl, ?_⟩) ?_ ?_
          rotate_left
          · intro w'
            go_simp
            with_reducible rfl
          rotate_left
          · simp only [Act.put, List.setIfInBounds_toArray, List.set_cons_zero, List.set_cons_succ, i64_w, i32_w]
            rfl
          refine done_ (by kernel_rfl) ?_
          try go_wp2_with fail
          go_roundg k1
          case measure => have := HK.out; omega
          case rel => exact ⟨kk + 1, by first | rfl | rw [show wrap64 (kk + 1) = kk + 1 from by unfold wrap64; have := C7.out; have := H0.out; omega], by rw [show (kk + 1).toNat = kk.toNat + 1 from by have := H0.out; omega, Pure.cntL, ← HFV.out, if_neg HF0.out, hcn]; rfl, ⟨by have := H0.out; omega, by have := C7.out; omega⟩, ⟨by have := HK.out; omega, by have := HK.out; omega⟩, n3_, n2_, n4_⟩
end Go.Proofs.Ytppbdngfiphliaa.P
