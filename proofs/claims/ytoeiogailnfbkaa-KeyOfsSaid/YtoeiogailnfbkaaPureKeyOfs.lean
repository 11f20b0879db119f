/- KeyOfs: a float goes to its key and back, and no other text is a float's key: the plain statement of the law. -/
import Derived.Test.YtoeiogailnfbkaaKeyB
import Derived.Test.YtoeiogailnfbkaaPx5
set_option linter.unusedVariables false
set_option linter.unusedSimpArgs false
namespace Go.Proofs.Ytoeiogailnfbkaa.Pure
open Go.RowKit Go.Proofs.Ytoeiogailnfbkaa.P Go.Proofs.YtoeiogailnfbkaaW.PrintWords Go.Proofs.YtoeiogailnfbkaaW.PrintLast Go.Proofs.YtoeiogailnfbkaaW.PrintMore
theorem toNat_lt' {x : Int} (h : (Lit.int .u64 x).wf = true) : x.toNat < 18446744073709551616 := by have := wf_u64 h; omega
theorem key_eq' {u v : Nat} (hu : u < 18446744073709551616) (hv : v < 18446744073709551616) : ((⟨#[102]⟩ : ByteArray) ++ strOfNums (be 8 u)).toList = ((⟨#[102]⟩ : ByteArray) ++ strOfNums (be 8 v)).toList ↔ u = v := by
  rw [app_list, app_list, List.append_cancel_left_eq, be8_eq hu hv]
theorem fl_long {s : ByteArray} (h : s.size ≠ 9) : (flL s).2 = false := by
  unfold flL ofL
  split
  · rw [if_neg (by rw [bytesOf_length, ByteArray.size_extract]; omega)]
  · rfl
theorem KeyOfs : engrosslaw5_KeyOfs.Pure := by
  intro x y hx hy
  refine ⟨60, ?_⟩
  unfold engrosslaw5_KeyOfs.f
  rw [begun5 (by omega)]
  simp only [Option.bind_some, if_true]
  have ha := toNat_lt' hx
  have hb := toNat_lt' hy
  generalize x.toNat = a at ha
  generalize y.toNat = b at hb
  have pa := pl_lt ha
  have pb := pl_lt hb
  rw [of_key ha (by omega), of_key hb (by omega), rplace_is ha, rplace_is hb]
  simp only [Option.bind_some]
  have hsz := key_size (pl a)
  have hl : ((⟨#[102]⟩ : ByteArray) ++ strOfNums (be 8 (pl a))).toList = 102 :: (strOfNums (be 8 (pl a))).toList := by
    rw [app_list, Go.ByteArray.toList_eq (⟨#[102]⟩ : ByteArray)]; rfl
  have hk := fl_key pa
  have heq := key_eq' pa pb
  generalize ((⟨#[102]⟩ : ByteArray) ++ strOfNums (be 8 (pl a))) = s at hsz hl hk heq
  rw [float_key s (by omega) (by omega), hk]
  simp only [Option.bind_some]
  have h1 : (s ++ (⟨#[120]⟩ : ByteArray)).size = 10 := by rw [ByteArray.size_append, hsz]; rfl
  have h2 : (s.extract 1 s.size).size = 8 := by rw [ByteArray.size_extract]; omega
  have h3 : ((⟨#[103]⟩ : ByteArray) ++ s.extract 1 s.size).size = 9 := by rw [ByteArray.size_append, h2]; rfl
  have h4 : (flL ((⟨#[103]⟩ : ByteArray) ++ s.extract 1 s.size)).2 = false := by
    unfold flL
    rw [if_neg]
    rw [ext_list, app_list, Go.ByteArray.toList_eq (⟨#[103]⟩ : ByteArray)]
    intro h
    have := congrArg List.head? h
    revert this
    simp
  have h5 : bt s 0 = 102 := by
    unfold bt
    rw [dif_pos (show (0 : Int).toNat < s.size by rw [hsz]; decide)]
    have : s.toList[0]? = some 102 := by rw [hl]; rfl
    rw [Go.ByteArray.toList_eq] at this
    have h0 : 0 < s.size := by omega
    have e : s[0]'h0 = 102 := by
      have h6 : s.data.toList[0]? = some (s.data[0]'h0) := by
        rw [List.getElem?_eq_getElem (by exact h0)]
        rfl
      rw [h6] at this
      exact Option.some.inj this
    have e2 : (s[(0 : Int).toNat]'(by rw [hsz]; decide)) = 102 := e
    rw [e2]; rfl
  rw [if_pos (by rw [hsz]; decide), float_key _ (by omega) (by omega)]
  simp only [Option.bind_some]
  rw [if_pos (by omega), if_pos (by rw [h2]; decide), float_key _ (by omega) (by omega)]
  simp only [Option.bind_some]
  have ef := fo_pl ha
  have ep : pl (fo (pl a)) = pl a := by rw [ef, pl_clean ha]
  rw [if_pos (by omega), if_pos (by omega), if_pos h5, ofL_be pa, if_pos ep, if_pos (show (fo (pl a), true).snd = true from rfl), rclean_is ha]
  simp only [Option.bind_some]
  rw [bits_is]
  simp only [Option.bind_some]
  rw [if_pos (by rw [decide_eq_true_eq]; exact ef), if_neg (by rw [fl_long (by omega)]; decide), if_neg (by rw [h4]; decide)]
  congr 1
  rw [beq_iff_eq, Bool.eq_iff_iff]
  simp only [beq_iff_eq, heq]
  omega
end Go.Proofs.Ytoeiogailnfbkaa.Pure
