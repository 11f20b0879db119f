/- ChangeOwn: what was read is nobody else's: the plain statement of the law. -/
import Derived.Test.YtijnfnlahhgpgaaDoorChgB
import Derived.Test.YtijnfnlahhgpgaaDoorPx10
set_option linter.unusedVariables false
set_option linter.unusedSimpArgs false
namespace Go.Proofs.YtijnfnlahhgpgaaDoor.Pure
open Go.RowKit Go.Proofs.YtijnfnlahhgpgaaDoor.P Go.Proofs.YtijnfnlahhgpgaaDoorW.PrintWords Go.Proofs.YtijnfnlahhgpgaaDoorW.PrintLast Go.Proofs.YtijnfnlahhgpgaaDoorW.PrintMore
theorem own_l0 (x : Int) (m : Int) (l : List S38) (n : Nat) (r : Option Bool) (hn : n ≤ 1000000) (hr : ∀ k (b : List Int), engrosslaw16_ChangeOwn.l0 (k + 1) x b l (n : Int) (n : Int) = r) (d : Nat) : ∀ (k i : Nat) (b : List Int), i + d = n → d < k → b.length = n →
    engrosslaw16_ChangeOwn.l0 k x b l (n : Int) (i : Int) = r := by
  induction d with
  | zero =>
    intro k i b hi hk hb
    obtain ⟨k, rfl⟩ : ∃ m, k = m + 1 := ⟨k - 1, by omega⟩
    obtain rfl : i = n := by omega
    exact hr k b
  | succ d ih =>
    intro k i b hi hk hb
    obtain ⟨k, rfl⟩ : ∃ m, k = m + 1 := ⟨k - 1, by omega⟩
    simp only [engrosslaw16_ChangeOwn.l0]
    rw [if_pos (by omega), if_pos (by omega), if_pos (by omega), w64 (x := (i : Int) + 1) (by omega), show (i : Int) + 1 = ((i + 1 : Nat) : Int) from rfl]
    exact ih k (i + 1) _ (by omega) (by omega) (by rw [List.length_set]; exact hb)
theorem ChangeOwn : engrosslaw16_ChangeOwn.Pure := by
  intro x hx
  have hx := wf_u8 hx
  obtain ⟨k, hk⟩ : ∃ k : Nat, 40000 ≤ k := ⟨40000, Nat.le_refl _⟩
  refine ⟨k, ?_⟩
  have h97 : IB [x, 1] := by intro c hc; simp at hc; omega
  have hp : (pageOf [x, 1]).length = 256 := pageOf_len _
  have hm : mayI [(⟨3, pageOf [x, 1]⟩ : S38)] = true := mayI_one (by decide) (by decide) hp
  have hb : ∀ y ∈ [(⟨3, pageOf [x, 1]⟩ : S38)], IB y.f1 := by
    intro y hy
    rw [List.mem_singleton.1 hy]
    exact IB_page h97
  have he : encF [(⟨3, pageOf [x, 1]⟩ : S38)] = bytesI [⟨3, pageOf [x, 1]⟩] := by unfold encF; rw [if_pos hm]
  have hl := (bytesI_len hm).1
  unfold engrosslaw16_ChangeOwn.f
  rw [begun16 (by omega)]
  simp only [Option.bind_some]
  rw [if_pos trivial, of_is (by simp)]
  simp only [Option.bind_some]
  rw [encode_is (by simp) hb (by omega), he]
  simp only [Option.bind_some]
  rw [decode_is (bytesI_IB hm) (by omega) (by omega), dec_enc hm hb]
  simp only [Option.bind_some]
  refine own_l0 x 0 _ (bytesI [(⟨3, pageOf [x, 1]⟩ : S38)]).length (some true) (by omega) (fun k b => ?_) (bytesI [(⟨3, pageOf [x, 1]⟩ : S38)]).length k 0 _ (by omega) (by omega) rfl
  simp only [engrosslaw16_ChangeOwn.l0]
  have e0 : rd_T38 [(⟨3, pageOf [x, 1]⟩ : S38)] 0 = ⟨3, pageOf [x, 1]⟩ := rfl
  have q : pageOf [x, 1] = x :: 1 :: List.replicate 254 0 := rfl
  rw [if_neg (by omega), if_pos (by simp), if_pos (by simp), e0]
  simp only
  rw [if_pos (by omega), if_pos (by rw [q]; rfl), if_pos (by omega), if_pos (by rw [q]; rfl), hp]
  rfl
end Go.Proofs.YtijnfnlahhgpgaaDoor.Pure
