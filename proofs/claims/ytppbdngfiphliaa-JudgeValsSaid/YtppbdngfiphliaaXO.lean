/- Reading arguments: what is read at a type of structs, texts, numbers, rows gives a value of its kind. Condition: none beside the types' shapes. -/
import Derived.Test.YtppbdngfiphliaaXWords
import Derived.ChangeArms
import Derived.DataReads
import Derived.ChangeSlices
import Derived.WideShapes
set_option linter.unusedVariables false
set_option linter.unusedSimpArgs false
namespace Go.Proofs.YtppbdngfiphliaaW.PrintWords
open Go.RowKit

/-- What is read at a type is a value of the kind, and of its bounds. -/
def Opens {α : Type} (P : Program) (d : Kd α) (t : TypeId) (WF : α → Prop) : Prop :=
  ∀ (H : Type) (enc : TypeId × Value → H) (w : World) (base : Nat) (spare : Nat → Bool) (held : Bool) (fuel : Nat) (cs : List Value) (x : DataW H × List MemPlace),
    DataW.trod enc P w base spare held fuel t cs = some x → ∃ a : α, d.K w a cs ∧ WF a
section
variable {P : Program} {t e : TypeId}
theorem opens_int {k : IntKind} (h : P.underlying t = some (.int k)) : Opens P (Kd.int k) t (fun n => (Lit.int k n).wf = true) := by
  intro H enc w base spare held fuel cs x hx
  obtain ⟨n, rfl, _, hw⟩ := DataW.trod_int h hx
  exact ⟨n, rfl, hw⟩
theorem opens_bool (h : P.underlying t = some .bool) : Opens P Kd.bool t (fun _ => True) := by
  intro H enc w base spare held fuel cs x hx
  obtain ⟨b, rfl, _⟩ := DataW.trod_bool h hx
  exact ⟨b, rfl, trivial⟩
theorem opens_string (h : P.underlying t = some .string) : Opens P Kd.string t (fun s => s.size ≤ 9223372036854775807) := by
  intro H enc w base spare held fuel cs x hx
  obtain ⟨s, rfl, _, hs⟩ := DataW.trod_string h hx
  exact ⟨s, rfl, hs⟩
theorem trod_float {H : Type} {enc : TypeId × Value → H} {w : World} {base : Nat} {spare : Nat → Bool} {held : Bool} {fuel : Nat} {cs : List Value} {x : DataW H × List MemPlace}
    (ht : P.underlying t = some (.float .f64)) (h : DataW.trod enc P w base spare held fuel t cs = some x) : ∃ b, cs = [.float .f64 b] ∧ (Lit.float .f64 b).wf = true := by
  cases fuel with
  | zero => simp [DataW.trod] at h
  | succ n =>
    unfold DataW.trod at h
    rw [ht] at h
    split at h <;> simp_all
theorem opens_float (h : P.underlying t = some (.float .f64)) : Opens P Kd.float t (fun b => b < 18446744073709551616) := by
  intro H enc w base spare held fuel cs x hx
  obtain ⟨b, rfl, hw⟩ := trod_float h hx
  refine ⟨b, rfl, ?_⟩
  have e : FloatKind.f64.format.width = 64 := rfl
  simpa [Lit.wf, e] using hw
theorem list_of {α : Type} {Q : Nat → α → Prop} (n : Nat) (h : ∀ i, i < n → ∃ a, Q i a) : ∃ xs : List α, xs.length = n ∧ ∀ i a, xs[i]? = some a → Q i a := by
  induction n with
  | zero => exact ⟨[], rfl, fun i a hi => by simp at hi⟩
  | succ n ih =>
    obtain ⟨xs, hl, hx⟩ := ih (fun i hi => h i (by omega))
    obtain ⟨a, ha⟩ := h n (by omega)
    refine ⟨xs ++ [a], by simp [hl], fun i b hi => ?_⟩
    by_cases hin : i < n
    · rw [List.getElem?_append_left (by omega)] at hi
      exact hx i b hi
    · have hlt := (List.getElem?_eq_some_iff.1 hi).1
      simp at hlt
      obtain rfl : i = n := by omega
      rw [List.getElem?_append_right (by omega), hl] at hi
      simp at hi
      exact hi ▸ ha
theorem add_twice (a : Addr) (m n : Nat) : (a.add m).add n = a.add (m + n) := by
  unfold Addr.add
  by_cases h1 : m = 0
  · subst h1; simp
  · by_cases h2 : n = 0
    · subst h2; simp
    · have h3 : ¬ (m + n = 0) := by omega
      simp [h1, h2, h3, Nat.add_assoc]
theorem opens_C {α : Type} {d : Kd α} {WF : α → Prop} (hs : P.underlying t = some (.slice e)) (hz : P.cellsOf e = d.sz) (he : Opens P d e WF)
    {H : Type} {enc : TypeId × Value → H} {w : World} {base : Nat} {spare : Nat → Bool} {held : Bool} {fuel : Nat} {cs : List Value} {x : DataW H × List MemPlace} (hx : DataW.trod enc P w base spare held fuel t cs = some x) :
    ∃ (A : Option Addr) (xs : List α) (c : Nat), cs = [.slice A xs.length c] ∧ xs.length ≤ c ∧ d.C w A xs.length xs ∧ xs.length ≤ 9223372036854775807 ∧ ∀ y ∈ xs, WF y := by
  rcases DataW.trod_slice hs hx with ⟨rfl, _⟩ | ⟨a, len, cap, elems, rest, n, _, rfl, _, hb, hl, hm, hlen, hel, _, _⟩
  · exact ⟨none, [], 0, rfl, Nat.le_refl _, ⟨rfl, by simp, fun h => absurd h (by simp)⟩, by simp, fun y hy => by cases hy⟩
  · have hm' : cap ≤ 9223372036854775807 := hm
    obtain ⟨xs, hxl, hq⟩ := list_of (Q := fun i (y : α) => (∃ c, c.length = d.sz ∧ d.K w y c ∧ ∀ j u, c[j]? = some u → w.cell? (a.add (i * d.sz + j)) = some u) ∧ WF y) len (by
      intro i hi
      have h1 := hel i hi
      obtain ⟨y, hy⟩ : ∃ y, elems[i]? = some y := ⟨elems[i], List.getElem?_eq_getElem (by omega)⟩
      rw [hy, Option.bind_eq_some_iff] at h1
      obtain ⟨c, hc, ht⟩ := h1
      obtain ⟨z, hK, hwf⟩ := he H enc w base spare held n c y ht
      obtain ⟨_, hcl, hcell⟩ := World.cells?_some hc
      refine ⟨z, ⟨c, d.K_len hK, hK, fun j u hj => ?_⟩, hwf⟩
      have hj2 := (List.getElem?_eq_some_iff.1 hj).1
      have := hcell j (by omega)
      rw [add_twice, hz] at this
      rw [this, hj])
    subst hxl
    refine ⟨some a, xs, cap, rfl, hl, ⟨rfl, by omega, fun _ => ⟨a, rfl, fun j p hj => ?_⟩⟩, by omega, fun y hy => ?_⟩
    · exact (hq j p hj).1
    · obtain ⟨i, hi⟩ := List.getElem?_of_mem hy
      exact (hq i y hi).2
theorem opens_slice {α : Type} {d : Kd α} {WF : α → Prop} (q : Nat) (hs : P.underlying t = some (.slice e)) (hz : P.cellsOf e = d.sz) (he : Opens P d e WF) :
    Opens P (Kd.slice q d) t (fun xs => xs.length ≤ 9223372036854775807 ∧ ∀ y ∈ xs, WF y) := by
  intro H enc w base spare held fuel cs x hx
  obtain ⟨A, xs, c, rfl, hl, hC, h1, h2⟩ := opens_C hs hz he hx
  exact ⟨xs, ⟨A, c, rfl, hl, hC⟩, h1, h2⟩
/-- A struct's fields from a place on. -/
def OpensF {α : Type} (P : Program) (d : Kd α) (fs : List Field) (off : Nat) (WF : α → Prop) : Prop :=
  ∀ (H : Type) (enc : TypeId × Value → H) (w : World) (base : Nat) (spare : Nat → Bool) (held : Bool) (n : Nat) (cs : List Value), cs.length = d.sz →
    (∀ f ∈ fs, ∃ x, DataW.trod enc P w base spare held n f.type ((cs.drop (f.offset - off)).take (P.cellsOf f.type)) = some x) → ∃ a : α, d.K w a cs ∧ WF a
theorem opensF_one {α : Type} {d : Kd α} {WF : α → Prop} {f : Field} {off : Nat} (hf : f.offset = off) (hz : P.cellsOf f.type = d.sz) (h : Opens P d f.type WF) : OpensF P d [f] off WF := by
  intro H enc w base spare held n cs hl hx
  obtain ⟨x, hx⟩ := hx f (List.mem_singleton.2 rfl)
  rw [hf, Nat.sub_self, List.drop_zero, List.take_of_length_le (by omega)] at hx
  exact h H enc w base spare held n cs x hx
theorem opensF_cons {α β : Type} {d : Kd α} {d' : Kd β} {WF : α → Prop} {WF' : β → Prop} {f : Field} {fs : List Field} {off : Nat} (hf : f.offset = off) (hz : P.cellsOf f.type = d.sz)
    (ho : ∀ g ∈ fs, off + d.sz ≤ g.offset) (h : Opens P d f.type WF) (hs : OpensF P d' fs (off + d.sz) WF') : OpensF P (Kd.pair d d') (f :: fs) off (fun x => WF x.1 ∧ WF' x.2) := by
  intro H enc w base spare held n cs hl hx
  have hl : cs.length = d.sz + d'.sz := hl
  obtain ⟨x, hx1⟩ := hx f List.mem_cons_self
  rw [hf, Nat.sub_self, List.drop_zero, hz] at hx1
  obtain ⟨a, hK, hw⟩ := h H enc w base spare held n _ x hx1
  obtain ⟨b, hK', hw'⟩ := hs H enc w base spare held n (cs.drop d.sz) (by rw [List.length_drop]; omega) (fun g hg => by
    obtain ⟨y, hy⟩ := hx g (List.mem_cons_of_mem _ hg)
    refine ⟨y, ?_⟩
    rw [List.drop_drop]
    have := ho g hg
    have e : d.sz + (g.offset - (off + d.sz)) = g.offset - off := by omega
    rw [e]
    exact hy)
  exact ⟨(a, b), ⟨cs.take d.sz, cs.drop d.sz, (List.take_append_drop _ _).symm, hK, hK'⟩, hw, hw'⟩
theorem opens_struct {α : Type} {d : Kd α} {WF : α → Prop} {fs : Array Field} (h : P.underlying t = some (.struct fs)) (hz : P.cellsOf t = d.sz) (hf : OpensF P d fs.toList 0 WF) : Opens P d t WF := by
  intro H enc w base spare held fuel cs x hx
  obtain ⟨xs, n, _, _, hl, hxl, hi⟩ := DataW.trod_struct h hx
  refine hf H enc w base spare held n cs (by omega) (fun f hfm => ?_)
  obtain ⟨i, hfi⟩ := List.getElem?_of_mem hfm
  have h1 := hi i f (by rw [← Array.getElem?_toList]; exact hfi)
  have hlt := (List.getElem?_eq_some_iff.1 hfi).1
  rw [Nat.sub_zero, h1]
  exact ⟨xs[i]'(by rw [hxl]; simpa using hlt), List.getElem?_eq_getElem _⟩
theorem opens_iso {α β : Type} {d : Kd α} {WF : α → Prop} {WF' : β → Prop} {f : β → α} (g : α → β) (hg : ∀ x, f (g x) = x) (hw : ∀ x, WF x → WF' (g x)) (h : Opens P d t WF) : Opens P (Kd.iso d f) t WF' := by
  intro H enc w base spare held fuel cs x hx
  obtain ⟨a, hK, hwf⟩ := h H enc w base spare held fuel cs x hx
  exact ⟨g a, by show d.K w (f (g a)) cs; rw [hg]; exact hK, hw a hwf⟩
/-- An argument's reading. -/
theorem opens_trod {α : Type} {d : Kd α} {WF : α → Prop} (h : Opens P d t WF) {H : Type} {enc : TypeId × Value → H} {w : World} {base : Nat} {spare : Nat → Bool} {held : Bool} {v : Value} {x : DataW H} {ps : List MemPlace}
    (hx : DataW.Trod enc P w base spare held t v x ps) : ∃ a : α, d.K w a v.cells.toList ∧ WF a := by
  obtain ⟨fuel, hf⟩ := hx
  exact h H enc w base spare held fuel _ _ hf
theorem arg_slice {α : Type} {d : Kd α} {WF : α → Prop} (hs : P.underlying t = some (.slice e)) (hz : P.cellsOf e = d.sz) (he : Opens P d e WF) {H : Type} {enc : TypeId × Value → H} {w : World} {base b0 : Nat} {r : Reach} {spare : Nat → Bool} {held : Bool} {v : Value} {x : DataW H} {ps : List MemPlace}
    (hv : Value.okWide P w r b0 t v) (hx : DataW.Trod enc P w base spare held t v x ps) : ∃ (A : Option Addr) (xs : List α) (c : Nat), v = .slice A xs.length c ∧ xs.length ≤ c ∧ d.C w A xs.length xs ∧ xs.length ≤ 9223372036854775807 ∧ ∀ y ∈ xs, WF y := by
  obtain ⟨a, len, cap, rfl⟩ := Go.WideShapes.okWide_slice hs hv
  obtain ⟨fuel, hf⟩ := hx
  obtain ⟨A, xs, c, hcs, h1⟩ := opens_C hs hz he hf
  simp [Value.cells] at hcs
  obtain ⟨rfl, rfl, rfl⟩ := hcs
  exact ⟨_, xs, _, rfl, h1⟩
theorem arg_struct {α : Type} {d : Kd α} {WF : α → Prop} {fs : Array Field} (hs : P.underlying t = some (.struct fs)) (he : Opens P d t WF) {H : Type} {enc : TypeId × Value → H} {w : World} {base b0 : Nat} {r : Reach} {spare : Nat → Bool} {held : Bool} {v : Value} {x : DataW H} {ps : List MemPlace}
    (hv : Value.okWide P w r b0 t v) (hx : DataW.Trod enc P w base spare held t v x ps) : ∃ (a : α) (cs : List Value), v = .agg cs.toArray ∧ d.K w a cs ∧ WF a := by
  obtain ⟨cs, rfl, _⟩ := Go.WideShapes.okWide_struct hs hv
  obtain ⟨a, hK, hw⟩ := opens_trod he hx
  exact ⟨a, cs.toList, by simp, hK, hw⟩
end
end Go.Proofs.YtppbdngfiphliaaW.PrintWords
