/- From how the form reads an argument to the kinds of the walks: a slice of whatever elements, structs of one-cell fields. -/
import Derived.Deep.Slices
import Derived.Deep.Fields
import Derived.ChangeSame
import Derived.Test.YtehhhlhedmfdiaaWWords
namespace Go.Proofs.Ytehhhlhedmfdiaa.Open
open Go.ChangeShapes Go.WideShapes Go.Deep Go.Proofs.YtehhhlhedmfdiaaW.PrintWords
set_option linter.unusedVariables false
section
variable {H : Type} {enc : TypeId × Value → H} {P : Program} {w : World} {base : Nat} {spare : Nat → Bool} {held : Bool}

/-- What the form reads of type t is some x of the kind kd; and x is good. -/
def Tells (enc : TypeId × Value → H) (P : Program) (w : World) (base : Nat) (spare : Nat → Bool) (held : Bool) {α : Type} (t : TypeId) (kd : Kd α) (Good : α → Prop) : Prop :=
  ∀ (fuel : Nat) (cs : List Value) (y : DataW H × List MemPlace), DataW.trod enc P w base spare held fuel t cs = some y → ∃ x : α, kd.K w x cs ∧ Good x

theorem tells_int {t : TypeId} {k : IntKind} (ht : P.underlying t = some (.int k)) : Tells enc P w base spare held t (Kd.int k) (fun n => (Lit.int k n).wf = true) := by
  intro fuel cs y h
  obtain ⟨n, rfl, _, hw⟩ := DataW.trod_int ht h
  exact ⟨n, rfl, hw⟩
theorem tells_bool {t : TypeId} (ht : P.underlying t = some .bool) : Tells enc P w base spare held t Kd.bool (fun _ => True) := by
  intro fuel cs y h
  obtain ⟨n, rfl, _⟩ := DataW.trod_bool ht h
  exact ⟨n, rfl, trivial⟩
theorem tells_string {t : TypeId} (ht : P.underlying t = some .string) : Tells enc P w base spare held t Kd.string (fun s => s.size ≤ maxLen) := by
  intro fuel cs y h
  obtain ⟨n, rfl, _, hw⟩ := DataW.trod_string ht h
  exact ⟨n, rfl, hw⟩

/-- A slice: its elements as a list. -/
theorem tells_slice_at {α : Type} {t e : TypeId} {kd : Kd α} {Good : α → Prop} (ht : P.underlying t = some (.slice e)) (hc : P.cellsOf e = kd.sz) (he : Tells enc P w base spare held e kd Good)
    {fuel : Nat} {cs : List Value} {y : DataW H × List MemPlace} (h : DataW.trod enc P w base spare held fuel t cs = some y) :
    ∃ (A : Option Addr) (c : Nat) (xs : List α), cs = [.slice A xs.length c] ∧ xs.length ≤ c ∧ kd.C w A xs.length xs ∧ (∀ x ∈ xs, Good x) ∧ xs.length ≤ maxLen := by
  rcases open_slice ht h with ⟨rfl, _⟩ | ⟨a, len, cap, m, n, D, Pl, rfl, hb, hl, hm, hmm, _, hx⟩
  · exact ⟨none, 0, [], rfl, Nat.le_refl _, Kd.C_nil kd w, by simp, by simp⟩
  · have hlm : len ≤ m := by rw [hmm]; split <;> omega
    rcases Nat.eq_zero_or_pos len with h0 | h0
    · subst h0
      exact ⟨some a, cap, [], rfl, Nat.zero_le _, ⟨rfl, by simp, fun h => by simp at h⟩, by simp, by simp⟩
    obtain ⟨c0, hc0, ht0⟩ := hx 0 (by omega)
    obtain ⟨x0, hx0, hg0⟩ := he _ _ _ ht0
    have inh : Inhabited α := ⟨x0⟩
    obtain ⟨f, hf⟩ := choose_lt (α := α) (n := len) (p := fun i x => ∃ c, w.cells? base (a.add (i * P.cellsOf e)) (P.cellsOf e) = some c ∧ kd.K w x c ∧ Good x) (fun i hi => by
      obtain ⟨c, hc, ht⟩ := hx i (by omega)
      obtain ⟨x, hk, hg⟩ := he _ _ _ ht
      exact ⟨x, c, hc, hk, hg⟩)
    have hfl : ((List.range len).map f).length = len := by simp
    refine ⟨some a, cap, (List.range len).map f, by rw [hfl], by rw [hfl]; exact hl, ⟨rfl, ?_, fun _ => ⟨a, rfl, fun j p hj => ?_⟩⟩, fun x hx => ?_, by rw [hfl]; omega⟩
    · rw [hfl]; unfold maxLen at hm; omega
    · have hjl : j < len := by
        have := (List.getElem?_eq_some_iff.1 hj).1
        rwa [hfl] at this
      have hp : f j = p := by
        rw [List.getElem?_map, List.getElem?_range hjl] at hj
        simpa using hj
      subst hp
      obtain ⟨c, hc1, hk, _⟩ := hf j hjl
      obtain ⟨_, hcl, hcell⟩ := World.cells?_some hc1
      refine ⟨c, kd.K_len hk, hk, fun i u hu => ?_⟩
      have hi : i < c.length := (List.getElem?_eq_some_iff.1 hu).1
      have := hcell i (by omega)
      rw [Go.Deep.add_add, hc] at this
      rw [this]; exact hu
    · obtain ⟨j, hj, rfl⟩ := List.mem_map.1 hx
      obtain ⟨_, _, _, hg⟩ := hf j (List.mem_range.1 hj)
      exact hg
theorem tells_slice {α : Type} {t e : TypeId} {kd : Kd α} {Good : α → Prop} (ht : P.underlying t = some (.slice e)) (hc : P.cellsOf e = kd.sz) (he : Tells enc P w base spare held e kd Good) :
    Tells enc P w base spare held t (Kd.slice e kd) (fun xs => (∀ x ∈ xs, Good x) ∧ xs.length ≤ maxLen) := by
  intro fuel cs y h
  obtain ⟨A, c, xs, rfl, hl, hC, hg, hm⟩ := tells_slice_at ht hc he h
  exact ⟨xs, ⟨A, c, rfl, hl, hC⟩, hg, hm⟩

/-- A struct of one-cell fields: each field's cell with its own reading. -/
theorem struct_cells {t : TypeId} {fs : Array Field} (ht : P.underlying t = some (.struct fs)) (hone : oneCellFields P fs = true) (hC : P.cellsOf t = fs.size) {fuel : Nat} {cs : List Value} {y : DataW H × List MemPlace} (h : DataW.trod enc P w base spare held fuel t cs = some y) :
    cs.length = fs.size ∧ ∀ (i : Nat) (f : Field), fs[i]? = some f → ∃ (v : Value) (n : Nat) (z : DataW H × List MemPlace), cs[i]? = some v ∧ DataW.trod enc P w base spare held n f.type [v] = some z := by
  obtain ⟨ys, n, _, _, hlen, hyl, hf⟩ := DataW.trod_struct ht h
  refine ⟨by rw [hlen, hC], fun i f hi => ?_⟩
  have hlt : i < fs.size := (Array.getElem?_eq_some_iff.1 hi).1
  obtain ⟨ho, hk⟩ := hone_of hone i f hi
  have h1 := hf i f hi
  rw [ho, hk] at h1
  have hil : i < cs.length := by omega
  have hd : (cs.drop i).take 1 = [cs[i]'hil] := by rw [List.drop_eq_getElem_cons hil]; rfl
  rw [hd, List.getElem?_eq_getElem (by omega)] at h1
  exact ⟨_, n, _, List.getElem?_eq_getElem hil, h1⟩
theorem list1 {cs : List Value} {a : Value} (hl : cs.length = 1) (h0 : cs[0]? = some a) : cs = [a] := by
  match cs, hl with
  | [x], _ => simp at h0; rw [h0]
theorem list3 {cs : List Value} {a b c : Value} (hl : cs.length = 3) (h0 : cs[0]? = some a) (h1 : cs[1]? = some b) (h2 : cs[2]? = some c) : cs = [a, b, c] := by
  match cs, hl with
  | [x, y, z], _ => simp at h0 h1 h2; rw [h0, h1, h2]
end
end Go.Proofs.Ytehhhlhedmfdiaa.Open
