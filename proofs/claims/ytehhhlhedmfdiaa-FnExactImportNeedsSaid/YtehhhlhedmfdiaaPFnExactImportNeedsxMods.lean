/- Modules: the reference's test and the program's tell the same of every list of modules; and the modules that each refers to. -/
import Derived.Test.YtehhhlhedmfdiaaPFnExactImportNeedsxNames
import Derived.Lib.Strings
import Derived.Test.YtehhhlhedmfdiaaPFnExactImportNeedsx2
import Derived.Test.YtehhhlhedmfdiaaPFnExactImportNeedsx6
namespace Go.Proofs.Ytehhhlhedmfdiaa.PFnExactImportNeeds
open Go.RowKit Go.Proofs.YtehhhlhedmfdiaaW.PrintWords Go.Proofs.YtehhhlhedmfdiaaW.PrintLast Go.Proofs.YtehhhlhedmfdiaaW.PrintMore
set_option linter.unusedVariables false

def Named (s : S74) : Prop := s.f0 = 3 ∨ s.f0 = 4
def top (n : Nat) (s : S74) : Int := if s.f0 = 3 ∨ s.f0 = 5 then 1000000 else (n : Int) - 1
def StepP (n : Nat) (s : S74) : Prop := (1 ≤ s.f0 ∧ s.f0 ≤ 5) ∧ (0 ≤ s.f1 ∧ s.f1 ≤ top n s) ∧ (Named s ↔ s.f2.toList ≠ []) ∧ (Named s → NameP s.f2)
def ModP (n : Nat) (x : S72) : Prop := (∀ s ∈ x.f0, StepP n s) ∧ x.f0.length ≤ 8
def ModsP (m : List S72) : Prop := (∀ x ∈ m, ModP m.length x) ∧ 1 ≤ m.length ∧ m.length ≤ 6
/-- No list and no name is too long to be counted. -/
def Small (m : List S72) : Prop := m.length ≤ 140737488355328 ∧ ∀ x ∈ m, x.f0.length ≤ 140737488355328 ∧ ∀ s ∈ x.f0, s.f2.size ≤ 140737488355328

theorem at_cons {α : Type} (z : α) {l : List α} {i : Int} (h0 : 0 ≤ i) (h : i < (l.length : Int)) : l.drop i.toNat = l.getD i.toNat z :: l.drop (i + 1).toNat := by
  have hl : i.toNat < l.length := by omega
  rw [List.getD_eq_getElem?_getD, List.getElem?_eq_getElem hl, List.drop_eq_getElem_cons hl, show (i + 1).toNat = i.toNat + 1 from by omega]
  rfl
theorem at_mem {α : Type} (z : α) {l : List α} {i : Int} (h0 : 0 ≤ i) (h : i < (l.length : Int)) : l.getD i.toNat z ∈ l := by
  have hl : i.toNat < l.length := by omega
  rw [List.getD_eq_getElem?_getD, List.getElem?_eq_getElem hl]
  exact List.getElem_mem hl
theorem all_cons {α : Type} {P : α → Prop} {a : α} {l : List α} : (∀ x ∈ a :: l, P x) ↔ P a ∧ ∀ x ∈ l, P x := by simp
theorem toList_nil {s : ByteArray} (h : NameP s) : s.toList ≠ [] := by
  intro e
  have h1 := h.2.1.1
  have : s.data.toList = [] := by rw [← Lib.toList_data]; exact e
  have h2 : s.size = s.data.toList.length := by rw [Array.length_toList]; rfl
  rw [h2, this] at h1
  simp at h1
theorem bne_iff (b : Bool) (l : List UInt8) : (b != (l != ([] : List UInt8))) = true ↔ ¬ (b = true ↔ l ≠ []) := by
  cases b <;> cases l <;> simp

theorem spec_j4 (m : List S72) (i j lo hi : Int) (nm : Bool) (s : S74) (hs : s.f2.size ≤ 140737488355328) {R : Prop} (hw : wrap64 (j + 1) = j + 1) (rest : Tells (fun k => spec_validMods.l1 k m i (j + 1)) R) :
    Tells (fun k => spec_validMods.j4 k m i j lo hi nm s.f0 s.f1 s.f2) (((1 ≤ s.f0 ∧ s.f0 ≤ 5) ∧ (lo ≤ s.f1 ∧ s.f1 ≤ hi) ∧ (nm = true ↔ s.f2.toList ≠ []) ∧ (nm = true → NameP s.f2)) ∧ R) := by
  have no : ∀ {Q : Prop}, ¬ Q → Tells (fun _ => some false) Q := fun h => Tells.now (by simp only [Bool.false_eq_true, false_iff]; exact h)
  refine Tells.step (fun k => by simp only [spec_validMods.j4]; rfl) ?_
  refine Tells.ask (f := fun k t126 => (if t126 = true then ((spec_inRange.f s.f1 lo hi).bind fun t127 => (if t127 = true then (if (nm != (s.f2.toList != ([] : List UInt8))) = true then (some false) else (if nm = true then ((spec_validName.f k s.f2).bind fun t128 => (if t128 = true then (spec_validMods.l1 k m i (wrap64 (j + 1))) else (some false))) else (spec_validMods.l1 k m i (wrap64 (j + 1))))) else (some false))) else (some false))) (inRange_tells _ _ _) (fun h1 => ?_) (fun h1 => ?_)
  rotate_left
  · exact Tells.congr (f := fun _ => some false) (fun k => by rw [if_neg (by decide)]) (no (fun h => h1 h.1.1)) Iff.rfl
  refine Tells.congr (fun k => by rw [if_pos rfl]) ?_ Iff.rfl
  refine Tells.ask (f := fun k t127 => (if t127 = true then (if (nm != (s.f2.toList != ([] : List UInt8))) = true then (some false) else (if nm = true then ((spec_validName.f k s.f2).bind fun t128 => (if t128 = true then (spec_validMods.l1 k m i (wrap64 (j + 1))) else (some false))) else (spec_validMods.l1 k m i (wrap64 (j + 1))))) else (some false))) (inRange_tells _ _ _) (fun h2 => ?_) (fun h2 => ?_)
  rotate_left
  · exact Tells.congr (f := fun _ => some false) (fun k => by rw [if_neg (by decide)]) (no (fun h => h2 h.1.2.1)) Iff.rfl
  by_cases h3 : (nm != (s.f2.toList != ([] : List UInt8))) = true
  · exact Tells.congr (f := fun _ => some false) (fun k => by rw [if_pos rfl, if_pos h3]) (no (fun h => (bne_iff _ _).1 h3 h.1.2.2.1)) Iff.rfl
  have h3' : nm = true ↔ s.f2.toList ≠ [] := Classical.not_not.1 (fun h => h3 ((bne_iff _ _).2 h))
  by_cases h4 : nm = true
  · refine Tells.congr (fun k => by rw [if_pos rfl, if_neg h3, if_pos h4, hw]) ?_ Iff.rfl
    refine Tells.ask (f := fun k t128 => (if t128 = true then (spec_validMods.l1 k m i (j + 1)) else (some false))) (validName_tells s.f2 hs) (fun h5 => ?_) (fun h5 => ?_)
    · exact Tells.congr (fun k => by rw [if_pos rfl]) rest ⟨fun h => ⟨⟨h1, h2, h3', fun _ => h5⟩, h⟩, fun h => h.2⟩
    · exact Tells.congr (f := fun _ => some false) (fun k => by rw [if_neg (by decide)]) (no (fun h => h5 (h.1.2.2.2 h4))) Iff.rfl
  · exact Tells.congr (fun k => by rw [if_pos rfl, if_neg h3, if_neg h4, hw]) rest ⟨fun h => ⟨⟨h1, h2, h3', fun h => absurd h h4⟩, h⟩, fun h => h.2⟩

theorem spec_step (m : List S72) (i j : Int) (s : S74) (hs : s.f2.size ≤ 140737488355328) (hm : m.length ≤ 140737488355328) {R : Prop} (hw : wrap64 (j + 1) = j + 1) (rest : Tells (fun k => spec_validMods.l1 k m i (j + 1)) R) :
    Tells (fun k => if s.f0 = 3 then (spec_validMods.j2 k m i j 0 (wrap64 ((m.length : Int) - 1)) true s.f0 s.f1 s.f2) else (spec_validMods.j2 k m i j 0 (wrap64 ((m.length : Int) - 1)) (s.f0 == 5) s.f0 s.f1 s.f2)) (StepP m.length s ∧ R) := by
  have hl : wrap64 ((m.length : Int) - 1) = (m.length : Int) - 1 := by unfold wrap64; omega
  have key : ∀ hi : Int, hi = top m.length s → Tells (fun k => spec_validMods.j3 k m i j 0 hi s.f0 s.f1 s.f2) (StepP m.length s ∧ R) := by
    intro hi e
    subst e
    unfold StepP Named
    by_cases h3 : s.f0 = 3
    · refine Tells.step (fun k => by simp only [spec_validMods.j3]; rw [if_pos h3]) ((spec_j4 m i j 0 _ true s hs hw rest).iff ?_)
      simp [h3]
    · refine Tells.step (fun k => by simp only [spec_validMods.j3]; rw [if_neg h3]) ((spec_j4 m i j 0 _ (s.f0 == 4) s hs hw rest).iff ?_)
      simp [h3]
  by_cases h3 : s.f0 = 3
  · refine Tells.congr (fun k => by rw [if_pos h3]) (Tells.step (f := fun k => spec_validMods.j3 k m i j 0 1000000 s.f0 s.f1 s.f2) (fun k => by simp only [spec_validMods.j2]; exact if_pos trivial) (key _ (by unfold top; rw [if_pos (.inl h3)]))) Iff.rfl
  · by_cases h5 : s.f0 = 5
    · refine Tells.congr (fun k => by rw [if_neg h3]) (Tells.step (f := fun k => spec_validMods.j3 k m i j 0 1000000 s.f0 s.f1 s.f2) (fun k => by simp only [spec_validMods.j2]; rw [if_pos (by rw [h5]; rfl)]) (key _ (by unfold top; rw [if_pos (.inr h5)]))) Iff.rfl
    · refine Tells.congr (fun k => by rw [if_neg h3]) (Tells.step (f := fun k => spec_validMods.j3 k m i j 0 ((m.length : Int) - 1) s.f0 s.f1 s.f2) (fun k => by simp only [spec_validMods.j2]; rw [if_neg (by simpa using h5), hl]) (key _ (by unfold top; rw [if_neg (fun h => h.elim h3 h5)]))) Iff.rfl

theorem spec_inner (m : List S72) (hm : Small m) (i : Int) (h0 : 0 ≤ i) (hi : i < (m.length : Int)) {R : Prop} (rest : Tells (fun k => spec_validMods.l0 k m (i + 1)) R) (d : Nat) :
    ∀ j : Int, 0 ≤ j → j ≤ ((rd_T72 m i).f0.length : Int) → ((rd_T72 m i).f0.length : Int) - j = d →
      Tells (fun k => spec_validMods.l1 k m i j) ((∀ s ∈ (rd_T72 m i).f0.drop j.toNat, StepP m.length s) ∧ (rd_T72 m i).f0.length ≤ 8 ∧ R) := by
  have hx := hm.2 _ (at_mem z72 h0 hi)
  have hlen : ((rd_T72 m i).f0.length : Int) ≤ 140737488355328 := by have := hx.1; unfold rd_T72; omega
  induction d with
  | zero =>
    intro j j0 j1 hd
    by_cases h8 : ((rd_T72 m i).f0.length : Int) > 8
    · refine Tells.step (f := fun _ => some false) (fun k => by simp only [spec_validMods.l1]; rw [if_pos h0, if_pos hi, if_neg (by omega), if_pos h8]) (Tells.now ?_)
      simp only [Bool.false_eq_true, false_iff]; exact fun h => by have := h.2.1; omega
    · refine Tells.step (fun k => by simp only [spec_validMods.l1]; rw [if_pos h0, if_pos hi, if_neg (by omega), if_neg h8, up1 h0 (by have := hm.1; omega)]) (rest.iff ?_)
      rw [List.drop_eq_nil_of_le (by omega)]
      simp only [List.not_mem_nil, false_implies, implies_true, true_and]
      exact ⟨fun h => ⟨by omega, h⟩, fun h => h.2⟩
  | succ d ih =>
    intro j j0 j1 hd
    have hj : j < ((rd_T72 m i).f0.length : Int) := by omega
    have hs := hx.2 _ (show rd_T74 (rd_T72 m i).f0 j ∈ (m.getD i.toNat z72).f0 from at_mem z74 j0 hj)
    have hw : wrap64 (j + 1) = j + 1 := up1 j0 (by omega)
    refine Tells.step (fun k => by simp only [spec_validMods.l1]; rw [if_pos h0, if_pos hi, if_pos hj, if_pos j0]) ((spec_step m i j (rd_T74 (rd_T72 m i).f0 j) hs hm.1 hw (ih (j + 1) (by omega) (by omega) (by omega))).iff ?_)
    rw [at_cons z74 j0 hj, all_cons]
    exact and_assoc.symm
theorem spec_outer (m : List S72) (hm : Small m) (d : Nat) : ∀ i : Int, 0 ≤ i → i ≤ (m.length : Int) → (m.length : Int) - i = d →
    Tells (fun k => spec_validMods.l0 k m i) ((∀ x ∈ m.drop i.toNat, ModP m.length x) ∧ 1 ≤ m.length ∧ m.length ≤ 6) := by
  induction d with
  | zero =>
    intro i h0 h1 hd
    refine Tells.step (fun k => by simp only [spec_validMods.l0]; rw [if_neg (by omega), bindSome]) ((inRange_tells _ _ _).iff ?_)
    rw [List.drop_eq_nil_of_le (by omega)]
    simp only [List.not_mem_nil, false_implies, implies_true, true_and]
    omega
  | succ d ih =>
    intro i h0 h1 hd
    have hi : i < (m.length : Int) := by omega
    refine Tells.step (fun k => by simp only [spec_validMods.l0]; rw [if_pos hi]) ((spec_inner m hm i h0 hi (ih (i + 1) (by omega) (by omega) (by omega)) _ 0 (by omega) (by omega) (by omega : ((rd_T72 m i).f0.length : Int) - 0 = (((rd_T72 m i).f0.length : Nat) : Int))).iff ?_)
    rw [at_cons z72 h0 hi, all_cons, show (0 : Int).toNat = 0 from rfl, List.drop_zero]
    unfold ModP
    exact ⟨fun h => ⟨⟨⟨h.1, h.2.1⟩, h.2.2.1⟩, h.2.2.2⟩, fun h => ⟨h.1.1.1, h.1.1.2, h.1.2, h.2⟩⟩
theorem validMods_tells (m : List S72) (hm : Small m) : Tells (fun k => spec_validMods.f k m) (ModsP m) := by
  have h := spec_outer m hm m.length 0 (by omega) (by omega) (by omega)
  rw [show (0 : Int).toNat = 0 from rfl, List.drop_zero] at h
  exact h

/-- The program's test of one step. -/
def StepQ (n : Nat) (s : S74) : Prop := (Named s → NameP s.f2) ∧ (¬ Named s → s.f2.toList = []) ∧ (0 ≤ s.f1 ∧ s.f1 ≤ (if s.f0 = 1 ∨ s.f0 = 2 ∨ s.f0 = 4 then (n : Int) - 1 else if s.f0 = 3 ∨ s.f0 = 5 then 1000000 else -1))
theorem step_same (n : Nat) (s : S74) : StepQ n s ↔ StepP n s := by
  unfold StepQ StepP top
  constructor
  · rintro ⟨h1, h2, h3⟩
    refine ⟨?_, ?_, ⟨fun h => toList_nil (h1 h), fun h => Classical.not_not.1 (fun hn => h (h2 hn))⟩, h1⟩
    · split at h3
      · omega
      · split at h3 <;> omega
    · split at h3
      · rw [if_neg (by omega)]; exact h3
      · split at h3
        · rw [if_pos (by omega)]; exact h3
        · omega
  · rintro ⟨h1, h2, h3, h4⟩
    refine ⟨h4, fun hn => Classical.not_not.1 (fun h => hn (h3.2 h)), ?_⟩
    split at h2
    · rw [if_neg (by omega), if_pos (by omega)]; exact h2
    · rw [if_pos (by omega)]; exact h2

theorem impl_j5 (m x9 : List S72) (x10 i : Int) (x20 : List S74) (x21 j : Int) (b : Bool) (s : S74) {R : Prop} (hw : wrap64 (j + 1) = j + 1) (rest : Tells (fun k => impl_ModsOk.l1 k m x9 x10 i x20 x21 (j + 1)) R) :
    Tells (fun k => impl_ModsOk.j5 k m (-1) x9 x10 i x20 x21 j b s.f0 s.f1 s.f2) ((0 ≤ s.f1 ∧ s.f1 ≤ (if b = true then 1000000 else -1)) ∧ R) := by
  cases b with
  | true =>
    refine Tells.step (f := fun k => (impl_within.f s.f1 0 1000000).bind fun t232 => (if t232 = true then (impl_ModsOk.l1 k m x9 x10 i x20 x21 (j + 1)) else (some false))) (fun k => by simp only [impl_ModsOk.j5, hw]; exact if_pos trivial) (Tells.ask (f := fun k t232 => (if t232 = true then (impl_ModsOk.l1 k m x9 x10 i x20 x21 (j + 1)) else (some false))) (within_tells _ _ _) (fun h => ?_) (fun h => ?_))
    · exact Tells.congr (fun k => by rw [if_pos rfl]) rest ⟨fun r => ⟨by rw [if_pos rfl]; exact h, r⟩, fun r => r.2⟩
    · exact Tells.congr (f := fun _ => some false) (fun k => by rw [if_neg (by decide)]) (Tells.now (by simp only [Bool.false_eq_true, false_iff]; exact fun r => h (by have := r.1; rw [if_pos trivial] at this; exact this))) Iff.rfl
  | false =>
    refine Tells.step (f := fun k => (impl_within.f s.f1 0 (-1)).bind fun t232 => (if t232 = true then (impl_ModsOk.l1 k m x9 x10 i x20 x21 (j + 1)) else (some false))) (fun k => by simp only [impl_ModsOk.j5, hw]; exact if_neg (by decide)) (Tells.ask (f := fun k t232 => (if t232 = true then (impl_ModsOk.l1 k m x9 x10 i x20 x21 (j + 1)) else (some false))) (within_tells _ _ _) (fun h => ?_) (fun h => ?_))
    · exact Tells.congr (fun k => by rw [if_pos rfl]) rest ⟨fun r => ⟨by rw [if_neg (by decide)]; exact h, r⟩, fun r => r.2⟩
    · exact Tells.congr (f := fun _ => some false) (fun k => by rw [if_neg (by decide)]) (Tells.now (by simp only [Bool.false_eq_true, false_iff]; exact fun r => h (by have := r.1; rw [if_neg (by decide)] at this; exact this))) Iff.rfl
theorem impl_j4 (m x9 : List S72) (x10 i : Int) (x20 : List S74) (x21 j : Int) (b : Bool) (s : S74) (hm : m.length ≤ 140737488355328) {R : Prop} (hw : wrap64 (j + 1) = j + 1) (rest : Tells (fun k => impl_ModsOk.l1 k m x9 x10 i x20 x21 (j + 1)) R) :
    Tells (fun k => impl_ModsOk.j4 k m (-1) x9 x10 i x20 x21 j s.f0 b s.f0 s.f1 s.f2) ((0 ≤ s.f1 ∧ s.f1 ≤ (if b = true then (m.length : Int) - 1 else if s.f0 = 3 ∨ s.f0 = 5 then 1000000 else -1)) ∧ R) := by
  have hl : wrap64 ((m.length : Int) - 1) = (m.length : Int) - 1 := by unfold wrap64; omega
  cases b with
  | true =>
    refine Tells.step (f := fun k => (impl_within.f s.f1 0 ((m.length : Int) - 1)).bind fun t232 => (if t232 = true then (impl_ModsOk.l1 k m x9 x10 i x20 x21 (j + 1)) else (some false))) (fun k => by simp only [impl_ModsOk.j4, hw, hl]; exact if_pos trivial) (Tells.ask (f := fun k t232 => (if t232 = true then (impl_ModsOk.l1 k m x9 x10 i x20 x21 (j + 1)) else (some false))) (within_tells _ _ _) (fun h => ?_) (fun h => ?_))
    · exact Tells.congr (fun k => by rw [if_pos rfl]) rest ⟨fun r => ⟨by rw [if_pos rfl]; exact h, r⟩, fun r => r.2⟩
    · exact Tells.congr (f := fun _ => some false) (fun k => by rw [if_neg (by decide)]) (Tells.now (by simp only [Bool.false_eq_true, false_iff]; exact fun r => h (by have := r.1; rw [if_pos trivial] at this; exact this))) Iff.rfl
  | false =>
    by_cases h3 : s.f0 = 3
    · refine Tells.step (f := fun k => impl_ModsOk.j5 k m (-1) x9 x10 i x20 x21 j (s.f0 == 3) s.f0 s.f1 s.f2) (fun k => by simp only [impl_ModsOk.j4]; rw [if_neg (by decide), if_pos h3]) ((impl_j5 m x9 x10 i x20 x21 j _ s hw rest).iff ?_)
      rw [if_pos (by rw [h3]; rfl), if_neg (by decide), if_pos (.inl h3)]
    · refine Tells.step (f := fun k => impl_ModsOk.j5 k m (-1) x9 x10 i x20 x21 j (s.f0 == 5) s.f0 s.f1 s.f2) (fun k => by simp only [impl_ModsOk.j4]; rw [if_neg (by decide), if_neg h3]) ((impl_j5 m x9 x10 i x20 x21 j _ s hw rest).iff ?_)
      by_cases h5 : s.f0 = 5
      · rw [if_pos (by rw [h5]; rfl), if_neg (by decide), if_pos (.inr h5)]
      · rw [if_neg (by simpa using h5), if_neg (by decide), if_neg (fun h => h.elim h3 h5)]
theorem impl_j3 (m x9 : List S72) (x10 i : Int) (x20 : List S74) (x21 j : Int) (b : Bool) (s : S74) (hm : m.length ≤ 140737488355328) {R : Prop} (hw : wrap64 (j + 1) = j + 1) (rest : Tells (fun k => impl_ModsOk.l1 k m x9 x10 i x20 x21 (j + 1)) R) :
    Tells (fun k => impl_ModsOk.j3 k m x9 x10 i x20 x21 j b s.f0 s.f1 s.f2) ((b = false ∧ (0 ≤ s.f1 ∧ s.f1 ≤ (if s.f0 = 1 ∨ s.f0 = 2 ∨ s.f0 = 4 then (m.length : Int) - 1 else if s.f0 = 3 ∨ s.f0 = 5 then 1000000 else -1))) ∧ R) := by
  cases b with
  | true =>
    refine Tells.step (f := fun _ => some false) (fun k => by simp only [impl_ModsOk.j3]; exact if_pos trivial) (Tells.now ?_)
    simp
  | false =>
    have go : ∀ c : Bool, (c = true ↔ s.f0 = 1 ∨ s.f0 = 2 ∨ s.f0 = 4) → Tells (fun k => impl_ModsOk.j4 k m (-1) x9 x10 i x20 x21 j s.f0 c s.f0 s.f1 s.f2) ((false = false ∧ (0 ≤ s.f1 ∧ s.f1 ≤ (if s.f0 = 1 ∨ s.f0 = 2 ∨ s.f0 = 4 then (m.length : Int) - 1 else if s.f0 = 3 ∨ s.f0 = 5 then 1000000 else -1))) ∧ R) := by
      intro c hc
      refine (impl_j4 m x9 x10 i x20 x21 j c s hm hw rest).iff ?_
      by_cases h : c = true
      · rw [if_pos h, if_pos (hc.1 h)]; simp
      · rw [if_neg h, if_neg (fun h2 => h (hc.2 h2))]; simp
    by_cases h1 : s.f0 = 1
    · exact Tells.step (fun k => by simp only [impl_ModsOk.j3]; rw [if_neg (by decide), if_pos h1]) (go (s.f0 == 1) (by rw [beq_iff_eq]; omega))
    · by_cases h2 : s.f0 = 2
      · exact Tells.step (fun k => by simp only [impl_ModsOk.j3]; rw [if_neg (by decide), if_neg h1, if_pos h2]) (go (s.f0 == 2) (by rw [beq_iff_eq]; omega))
      · exact Tells.step (fun k => by simp only [impl_ModsOk.j3]; rw [if_neg (by decide), if_neg h1, if_neg h2]) (go (s.f0 == 4) (by rw [beq_iff_eq]; omega))
theorem impl_step (m x9 : List S72) (x10 i : Int) (x20 : List S74) (x21 j : Int) (s : S74) (hs : s.f2.size ≤ 140737488355328) (hm : m.length ≤ 140737488355328) {R : Prop} (hw : wrap64 (j + 1) = j + 1) (rest : Tells (fun k => impl_ModsOk.l1 k m x9 x10 i x20 x21 (j + 1)) R) :
    Tells (fun k => if s.f0 = 3 then (impl_ModsOk.j2 k m true x9 x10 i x20 x21 j s.f0 s.f1 s.f2) else (impl_ModsOk.j2 k m (s.f0 == 4) x9 x10 i x20 x21 j s.f0 s.f1 s.f2)) (StepP m.length s ∧ R) := by
  have key : ∀ c : Bool, (c = true ↔ Named s) → Tells (fun k => impl_ModsOk.j2 k m c x9 x10 i x20 x21 j s.f0 s.f1 s.f2) (StepP m.length s ∧ R) := by
    intro c hc
    cases c with
    | true =>
      have hn : Named s := hc.1 rfl
      refine Tells.step (f := fun k => ((impl_NameOk.f k s.f2).bind fun t230 => (if t230 = true then (impl_ModsOk.j3 k m x9 x10 i x20 x21 j false s.f0 s.f1 s.f2) else (impl_ModsOk.j3 k m x9 x10 i x20 x21 j true s.f0 s.f1 s.f2)))) (fun k => by simp only [impl_ModsOk.j2]; exact if_pos trivial) (Tells.ask (f := fun k t230 => (if t230 = true then (impl_ModsOk.j3 k m x9 x10 i x20 x21 j false s.f0 s.f1 s.f2) else (impl_ModsOk.j3 k m x9 x10 i x20 x21 j true s.f0 s.f1 s.f2))) (nameOk_tells s.f2 hs) (fun h => ?_) (fun h => ?_))
      · refine Tells.congr (fun k => by rw [if_pos rfl]) (impl_j3 m x9 x10 i x20 x21 j false s hm hw rest) ?_
        rw [← step_same]; unfold StepQ
        exact ⟨fun r => ⟨⟨fun _ => h, fun h2 => absurd hn h2, r.1.2⟩, r.2⟩, fun r => ⟨⟨rfl, r.1.2.2⟩, r.2⟩⟩
      · refine Tells.congr (fun k => by rw [if_neg (by decide)]) (impl_j3 m x9 x10 i x20 x21 j true s hm hw rest) ?_
        rw [← step_same]; unfold StepQ
        exact ⟨(fun r => absurd r.1.1 (by decide)), fun r => absurd (r.1.1 hn) h⟩
    | false =>
      have hn : ¬ Named s := fun h => by have := hc.2 h; cases this
      refine Tells.step (f := fun k => impl_ModsOk.j3 k m x9 x10 i x20 x21 j (s.f2.toList != ([] : List UInt8)) s.f0 s.f1 s.f2) (fun k => by simp only [impl_ModsOk.j2]; exact if_neg (by decide)) ((impl_j3 m x9 x10 i x20 x21 j _ s hm hw rest).iff ?_)
      rw [← step_same]; unfold StepQ
      have hb : (s.f2.toList != ([] : List UInt8)) = false ↔ s.f2.toList = [] := by simp
      rw [hb]
      exact ⟨fun r => ⟨⟨fun h2 => absurd h2 hn, fun _ => r.1.1, r.1.2⟩, r.2⟩, fun r => ⟨⟨r.1.2.1 hn, r.1.2.2⟩, r.2⟩⟩
  by_cases h3 : s.f0 = 3
  · exact Tells.congr (fun k => by rw [if_pos h3]) (key true (by simp [Named, h3])) Iff.rfl
  · exact Tells.congr (fun k => by rw [if_neg h3]) (key (s.f0 == 4) (by simp [Named, h3])) Iff.rfl
theorem impl_inner (m : List S72) (hm : Small m) (i : Int) (h0 : 0 ≤ i) (hi : i < (m.length : Int)) {R : Prop} (rest : Tells (fun k => impl_ModsOk.l0 k m m (m.length : Int) (i + 1)) R) (d : Nat) :
    ∀ j : Int, 0 ≤ j → j ≤ ((rd_T72 m i).f0.length : Int) → ((rd_T72 m i).f0.length : Int) - j = d →
      Tells (fun k => impl_ModsOk.l1 k m m (m.length : Int) i (rd_T72 m i).f0 ((rd_T72 m i).f0.length : Int) j) ((∀ s ∈ (rd_T72 m i).f0.drop j.toNat, StepP m.length s) ∧ R) := by
  have hx := hm.2 _ (at_mem z72 h0 hi)
  have hlen : ((rd_T72 m i).f0.length : Int) ≤ 140737488355328 := by have := hx.1; unfold rd_T72; omega
  induction d with
  | zero =>
    intro j j0 j1 hd
    refine Tells.step (fun k => by simp only [impl_ModsOk.l1]; rw [if_neg (by omega), up1 h0 (by have := hm.1; omega)]) (rest.iff ?_)
    rw [List.drop_eq_nil_of_le (by omega)]
    simp
  | succ d ih =>
    intro j j0 j1 hd
    have hj : j < ((rd_T72 m i).f0.length : Int) := by omega
    have hs := hx.2 _ (show rd_T74 (rd_T72 m i).f0 j ∈ (m.getD i.toNat z72).f0 from at_mem z74 j0 hj)
    have hw : wrap64 (j + 1) = j + 1 := up1 j0 (by omega)
    refine Tells.step (fun k => by simp only [impl_ModsOk.l1]; rw [if_pos hj, if_pos j0, if_pos hj]) ((impl_step m m (m.length : Int) i (rd_T72 m i).f0 ((rd_T72 m i).f0.length : Int) j (rd_T74 (rd_T72 m i).f0 j) hs hm.1 hw (ih (j + 1) (by omega) (by omega) (by omega))).iff ?_)
    rw [at_cons z74 j0 hj, all_cons]
    exact and_assoc.symm
theorem impl_outer (m : List S72) (hm : Small m) (d : Nat) : ∀ i : Int, 0 ≤ i → i ≤ (m.length : Int) → (m.length : Int) - i = d →
    Tells (fun k => impl_ModsOk.l0 k m m (m.length : Int) i) ((∀ x ∈ m.drop i.toNat, ModP m.length x) ∧ 1 ≤ m.length ∧ m.length ≤ 6) := by
  induction d with
  | zero =>
    intro i h0 h1 hd
    refine Tells.step (fun k => by simp only [impl_ModsOk.l0]; rw [if_neg (by omega), bindSome]) ((within_tells _ _ _).iff ?_)
    rw [List.drop_eq_nil_of_le (by omega)]
    simp only [List.not_mem_nil, false_implies, implies_true, true_and]
    omega
  | succ d ih =>
    intro i h0 h1 hd
    have hi : i < (m.length : Int) := by omega
    by_cases h8 : ((rd_T72 m i).f0.length : Int) > 8
    · refine Tells.step (f := fun _ => some false) (fun k => by simp only [impl_ModsOk.l0]; rw [if_pos hi, if_pos h0, if_pos hi, if_pos h8]) (Tells.now ?_)
      simp only [Bool.false_eq_true, false_iff]
      rw [at_cons z72 h0 hi, all_cons]
      exact fun h => by have := h.1.1.2; unfold rd_T72 at h8; omega
    · refine Tells.step (fun k => by simp only [impl_ModsOk.l0]; rw [if_pos hi, if_pos h0, if_pos hi, if_neg h8]) ((impl_inner m hm i h0 hi (ih (i + 1) (by omega) (by omega) (by omega)) _ 0 (by omega) (by omega) (by omega : ((rd_T72 m i).f0.length : Int) - 0 = (((rd_T72 m i).f0.length : Nat) : Int))).iff ?_)
      rw [at_cons z72 h0 hi, all_cons, show (0 : Int).toNat = 0 from rfl, List.drop_zero]
      unfold ModP
      exact ⟨fun h => ⟨⟨⟨h.1, by unfold rd_T72 at h8; omega⟩, h.2.1⟩, h.2.2⟩, fun h => ⟨h.1.1.1, h.1.2, h.2⟩⟩
theorem modsOk_tells (m : List S72) (hm : Small m) : Tells (fun k => impl_ModsOk.f k m) (ModsP m) := by
  have h := impl_outer m hm m.length 0 (by omega) (by omega) (by omega)
  rw [show (0 : Int).toNat = 0 from rfl, List.drop_zero] at h
  exact h
end Go.Proofs.Ytehhhlhedmfdiaa.PFnExactImportNeeds
