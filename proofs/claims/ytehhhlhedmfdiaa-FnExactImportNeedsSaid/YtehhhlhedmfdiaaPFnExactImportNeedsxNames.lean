/- Names: the reference's test and the program's tell the same of every text. -/
import Derived.Test.YtehhhlhedmfdiaaPFnExactImportNeedsx1
import Derived.Test.YtehhhlhedmfdiaaPFnExactImportNeedsx5
namespace Go.Proofs.Ytehhhlhedmfdiaa.PFnExactImportNeeds
open Go.RowKit Go.Proofs.YtehhhlhedmfdiaaW.PrintWords Go.Proofs.YtehhhlhedmfdiaaW.PrintLast Go.Proofs.YtehhhlhedmfdiaaW.PrintMore
set_option linter.unusedVariables false

/-- g comes, with enough rounds, to a Bool that tells whether P holds. -/
def Tells (g : Nat → Option Bool) (P : Prop) : Prop := ∃ b, Ev g b ∧ (b = true ↔ P)
theorem Tells.step {g f : Nat → Option Bool} {P : Prop} (h : ∀ k, g (k + 1) = f k) (t : Tells f P) : Tells g P := by
  obtain ⟨b, e, hb⟩ := t; exact ⟨b, Ev.step h e, hb⟩
theorem Tells.congr {g f : Nat → Option Bool} {P Q : Prop} (h : ∀ k, g k = f k) (t : Tells f P) (hPQ : P ↔ Q) : Tells g Q := by
  obtain ⟨b, e, hb⟩ := t; exact ⟨b, Ev.congr h e, hb.trans hPQ⟩
theorem Tells.now {b : Bool} {P : Prop} (h : b = true ↔ P) : Tells (fun _ => some b) P := ⟨b, Ev.now b, h⟩
theorem Tells.iff {g : Nat → Option Bool} {P Q : Prop} (t : Tells g P) (h : P ↔ Q) : Tells g Q := by
  obtain ⟨b, e, hb⟩ := t; exact ⟨b, e, hb.trans h⟩
theorem Tells.same {g f : Nat → Option Bool} {P : Prop} (t : Tells g P) (u : Tells f P) : ∃ b, Ev g b ∧ Ev f b ∧ (b = true ↔ P) := by
  obtain ⟨b, e, hb⟩ := t
  obtain ⟨c, e2, hc⟩ := u
  have : b = c := Bool.eq_iff_iff.2 (hb.trans hc.symm)
  subst this
  exact ⟨b, e, e2, hb⟩
/-- A call whose Bool is asked. -/
theorem Tells.ask {g : Nat → Option Bool} {f : Nat → Bool → Option Bool} {P Q : Prop} (t : Tells g P) (h1 : P → Tells (fun k => f k true) Q) (h2 : ¬ P → Tells (fun k => f k false) Q) : Tells (fun k => (g k).bind (f k)) Q := by
  obtain ⟨b, e, hb⟩ := t
  cases b with
  | true => obtain ⟨c, e2, hc⟩ := h1 (hb.1 rfl); exact ⟨c, Ev.bind e e2, hc⟩
  | false => obtain ⟨c, e2, hc⟩ := h2 (fun p => by have := hb.2 p; cases this); exact ⟨c, Ev.bind e e2, hc⟩
theorem bindSome {α : Type} (o : Option α) : (o.bind fun t => some t) = o := by cases o <;> rfl
theorem up1 {i : Int} (h0 : 0 ≤ i) (h : i < 4611686018427387904) : wrap64 (i + 1) = i + 1 := by unfold wrap64; omega

def IsW (c : Int) : Prop := 97 ≤ c ∧ c ≤ 122 ∨ 65 ≤ c ∧ c ≤ 90 ∨ c = 95
def IsD (c : Int) : Prop := 48 ≤ c ∧ c ≤ 57
theorem letter_tells (c : Int) : Tells (fun _ => spec_letter.f c) (IsW c) := by
  unfold spec_letter.f IsW
  repeat' first
    | (refine Tells.now ?_; simp; omega)
    | split
theorem isLetter_tells (c : Int) : Tells (fun _ => impl_isLetter.f c) (IsW c) := by
  unfold impl_isLetter.f IsW
  repeat' first
    | (refine Tells.now ?_; simp; omega)
    | split
theorem digit_tells (c : Int) : Tells (fun _ => spec_digit.f c) (IsD c) := by
  unfold spec_digit.f IsD
  repeat' first
    | (refine Tells.now ?_; simp; omega)
    | split
theorem isDigit_tells (c : Int) : Tells (fun _ => impl_isDigit.f c) (IsD c) := by
  unfold impl_isDigit.f IsD
  repeat' first
    | (refine Tells.now ?_; simp; omega)
    | split
theorem inRange_tells (a b c : Int) : Tells (fun _ => spec_inRange.f a b c) (b ≤ a ∧ a ≤ c) := by
  unfold spec_inRange.f
  repeat' first
    | (refine Tells.now ?_; simp; omega)
    | split
theorem within_tells (a b c : Int) : Tells (fun _ => impl_within.f a b c) (b ≤ a ∧ a ≤ c) := by
  unfold impl_within.f
  repeat' first
    | (refine Tells.now ?_; simp; omega)
    | split

theorem rdOf_at {l : List ByteArray} {i : Int} (h0 : 0 ≤ i) (h : i < (l.length : Int)) : l.drop i.toNat = rdOf ByteArray.empty l i :: l.drop (i + 1).toNat := by
  have hl : i.toNat < l.length := by omega
  unfold rdOf
  rw [List.getD_eq_getElem?_getD, List.getElem?_eq_getElem hl, List.drop_eq_getElem_cons hl, show (i + 1).toNat = i.toNat + 1 from by omega]
  rfl
def Has (l : List ByteArray) (s : ByteArray) : Prop := ∃ x ∈ l, x.toList = s.toList
theorem isOne_tells (l : List ByteArray) (s : ByteArray) (hl : l.length < 1000) (d : Nat) : ∀ i : Int, 0 ≤ i → i ≤ l.length → (l.length : Int) - i = d → Tells (fun k => spec_isOne.l0 k l s i) (Has (l.drop i.toNat) s) := by
  induction d with
  | zero =>
    intro i h0 h1 hd
    refine Tells.step (f := fun _ => some false) (fun k => by simp only [spec_isOne.l0]; rw [if_neg (by omega)]) (Tells.now ?_)
    rw [List.drop_eq_nil_of_le (by omega)]
    simp [Has]
  | succ d ih =>
    intro i h0 h1 hd
    have hlt : i < (l.length : Int) := by omega
    have hp := rdOf_at h0 hlt
    by_cases he : (rdOf ByteArray.empty l i).toList = s.toList
    · refine Tells.step (f := fun _ => some true) (fun k => by simp only [spec_isOne.l0]; rw [if_pos hlt, if_pos h0, if_pos he]) (Tells.now ?_)
      rw [hp]
      simp only [true_iff]
      exact ⟨_, List.mem_cons_self, he⟩
    · refine Tells.step (fun k => by simp only [spec_isOne.l0]; rw [if_pos hlt, if_pos h0, if_neg he, up1 h0 (by omega)]) ((ih (i + 1) (by omega) (by omega) (by omega)).iff ?_)
      rw [hp]
      unfold Has
      constructor
      · rintro ⟨x, hx, e⟩; exact ⟨x, List.mem_cons_of_mem _ hx, e⟩
      · rintro ⟨x, hx, e⟩
        rcases List.mem_cons.1 hx with rfl | hx
        · exact absurd e he
        · exact ⟨x, hx, e⟩
theorem index_tells (l : List ByteArray) (s : ByteArray) (hl : l.length < 1000) (d : Nat) : ∀ i : Int, 0 ≤ i → i ≤ l.length → (l.length : Int) - i = d → ∃ r, Ev (fun k => slices_Index_string_string.l0 k l s (l.length : Int) i) r ∧ (r ≥ 0 ↔ Has (l.drop i.toNat) s) := by
  induction d with
  | zero =>
    intro i h0 h1 hd
    refine ⟨-1, Ev.step (f := fun _ => some (-1)) (fun k => by simp only [slices_Index_string_string.l0]; rw [if_neg (by omega)]) (Ev.now _), ?_⟩
    rw [List.drop_eq_nil_of_le (by omega)]
    simp [Has]
  | succ d ih =>
    intro i h0 h1 hd
    have hlt : i < (l.length : Int) := by omega
    have hp := rdOf_at h0 hlt
    by_cases he : s.toList = (rdOf ByteArray.empty l i).toList
    · refine ⟨i, Ev.step (f := fun _ => some i) (fun k => by simp only [slices_Index_string_string.l0]; rw [if_pos hlt, if_pos h0, if_pos hlt, if_pos he]) (Ev.now _), ?_⟩
      rw [hp]
      exact ⟨fun _ => ⟨_, List.mem_cons_self, he.symm⟩, fun _ => h0⟩
    · obtain ⟨r, e, hr⟩ := ih (i + 1) (by omega) (by omega) (by omega)
      refine ⟨r, Ev.step (fun k => by simp only [slices_Index_string_string.l0]; rw [if_pos hlt, if_pos h0, if_pos hlt, if_neg he, up1 h0 (by omega)]) e, hr.trans ?_⟩
      rw [hp]
      unfold Has
      constructor
      · rintro ⟨x, hx, e⟩; exact ⟨x, List.mem_cons_of_mem _ hx, e⟩
      · rintro ⟨x, hx, e⟩
        rcases List.mem_cons.1 hx with rfl | hx
        · exact absurd e.symm he
        · exact ⟨x, hx, e⟩
def kws : List ByteArray := spec_keywords.f.getD []
theorem kws_len : kws.length < 1000 := by decide
theorem spec_kw (s : ByteArray) : Tells (fun k => spec_isKeyword.f k s) (Has kws s) := by
  have h := isOne_tells kws s kws_len kws.length 0 (by omega) (by omega) (by omega)
  rw [show (0 : Int).toNat = 0 from rfl, List.drop_zero] at h
  refine Tells.congr (fun k => ?_) h Iff.rfl
  show (some kws).bind (fun t => (spec_isOne.f k t s).bind fun t => some t) = _
  simp only [Option.bind_some]
  show (spec_isOne.l0 k kws s 0).bind (fun t => some t) = _
  rw [bindSome]
theorem impl_kw (s : ByteArray) : Tells (fun k => impl_IsKeyword.f k s) (Has kws s) := by
  obtain ⟨r, e, hr⟩ := index_tells kws s kws_len kws.length 0 (by omega) (by omega) (by omega)
  rw [show (0 : Int).toNat = 0 from rfl, List.drop_zero] at hr
  refine ⟨decide (r ≥ 0), ?_, by rw [decide_eq_true_iff]; exact hr⟩
  refine Ev.congr (f := fun k => (slices_Index_string_string.l0 k kws s (kws.length : Int) 0).bind fun t => some (decide (t ≥ 0))) (fun k => ?_) (Ev.bind e (Ev.now _))
  show ((some kws).bind fun t => ((slices_Contains_string_string.f k t s).bind fun t => some t)) = _
  simp only [Option.bind_some]
  rw [bindSome]
  rfl

def NameP (s : ByteArray) : Prop := (∀ j : Int, 0 ≤ j → j < s.size → IsW (bt s j) ∨ j ≠ 0 ∧ IsD (bt s j)) ∧ (1 ≤ s.size ∧ s.size ≤ 12) ∧ ¬ Has kws s
theorem validName_from (s : ByteArray) (hs : s.size ≤ 140737488355328) (d : Nat) : ∀ i : Int, 0 ≤ i → i ≤ s.size → (s.size : Int) - i = d →
    Tells (fun k => spec_validName.l0 k s i) ((∀ j : Int, i ≤ j → j < s.size → IsW (bt s j) ∨ j ≠ 0 ∧ IsD (bt s j)) ∧ (1 ≤ s.size ∧ s.size ≤ 12) ∧ ¬ Has kws s) := by
  induction d with
  | zero =>
    intro i h0 h1 hd
    have hv : ∀ j : Int, i ≤ j → j < s.size → IsW (bt s j) ∨ j ≠ 0 ∧ IsD (bt s j) := fun j a b => by omega
    refine Tells.step (fun k => by simp only [spec_validName.l0]; rw [if_neg (by omega)]) ?_
    refine Tells.ask (f := fun k t => if t = true then ((spec_isKeyword.f k s).bind fun t => some (!t)) else some false) (inRange_tells _ _ _) (fun hp => ?_) (fun hp => ?_)
    · refine Tells.congr (f := fun k => (spec_isKeyword.f k s).bind fun t => some (!t)) (fun k => by rw [if_pos rfl]) (Tells.ask (f := fun _ t => some (!t)) (spec_kw s) (fun hk => Tells.now ?_) (fun hk => Tells.now ?_)) Iff.rfl
      · simp only [Bool.not_true, Bool.false_eq_true, false_iff]; exact fun h => h.2.2 hk
      · simp only [Bool.not_false, true_iff]; exact ⟨hv, by omega, hk⟩
    · refine Tells.congr (f := fun _ => some false) (fun k => by rw [if_neg (by decide)]) (Tells.now ?_) Iff.rfl
      simp only [Bool.false_eq_true, false_iff]; exact fun h => hp (by omega)
  | succ d ih =>
    intro i h0 h1 hd
    have hlt : i < (s.size : Int) := by omega
    have hw : wrap64 (i + 1) = i + 1 := up1 h0 (by omega)
    have next : (IsW (bt s i) ∨ i ≠ 0 ∧ IsD (bt s i)) → Tells (fun k => spec_validName.l0 k s (i + 1)) ((∀ j : Int, i ≤ j → j < s.size → IsW (bt s j) ∨ j ≠ 0 ∧ IsD (bt s j)) ∧ (1 ≤ s.size ∧ s.size ≤ 12) ∧ ¬ Has kws s) := fun hi =>
      (ih (i + 1) (by omega) (by omega) (by omega)).iff (and_congr ⟨fun h j a b => by
        by_cases e : j = i
        · rw [e]; exact hi
        · exact h j (by omega) b, fun h j a b => h j (by omega) b⟩ Iff.rfl)
    have fails : ¬ (IsW (bt s i) ∨ i ≠ 0 ∧ IsD (bt s i)) → Tells (fun _ => some false) ((∀ j : Int, i ≤ j → j < s.size → IsW (bt s j) ∨ j ≠ 0 ∧ IsD (bt s j)) ∧ (1 ≤ s.size ∧ s.size ≤ 12) ∧ ¬ Has kws s) := fun hi =>
      Tells.now (by simp only [Bool.false_eq_true, false_iff]; exact fun h => hi (h.1 i (by omega) hlt))
    refine Tells.step (fun k => by simp only [spec_validName.l0]; rw [if_pos hlt, if_pos h0, hw]) ?_
    refine Tells.ask (f := fun k t => if t = true then (spec_validName.l0 k s (i + 1)) else (if i = 0 then (some false) else ((spec_digit.f (bt s i)).bind fun t119 => (if t119 = true then (spec_validName.l0 k s (i + 1)) else (some false))))) (letter_tells _) (fun hp => ?_) (fun hp => ?_)
    · exact Tells.congr (fun k => by rw [if_pos rfl]) (next (.inl hp)) Iff.rfl
    · by_cases hz : i = 0
      · exact Tells.congr (f := fun _ => some false) (fun k => by rw [if_neg (by decide), if_pos hz]) (fails (fun h => h.elim hp (fun h => h.1 hz))) Iff.rfl
      · refine Tells.congr (f := fun k => (spec_digit.f (bt s i)).bind fun t119 => (if t119 = true then (spec_validName.l0 k s (i + 1)) else (some false))) (fun k => by rw [if_neg (by decide), if_neg hz]) (Tells.ask (f := fun k t119 => (if t119 = true then (spec_validName.l0 k s (i + 1)) else (some false))) (digit_tells _) (fun hq => ?_) (fun hq => ?_)) Iff.rfl
        · exact Tells.congr (fun k => by rw [if_pos rfl]) (next (.inr ⟨hz, hq⟩)) Iff.rfl
        · exact Tells.congr (f := fun _ => some false) (fun k => by rw [if_neg (by decide)]) (fails (fun h => h.elim hp (fun h => hq h.2))) Iff.rfl
theorem validName_tells (s : ByteArray) (hs : s.size ≤ 140737488355328) : Tells (fun k => spec_validName.f k s) (NameP s) :=
  validName_from s hs s.size 0 (by omega) (by omega) (by omega)

theorem nameOk_from (s : ByteArray) (hs : s.size ≤ 140737488355328) (d : Nat) : ∀ i : Int, 0 ≤ i → i ≤ s.size → (s.size : Int) - i = d →
    Tells (fun k => impl_NameOk.l0 k s (s.size : Int) i) (∀ j : Int, i ≤ j → j < s.size → IsW (bt s j) ∨ IsD (bt s j)) := by
  induction d with
  | zero =>
    intro i h0 h1 hd
    exact Tells.step (f := fun _ => some true) (fun k => by simp only [impl_NameOk.l0]; rw [if_neg (by omega)]) (Tells.now (by simp only [true_iff]; exact fun j a b => by omega))
  | succ d ih =>
    intro i h0 h1 hd
    have hlt : i < (s.size : Int) := by omega
    have hw : wrap64 (i + 1) = i + 1 := up1 h0 (by omega)
    have next : (IsW (bt s i) ∨ IsD (bt s i)) → Tells (fun k => impl_NameOk.l0 k s (s.size : Int) (i + 1)) (∀ j : Int, i ≤ j → j < s.size → IsW (bt s j) ∨ IsD (bt s j)) := fun hi =>
      (ih (i + 1) (by omega) (by omega) (by omega)).iff ⟨fun h j a b => by
        by_cases e : j = i
        · rw [e]; exact hi
        · exact h j (by omega) b, fun h j a b => h j (by omega) b⟩
    refine Tells.step (fun k => by simp only [impl_NameOk.l0]; rw [if_pos hlt, if_pos h0, if_pos hlt, hw]) ?_
    refine Tells.ask (f := fun k t => if t = true then (impl_NameOk.l0 k s (s.size : Int) (i + 1)) else ((impl_isDigit.f (bt s i)).bind fun t224 => (if t224 = true then (impl_NameOk.l0 k s (s.size : Int) (i + 1)) else (some false)))) (isLetter_tells _) (fun hp => ?_) (fun hp => ?_)
    · exact Tells.congr (fun k => by rw [if_pos rfl]) (next (.inl hp)) Iff.rfl
    · refine Tells.congr (f := fun k => (impl_isDigit.f (bt s i)).bind fun t224 => (if t224 = true then (impl_NameOk.l0 k s (s.size : Int) (i + 1)) else (some false))) (fun k => by rw [if_neg (by decide)]) (Tells.ask (f := fun k t224 => (if t224 = true then (impl_NameOk.l0 k s (s.size : Int) (i + 1)) else (some false))) (isDigit_tells _) (fun hq => ?_) (fun hq => ?_)) Iff.rfl
      · exact Tells.congr (fun k => by rw [if_pos rfl]) (next (.inr hq)) Iff.rfl
      · exact Tells.congr (f := fun _ => some false) (fun k => by rw [if_neg (by decide)]) (Tells.now (by simp only [Bool.false_eq_true, false_iff]; exact fun h => (h i (by omega) hlt).elim hp hq)) Iff.rfl
theorem nameOk_tells (s : ByteArray) (hs : s.size ≤ 140737488355328) : Tells (fun k => impl_NameOk.f k s) (NameP s) := by
  have no : ¬ NameP s → Tells (fun k => impl_NameOk.j0 k s true) (NameP s) := fun h =>
    Tells.step (f := fun _ => some false) (fun k => by simp only [impl_NameOk.j0]; exact if_pos trivial) (Tells.now (by simp only [Bool.false_eq_true, false_iff]; exact h))
  unfold impl_NameOk.f
  by_cases h1 : (s.size : Int) < 1
  · exact Tells.congr (fun k => by rw [if_pos h1]) (no (fun h => by have := h.2.1.1; omega)) Iff.rfl
  by_cases h2 : (s.size : Int) > 12
  · exact Tells.congr (fun k => by rw [if_neg h1, if_pos h2]) (no (fun h => by have := h.2.1.2; omega)) Iff.rfl
  refine Tells.congr (f := fun k => (impl_isDigit.f (bt s 0)).bind fun t221 => (if t221 = true then (impl_NameOk.j0 k s true) else ((impl_IsKeyword.f k s).bind fun t222 => (impl_NameOk.j0 k s t222)))) (fun k => by rw [if_neg h1, if_neg h2, if_pos (by omega)]) ?_ Iff.rfl
  refine Tells.ask (f := fun k t221 => (if t221 = true then (impl_NameOk.j0 k s true) else ((impl_IsKeyword.f k s).bind fun t222 => (impl_NameOk.j0 k s t222)))) (isDigit_tells _) (fun hd => ?_) (fun hd => ?_)
  · refine Tells.congr (fun k => by rw [if_pos rfl]) (no (fun h => ?_)) Iff.rfl
    rcases h.1 0 (by omega) (by omega) with hw | hw
    · unfold IsW at hw; unfold IsD at hd; omega
    · exact hw.1 rfl
  · refine Tells.congr (f := fun k => (impl_IsKeyword.f k s).bind fun t222 => (impl_NameOk.j0 k s t222)) (fun k => by rw [if_neg (by decide)]) ?_ Iff.rfl
    refine Tells.ask (f := fun k t222 => impl_NameOk.j0 k s t222) (impl_kw s) (fun hk => no (fun h => h.2.2 hk)) (fun hk => ?_)
    refine Tells.step (fun k => by simp only [impl_NameOk.j0]; exact if_neg (by decide)) ((nameOk_from s hs s.size 0 (by omega) (by omega) (by omega)).iff ?_)
    constructor
    · intro h
      refine ⟨fun j a b => ?_, by omega, hk⟩
      by_cases hz : j = 0
      · subst hz; exact .inl ((h 0 a b).resolve_right hd)
      · exact (h j a b).imp id (fun h => ⟨hz, h⟩)
    · intro h j a b
      exact (h.1 j a b).imp id (fun h => h.2)
end Go.Proofs.Ytehhhlhedmfdiaa.PFnExactImportNeeds
