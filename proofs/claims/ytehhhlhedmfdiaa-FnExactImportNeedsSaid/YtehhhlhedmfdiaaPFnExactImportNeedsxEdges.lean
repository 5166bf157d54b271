/- The modules that each module refers to: both functions list the same. -/
import Derived.Test.YtehhhlhedmfdiaaPFnExactImportNeedsxMods
import Derived.Test.YtehhhlhedmfdiaaPFnExactImportNeedsx3
import Derived.Test.YtehhhlhedmfdiaaPFnExactImportNeedsx8
namespace Go.Proofs.Ytehhhlhedmfdiaa.PFnExactImportNeeds
open Go.RowKit Go.Proofs.YtehhhlhedmfdiaaW.PrintWords Go.Proofs.YtehhhlhedmfdiaaW.PrintLast Go.Proofs.YtehhhlhedmfdiaaW.PrintMore
set_option linter.unusedVariables false

def sel (l : List S74) : List Int := (l.filter fun s => s.f0 == 1 || s.f0 == 2).map (·.f1)
def edges (m : List S72) : List (List Int) := m.map fun x => sel x.f0
theorem sel_cons (s : S74) (l : List S74) : sel (s :: l) = (if s.f0 = 1 ∨ s.f0 = 2 then [s.f1] else []) ++ sel l := by
  unfold sel
  by_cases h : s.f0 = 1 ∨ s.f0 = 2
  · have : (s.f0 == 1 || s.f0 == 2) = true := by simpa using h
    rw [if_pos h, List.filter_cons, if_pos this]; rfl
  · have : ¬ (s.f0 == 1 || s.f0 == 2) = true := by simpa using h
    rw [if_neg h, List.filter_cons, if_neg this]; rfl
theorem sel_len (l : List S74) : (sel l).length ≤ l.length := by
  unfold sel; rw [List.length_map]; exact List.length_filter_le _ _

theorem needs_inner (m : List S72) (hm : m.length ≤ 6) (out : List (List Int)) (ho : out.length ≤ 6) (i : Int) (h0 : 0 ≤ i) (hi : i < (m.length : Int)) (h8 : (rd_T72 m i).f0.length ≤ 8) {r : List (List Int)} (d : Nat) :
    ∀ (row : List Int) (j : Int), 0 ≤ j → j ≤ ((rd_T72 m i).f0.length : Int) → ((rd_T72 m i).f0.length : Int) - j = d → row.length ≤ j.toNat →
      Ev (fun k => spec_needsOf.l0 k m (out ++ [row ++ sel ((rd_T72 m i).f0.drop j.toNat)]) (i + 1)) r → Ev (fun k => spec_needsOf.l1 k m out i row j) r := by
  induction d with
  | zero =>
    intro row j j0 j1 hd hr he
    rw [List.drop_eq_nil_of_le (by omega)] at he
    refine Ev.step (fun k => ?_) he
    simp only [spec_needsOf.l1]
    rw [if_pos h0, if_pos hi, if_neg (by omega), if_pos (by omega), up1 h0 (by omega)]
    simp [sel]
  | succ d ih =>
    intro row j j0 j1 hd hr he
    have hj : j < ((rd_T72 m i).f0.length : Int) := by omega
    have hw : wrap64 (j + 1) = j + 1 := up1 j0 (by omega)
    rw [at_cons z74 j0 hj, sel_cons, ← List.append_assoc] at he
    change Ev (fun k => spec_needsOf.l0 k m (out ++ [row ++ (if (rd_T74 (rd_T72 m i).f0 j).f0 = 1 ∨ (rd_T74 (rd_T72 m i).f0 j).f0 = 2 then [(rd_T74 (rd_T72 m i).f0 j).f1] else []) ++ sel ((rd_T72 m i).f0.drop (j + 1).toNat)]) (i + 1)) r at he
    by_cases k1 : (rd_T74 (rd_T72 m i).f0 j).f0 = 1
    · rw [if_pos (.inl k1)] at he
      refine Ev.step (fun k => ?_) (ih _ (j + 1) (by omega) (by omega) (by omega) (by rw [List.length_append, List.length_singleton]; omega) he)
      simp only [spec_needsOf.l1]
      rw [if_pos h0, if_pos hi, if_pos hj, if_pos j0, if_pos k1, if_pos (by omega), hw]
    · by_cases k2 : (rd_T74 (rd_T72 m i).f0 j).f0 = 2
      · rw [if_pos (.inr k2)] at he
        refine Ev.step (fun k => ?_) (ih _ (j + 1) (by omega) (by omega) (by omega) (by rw [List.length_append, List.length_singleton]; omega) he)
        simp only [spec_needsOf.l1]
        rw [if_pos h0, if_pos hi, if_pos hj, if_pos j0, if_neg k1, if_pos k2, if_pos (by omega), hw]
      · rw [if_neg (fun h => h.elim k1 k2), List.append_nil] at he
        refine Ev.step (fun k => ?_) (ih _ (j + 1) (by omega) (by omega) (by omega) (by omega) he)
        simp only [spec_needsOf.l1]
        rw [if_pos h0, if_pos hi, if_pos hj, if_pos j0, if_neg k1, if_neg k2, hw]
theorem needs_outer (m : List S72) (hm : m.length ≤ 6) (h8 : ∀ x ∈ m, x.f0.length ≤ 8) (d : Nat) : ∀ (out : List (List Int)) (i : Int), 0 ≤ i → i ≤ (m.length : Int) → (m.length : Int) - i = d → out.length ≤ i.toNat →
    Ev (fun k => spec_needsOf.l0 k m out i) (out ++ edges (m.drop i.toNat)) := by
  induction d with
  | zero =>
    intro out i h0 h1 hd ho
    rw [List.drop_eq_nil_of_le (by omega)]
    refine Ev.step (f := fun _ => some (out ++ edges [])) (fun k => ?_) (Ev.now _)
    simp only [spec_needsOf.l0]
    rw [if_neg (by omega)]
    simp [edges]
  | succ d ih =>
    intro out i h0 h1 hd ho
    have hi : i < (m.length : Int) := by omega
    have hx := h8 _ (at_mem z72 h0 hi)
    have := ih (out ++ [sel (rd_T72 m i).f0]) (i + 1) (by omega) (by omega) (by omega) (by rw [List.length_append, List.length_singleton]; omega)
    rw [List.append_assoc] at this
    rw [at_cons z72 h0 hi]
    refine Ev.step (f := fun k => spec_needsOf.l1 k m out i [] 0) (fun k => by simp only [spec_needsOf.l0]; rw [if_pos hi]) (needs_inner m hm out (by omega) i h0 hi hx _ [] 0 (by omega) (by omega) (by omega : ((rd_T72 m i).f0.length : Int) - 0 = (((rd_T72 m i).f0.length : Nat) : Int)) (by simp) ?_)
    rw [show (0 : Int).toNat = 0 from rfl, List.drop_zero, List.nil_append]
    exact this
theorem needsOf_ev (m : List S72) (hm : m.length ≤ 6) (h8 : ∀ x ∈ m, x.f0.length ≤ 8) : Ev (fun k => spec_needsOf.f k m) (edges m) := by
  have h := needs_outer m hm h8 m.length [] 0 (by omega) (by omega) (by omega) (by simp)
  rw [show (0 : Int).toNat = 0 from rfl, List.drop_zero, List.nil_append] at h
  exact h

theorem set_mid {α : Type} (a : List α) (b : α) (n : Nat) (v : α) : (a ++ List.replicate (n + 1) b).set a.length v = (a ++ [v]) ++ List.replicate n b := by
  rw [List.set_append_right _ _ (Nat.le_refl _), Nat.sub_self, List.replicate_succ, List.set_cons_zero, List.append_assoc]; rfl
theorem get_mid {α : Type} (a : List α) (b z : α) (n : Nat) : (a ++ List.replicate (n + 1) b).getD a.length z = b := by
  rw [List.getD_eq_getElem?_getD, List.getElem?_append_right (Nat.le_refl _), Nat.sub_self, List.replicate_succ]; rfl
theorem rows_set (x3 : List (List Int)) (i : Int) (h0 : 0 ≤ i) (hi : i < (x3.length : Int)) (v : List Int) : rd_L9 (x3.set i.toNat v) i = v := by
  unfold rd_L9
  rw [List.getD_eq_getElem?_getD, List.getElem?_set_self (by omega)]; rfl
theorem imports_inner (m : List S72) (hm : m.length ≤ 6) (i : Int) (h0 : 0 ≤ i) (hi : i < (m.length : Int)) (h8 : (rd_T72 m i).f0.length ≤ 8) {r : List (List Int)} (d : Nat) :
    ∀ (x3 : List (List Int)) (j : Int), x3.length = m.length → 0 ≤ j → j ≤ ((rd_T72 m i).f0.length : Int) → ((rd_T72 m i).f0.length : Int) - j = d → (rd_L9 x3 i).length ≤ j.toNat →
      Ev (fun k => impl_importsOf.l0 k (x3.set i.toNat (rd_L9 x3 i ++ sel ((rd_T72 m i).f0.drop j.toNat))) m (m.length : Int) (i + 1)) r → Ev (fun k => impl_importsOf.l1 k x3 i m (m.length : Int) i (rd_T72 m i).f0 ((rd_T72 m i).f0.length : Int) j) r := by
  induction d with
  | zero =>
    intro x3 j hx j0 j1 hd hr he
    rw [List.drop_eq_nil_of_le (by omega)] at he
    have e : x3.set i.toNat (rd_L9 x3 i ++ sel []) = x3 := by
      simp only [sel, List.filter_nil, List.map_nil, List.append_nil]
      unfold rd_L9
      rw [List.getD_eq_getElem?_getD, List.getElem?_eq_getElem (by omega)]
      exact List.set_getElem_self _
    rw [e] at he
    refine Ev.step (fun k => ?_) he
    simp only [impl_importsOf.l1]
    rw [if_neg (by omega), up1 h0 (by omega)]
  | succ d ih =>
    intro x3 j hx j0 j1 hd hr he
    have hj : j < ((rd_T72 m i).f0.length : Int) := by omega
    have hw : wrap64 (j + 1) = j + 1 := up1 j0 (by omega)
    have hi3 : i < (x3.length : Int) := by omega
    rw [at_cons z74 j0 hj, sel_cons, ← List.append_assoc] at he
    change Ev (fun k => impl_importsOf.l0 k (x3.set i.toNat (rd_L9 x3 i ++ (if (rd_T74 (rd_T72 m i).f0 j).f0 = 1 ∨ (rd_T74 (rd_T72 m i).f0 j).f0 = 2 then [(rd_T74 (rd_T72 m i).f0 j).f1] else []) ++ sel ((rd_T72 m i).f0.drop (j + 1).toNat))) m (m.length : Int) (i + 1)) r at he
    have more : ((rd_T74 (rd_T72 m i).f0 j).f0 = 1 ∨ (rd_T74 (rd_T72 m i).f0 j).f0 = 2) → Ev (fun k => impl_importsOf.l1 k (x3.set i.toNat (rd_L9 x3 i ++ [(rd_T74 (rd_T72 m i).f0 j).f1])) i m (m.length : Int) i (rd_T72 m i).f0 ((rd_T72 m i).f0.length : Int) (j + 1)) r := by
      intro h
      rw [if_pos h] at he
      refine ih _ (j + 1) (by rw [List.length_set]; exact hx) (by omega) (by omega) (by omega) (by rw [rows_set _ _ h0 hi3, List.length_append, List.length_singleton]; omega) ?_
      rw [rows_set _ _ h0 hi3, List.set_set]
      exact he
    by_cases k1 : (rd_T74 (rd_T72 m i).f0 j).f0 = 1
    · refine Ev.step (fun k => ?_) (more (.inl k1))
      simp only [impl_importsOf.l1]
      rw [if_pos hj, if_pos j0, if_pos hj, if_pos k1, if_pos h0, if_pos hi3, if_pos (by omega), hw]
    · by_cases k2 : (rd_T74 (rd_T72 m i).f0 j).f0 = 2
      · refine Ev.step (fun k => ?_) (more (.inr k2))
        simp only [impl_importsOf.l1]
        rw [if_pos hj, if_pos j0, if_pos hj, if_neg k1, if_pos k2, if_pos h0, if_pos hi3, if_pos (by omega), hw]
      · rw [if_neg (fun h => h.elim k1 k2), List.append_nil] at he
        refine Ev.step (fun k => ?_) (ih _ (j + 1) hx (by omega) (by omega) (by omega) (by omega) he)
        simp only [impl_importsOf.l1]
        rw [if_pos hj, if_pos j0, if_pos hj, if_neg k1, if_neg k2, hw]
theorem imports_outer (m : List S72) (hm : m.length ≤ 6) (h8 : ∀ x ∈ m, x.f0.length ≤ 8) (d : Nat) : ∀ (i : Int), 0 ≤ i → i ≤ (m.length : Int) → (m.length : Int) - i = d →
    Ev (fun k => impl_importsOf.l0 k (edges (m.take i.toNat) ++ List.replicate d []) m (m.length : Int) i) (edges m) := by
  induction d with
  | zero =>
    intro i h0 h1 hd
    refine Ev.step (f := fun _ => some (edges m)) (fun k => ?_) (Ev.now _)
    simp only [impl_importsOf.l0]
    rw [if_neg (by omega), List.take_of_length_le (by omega)]
    simp
  | succ d ih =>
    intro i h0 h1 hd
    have hi : i < (m.length : Int) := by omega
    have hx := h8 _ (at_mem z72 h0 hi)
    have hlen : (edges (m.take i.toNat)).length = i.toNat := by unfold edges; rw [List.length_map, List.length_take]; omega
    have hrow : rd_L9 (edges (m.take i.toNat) ++ List.replicate (d + 1) []) i = [] := by
      have := get_mid (edges (m.take i.toNat)) ([] : List Int) [] d
      rw [hlen] at this
      exact this
    have := ih (i + 1) (by omega) (by omega) (by omega)
    have et : edges (m.take (i + 1).toNat) = edges (m.take i.toNat) ++ [sel (rd_T72 m i).f0] := by
      have hl : i.toNat < m.length := by omega
      rw [show (i + 1).toNat = i.toNat + 1 from by omega, List.take_succ_eq_append_getElem hl]
      unfold edges rd_T72
      rw [List.map_append, List.getD_eq_getElem?_getD, List.getElem?_eq_getElem hl]; rfl
    rw [et] at this
    refine Ev.step (f := fun k => impl_importsOf.l1 k (edges (m.take i.toNat) ++ List.replicate (d + 1) []) i m (m.length : Int) i (rd_T72 m i).f0 ((rd_T72 m i).f0.length : Int) 0) (fun k => by simp only [impl_importsOf.l0]; rw [if_pos hi, if_pos h0, if_pos hi])
      (imports_inner m hm i h0 hi hx _ _ 0 (by rw [List.length_append, hlen, List.length_replicate]; omega) (by omega) (by omega) (by omega : ((rd_T72 m i).f0.length : Int) - 0 = (((rd_T72 m i).f0.length : Nat) : Int)) (by rw [hrow]; simp) ?_)
    rw [hrow, show (0 : Int).toNat = 0 from rfl, List.drop_zero, List.nil_append]
    have hs := set_mid (edges (m.take i.toNat)) ([] : List Int) d (sel (rd_T72 m i).f0)
    rw [hlen] at hs
    rw [hs]
    exact this
theorem importsOf_ev (m : List S72) (hm : m.length ≤ 6) (h8 : ∀ x ∈ m, x.f0.length ≤ 8) : Ev (fun k => impl_importsOf.f k m) (edges m) := by
  have h := imports_outer m hm h8 m.length 0 (by omega) (by omega) (by omega)
  rw [show (0 : Int).toNat = 0 from rfl, List.take_zero] at h
  refine Ev.congr (fun k => ?_) h
  unfold impl_importsOf.f
  rw [if_pos (by omega), if_pos (by omega), Int.toNat_natCast]
  rfl
end Go.Proofs.Ytehhhlhedmfdiaa.PFnExactImportNeeds
