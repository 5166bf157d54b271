/- FinalSweep: the reference's loop and the program's come to the same. -/
import Derived.Test.YtehhhlhedmfdiaaPFnExactFinalSweepxValid
import Derived.Test.YtehhhlhedmfdiaaPFnExactFinalSweepxSweep
import Derived.Test.YtehhhlhedmfdiaaPFnExactFinalSweepxMarks
import Derived.Test.YtehhhlhedmfdiaaPFnExactFinalSweepxIdx
namespace Go.Proofs.Ytehhhlhedmfdiaa.PFnExactFinalSweep
open Go.RowKit Go.Proofs.YtehhhlhedmfdiaaW.PrintWords Go.Proofs.YtehhhlhedmfdiaaW.PrintLast Go.Proofs.YtehhhlhedmfdiaaW.PrintMore Go.Proofs.Ytehhhlhedmfdiaa.Plain
set_option linter.unusedVariables false
def finsFrom (n : Nat) (l : List S110) : Nat → Nat → Bool
  | 0, _ => true
  | d + 1, i => decide (finAt n l i) && finsFrom n l d (i + 1)
theorem finsFrom_all (n : Nat) (l : List S110) : ∀ d i, finsFrom n l d i = true ↔ ∀ j, i ≤ j → j < i + d → finAt n l j
  | 0, i => by simp [finsFrom]; omega
  | d + 1, i => by
    rw [finsFrom, Bool.and_eq_true, finsFrom_all n l d (i + 1), decide_eq_true_eq]
    constructor
    · rintro ⟨h1, h2⟩ j hj hj2
      rcases Nat.lt_or_ge i j with h | h
      · exact h2 j h (by omega)
      · rw [show j = i by omega]; exact h1
    · intro h; exact ⟨h i (Nat.le_refl _) (by omega), fun j h1 h2 => h j (by omega) (by omega)⟩
def finB (n : Nat) (l : List S110) : Bool := finsFrom n l l.length 0 && decide (l.length ≤ 12)
theorem finB_iff (n : Nat) (l : List S110) : finB n l = true ↔ FinOk n l := by
  unfold finB FinOk
  rw [Bool.and_eq_true, finsFrom_all, decide_eq_true_eq]
  exact ⟨fun ⟨h1, h2⟩ => ⟨h2, fun i hi => h1 i (Nat.zero_le _) (by omega)⟩, fun ⟨h1, h2⟩ => ⟨fun j _ h => h2 j (by omega), h1⟩⟩
theorem take_drop_parts {l : List S110} {i j : Nat} (h : j < i) (hi : i ≤ l.length) : (l.take i).drop j = rd_T110 l (j : Int) :: (l.take i).drop (j + 1) := by
  have hj : j < (l.take i).length := by rw [List.length_take]; omega
  rw [List.drop_eq_getElem_cons hj, List.getElem_take]
  unfold rd_T110
  rw [show ((j : Int)).toNat = j from rfl, List.getD_eq_getElem?_getD, List.getElem?_eq_getElem (show j < l.length by omega)]
  rfl
theorem vf1 {n : Nat} {l : List S110} (hl : l.length ≤ 1048576) {i : Nat} (hi : i < l.length) (v a : Int) (b : Bool) {r : Bool} (h : Ev (fun k => spec_validFinals.l0 k l (n : Int) ((i + 1 : Nat) : Int)) r) :
    ∀ (d j : Nat), j ≤ i → i - j = d → Ev (fun k => spec_validFinals.l1 k l (n : Int) (i : Int) (j : Int) v a b) ((!((l.take i).drop j).any fun x => x.f0 == v) && r) := by
  intro d
  induction d with
  | zero =>
    intro j hj hd
    rw [List.drop_eq_nil_of_le (by rw [List.length_take]; omega), List.any_nil, Bool.not_false, Bool.true_and]
    refine Ev.step (fun k => ?_) h
    simp only [spec_validFinals.l1]
    rw [if_neg (by omega), wn (by omega) (by omega)]; rfl
  | succ d ih =>
    intro j hj hd
    rw [take_drop_parts (show j < i by omega) (by omega), List.any_cons]
    by_cases hv : (rd_T110 l (j : Int)).f0 = v
    · rw [show ((rd_T110 l (j : Int)).f0 == v) = true from by simpa using hv, Bool.true_or, Bool.not_true, Bool.false_and]
      refine Ev.step (f := fun _ => some false) (fun k => ?_) (Ev.now _)
      simp only [spec_validFinals.l1]
      rw [if_pos (by omega), if_pos (by omega), if_pos (by omega), if_pos hv]
    · rw [show ((rd_T110 l (j : Int)).f0 == v) = false from by simpa using hv, Bool.false_or]
      refine Ev.step (fun k => ?_) (ih (j + 1) (by omega) (by omega))
      simp only [spec_validFinals.l1]
      rw [if_pos (by omega), if_pos (by omega), if_pos (by omega), if_neg hv, wn (by omega) (by omega)]; rfl
theorem vf0 {n : Nat} (hn : n ≤ 1048576) {l : List S110} (hl : l.length ≤ 1048576) : ∀ (d i : Nat), i ≤ l.length → l.length - i = d → Ev (fun k => spec_validFinals.l0 k l (n : Int) (i : Int)) (finsFrom n l d i && decide (l.length ≤ 12)) := by
  intro d
  induction d with
  | zero =>
    intro i hi hd
    rw [finsFrom, Bool.true_and]
    refine Ev.step (f := fun _ => some (decide (l.length ≤ 12))) (fun k => ?_) (Ev.now _)
    simp only [spec_validFinals.l0]
    rw [if_neg (by omega)]
    congr 1; rw [decide_eq_decide]; omega
  | succ d ih =>
    intro i hi hd
    have hil : i < l.length := by omega
    have e1 := inRange_ev (rd_T110 l (i : Int)).f0 0 (wrap64 ((n : Int) - 1))
    rw [inb_eq hn] at e1
    have e2 := inRange_ev (rd_T110 l (i : Int)).f1 (-1) (wrap64 ((n : Int) - 1))
    have e2b : decide ((-1 : Int) ≤ (rd_T110 l (i : Int)).f1 ∧ (rd_T110 l (i : Int)).f1 ≤ wrap64 ((n : Int) - 1)) = decide (-1 ≤ (rd_T110 l (i : Int)).f1 ∧ (rd_T110 l (i : Int)).f1 < n) := by rw [wn (by omega) (by omega), decide_eq_decide]; omega
    rw [e2b] at e2
    have hno : Ev (fun k => spec_validFinals.j1 k l (n : Int) (i : Int) true (rd_T110 l (i : Int)).f0 (rd_T110 l (i : Int)).f1 (rd_T110 l (i : Int)).f2) false := Ev.step (f := fun _ => some false) (fun k => by simp only [spec_validFinals.j1]; exact if_pos trivial) (Ev.now _)
    refine Ev.step (fun k => ?_) (Ev.bind (f := fun k t => if t = true then ((spec_inRange.f ((rd_T110 l (i : Int)).f1) (-1) (wrap64 ((n : Int) - 1))).bind fun t116 => (spec_validFinals.j1 k l (n : Int) (i : Int) (!t116) ((rd_T110 l (i : Int)).f0) ((rd_T110 l (i : Int)).f1) ((rd_T110 l (i : Int)).f2))) else (spec_validFinals.j1 k l (n : Int) (i : Int) true ((rd_T110 l (i : Int)).f0) ((rd_T110 l (i : Int)).f1) ((rd_T110 l (i : Int)).f2))) e1 ?_)
    · simp only [spec_validFinals.l0]
      rw [if_pos (by omega), if_pos (by omega)]
    · rw [finsFrom]
      by_cases h1 : 0 ≤ (rd_T110 l (i : Int)).f0 ∧ (rd_T110 l (i : Int)).f0 < n
      · refine Ev.yes (by unfold inb; exact decide_eq_true h1) (Ev.bind (f := fun k t => spec_validFinals.j1 k l (n : Int) (i : Int) (!t) ((rd_T110 l (i : Int)).f0) ((rd_T110 l (i : Int)).f1) ((rd_T110 l (i : Int)).f2)) e2 ?_)
        by_cases h2 : -1 ≤ (rd_T110 l (i : Int)).f1 ∧ (rd_T110 l (i : Int)).f1 < n
        · rw [decide_eq_true h2]
          have h3 := vf1 hl hil (rd_T110 l (i : Int)).f0 (rd_T110 l (i : Int)).f1 (rd_T110 l (i : Int)).f2 (ih (i + 1) (by omega) (by omega)) i 0 (by omega) (by omega)
          rw [List.drop_zero] at h3
          have e3 : decide (finAt n l i) = !((l.take i).any fun x => x.f0 == (rd_T110 l (i : Int)).f0) := by
            rw [Bool.eq_iff_iff, decide_eq_true_eq, Bool.not_eq_true']
            exact ⟨fun h => h.2, fun h => ⟨⟨h1.1, h1.2, h2.1, h2.2⟩, h⟩⟩
          rw [e3, Bool.and_assoc]
          refine Ev.step (fun k => ?_) h3
          simp only [spec_validFinals.j1]
          exact if_neg (by decide)
        · rw [decide_eq_false h2, show decide (finAt n l i) = false from decide_eq_false (fun h => h2 ⟨h.1.2.2.1, h.1.2.2.2⟩), Bool.false_and, Bool.false_and]
          exact hno
      · rw [show decide (finAt n l i) = false from decide_eq_false (fun h => h1 ⟨h.1.1, h.1.2.1⟩), Bool.false_and, Bool.false_and]
        exact Ev.no (by unfold inb; rw [decide_eq_false h1]; decide) hno
theorem validFinals_ev {n : Nat} (hn : n ≤ 1048576) {l : List S110} (hl : l.length ≤ 1048576) : Ev (fun k => spec_validFinals.f k l (n : Int)) (finB n l) := vf0 hn hl l.length 0 (by omega) (by omega)

theorem rd_app {acc l : List S110} {i : Nat} (ha : acc.length = i) (hi : i < l.length) : rd_T110 (acc ++ l.drop i) (i : Int) = rd_T110 l (i : Int) := by
  unfold rd_T110
  rw [show ((i : Int)).toNat = i from rfl, List.getD_eq_getElem?_getD, List.getD_eq_getElem?_getD, List.getElem?_append_right (by omega), ha, Nat.sub_self, List.getElem?_drop, Nat.add_zero]
theorem app_next {acc l : List S110} {i : Nat} (hi : i < l.length) : acc ++ l.drop i = (acc ++ [rd_T110 l (i : Int)]) ++ l.drop (i + 1) := by
  rw [drop_S110 hi, List.append_assoc]; rfl
theorem set_app {acc l : List S110} {i : Nat} (ha : acc.length = i) (hi : i < l.length) (x : S110) : (acc ++ l.drop i).set i x = (acc ++ [x]) ++ l.drop (i + 1) := by
  rw [drop_S110 hi, List.set_append_right _ _ (by omega), ha, Nat.sub_self, List.set_cons_zero, List.append_assoc]; rfl
theorem loop_same {g : List (List Int)} {l : List S110} {seen : List Bool} (hs : seen.length = g.length) (hl : l.length ≤ 12) (hx : ∀ i, i < l.length → finIn g.length (rd_T110 l (i : Int))) :
    ∀ (d i : Nat) (ran roots : List Int) (acc : List S110), acc.length = i → i + d = l.length → ran.length ≤ i → roots.length ≤ 12 → AllIn g.length roots →
      ∃ ran' roots' fin', swp seen d i ran roots (acc ++ l.drop i) = some (ran', roots', fin') ∧ ran'.length ≤ 12 ∧ roots'.length ≤ 12 ∧ fin'.length = l.length ∧ AllIn g.length roots' ∧
        ∀ r, Ev (fun k => (spec_marked.f k g roots').bind fun t => ((spec_indices.f k t false).bind fun u => (some (ran', roots', u, fin')))) r → Ev (fun k => spec_finalized.l0 k g l seen (i : Int) ran roots acc) r := by
  intro d
  induction d with
  | zero =>
    intro i ran roots acc ha hd hr ho hin
    refine ⟨ran, roots, acc, ?_, by omega, ho, by omega, hin, fun r h => ?_⟩
    · rw [swp, List.drop_eq_nil_of_le (by omega), List.append_nil]
    · refine Ev.step (fun k => ?_) h
      simp only [spec_finalized.l0]
      rw [if_neg (by omega)]
  | succ d ih =>
    intro i ran roots acc ha hd hr ho hin
    have hi : i < l.length := by omega
    have hf := hx i hi
    have hw : wrap64 ((i : Int) + 1) = ((i + 1 : Nat) : Int) := by unfold wrap64; omega
    have hb : 0 ≤ (rd_T110 l (i : Int)).f0 ∧ (rd_T110 l (i : Int)).f0 < (seen.length : Int) := ⟨hf.1, by rw [hs]; exact hf.2.1⟩
    rw [swp, rd_app ha hi]
    have skip : (rd_T110 l (i : Int)).f2 = true ∨ rdOf false seen (rd_T110 l (i : Int)).f0 = true → ∃ ran' roots' fin', swp seen d (i + 1) ran roots (acc ++ l.drop i) = some (ran', roots', fin') ∧ ran'.length ≤ 12 ∧ roots'.length ≤ 12 ∧ fin'.length = l.length ∧ AllIn g.length roots' ∧
        ∀ r, Ev (fun k => (spec_marked.f k g roots').bind fun t => ((spec_indices.f k t false).bind fun u => (some (ran', roots', u, fin')))) r → Ev (fun k => spec_finalized.l0 k g l seen (i : Int) ran roots acc) r := fun hc => by
      obtain ⟨ran', roots', fin', h1, h2, h3, h4, h5, h6⟩ := ih (i + 1) ran roots (acc ++ [rd_T110 l (i : Int)]) (by simp [ha]) (by omega) (by omega) ho hin
      refine ⟨ran', roots', fin', by rw [app_next hi]; exact h1, h2, h3, h4, h5, fun r h => ?_⟩
      have hj : Ev (fun k => spec_finalized.j1 k g l seen (i : Int) true ran roots acc (rd_T110 l (i : Int)).f0 (rd_T110 l (i : Int)).f1 (rd_T110 l (i : Int)).f2) r := by
        refine Ev.step (fun k => ?_) (h6 r h)
        simp only [spec_finalized.j1]
        rw [if_pos trivial, if_pos (by omega), hw]
      refine Ev.step (fun k => ?_) hj
      simp only [spec_finalized.l0]
      rw [if_pos (by omega), if_pos (by omega), if_pos hb.1, if_pos hb.2]
      rcases hc with h7 | h7
      · rw [h7]; split <;> rfl
      · rw [if_pos h7]
    by_cases h2 : (rd_T110 l (i : Int)).f2 = true
    · rw [if_pos h2]; exact skip (Or.inl h2)
    · rw [if_neg h2, if_pos hb]
      by_cases h3 : rdOf false seen (rd_T110 l (i : Int)).f0 = true
      · rw [if_pos h3]; exact skip (Or.inr h3)
      · rw [if_neg h3, set_app ha hi]
        have h2b : (rd_T110 l (i : Int)).f2 = false := Bool.eq_false_iff.2 h2
        obtain ⟨roots2, hr2⟩ : ∃ y, y = (if 0 ≤ (rd_T110 l (i : Int)).f1 ∧ roots.length < 12 then roots ++ [(rd_T110 l (i : Int)).f1] else roots) := ⟨_, rfl⟩
        rw [← hr2]
        have hlen2 : roots2.length ≤ 12 := by rw [hr2]; split <;> (try simp only [List.length_append, List.length_cons, List.length_nil]) <;> omega
        have hin2 : AllIn g.length roots2 := by
          rw [hr2]
          split
          · rename_i hc
            intro v hv
            rcases List.mem_append.1 hv with h | h
            · exact hin v h
            · rw [List.mem_singleton.1 h]; exact ⟨hc.1, hf.2.2.2⟩
          · exact hin
        obtain ⟨ran', roots', fin', h1, h2', h3', h4, h5, h6⟩ := ih (i + 1) (ran ++ [(rd_T110 l (i : Int)).f0]) roots2 (acc ++ [⟨(rd_T110 l (i : Int)).f0, (rd_T110 l (i : Int)).f1, true⟩]) (by simp [ha]) (by omega) (by simp; omega) hlen2 hin2
        refine ⟨ran', roots', fin', h1, h2', h3', h4, h5, fun r h => ?_⟩
        have hj : Ev (fun k => spec_finalized.j1 k g l seen (i : Int) false ran roots acc (rd_T110 l (i : Int)).f0 (rd_T110 l (i : Int)).f1 (rd_T110 l (i : Int)).f2) r := by
          refine Ev.step (fun k => ?_) (h6 r h)
          simp only [spec_finalized.j1]
          rw [if_neg (by decide), if_pos (by omega), hw, hr2]
          simp only [Option.bind_some]
          rw [if_pos (by omega)]
          by_cases h7 : (rd_T110 l (i : Int)).f1 ≥ 0
          · rw [if_pos h7]
            by_cases h8 : roots.length < 12
            · rw [if_pos (by omega), if_pos (by omega), if_pos ⟨h7, h8⟩]
            · rw [if_neg (by omega), if_neg (fun h => h8 h.2)]
          · rw [if_neg h7, if_neg (fun h => h7 h.1)]
        refine Ev.step (fun k => ?_) hj
        simp only [spec_finalized.l0]
        rw [if_pos (by omega), if_pos (by omega), if_pos hb.1, if_pos hb.2, if_neg h3, h2b]
end Go.Proofs.Ytehhhlhedmfdiaa.PFnExactFinalSweep
