/- FinalSweep: the two sides' tests of a graph, its roots and its finalizers tell the same. -/
import Derived.Test.YtehhhlhedmfdiaaPFnExactFinalSweepx2
import Derived.Test.YtehhhlhedmfdiaaPFnExactFinalSweepx5
import Derived.Test.YtehhhlhedmfdiaaPFnExactFinalSweepxFok
namespace Go.Proofs.Ytehhhlhedmfdiaa.PFnExactFinalSweep
open Go.RowKit Go.Proofs.YtehhhlhedmfdiaaW.PrintWords Go.Proofs.YtehhhlhedmfdiaaW.PrintLast Go.Proofs.YtehhhlhedmfdiaaW.PrintMore
set_option linter.unusedVariables false
theorem Ev.yes {α : Type} {c : Prop} [Decidable c] {g f : Nat → Option α} {r : α} (hc : c) (h : Ev g r) : Ev (fun k => if c then g k else f k) r := Ev.congr (fun k => if_pos hc) h
theorem Ev.no {α : Type} {c : Prop} [Decidable c] {g f : Nat → Option α} {r : α} (hc : ¬ c) (h : Ev f r) : Ev (fun k => if c then g k else f k) r := Ev.congr (fun k => if_neg hc) h
theorem wn {a : Int} (h0 : -4611686018427387904 ≤ a) (h : a < 4611686018427387904) : wrap64 a = a := by unfold wrap64; omega
theorem partsL {l : List (List Int)} {i : Nat} (h : i < l.length) : l.drop i = rd_L1 l (i : Int) :: l.drop (i + 1) := by
  unfold rd_L1
  rw [show ((i : Int)).toNat = i from rfl, List.getD_eq_getElem?_getD, List.getElem?_eq_getElem h, List.drop_eq_getElem_cons h]
  rfl
theorem partsI {l : List Int} {i : Nat} (h : i < l.length) : l.drop i = rd l (i : Int) :: l.drop (i + 1) := by
  unfold rd
  rw [show ((i : Int)).toNat = i from rfl, List.getD_eq_getElem?_getD, List.getElem?_eq_getElem h, List.drop_eq_getElem_cons h]
  rfl
def inb (n : Nat) (v : Int) : Bool := decide (0 ≤ v ∧ v < n)
def rowOk (n : Nat) (l : List Int) : Bool := l.all (inb n) && decide (l.length ≤ 5)
theorem inRange_ev (a b c : Int) : Ev (fun _ => spec_inRange.f a b c) (decide (b ≤ a ∧ a ≤ c)) := by
  unfold spec_inRange.f
  by_cases h : a ≥ b
  · exact Ev.yes h (by rw [show decide (b ≤ a ∧ a ≤ c) = decide (a ≤ c) from by rw [decide_eq_decide]; omega]; exact Ev.now _)
  · exact Ev.no h (by rw [show decide (b ≤ a ∧ a ≤ c) = false from decide_eq_false (by omega)]; exact Ev.now _)
theorem inb_eq {n : Nat} (hn : n ≤ 1048576) (v : Int) : decide ((0 : Int) ≤ v ∧ v ≤ wrap64 ((n : Int) - 1)) = inb n v := by
  unfold inb; rw [wn (by omega) (by omega), decide_eq_decide]; omega

theorem vg1 {l : List (List Int)} (hl : l.length ≤ 1048576) {i : Nat} (hi : i < l.length) (hr : (rd_L1 l (i : Int)).length ≤ 1048576) {r : Bool} (h : Ev (fun k => spec_validGraph.l0 k l ((i + 1 : Nat) : Int)) r) :
    ∀ (d j : Nat), j ≤ (rd_L1 l (i : Int)).length → (rd_L1 l (i : Int)).length - j = d → Ev (fun k => spec_validGraph.l1 k l (i : Int) (j : Int)) (((rd_L1 l (i : Int)).drop j).all (inb l.length) && (decide ((rd_L1 l (i : Int)).length ≤ 5) && r)) := by
  intro d
  induction d with
  | zero =>
    intro j hj hd
    rw [List.drop_eq_nil_of_le (by omega), List.all_nil, Bool.true_and]
    by_cases h5 : (rd_L1 l (i : Int)).length ≤ 5
    · rw [decide_eq_true h5, Bool.true_and]
      refine Ev.step (fun k => ?_) h
      simp only [spec_validGraph.l1]
      rw [if_pos (by omega), if_pos (by omega), if_neg (by omega), if_neg (by omega), wn (by omega) (by omega)]; rfl
    · rw [decide_eq_false h5, Bool.false_and]
      refine Ev.step (f := fun _ => some false) (fun k => ?_) (Ev.now _)
      simp only [spec_validGraph.l1]
      rw [if_pos (by omega), if_pos (by omega), if_neg (by omega), if_pos (by omega)]
  | succ d ih =>
    intro j hj hd
    rw [partsI (show j < (rd_L1 l (i : Int)).length by omega), List.all_cons]
    have e := inRange_ev (rd (rd_L1 l (i : Int)) (j : Int)) 0 (wrap64 ((l.length : Int) - 1))
    rw [inb_eq hl] at e
    refine Ev.step (fun k => ?_) (Ev.bind (f := fun k t => if t = true then (spec_validGraph.l1 k l (i : Int) (wrap64 ((j : Int) + 1))) else (some false)) e ?_)
    · simp only [spec_validGraph.l1]
      rw [if_pos (by omega), if_pos (by omega), if_pos (by omega), if_pos (by omega)]
    · cases hb : inb l.length (rd (rd_L1 l (i : Int)) (j : Int)) with
      | true =>
        rw [Bool.true_and]
        refine Ev.yes rfl (Ev.congr (fun k => ?_) (ih (j + 1) (by omega) (by omega)))
        rw [wn (by omega) (by omega)]; rfl
      | false => rw [Bool.false_and, Bool.false_and]; exact Ev.no (by decide) (Ev.now _)
theorem vg0 {l : List (List Int)} (hl : l.length ≤ 1048576) (hr : ∀ x ∈ l, x.length ≤ 1048576) : ∀ (d i : Nat), i ≤ l.length → l.length - i = d → Ev (fun k => spec_validGraph.l0 k l (i : Int)) ((l.drop i).all (rowOk l.length) && decide (l.length ≤ 12)) := by
  intro d
  induction d with
  | zero =>
    intro i hi hd
    rw [List.drop_eq_nil_of_le (by omega), List.all_nil, Bool.true_and]
    refine Ev.step (f := fun _ => some (decide (l.length ≤ 12))) (fun k => ?_) (Ev.now _)
    simp only [spec_validGraph.l0]
    rw [if_neg (by omega)]
    congr 1; rw [decide_eq_decide]; omega
  | succ d ih =>
    intro i hi hd
    have hil : i < l.length := by omega
    have hm : rd_L1 l (i : Int) ∈ l := List.mem_of_mem_drop (i := i) (by rw [partsL hil]; exact List.mem_cons_self)
    have h1 := vg1 hl hil (hr _ hm) (ih (i + 1) (by omega) (by omega)) (rd_L1 l (i : Int)).length 0 (by omega) (by omega)
    rw [List.drop_zero, ← Bool.and_assoc, ← Bool.and_assoc] at h1
    rw [partsL hil, List.all_cons]
    unfold rowOk at h1 ⊢
    refine Ev.step (fun k => ?_) h1
    simp only [spec_validGraph.l0]
    rw [if_pos (by omega)]; rfl
def gOk (l : List (List Int)) : Bool := l.all (rowOk l.length) && decide (l.length ≤ 12)
def rOk (n : Nat) (l : List Int) : Bool := l.all (inb n) && decide (l.length ≤ 12)
theorem validGraph_ev {l : List (List Int)} (hl : l.length ≤ 1048576) (hr : ∀ x ∈ l, x.length ≤ 1048576) : Ev (fun k => spec_validGraph.f k l) (gOk l) := vg0 hl hr l.length 0 (by omega) (by omega)
theorem vr0 {n : Nat} (hn : n ≤ 1048576) {l : List Int} (hl : l.length ≤ 1048576) : ∀ (d i : Nat), i ≤ l.length → l.length - i = d → Ev (fun k => spec_validRoots.l0 k l (n : Int) (i : Int)) ((l.drop i).all (inb n) && decide (l.length ≤ 12)) := by
  intro d
  induction d with
  | zero =>
    intro i hi hd
    rw [List.drop_eq_nil_of_le (by omega), List.all_nil, Bool.true_and]
    refine Ev.step (f := fun _ => some (decide (l.length ≤ 12))) (fun k => ?_) (Ev.now _)
    simp only [spec_validRoots.l0]
    rw [if_neg (by omega)]
    congr 1; rw [decide_eq_decide]; omega
  | succ d ih =>
    intro i hi hd
    rw [partsI (show i < l.length by omega), List.all_cons]
    have e := inRange_ev (rd l (i : Int)) 0 (wrap64 ((n : Int) - 1))
    rw [inb_eq hn] at e
    refine Ev.step (fun k => ?_) (Ev.bind (f := fun k t => if t = true then (spec_validRoots.l0 k l (n : Int) (wrap64 ((i : Int) + 1))) else (some false)) e ?_)
    · simp only [spec_validRoots.l0]
      rw [if_pos (by omega), if_pos (by omega)]
    · cases hb : inb n (rd l (i : Int)) with
      | true =>
        rw [Bool.true_and]
        refine Ev.yes rfl (Ev.congr (fun k => ?_) (ih (i + 1) (by omega) (by omega)))
        rw [wn (by omega) (by omega)]; rfl
      | false => rw [Bool.false_and, Bool.false_and]; exact Ev.no (by decide) (Ev.now _)
theorem validRoots_ev {n : Nat} (hn : n ≤ 1048576) {l : List Int} (hl : l.length ≤ 1048576) : Ev (fun k => spec_validRoots.f k l (n : Int)) (rOk n l) := vr0 hn hl l.length 0 (by omega) (by omega)
theorem io0 {n : Nat} {l : List Int} (hl : l.length ≤ 1048576) : ∀ (d i : Nat), i ≤ l.length → l.length - i = d → Ev (fun k => impl_indicesOk.l0 k (n : Int) l (l.length : Int) (i : Int)) ((l.drop i).all (inb n)) := by
  intro d
  induction d with
  | zero =>
    intro i hi hd
    rw [List.drop_eq_nil_of_le (by omega), List.all_nil]
    refine Ev.step (f := fun _ => some true) (fun k => ?_) (Ev.now _)
    simp only [impl_indicesOk.l0]
    rw [if_neg (by omega)]
  | succ d ih =>
    intro i hi hd
    rw [partsI (show i < l.length by omega), List.all_cons]
    unfold inb
    by_cases h : 0 ≤ rd l (i : Int) ∧ rd l (i : Int) < n
    · rw [decide_eq_true h, Bool.true_and]
      refine Ev.step (fun k => ?_) (ih (i + 1) (by omega) (by omega))
      simp only [impl_indicesOk.l0]
      rw [if_pos (by omega), if_pos (by omega), if_pos (by omega), if_neg (by omega), if_neg (by omega), wn (by omega) (by omega)]
      rfl
    · rw [decide_eq_false h, Bool.false_and]
      refine Ev.step (f := fun _ => some false) (fun k => ?_) (Ev.now _)
      simp only [impl_indicesOk.l0]
      rw [if_pos (by omega), if_pos (by omega), if_pos (by omega)]
      by_cases h2 : rd l (i : Int) < 0
      · rw [if_pos h2]
      · rw [if_neg h2, if_pos (by omega)]
theorem indicesOk_ev {n : Nat} {l : List Int} (hl : l.length ≤ 1048576) : Ev (fun k => impl_indicesOk.f k l (n : Int)) (l.all (inb n)) := io0 hl l.length 0 (by omega) (by omega)
theorem go0 {l : List (List Int)} (hl : l.length ≤ 1048576) : ∀ (d i : Nat), i ≤ l.length → l.length - i = d → Ev (fun k => impl_GraphOk.l0 k l l (l.length : Int) (i : Int)) ((l.drop i).all (rowOk l.length)) := by
  intro d
  induction d with
  | zero =>
    intro i hi hd
    rw [List.drop_eq_nil_of_le (by omega), List.all_nil]
    refine Ev.step (f := fun _ => some true) (fun k => ?_) (Ev.now _)
    simp only [impl_GraphOk.l0]
    rw [if_neg (by omega)]
  | succ d ih =>
    intro i hi hd
    rw [partsL (show i < l.length by omega), List.all_cons]
    by_cases h5 : (rd_L1 l (i : Int)).length ≤ 5
    · refine Ev.step (fun k => ?_) (Ev.bind (f := fun k t => if t = true then (impl_GraphOk.l0 k l l (l.length : Int) (wrap64 ((i : Int) + 1))) else (some false)) (indicesOk_ev (n := l.length) (l := rd_L1 l (i : Int)) (by omega)) ?_)
      · simp only [impl_GraphOk.l0]
        rw [if_pos (by omega), if_pos (by omega), if_pos (by omega), if_neg (by omega)]
      · unfold rowOk
        rw [decide_eq_true h5, Bool.and_true]
        cases hb : (rd_L1 l (i : Int)).all (inb l.length) with
        | true =>
          rw [Bool.true_and]
          refine Ev.yes rfl (Ev.congr (fun k => ?_) (ih (i + 1) (by omega) (by omega)))
          rw [wn (by omega) (by omega)]; rfl
        | false => rw [Bool.false_and]; exact Ev.no (by decide) (Ev.now _)
    · have e : rowOk l.length (rd_L1 l (i : Int)) = false := by unfold rowOk; rw [decide_eq_false h5, Bool.and_false]
      rw [e, Bool.false_and]
      refine Ev.step (f := fun _ => some false) (fun k => ?_) (Ev.now _)
      simp only [impl_GraphOk.l0]
      rw [if_pos (by omega), if_pos (by omega), if_pos (by omega), if_pos (by omega)]
theorem graphOk_ev {l : List (List Int)} {r : List Int} : Ev (fun k => impl_GraphOk.f k l r) (gOk l && rOk l.length r) := by
  have hno : Ev (fun k => impl_GraphOk.j0 k l true) false := Ev.step (f := fun _ => some false) (fun k => by simp only [impl_GraphOk.j0]; exact if_pos trivial) (Ev.now _)
  unfold impl_GraphOk.f gOk rOk
  by_cases h1 : l.length ≤ 12
  · refine Ev.no (by omega) ?_
    by_cases h2 : r.length ≤ 12
    · refine Ev.no (by omega) (Ev.bind (indicesOk_ev (n := l.length) (l := r) (by omega)) ?_)
      rw [decide_eq_true h1, decide_eq_true h2, Bool.and_true, Bool.and_true]
      cases hb : r.all (inb l.length) with
      | false => rw [Bool.and_false]; exact hno
      | true =>
        rw [Bool.and_true]
        refine Ev.step (fun k => ?_) (go0 (l := l) (by omega) l.length 0 (by omega) (by omega))
        simp only [impl_GraphOk.j0]
        exact if_neg (by decide)
    · rw [decide_eq_false h2, Bool.and_false, Bool.and_false]; exact Ev.yes (by omega) hno
  · rw [decide_eq_false h1, Bool.and_false, Bool.false_and]; exact Ev.yes (by omega) hno
end Go.Proofs.Ytehhhlhedmfdiaa.PFnExactFinalSweep
