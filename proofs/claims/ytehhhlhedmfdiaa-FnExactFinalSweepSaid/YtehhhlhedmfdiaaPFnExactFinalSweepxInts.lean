/- Lists of numbers: a list equals itself; what is marked is held. -/
import Derived.Test.YtehhhlhedmfdiaaPFnExactFinalSweepx1
import Derived.Test.YtehhhlhedmfdiaaPFnExactFinalSweepx1
import Derived.Test.YtehhhlhedmfdiaaPFnExactFinalSweepx6
namespace Go.Proofs.Ytehhhlhedmfdiaa.PFnExactFinalSweep
open Go.RowKit Go.Proofs.YtehhhlhedmfdiaaW.PrintWords Go.Proofs.YtehhhlhedmfdiaaW.PrintLast Go.Proofs.YtehhhlhedmfdiaaW.PrintMore
set_option linter.unusedVariables false
theorem upn {i : Int} (h0 : 0 ≤ i) (h : i < 4611686018427387904) : wrap64 (i + 1) = i + 1 := by unfold wrap64; omega

theorem eqInt_from (l : List Int) (hl : l.length ≤ 140737488355328) (d : Nat) : ∀ i : Int, 0 ≤ i → i ≤ l.length → (l.length : Int) - i = d → Ev (fun k => laws_eqIntS.l0 k l l i) true := by
  induction d with
  | zero => intro i h0 h1 hd; exact Ev.step (f := fun _ => some true) (fun k => by simp only [laws_eqIntS.l0]; rw [if_neg (by omega)]) (Ev.now _)
  | succ d ih =>
    intro i h0 h1 hd
    refine Ev.step (fun k => ?_) (ih (i + 1) (by omega) (by omega) (by omega))
    simp only [laws_eqIntS.l0]
    rw [if_pos (by omega), if_pos h0, if_pos (by omega)]
    simp only [if_true]
    rw [upn h0 (by omega)]
theorem eqInt_self (l : List Int) (hl : l.length ≤ 140737488355328) : Ev (fun k => laws_eqIntS.f k l l) true := by
  refine Ev.congr (fun k => ?_) (eqInt_from l hl l.length 0 (by omega) (by omega) (by omega))
  unfold laws_eqIntS.f
  rw [if_pos rfl]

def marks (a : Int) (n : Nat) : List Int := (List.range n).map fun (j : Nat) => a + (j : Int)
theorem marks_len (a : Int) (n : Nat) : (marks a n).length = n := by simp [marks]
theorem marks_succ (a : Int) (n : Nat) : marks a (n + 1) = a :: marks (a + 1) n := by
  unfold marks
  rw [List.range_succ_eq_map, List.map_cons, List.map_map]
  congr 1
  · simp
  · apply List.map_congr_left; intro j _; simp only [Function.comp, Nat.succ_eq_add_one]; omega
theorem mark_from (d : Nat) : ∀ (l : List Int) (a i : Int), l.length ≤ 140737488355328 → 0 ≤ a → a + d ≤ 4611686018427387000 → 0 ≤ i → i ≤ l.length → (l.length : Int) - i = d →
    Ev (fun k => laws_markIntS.l0 k l a i) (a + d, l.take i.toNat ++ marks a d) := by
  induction d with
  | zero =>
    intro l a i hl ha ha2 h0 h1 hd
    refine Ev.step (f := fun _ => some (a + ((0 : Nat) : Int), l.take i.toNat ++ marks a 0)) (fun k => ?_) (Ev.now _)
    simp only [laws_markIntS.l0]
    rw [if_neg (by omega), List.take_of_length_le (by omega)]
    simp [marks]
  | succ d ih =>
    intro l a i hl ha ha2 h0 h1 hd
    have hi : i.toNat < l.length := by omega
    have h := ih (l.set i.toNat a) (a + 1) (i + 1) (by rw [List.length_set]; exact hl) (by omega) (by omega) (by omega) (by rw [List.length_set]; omega) (by rw [List.length_set]; omega)
    have e : (l.set i.toNat a).take (i + 1).toNat ++ marks (a + 1) d = l.take i.toNat ++ marks a (d + 1) := by
      rw [marks_succ, show (i + 1).toNat = i.toNat + 1 from by omega, List.take_succ_eq_append_getElem (by rw [List.length_set]; exact hi), List.getElem_set_self, List.take_set_of_le (Nat.le_refl _), List.append_assoc]
      rfl
    rw [e, show a + 1 + (d : Int) = a + ((d + 1 : Nat) : Int) from by omega] at h
    refine Ev.step (fun k => ?_) h
    simp only [laws_markIntS.l0]
    rw [if_pos (by omega), if_pos h0, upn ha (by omega), upn h0 (by omega)]
theorem held_from (d : Nat) : ∀ (l : List Int) (a i : Int), l.length ≤ 140737488355328 → 0 ≤ a → a + d ≤ 4611686018427387000 → 0 ≤ i → i ≤ l.length → (l.length : Int) - i = d → l.drop i.toNat = marks a d →
    Ev (fun k => laws_heldIntS.l0 k l a i) (a + d) := by
  induction d with
  | zero =>
    intro l a i hl ha ha2 h0 h1 hd hm
    refine Ev.step (f := fun _ => some (a + ((0 : Nat) : Int))) (fun k => ?_) (Ev.now _)
    simp only [laws_heldIntS.l0]
    rw [if_neg (by omega)]
    simp
  | succ d ih =>
    intro l a i hl ha ha2 h0 h1 hd hm
    have hi : i.toNat < l.length := by omega
    rw [List.drop_eq_getElem_cons hi, marks_succ] at hm
    injection hm with hm1 hm2
    have h := ih l (a + 1) (i + 1) hl (by omega) (by omega) (by omega) (by omega) (by omega) (by rw [show (i + 1).toNat = i.toNat + 1 from by omega]; exact hm2)
    rw [show a + 1 + (d : Int) = a + ((d + 1 : Nat) : Int) from by omega] at h
    refine Ev.step (fun k => ?_) h
    have hr : rd l i = a := by
      unfold rd
      rw [List.getD_eq_getElem?_getD, List.getElem?_eq_getElem hi]
      exact hm1
    simp only [laws_heldIntS.l0]
    rw [if_pos (by omega), if_pos h0, if_pos hr, upn ha (by omega), upn h0 (by omega)]
/-- What markIntS leaves, from a on; and heldIntS finds it. -/
theorem mark_ev (l : List Int) (a : Int) (hl : l.length ≤ 140737488355328) (ha : 0 ≤ a) (ha2 : a + l.length ≤ 4611686018427387000) : Ev (fun k => laws_markIntS.f k l a) (a + l.length, marks a l.length) := by
  have h := mark_from l.length l a 0 hl ha ha2 (by omega) (by omega) (by omega)
  rw [show (0 : Int).toNat = 0 from rfl, List.take_zero, List.nil_append] at h
  exact h
theorem held_ev (n : Nat) (a : Int) (hl : n ≤ 140737488355328) (ha : 0 ≤ a) (ha2 : a + n ≤ 4611686018427387000) : Ev (fun k => laws_heldIntS.f k (marks a n) a) (a + n) :=
  held_from n (marks a n) a 0 (by rw [marks_len]; exact hl) ha ha2 (by omega) (by rw [marks_len]; omega) (by rw [marks_len]; omega) rfl
end Go.Proofs.Ytehhhlhedmfdiaa.PFnExactFinalSweep
