/- Two lists of marked places: the reference's and the program's are one. -/
import Derived.Test.YtehhhlhedmfdiaaPFnExactFinalSweepx2
import Derived.Test.YtehhhlhedmfdiaaPFnExactFinalSweepx4
namespace Go.Proofs.Ytehhhlhedmfdiaa.PFnExactFinalSweep
open Go.RowKit Go.Proofs.YtehhhlhedmfdiaaW.PrintWords Go.Proofs.YtehhhlhedmfdiaaW.PrintLast Go.Proofs.YtehhhlhedmfdiaaW.PrintMore
set_option linter.unusedVariables false
theorem upi {i : Int} (h0 : 0 ≤ i) (h : i < 4611686018427387904) : wrap64 (i + 1) = i + 1 := by unfold wrap64; omega
theorem idx_from (l : List Bool) (b : Bool) (hl : l.length ≤ 1048576) (d : Nat) : ∀ (acc : List Int) (i : Int), acc.length ≤ i.toNat → 0 ≤ i → i ≤ l.length → (l.length : Int) - i = d →
    ∃ r : List Int, Ev (fun k => spec_indices.l0 k l b acc i) r ∧ Ev (fun k => impl_marked.l0 k b acc l (l.length : Int) i) r ∧ r.length ≤ acc.length + d := by
  induction d with
  | zero =>
    intro acc i ha h0 h1 hd
    refine ⟨acc, Ev.step (f := fun _ => some acc) (fun k => ?_) (Ev.now _), Ev.step (f := fun _ => some acc) (fun k => ?_) (Ev.now _), Nat.le_refl _⟩
    · simp only [spec_indices.l0]; rw [if_neg (by omega)]
    · simp only [impl_marked.l0]; rw [if_neg (by omega)]
  | succ d ih =>
    intro acc i ha h0 h1 hd
    have hi : i < (l.length : Int) := by omega
    by_cases hb : ((rdOf false l i) == b) = true
    · obtain ⟨r, e1, e2, hr⟩ := ih (acc ++ [i]) (i + 1) (by rw [List.length_append, List.length_singleton]; omega) (by omega) (by omega) (by omega)
      refine ⟨r, Ev.step (fun k => ?_) e1, Ev.step (fun k => ?_) e2, by rw [List.length_append, List.length_singleton] at hr; omega⟩
      · simp only [spec_indices.l0]; rw [if_pos hi, if_pos h0, if_pos hb, if_pos (by omega), upi h0 (by omega)]
      · simp only [impl_marked.l0]; rw [if_pos hi, if_pos h0, if_pos hi, if_pos hb, if_pos (by omega), upi h0 (by omega)]
    · obtain ⟨r, e1, e2, hr⟩ := ih acc (i + 1) (by omega) (by omega) (by omega) (by omega)
      refine ⟨r, Ev.step (fun k => ?_) e1, Ev.step (fun k => ?_) e2, by omega⟩
      · simp only [spec_indices.l0]; rw [if_pos hi, if_pos h0, if_neg hb, upi h0 (by omega)]
      · simp only [impl_marked.l0]; rw [if_pos hi, if_pos h0, if_pos hi, if_neg hb, upi h0 (by omega)]
theorem idx_same (l : List Bool) (b : Bool) (hl : l.length ≤ 1048576) : ∃ r : List Int, Ev (fun k => spec_indices.f k l b) r ∧ Ev (fun k => impl_marked.f k l b) r ∧ r.length ≤ l.length := by
  obtain ⟨r, e1, e2, hr⟩ := idx_from l b hl l.length [] 0 (by simp) (by omega) (by omega) (by omega)
  exact ⟨r, e1, e2, by simpa using hr⟩
end Go.Proofs.Ytehhhlhedmfdiaa.PFnExactFinalSweep
