/- The two work lists (one from the front, one from the back) mark the same nodes: those that are reached. -/
import Derived.Test.YtehhhlhedmfdiaaReach
import Derived.Test.YtehhhlhedmfdiaaPFnExactFinalSweepx2
import Derived.Test.YtehhhlhedmfdiaaPFnExactFinalSweepx4
import Derived.Test.YtehhhlhedmfdiaaPFnExactFinalSweepxClone
namespace Go.Proofs.Ytehhhlhedmfdiaa.PFnExactFinalSweep
open Go.RowKit Go.Proofs.YtehhhlhedmfdiaaW.PrintWords Go.Proofs.YtehhhlhedmfdiaaW.PrintLast Go.Proofs.YtehhhlhedmfdiaaW.PrintMore Go.Proofs.Ytehhhlhedmfdiaa.Plain
set_option linter.unusedVariables false

theorem wr1 {i : Int} (h0 : 0 ≤ i) (h : i < 4611686018427387904) : wrap64 (i + 1) = i + 1 := by unfold wrap64; omega
theorem wrs {i : Int} (h0 : -4611686018427387904 ≤ i) (h : i < 4611686018427387904) : wrap64 i = i := by unfold wrap64; omega
theorem rd_mem {l : List Int} {i : Int} (h0 : 0 ≤ i) (h : i < (l.length : Int)) : rd l i ∈ l.drop i.toNat := by
  have hl : i.toNat < l.length := by omega
  unfold rd
  rw [List.getD_eq_getElem?_getD, List.getElem?_eq_getElem hl, List.drop_eq_getElem_cons hl]
  exact List.mem_cons_self
theorem drop_parts {l : List Int} {i : Int} (h0 : 0 ≤ i) (h : i < (l.length : Int)) : l.drop i.toNat = rd l i :: l.drop (i + 1).toNat := by
  have hl : i.toNat < l.length := by omega
  unfold rd
  rw [List.getD_eq_getElem?_getD, List.getElem?_eq_getElem hl, List.drop_eq_getElem_cons hl, show (i + 1).toNat = i.toNat + 1 from by omega]
  rfl
theorem rdOf_mkd (seen : List Bool) (v : Int) : rdOf false seen v = mkd seen v := rfl
theorem blank_take {seen : List Bool} {v : Int} (hi : InR seen.length v) (hm : ¬ mkd seen v = true) : nblank (seen.set v.toNat true) + 1 = nblank seen :=
  blank_set (by have := hi.1; have := hi.2; omega) (by unfold mkd at hm; simpa using hm)

theorem bfs {refs : List (List Int)} {roots : List Int} (hg : Graph refs) (D B : Nat) (hD : ∀ v, (outs refs v).length ≤ D) (hB : B < 17592186044416) (m : Nat) :
    ∀ (seen : List Bool) (todo : List Int) (i : Int), 0 ≤ i → i ≤ todo.length → (todo.length - i.toNat) + nblank seen * (D + 1) ≤ m → todo.length + nblank seen * D ≤ B →
      Work refs roots seen (todo.drop i.toNat) → ∃ out, Ev (fun k => spec_marked.l0 k refs seen todo i) out ∧ Work refs roots out [] := by
  induction m with
  | zero =>
    intro seen todo i h0 h1 hm hb hw
    refine ⟨seen, Ev.step (f := fun _ => some seen) (fun k => ?_) (Ev.now _), ?_⟩
    · simp only [spec_marked.l0]; rw [if_neg (by omega)]
    · rw [List.drop_eq_nil_of_le (by omega)] at hw; exact hw
  | succ m ih =>
    intro seen todo i h0 h1 hm hb hw
    by_cases hi : i < (todo.length : Int)
    · have hp := drop_parts h0 hi
      have hv : rd todo i ∈ todo.drop i.toNat := rd_mem h0 hi
      have hin : InR refs.length (rd todo i) := hw.ok _ hv
      have hin2 : InR seen.length (rd todo i) := by rw [hw.len]; exact hin
      have hwr : wrap64 (i + 1) = i + 1 := wr1 h0 (by omega)
      by_cases hmk : mkd seen (rd todo i) = true
      · obtain ⟨out, he, hwk⟩ := ih seen todo (i + 1) (by omega) (by omega) (by omega) hb (hw.drop hmk (fun x hx => by rw [hp]; exact List.mem_cons_of_mem _ hx) (fun x hx => by rw [hp] at hx; exact List.mem_cons.1 hx))
        refine ⟨out, Ev.step (fun k => ?_) he, hwk⟩
        simp only [spec_marked.l0]
        rw [if_pos hi, if_pos h0, if_pos hin.1, if_pos hin2.2, rdOf_mkd, if_pos hmk, hwr]
      · have hbl := blank_take hin2 hmk
        have hd := hD (rd todo i)
        have hlen : (todo ++ outs refs (rd todo i)).length = todo.length + (outs refs (rd todo i)).length := List.length_append
        have hmul : nblank seen * D = nblank (seen.set (rd todo i).toNat true) * D + D := by rw [← hbl, Nat.succ_mul]
        have hmul2 : nblank seen * (D + 1) = nblank (seen.set (rd todo i).toNat true) * (D + 1) + (D + 1) := by rw [← hbl, Nat.succ_mul]
        obtain ⟨out, he, hwk⟩ := ih (seen.set (rd todo i).toNat true) (todo ++ outs refs (rd todo i)) (i + 1) (by omega) (by omega) (by omega) (by omega)
          (hw.take hg hv
            (fun x hx => by
              rw [List.drop_append_of_le_length (by omega)] at hx
              exact (List.mem_append.1 hx).imp (fun h => by rw [hp]; exact List.mem_cons_of_mem _ h) id)
            (fun x hx => by
              rw [hp] at hx
              refine (List.mem_cons.1 hx).imp id (fun h => ?_)
              rw [List.drop_append_of_le_length (by omega)]
              exact List.mem_append_left _ h)
            (fun x hx => by rw [List.drop_append_of_le_length (by omega)]; exact List.mem_append_right _ hx))
        refine ⟨out, Ev.step (fun k => ?_) he, hwk⟩
        simp only [spec_marked.l0]
        rw [if_pos hi, if_pos h0, if_pos hin.1, if_pos hin2.2, rdOf_mkd, if_neg hmk, if_pos hin.2, show rd_L1 refs (rd todo i) = outs refs (rd todo i) from rfl, if_pos (show todo.length + (outs refs (rd todo i)).length < 17592186044416 from by omega), hwr]
    · refine ⟨seen, Ev.step (f := fun _ => some seen) (fun k => ?_) (Ev.now _), ?_⟩
      · simp only [spec_marked.l0]; rw [if_neg hi]
      · rw [List.drop_eq_nil_of_le (by omega)] at hw; exact hw

theorem take_parts {l : List Int} (h : 0 < l.length) : l = l.take (l.length - 1) ++ [rd l ((l.length : Int) - 1)] := by
  have hl : l.length - 1 < l.length := by omega
  have e : ((l.length : Int) - 1).toNat = l.length - 1 := by omega
  unfold rd
  rw [e, List.getD_eq_getElem?_getD, List.getElem?_eq_getElem hl]
  show l = l.take (l.length - 1) ++ [l[l.length - 1]]
  rw [← List.take_succ_eq_append_getElem hl, List.take_of_length_le (by omega)]

theorem dfs {refs : List (List Int)} {roots : List Int} (hg : Graph refs) (D B : Nat) (hD : ∀ v, (outs refs v).length ≤ D) (hB : B < 17592186044416) (m : Nat) :
    ∀ (seen : List Bool) (todo : List Int), todo.length + nblank seen * (D + 1) ≤ m → todo.length + nblank seen * D ≤ B →
      Work refs roots seen todo → ∃ out, Ev (fun k => impl_reached.l0 k refs seen todo) out ∧ Work refs roots out [] := by
  induction m with
  | zero =>
    intro seen todo hm hb hw
    refine ⟨seen, Ev.step (f := fun _ => some seen) (fun k => ?_) (Ev.now _), ?_⟩
    · simp only [impl_reached.l0]; rw [if_neg (by omega)]
    · rw [List.eq_nil_of_length_eq_zero (by omega : todo.length = 0)] at hw; exact hw
  | succ m ih =>
    intro seen todo hm hb hw
    by_cases hi : (todo.length : Int) > 0
    · have hlp : 0 < todo.length := by omega
      have hp := take_parts hlp
      have hv : rd todo ((todo.length : Int) - 1) ∈ todo := by
        have h := List.mem_append_right (todo.take (todo.length - 1)) (List.mem_singleton.2 (rfl : rd todo ((todo.length : Int) - 1) = rd todo ((todo.length : Int) - 1)))
        rw [← hp] at h
        exact h
      have hin : InR refs.length (rd todo ((todo.length : Int) - 1)) := hw.ok _ hv
      have hin2 : InR seen.length (rd todo ((todo.length : Int) - 1)) := by rw [hw.len]; exact hin
      have hwr : wrap64 ((todo.length : Int) - 1) = (todo.length : Int) - 1 := wrs (by omega) (by omega)
      have htn : ((todo.length : Int) - 1).toNat = todo.length - 1 := by omega
      have hsub : ∀ x ∈ todo.take (todo.length - 1), x ∈ todo := fun x hx => List.mem_of_mem_take hx
      have hor : ∀ x ∈ todo, x = rd todo ((todo.length : Int) - 1) ∨ x ∈ todo.take (todo.length - 1) := fun x hx => by
        have hx2 : x ∈ todo.take (todo.length - 1) ++ [rd todo ((todo.length : Int) - 1)] := by rw [← hp]; exact hx
        rcases List.mem_append.1 hx2 with h | h
        · exact .inr h
        · exact .inl (List.mem_singleton.1 h)
      have htl : (todo.take (todo.length - 1)).length = todo.length - 1 := by rw [List.length_take]; omega
      by_cases hmk : mkd seen (rd todo ((todo.length : Int) - 1)) = true
      · obtain ⟨out, he, hwk⟩ := ih seen (todo.take (todo.length - 1)) (by omega) (by omega) (hw.drop hmk hsub hor)
        refine ⟨out, Ev.step (fun k => ?_) he, hwk⟩
        simp only [impl_reached.l0, hwr]
        rw [if_pos hi, if_pos (by omega), if_pos (by omega), if_pos (by omega)]
        simp only [Option.bind_some]
        rw [if_pos hin.1, if_pos hin2.2, rdOf_mkd, if_pos hmk, htn]
      · have hbl := blank_take hin2 hmk
        have hd := hD (rd todo ((todo.length : Int) - 1))
        have hlen : (todo.take (todo.length - 1) ++ outs refs (rd todo ((todo.length : Int) - 1))).length = (todo.length - 1) + (outs refs (rd todo ((todo.length : Int) - 1))).length := by rw [List.length_append, htl]
        have hmul : nblank seen * D = nblank (seen.set (rd todo ((todo.length : Int) - 1)).toNat true) * D + D := by rw [← hbl, Nat.succ_mul]
        have hmul2 : nblank seen * (D + 1) = nblank (seen.set (rd todo ((todo.length : Int) - 1)).toNat true) * (D + 1) + (D + 1) := by rw [← hbl, Nat.succ_mul]
        obtain ⟨out, he, hwk⟩ := ih (seen.set (rd todo ((todo.length : Int) - 1)).toNat true) (todo.take (todo.length - 1) ++ outs refs (rd todo ((todo.length : Int) - 1))) (by omega) (by omega)
          (hw.take hg hv (fun x hx => (List.mem_append.1 hx).imp (hsub x) id) (fun x hx => (hor x hx).imp id (fun h => List.mem_append_left _ h)) (fun x hx => List.mem_append_right _ hx))
        refine ⟨out, Ev.step (fun k => ?_) he, hwk⟩
        simp only [impl_reached.l0, hwr]
        rw [if_pos hi, if_pos (by omega), if_pos (by omega), if_pos (by omega)]
        simp only [Option.bind_some]
        rw [if_pos hin.1, if_pos hin2.2, rdOf_mkd, if_neg hmk, if_pos hin.2, htn, show rd_L1 refs (rd todo ((todo.length : Int) - 1)) = outs refs (rd todo ((todo.length : Int) - 1)) from rfl, if_pos (show (todo.take (todo.length - 1)).length + (outs refs (rd todo ((todo.length : Int) - 1))).length < 17592186044416 from by omega)]
    · refine ⟨seen, Ev.step (f := fun _ => some seen) (fun k => ?_) (Ev.now _), ?_⟩
      · simp only [impl_reached.l0]; rw [if_neg hi]
      · rw [List.eq_nil_of_length_eq_zero (by omega : todo.length = 0)] at hw; exact hw

/-- Both functions, at a graph and roots of it: one list of marks. -/
theorem marks_same {refs : List (List Int)} {roots : List Int} (hg : Graph refs) (hr : AllIn refs.length roots) (D : Nat) (hD : ∀ v, (outs refs v).length ≤ D) (hB : roots.length + refs.length * D < 17592186044416) (hn : refs.length ≤ 281474976710656) :
    ∃ out, Ev (fun k => spec_marked.f k refs roots) out ∧ Ev (fun k => impl_reached.f k refs roots) out ∧ Work refs roots out [] := by
  have h0 := Work.start hr
  obtain ⟨o1, e1, w1⟩ := bfs hg D _ hD hB _ (List.replicate refs.length false) roots 0 (by omega) (by omega) (Nat.le_refl _) (by rw [blank_nil]; exact Nat.le_refl _) (by simpa using h0)
  obtain ⟨o2, e2, w2⟩ := dfs hg D _ hD hB _ (List.replicate refs.length false) roots (Nat.le_refl _) (by rw [blank_nil]; exact Nat.le_refl _) h0
  have e := done_same hr hg w1 w2
  subst e
  refine ⟨o1, Ev.congr (fun k => ?_) e1, Ev.congr (fun k => ?_) e2, w1⟩
  · unfold spec_marked.f
    rw [if_pos (by omega), if_pos (by omega)]
    simp only [Option.bind_some, List.length_nil, List.nil_append, Int.toNat_natCast]
    rw [if_pos (by have := Nat.zero_le (refs.length * D); omega)]
  · unfold impl_reached.f slices_Clone_int_int.f
    rw [if_pos (by omega), if_pos (by omega), if_pos (by have := Nat.zero_le (refs.length * D); omega)]
    simp only [Option.bind_some, Int.toNat_natCast]
end Go.Proofs.Ytehhhlhedmfdiaa.PFnExactFinalSweep
