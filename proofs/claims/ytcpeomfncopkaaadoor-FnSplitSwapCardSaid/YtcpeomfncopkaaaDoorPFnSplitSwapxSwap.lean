/- TextSwap, the reference's and the program's: one and the same pair. -/
import Derived.Test.YtcpeomfncopkaaaDoorPFnSplitSwapxCut
import Derived.Lib.SmallJoins
namespace Go.Proofs.YtcpeomfncopkaaaDoor.PFnSplitSwap
open Go.RowKit Go.Proofs.YtcpeomfncopkaaaDoorW.PrintWords Go.Proofs.YtcpeomfncopkaaaDoorW.PrintLast Go.Proofs.YtcpeomfncopkaaaDoorW.PrintMore Go.Proofs.YtcpeomfncopkaaaDoor.Plain Go.Lib
set_option linter.unusedVariables false

theorem data_app (a b : ByteArray) : (a ++ b).data.toList = a.data.toList ++ b.data.toList := by
  rw [show (a ++ b).data = a.data ++ b.data from by simp, Array.toList_append]
theorem join_tail {l : List ByteArray} {q : ByteArray} (hl : l.length ≤ 1000) : ∀ (d i : Nat) (acc : ByteArray), 1 ≤ i → i ≤ l.length → l.length - i = d → acc.size + (joinTail q.data.toList (dat (l.drop i))).length ≤ 4611686018427387904 →
    Ev (fun k => spec_textJoin.l0 k l q acc (i : Int)) ⟨(acc.data.toList ++ joinTail q.data.toList (dat (l.drop i))).toArray⟩ := by
  intro d
  induction d with
  | zero =>
    intro i acc h1 hi hd hb
    refine Ev.step (f := fun _ => some acc) (fun k => ?_) (Ev.congr (f := fun _ => some acc) (fun _ => rfl) ?_)
    · simp only [spec_textJoin.l0]; rw [if_neg (by omega)]
    · have e : (⟨(acc.data.toList ++ joinTail q.data.toList (dat (l.drop i))).toArray⟩ : ByteArray) = acc := by
        rw [List.drop_eq_nil_of_le (by omega)]
        refine ext_of_data ?_
        simp [dat, joinTail]
      rw [e]; exact Ev.now _
  | succ d ih =>
    intro i acc h1 hi hd hb
    rw [partsB (show i < l.length by omega)] at hb ⊢
    generalize hx : rdOf ByteArray.empty l (i : Int) = x at hb ⊢
    have ej : joinTail q.data.toList (dat (x :: l.drop (i + 1))) = q.data.toList ++ (x.data.toList ++ joinTail q.data.toList (dat (l.drop (i + 1)))) := by simp [joinTail, dat, List.append_assoc]
    rw [ej] at hb ⊢
    simp only [List.length_append] at hb
    rw [← size_eq, ← size_eq] at hb
    have e : (⟨(acc.data.toList ++ (q.data.toList ++ (x.data.toList ++ joinTail q.data.toList (dat (l.drop (i + 1)))))).toArray⟩ : ByteArray) = ⟨(((acc ++ q) ++ x).data.toList ++ joinTail q.data.toList (dat (l.drop (i + 1)))).toArray⟩ := by
      rw [data_app, data_app]; simp [List.append_assoc]
    rw [e]
    refine Ev.step (fun k => ?_) (ih (i + 1) ((acc ++ q) ++ x) (by omega) (by omega) (by omega) (by rw [ByteArray.size_append, ByteArray.size_append]; omega))
    simp only [spec_textJoin.l0]
    rw [hx, if_pos (by omega), if_pos (by omega), if_pos (by omega), if_pos (by omega), if_pos (by rw [ByteArray.size_append]; omega), wn (by omega) (by omega)]
    rfl
theorem textJoin_ev {l : List ByteArray} {q : ByteArray} (hl : l.length ≤ 1000) (hb : (join (dat l) q.data.toList).length ≤ 4611686018427387904) : Ev (fun k => spec_textJoin.f k l q) (joinB l q) := by
  unfold spec_textJoin.f
  cases l with
  | nil => exact Ev.step (f := fun _ => some (joinB [] q)) (fun k => by simp only [spec_textJoin.l0]; rw [if_neg (by simp)]; rfl) (Ev.now _)
  | cons x r =>
    have e0 : rdOf ByteArray.empty (x :: r) 0 = x := rfl
    have es : (⟨#[]⟩ : ByteArray) ++ x = x := ext_of_data (by rw [data_app]; rfl)
    have hj : join (dat (x :: r)) q.data.toList = x.data.toList ++ joinTail q.data.toList (dat r) := join_cons _ _ _
    rw [hj, List.length_append, ← size_eq] at hb
    have h := join_tail (q := q) hl r.length 1 x (by omega) (by simp) (by simp) (by simpa using hb)
    have e : joinB (x :: r) q = ⟨(x.data.toList ++ joinTail q.data.toList (dat ((x :: r).drop 1))).toArray⟩ := by unfold joinB; rw [hj]; rfl
    rw [e]
    refine Ev.step (fun k => ?_) h
    simp only [spec_textJoin.l0]
    have h0 : (⟨#[]⟩ : ByteArray).size = 0 := rfl
    have hl2 : (0 : Int) < ((x :: r).length : Int) := by simp
    rw [e0, h0, if_pos hl2, if_neg (by omega), if_pos (by omega), if_pos (by omega), es, show wrap64 (0 + 1) = ((1 : Nat) : Int) from by unfold wrap64; decide]

def swapB (s p q : ByteArray) : ByteArray × Bool := if s.size ≤ 400 ∧ p.size ≤ 400 ∧ q.size ≤ 400 ∧ 1 ≤ p.size ∧ (joinB (pieces s p) q).size ≤ 400 then (joinB (pieces s p) q, true) else (⟨#[]⟩, false)
theorem swap_no {s p q : ByteArray} (h : ¬ (s.size ≤ 400 ∧ p.size ≤ 400 ∧ q.size ≤ 400 ∧ 1 ≤ p.size)) : swapB s p q = (⟨#[]⟩, false) := by unfold swapB; rw [if_neg (fun ⟨a, b, c, d, _⟩ => h ⟨a, b, c, d⟩)]

theorem specSwap_ev (s p q : ByteArray) : Ev (fun k => spec_TextSwap.f k s p q) (swapB s p q) := by
  have hno : ¬ (s.size ≤ 400 ∧ p.size ≤ 400 ∧ q.size ≤ 400 ∧ 1 ≤ p.size) → Ev (fun k => spec_TextSwap.j0 k s p q true) (swapB s p q) := fun h => by
    rw [swap_no h]; exact Ev.step (f := fun _ => some _) (fun k => by simp only [spec_TextSwap.j0]; exact if_pos trivial) (Ev.now _)
  unfold spec_TextSwap.f
  refine Ev.bind (valid_ev s) ?_
  by_cases h1 : s.size ≤ 400
  · refine Ev.yes (decide_eq_true h1) (Ev.bind (valid_ev p) ?_)
    by_cases h2 : p.size ≤ 400
    · refine Ev.yes (decide_eq_true h2) (Ev.bind (valid_ev q) ?_)
      by_cases h3 : q.size ≤ 400
      · refine Ev.yes (decide_eq_true h3) ?_
        by_cases h4 : 1 ≤ p.size
        · have hz : (p.toList == ([] : List UInt8)) = false := by rw [beq_eq_false_iff_ne]; intro h; have := toList_nil.1 h; omega
          rw [hz]
          have hr : swapB s p q = if (joinB (pieces s p) q).size ≤ 400 then (joinB (pieces s p) q, true) else (⟨#[]⟩, false) := by
            unfold swapB
            by_cases h : (joinB (pieces s p) q).size ≤ 400
            · rw [if_pos ⟨h1, h2, h3, h4, h⟩, if_pos h]
            · rw [if_neg (fun x => h x.2.2.2.2), if_neg h]
          rw [hr]
          refine Ev.step (f := fun k => (spec_textSplit.f k s p).bind fun t => ((spec_textJoin.f k t q).bind fun u => ((spec_validText.f u).bind fun b => (if b = true then (some (u, true)) else (some ((⟨#[]⟩ : ByteArray), false)))))) (fun k => by simp only [spec_TextSwap.j0]; exact if_neg (by decide)) ?_
          refine Ev.bind (textSplit_ev h4 h1 h2) (Ev.bind (textJoin_ev (by have := pl h4 h1; omega) (by have := jl h4 h1 h3; omega)) (Ev.bind (valid_ev _) ?_))
          by_cases h : (joinB (pieces s p) q).size ≤ 400
          · rw [if_pos h]; exact Ev.yes (decide_eq_true h) (Ev.now _)
          · rw [if_neg h]; exact Ev.no (by rw [decide_eq_false h]; decide) (Ev.now _)
        · have hz : (p.toList == ([] : List UInt8)) = true := by rw [beq_iff_eq]; exact toList_nil.2 (by omega)
          rw [hz]; exact hno (fun x => h4 x.2.2.2)
      · exact Ev.no (by rw [decide_eq_false h3]; decide) (hno (fun x => h3 x.2.2.1))
    · exact Ev.no (by rw [decide_eq_false h2]; decide) (hno (fun x => h2 x.2.1))
  · exact Ev.no (by rw [decide_eq_false h1]; decide) (hno (fun x => h1 x.1))

theorem implSwap_ev (s p q : ByteArray) : Ev (fun k => impl_TextSwap.f k s p q) (swapB s p q) := by
  have hno : ¬ (s.size ≤ 400 ∧ p.size ≤ 400 ∧ q.size ≤ 400 ∧ 1 ≤ p.size) → Ev (fun k => impl_TextSwap.j0 k s p q true) (swapB s p q) := fun h => by
    rw [swap_no h]; exact Ev.step (f := fun _ => some _) (fun k => by simp only [impl_TextSwap.j0]; exact if_pos trivial) (Ev.now _)
  unfold impl_TextSwap.f
  by_cases h4 : 1 ≤ p.size
  · refine Ev.no (fun h => by have := toList_nil.1 h; omega) (Ev.bind (shortTexts_ev (l := [s, p, q]) (by simp)) ?_)
    by_cases hall : s.size ≤ 400 ∧ p.size ≤ 400 ∧ q.size ≤ 400
    · obtain ⟨h1, h2, h3⟩ := hall
      have hz : ([s, p, q].all fun x => decide (x.size ≤ 400)) = true := by simp [h1, h2, h3]
      rw [hz]
      have hr : swapB s p q = if (joinB (pieces s p) q).size ≤ 400 then (joinB (pieces s p) q, true) else (⟨#[]⟩, false) := by
        unfold swapB
        by_cases h : (joinB (pieces s p) q).size ≤ 400
        · rw [if_pos ⟨h1, h2, h3, h4, h⟩, if_pos h]
        · rw [if_neg (fun x => h x.2.2.2.2), if_neg h]
      rw [hr]
      refine Ev.step (f := fun k => (impl_shortTexts.f k [joinB (pieces s p) q]).bind fun b => (if b = true then (some (joinB (pieces s p) q, true)) else (some ((⟨#[]⟩ : ByteArray), false)))) (fun k => ?_) ?_
      · simp only [impl_TextSwap.j0]
        rw [if_neg (by decide), split_now h1 h4]
        show (strings_Join.f (pieces s p) q).bind _ = _
        rw [join_now (by have := pl h4 h1; omega) (jl h4 h1 h3)]
        rfl
      · refine Ev.bind (shortTexts_ev (l := [joinB (pieces s p) q]) (by simp)) ?_
        by_cases h : (joinB (pieces s p) q).size ≤ 400
        · rw [if_pos h]; exact Ev.yes (by simp [h]) (Ev.now _)
        · rw [if_neg h]; exact Ev.no (by simp [h]) (Ev.now _)
    · have hz : ([s, p, q].all fun x => decide (x.size ≤ 400)) = false := by
        rw [Bool.eq_false_iff]; intro h; apply hall; simpa using h
      rw [hz]
      exact hno (fun x => hall ⟨x.1, x.2.1, x.2.2.1⟩)
  · refine Ev.yes (toList_nil.2 (by omega)) (hno (fun x => h4 x.2.2.2))
end Go.Proofs.YtcpeomfncopkaaaDoor.PFnSplitSwap
