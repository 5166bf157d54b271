/- TextSplit, in plain Lean. -/
import Derived.Test.YtcpeomfncopkaaaDoorPFnTextSplitxParts
namespace Go.Proofs.YtcpeomfncopkaaaDoor.PFnTextSplit
open Go.RowKit Go.Proofs.YtcpeomfncopkaaaDoorW.PrintWords Go.Proofs.YtcpeomfncopkaaaDoorW.PrintLast Go.Proofs.YtcpeomfncopkaaaDoorW.PrintMore Go.Proofs.YtcpeomfncopkaaaDoor.Plain Go.Lib
set_option linter.unusedVariables false
theorem draw_ev (l : List Int) (h : ∀ x ∈ l, (Lit.int .u8 x).wf = true) : ∃ s p, Ev (fun k => spec_DrawTextSplit.f k l) (s, p) := by
  obtain ⟨c, e0, hb, _⟩ := newRnd_ok l h
  obtain ⟨s, p1, e1, a1, b1⟩ := text_ev hb (pos := 0) (by omega) (by omega)
  obtain ⟨u, p2, e2, a2, b2⟩ := text_ev hb (pos := p1) (by omega) (by omega)
  obtain ⟨p, p3, e3, _, a3, b3⟩ := of_ok hb (pos := p2) (by omega) (by omega) (l := [(⟨#[97]⟩ : ByteArray), (⟨#[98]⟩ : ByteArray), (⟨#[97, 98]⟩ : ByteArray), (⟨#[98, 97]⟩ : ByteArray), (⟨#[]⟩ : ByteArray), (⟨#[32]⟩ : ByteArray), u]) (by simp)
  refine ⟨s, p, ?_⟩
  unfold spec_DrawTextSplit.f
  exact Ev.bind (Ev.told e0) (Ev.bind e1 (Ev.bind e2 (Ev.bind (Ev.told e3) (Ev.now _))))
theorem specSplit_ev (s p : ByteArray) : Ev (fun k => spec_TextSplit.f k s p) (splitAllB s p) := by
  unfold spec_TextSplit.f
  refine Ev.bind (valid_ev s) ?_
  by_cases h1 : s.size ≤ 400
  · refine Ev.yes (decide_eq_true h1) (Ev.bind (valid_ev p) ?_)
    by_cases h2 : p.size ≤ 400
    · refine Ev.yes (decide_eq_true h2) ?_
      by_cases h4 : 1 ≤ p.size
      · rw [show splitAllB s p = pieces s p from if_pos ⟨h1, h2, h4⟩]
        exact Ev.no (fun h => by have := toList_nil.1 h; omega) (Ev.bind (textSplit_ev h4 h1 h2) (Ev.now _))
      · rw [show splitAllB s p = [] from if_neg (fun x => h4 x.2.2)]
        exact Ev.yes (toList_nil.2 (by omega)) (Ev.now _)
    · rw [show splitAllB s p = [] from if_neg (fun x => h2 x.2.1)]
      exact Ev.no (by rw [decide_eq_false h2]; decide) (Ev.now _)
  · rw [show splitAllB s p = [] from if_neg (fun x => h1 x.1)]
    exact Ev.no (by rw [decide_eq_false h1]; decide) (Ev.now _)
theorem splitAll_len (s p : ByteArray) : (splitAllB s p).length ≤ 401 := by
  unfold splitAllB
  split
  · rename_i h; exact pl h.2.2 h.1
  · simp
theorem same_ev {l : List ByteArray} (hl : l.length ≤ 1000) : ∀ (d i : Nat), i ≤ l.length → l.length - i = d → Ev (fun k => spec_sameTexts.l0 k l l (i : Int)) true := by
  intro d
  induction d with
  | zero =>
    intro i hi hd
    exact Ev.step (f := fun _ => some true) (fun k => by simp only [spec_sameTexts.l0]; rw [if_neg (by omega)]) (Ev.now _)
  | succ d ih =>
    intro i hi hd
    refine Ev.step (fun k => ?_) (ih (i + 1) (by omega) (by omega))
    simp only [spec_sameTexts.l0]
    rw [if_pos (by omega), if_pos (by omega), if_pos (by omega), if_pos trivial, wn (by omega) (by omega)]
    rfl
theorem sameTexts_ev {l : List ByteArray} (hl : l.length ≤ 1000) : Ev (fun k => spec_SameTexts.f k l l) true := by
  unfold spec_SameTexts.f
  refine Ev.bind (a := true) ?_ (Ev.now _)
  unfold spec_sameTexts.f
  exact Ev.yes rfl (same_ev hl l.length 0 (by omega) (by omega))
theorem implFind_ev {x p : ByteArray} (hx : x.size ≤ 400) (hp : p.size ≤ 400) (h : indexB x p = -1) : Ev (fun k => impl_TextFind.f k x p) (-1) := by
  unfold impl_TextFind.f
  refine Ev.bind (shortTexts_ev (l := [x, p]) (by simp)) (Ev.yes (by simp [hx, hp]) ?_)
  have e : strings_Index.f x p = some (-1) := by
    unfold strings_Index.f; rw [if_pos (by omega)]; exact congrArg some h
  rw [e]; exact Ev.now _
theorem finds_ev {s p : ByteArray} {l : List ByteArray} (hl : l.length ≤ 1000) (hp : p.size ≤ 400) (hx : ∀ x ∈ l, x.size ≤ 400 ∧ indexB x p = -1) :
    ∀ (d i : Nat), i ≤ l.length → l.length - i = d → Ev (fun k => laws_FnTextSplit.l0 k s p l s true (i : Int)) true := by
  intro d
  induction d with
  | zero =>
    intro i hi hd
    refine Ev.step (f := fun _ => some true) (fun k => ?_) (Ev.now _)
    simp only [laws_FnTextSplit.l0]
    rw [if_neg (by omega), if_pos trivial, beq_self_eq_true]
  | succ d ih =>
    intro i hi hd
    have hm : rdOf ByteArray.empty l (i : Int) ∈ l := by
      have := partsB (l := l) (i := i) (by omega)
      exact List.mem_of_mem_drop (i := i) (by rw [this]; exact List.mem_cons_self)
    obtain ⟨h1, h2⟩ := hx _ hm
    refine Ev.step (fun k => ?_) (Ev.bind (f := fun k t => if t ≥ 0 then (some false) else (laws_FnTextSplit.l0 k s p l s true (wrap64 ((i : Int) + 1)))) (implFind_ev h1 hp h2) (Ev.no (by omega) (Ev.congr (fun k => ?_) (ih (i + 1) (by omega) (by omega)))))
    · simp only [laws_FnTextSplit.l0]
      rw [if_pos (by omega), if_pos (by omega)]
    · rw [wn (by omega) (by omega)]; rfl
end Go.Proofs.YtcpeomfncopkaaaDoor.PFnTextSplit
namespace Go.Proofs.YtcpeomfncopkaaaDoor.Pure
open Go.RowKit Go.Proofs.YtcpeomfncopkaaaDoorW.PrintWords Go.Proofs.YtcpeomfncopkaaaDoor.PFnTextSplit Go.Proofs.YtcpeomfncopkaaaDoor.Plain
theorem FnTextSplit : laws_FnTextSplit.Pure := by
  intro l _ _ hwf
  refine Ev.rounds (r := true) ?_
  unfold laws_FnTextSplit.f
  by_cases h1 : (l.length : Int) > 1048576
  · exact Ev.yes h1 (Ev.now _)
  refine Ev.no h1 ?_
  obtain ⟨s, p, hd⟩ := draw_ev l hwf
  refine Ev.bind hd (Ev.bind (implSplit_ev s p) (Ev.bind (specSplit_ev s p) (Ev.bind (sameTexts_ev (by have := splitAll_len s p; omega)) (Ev.yes rfl ?_))))
  show Ev (fun k => laws_FnTextSplit.j0 k s p (splitAllB s p) true (((splitAllB s p).length : Int) == 0)) true
  by_cases hc : s.size ≤ 400 ∧ p.size ≤ 400 ∧ 1 ≤ p.size
  · have hr : splitAllB s p = pieces s p := if_pos hc
    rw [hr]
    have hne := pieces_ne s p hc.2.2
    have hz : (((pieces s p).length : Int) == 0) = false := by
      rw [beq_eq_false_iff_ne]
      intro h
      exact hne (List.length_eq_zero_iff.1 (by omega))
    rw [hz]
    have hj : joinB (pieces s p) p = s := joinB_pieces s p hc.2.2
    have e2 := implJoin_pieces (s := s) (p := p) (q := p) hc.1 hc.2.1 hc.2.1 hc.2.2 (by rw [hj]; exact hc.1)
    rw [hj] at e2
    have hlen := pl hc.2.2 hc.1
    refine Ev.step (fun k => by simp only [laws_FnTextSplit.j0]; exact if_neg (by decide)) (Ev.bind e2 ?_)
    exact finds_ev (by omega) hc.2.1 (fun x hx => ⟨by have := pieces_size p hc.2.2 s.size s (Nat.le_refl _) x hx; omega, pieces_no p hc.2.2 s.size s (Nat.le_refl _) x hx⟩) (pieces s p).length 0 (by omega) (by omega)
  · have hr : splitAllB s p = [] := if_neg hc
    rw [hr]
    exact Ev.step (f := fun _ => some true) (fun k => by simp only [laws_FnTextSplit.j0]; exact if_pos rfl) (Ev.now _)
end Go.Proofs.YtcpeomfncopkaaaDoor.Pure
