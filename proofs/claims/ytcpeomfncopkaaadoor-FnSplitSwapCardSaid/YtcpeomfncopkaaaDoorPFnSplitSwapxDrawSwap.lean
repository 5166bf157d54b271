/- What the draw of TextSwap comes to: some three texts. -/
import Derived.Test.YtcpeomfncopkaaaDoorPFnSplitSwapxParts
import Derived.Test.YtcpeomfncopkaaaDoorPFnSplitSwapxSwap
namespace Go.Proofs.YtcpeomfncopkaaaDoor.PFnSplitSwap
open Go.RowKit Go.Proofs.YtcpeomfncopkaaaDoorW.PrintWords Go.Proofs.YtcpeomfncopkaaaDoorW.PrintLast Go.Proofs.YtcpeomfncopkaaaDoorW.PrintMore Go.Proofs.YtcpeomfncopkaaaDoor.Plain Go.Lib
set_option linter.unusedVariables false
theorem swap_yes {s p q : ByteArray} (h : (swapB s p q).2 = true) : (s.size ≤ 400 ∧ p.size ≤ 400 ∧ q.size ≤ 400 ∧ 1 ≤ p.size ∧ (joinB (pieces s p) q).size ≤ 400) ∧ swapB s p q = (joinB (pieces s p) q, true) := by
  unfold swapB at h ⊢
  split
  · rename_i hc; exact ⟨hc, rfl⟩
  · rename_i hc; rw [if_neg hc] at h; cases h
theorem swap_self {s p : ByteArray} (hs : s.size ≤ 400) (hp4 : p.size ≤ 400) (hp : 1 ≤ p.size) : swapB s p p = (s, true) := by
  unfold swapB; rw [joinB_pieces s p hp, if_pos ⟨hs, hp4, hp4, hp, hs⟩]
theorem draw_ev (l : List Int) (h : ∀ x ∈ l, (Lit.int .u8 x).wf = true) : ∃ s p q, Ev (fun k => spec_DrawTextSwap.f k l) (s, p, q) := by
  obtain ⟨c, e0, hb, _⟩ := newRnd_ok l h
  obtain ⟨s, p1, e1, a1, b1⟩ := text_ev hb (pos := 0) (by omega) (by omega)
  obtain ⟨p, p2, e2, _, a2, b2⟩ := of_ok hb (pos := p1) (by omega) (by omega) (l := [(⟨#[97]⟩ : ByteArray), (⟨#[97, 98]⟩ : ByteArray), (⟨#[98]⟩ : ByteArray), (⟨#[]⟩ : ByteArray)]) (by simp)
  obtain ⟨u, p3, e3, a3, b3⟩ := text_ev hb (pos := p2) (by omega) (by omega)
  obtain ⟨q, p4, e4, _, a4, b4⟩ := of_ok hb (pos := p3) (by omega) (by omega) (l := [(⟨#[]⟩ : ByteArray), (⟨#[98]⟩ : ByteArray), (⟨#[97, 97]⟩ : ByteArray), u]) (by simp)
  refine ⟨s, p, q, ?_⟩
  unfold spec_DrawTextSwap.f
  exact Ev.bind (Ev.told e0) (Ev.bind e1 (Ev.bind (Ev.told e2) (Ev.bind e3 (Ev.bind (Ev.told e4) (Ev.now _)))))
end Go.Proofs.YtcpeomfncopkaaaDoor.PFnSplitSwap
