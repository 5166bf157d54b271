/- SplitSwap, in plain Lean. -/
import Derived.Test.YtcpeomfncopkaaaDoorPFnSplitSwapxDrawSwap
namespace Go.Proofs.YtcpeomfncopkaaaDoor.Pure
open Go.RowKit Go.Proofs.YtcpeomfncopkaaaDoorW.PrintWords Go.Proofs.YtcpeomfncopkaaaDoor.PFnSplitSwap Go.Proofs.YtcpeomfncopkaaaDoor.Plain
theorem FnSplitSwap : laws_FnSplitSwap.Pure := by
  intro l _ _ hwf
  refine Ev.rounds (r := true) ?_
  unfold laws_FnSplitSwap.f
  by_cases h1 : (l.length : Int) > 1048576
  · exact Ev.yes h1 (Ev.now _)
  refine Ev.no h1 ?_
  obtain ⟨s, p, q, hd⟩ := draw_ev l hwf
  refine Ev.bind hd (Ev.bind (implSwap_ev s p q) (Ev.bind (specSwap_ev s p q) (Ev.yes rfl (Ev.no (by simp) ?_))))
  show Ev (fun k => laws_FnSplitSwap.j0 k s p q (swapB s p q).1 (swapB s p q).2 (swapB s p q).1 (swapB s p q).2 (!(swapB s p q).2)) true
  by_cases ht : (swapB s p q).2 = true
  · obtain ⟨⟨hs, hp4, hq, hp, hj⟩, he⟩ := swap_yes ht
    have e2 := implSplit_ev s p
    unfold splitAllB at e2
    rw [if_pos ⟨hs, hp4, hp⟩] at e2
    rw [he]
    refine Ev.step (fun k => by simp only [laws_FnSplitSwap.j0]; exact if_neg (by decide)) (Ev.bind e2 (Ev.bind (implJoin_pieces hs hp4 hq hp hj) (Ev.yes rfl ?_)))
    rw [beq_self_eq_true]; exact Ev.now _
  · have hf : (!(swapB s p q).2) = true := by simpa using ht
    rw [hf]
    refine Ev.step (fun k => by simp only [laws_FnSplitSwap.j0]; exact (if_pos trivial).trans (if_pos trivial)) ?_
    rw [beq_self_eq_true]; exact Ev.now _
end Go.Proofs.YtcpeomfncopkaaaDoor.Pure
