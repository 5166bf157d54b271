/- ExactTextSwap, in plain Lean. -/
import Derived.Test.YtcpeomfncopkaaaDoorPFnExactTextSwapxSwap
namespace Go.Proofs.YtcpeomfncopkaaaDoor.Pure
open Go.RowKit Go.Proofs.YtcpeomfncopkaaaDoorW.PrintWords Go.Proofs.YtcpeomfncopkaaaDoor.PFnExactTextSwap
theorem FnExactTextSwap : laws_FnExactTextSwap.Pure := by
  intro s p q _ _ _
  refine Ev.rounds (r := true) ?_
  unfold laws_FnExactTextSwap.f
  by_cases h1 : (s.size : Int) > 1048576
  · exact Ev.yes h1 (Ev.now _)
  refine Ev.no h1 ?_
  by_cases h2 : (p.size : Int) > 1048576
  · exact Ev.yes h2 (Ev.now _)
  refine Ev.no h2 ?_
  by_cases h3 : (q.size : Int) > 1048576
  · exact Ev.yes h3 (Ev.now _)
  refine Ev.no h3 (Ev.bind (specSwap_ev s p q) (Ev.bind (implSwap_ev s p q) ?_))
  exact Ev.yes rfl (Ev.no (by simp) (Ev.now _))
end Go.Proofs.YtcpeomfncopkaaaDoor.Pure
