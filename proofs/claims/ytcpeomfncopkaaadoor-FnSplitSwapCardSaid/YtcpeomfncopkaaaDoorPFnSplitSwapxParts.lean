/- The program's cut and join, each alone; the draw's end. -/
import Derived.Test.YtcpeomfncopkaaaDoorPFnSplitSwapxCut
import Derived.Test.YtcpeomfncopkaaaDoorPFnSplitSwapxTxRnd
namespace Go.Proofs.YtcpeomfncopkaaaDoor.PFnSplitSwap
open Go.RowKit Go.Proofs.YtcpeomfncopkaaaDoorW.PrintWords Go.Proofs.YtcpeomfncopkaaaDoorW.PrintLast Go.Proofs.YtcpeomfncopkaaaDoorW.PrintMore Go.Proofs.YtcpeomfncopkaaaDoor.Plain Go.Lib
set_option linter.unusedVariables false
theorem Ev.told {α : Type} {o : Option α} {r : α} (h : o = some r) : Ev (fun _ => o) r := Ev.congr (fun _ => h) (Ev.now r)
def splitAllB (s p : ByteArray) : List ByteArray := if s.size ≤ 400 ∧ p.size ≤ 400 ∧ 1 ≤ p.size then pieces s p else []
theorem implSplit_ev (s p : ByteArray) : Ev (fun k => impl_TextSplit.f k s p) (splitAllB s p) := by
  unfold impl_TextSplit.f
  by_cases h4 : 1 ≤ p.size
  · refine Ev.no (fun h => by have := toList_nil.1 h; omega) (Ev.bind (shortTexts_ev (l := [s, p]) (by simp)) ?_)
    by_cases hall : s.size ≤ 400 ∧ p.size ≤ 400
    · rw [show splitAllB s p = pieces s p from if_pos ⟨hall.1, hall.2, h4⟩]
      refine Ev.yes (by simp [hall.1, hall.2]) ?_
      rw [split_now hall.1 h4]
      exact Ev.now _
    · rw [show splitAllB s p = [] from if_neg (fun x => hall ⟨x.1, x.2.1⟩)]
      refine Ev.no (fun h => hall ?_) (Ev.now _)
      simpa using h
  · rw [show splitAllB s p = [] from if_neg (fun x => h4 x.2.2)]
    exact Ev.yes (toList_nil.2 (by omega)) (Ev.now _)
theorem implJoin_ev {l : List ByteArray} {q : ByteArray} (hall : ∀ x ∈ l, x.size ≤ 400) (hq : q.size ≤ 400) (hl : l.length ≤ 401) (hb : (join (dat l) q.data.toList).length ≤ 200000) (hj : (joinB l q).size ≤ 400) :
    Ev (fun k => impl_TextJoin.f k l q) (joinB l q, true) := by
  unfold impl_TextJoin.f
  refine Ev.bind (shortTexts_ev (l := l) (by omega)) (Ev.yes (by simpa using hall) (Ev.bind (shortTexts_ev (l := [q]) (by simp)) (Ev.yes (by simpa using hq) ?_)))
  rw [decide_eq_false (show ¬ ((l.length : Int) > 401) by omega)]
  refine Ev.step (f := fun k => (impl_shortTexts.f k [joinB l q]).bind fun b => (if b = true then (some (joinB l q, true)) else (some ((⟨#[]⟩ : ByteArray), false)))) (fun k => ?_) ?_
  · simp only [impl_TextJoin.j0]
    rw [if_neg (by decide), join_now (by omega) hb]
    rfl
  · exact Ev.bind (shortTexts_ev (l := [joinB l q]) (by simp)) (Ev.yes (by simpa using hj) (Ev.now _))
theorem implJoin_pieces {s p q : ByteArray} (hs : s.size ≤ 400) (hp4 : p.size ≤ 400) (hq : q.size ≤ 400) (hp : 1 ≤ p.size) (hj : (joinB (pieces s p) q).size ≤ 400) :
    Ev (fun k => impl_TextJoin.f k (pieces s p) q) (joinB (pieces s p) q, true) :=
  implJoin_ev (fun x hx => by have := pieces_size p hp s.size s (Nat.le_refl _) x hx; omega) hq (pl hp hs) (jl hp hs hq) hj
end Go.Proofs.YtcpeomfncopkaaaDoor.PFnSplitSwap
