/- The lengths of what a text is cut into; Split and Join, told. -/
import Derived.Test.YtcpeomfncopkaaaDoorPFnSplitSwapxCore
namespace Go.Proofs.YtcpeomfncopkaaaDoor.PFnSplitSwap
open Go.RowKit Go.Proofs.YtcpeomfncopkaaaDoorW.PrintWords Go.Proofs.YtcpeomfncopkaaaDoorW.PrintLast Go.Proofs.YtcpeomfncopkaaaDoorW.PrintMore Go.Proofs.YtcpeomfncopkaaaDoor.Plain Go.Lib
set_option linter.unusedVariables false

theorem pl {s p : ByteArray} (hp : 1 ≤ p.size) (hs : s.size ≤ 400) : (pieces s p).length ≤ 401 := by have := pieces_len s p hp; omega
theorem jl {s p q : ByteArray} (hp : 1 ≤ p.size) (hs : s.size ≤ 400) (hq : q.size ≤ 400) : (join (dat (pieces s p)) q.data.toList).length ≤ 200000 := by
  have h1 := pieces_lens p hp s.size s (Nat.le_refl _)
  have h2 := join_len (dat (pieces s p)) q.data.toList
  have h3 := pl hp hs
  have h4 : (dat (pieces s p)).length ≤ 401 := by unfold dat; rw [List.length_map]; exact h3
  rw [← size_eq] at h2
  have : q.size * (dat (pieces s p)).length ≤ 400 * 401 := Nat.mul_le_mul hq h4
  omega
theorem split_now {s p : ByteArray} (hs : s.size ≤ 400) (hp : 1 ≤ p.size) : strings_Split.f s p = some (pieces s p) := by unfold strings_Split.f; rw [if_pos ⟨by omega, hp⟩]; rfl
theorem join_now {l : List ByteArray} {q : ByteArray} (hl : l.length ≤ 1000) (hb : (join (dat l) q.data.toList).length ≤ 200000) : strings_Join.f l q = some (joinB l q) := by
  unfold strings_Join.f; rw [if_pos ⟨by omega, by show (join (dat l) q.data.toList).length ≤ _; omega⟩]; rfl
end Go.Proofs.YtcpeomfncopkaaaDoor.PFnSplitSwap
