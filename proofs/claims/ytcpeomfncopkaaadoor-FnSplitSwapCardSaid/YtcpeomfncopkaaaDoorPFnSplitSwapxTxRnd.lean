/- The drawn texts. -/
import Derived.Test.YtcpeomfncopkaaaDoorPFnSplitSwapxRnd
import Derived.Test.YtcpeomfncopkaaaDoorPFnSplitSwapxCore
namespace Go.Proofs.YtcpeomfncopkaaaDoor.PFnSplitSwap
open Go.RowKit Go.Proofs.YtcpeomfncopkaaaDoorW.PrintWords Go.Proofs.YtcpeomfncopkaaaDoorW.PrintLast Go.Proofs.YtcpeomfncopkaaaDoorW.PrintMore
set_option linter.unusedVariables false

theorem of_ok {c : List Int} (hb : Bytes c) {pos : Int} (h0 : 0 ≤ pos) (h1 : pos < 1000000) {l : List ByteArray} (hl : 0 < l.length) :
    ∃ x p', spec_rnd_of.f c pos l = some (x, p') ∧ x ∈ l ∧ pos ≤ p' ∧ p' ≤ pos + 1 := by
  obtain ⟨r, p', e, r0, r1, a, b⟩ := pick_ok hb (pos := pos) (n := (l.length : Int)) h0 h1
  have hr : r < (l.length : Int) := by omega
  refine ⟨rdOf ByteArray.empty l r, p', ?_, ?_, a, b⟩
  · unfold spec_rnd_of.f
    rw [e]
    show (if 0 ≤ r then _ else _) = _
    rw [if_pos r0, if_pos hr]
  · have hr2 : r.toNat < l.length := by omega
    unfold rdOf
    rw [List.getD_eq_getElem?_getD, List.getElem?_eq_getElem hr2]
    exact List.getElem_mem hr2
theorem long_ev (c : List Int) (p : Int) : ∀ (d : Nat) (x : ByteArray), 400 - x.size ≤ d → ∃ y, Ev (fun k => spec_rnd_text.l1 k x c p) (y, p) := by
  intro d
  induction d with
  | zero =>
    intro x hd
    exact ⟨x, Ev.step (f := fun _ => some (x, p)) (fun k => by simp only [spec_rnd_text.l1]; rw [if_neg (by omega)]) (Ev.now _)⟩
  | succ d ih =>
    intro x hd
    by_cases hx : (x.size : Int) < 399
    · obtain ⟨y, e⟩ := ih (x ++ (⟨#[97, 98]⟩ : ByteArray)) (by rw [ByteArray.size_append]; show 400 - (x.size + 2) ≤ d; omega)
      refine ⟨y, Ev.step (fun k => ?_) e⟩
      simp only [spec_rnd_text.l1]
      rw [if_pos hx, if_pos (by omega)]
    · exact ⟨x, Ev.step (f := fun _ => some (x, p)) (fun k => by simp only [spec_rnd_text.l1]; rw [if_neg hx]) (Ev.now _)⟩
theorem bits_ev {c : List Int} (hb : Bytes c) : ∀ (n : Nat) (x : ByteArray) (pos : Int), 0 ≤ pos → pos + n < 900000 → x.size + 3 * n ≤ 1000 → n ≤ 1000 → ∃ y p', Ev (fun k => spec_rnd_text.l0 k x (n : Int) c pos) (y, p') ∧ pos ≤ p' ∧ p' ≤ pos + n + 1 := by
  intro n
  induction n with
  | zero =>
    intro x pos h0 h1 hs _
    obtain ⟨r, p', e, r0, r1, a, b⟩ := pick_ok hb (pos := pos) (n := 40) h0 (by omega)
    by_cases hr : r = 0
    · obtain ⟨y, ey⟩ := long_ev c p' 400 x (by omega)
      refine ⟨y, p', Ev.step (fun k => ?_) ey, a, by omega⟩
      simp only [spec_rnd_text.l0]
      rw [if_neg (by omega), e]
      show (if r = 0 then _ else _) = _
      rw [if_pos hr]
    · refine ⟨x, p', Ev.step (f := fun _ => some (x, p')) (fun k => ?_) (Ev.now _), a, by omega⟩
      simp only [spec_rnd_text.l0]
      rw [if_neg (by omega), e]
      show (if r = 0 then _ else _) = _
      rw [if_neg hr]
  | succ n ih =>
    intro x pos h0 h1 hs hn
    obtain ⟨z, p', e, hz, a, b⟩ := of_ok hb (pos := pos) h0 (by omega) (l := [(⟨#[97]⟩ : ByteArray), (⟨#[98]⟩ : ByteArray), (⟨#[97, 98]⟩ : ByteArray), (⟨#[32]⟩ : ByteArray), (⟨#[97, 98, 97]⟩ : ByteArray), (⟨#[10]⟩ : ByteArray), (⟨#[39]⟩ : ByteArray), strOfNums (([92] : List Int)), (⟨#[0]⟩ : ByteArray), (⟨#[255]⟩ : ByteArray), (⟨#[195, 169]⟩ : ByteArray), (⟨#[44]⟩ : ByteArray)]) (by simp)
    have hz3 : z.size ≤ 3 := by
      have hall : ∀ z ∈ [(⟨#[97]⟩ : ByteArray), (⟨#[98]⟩ : ByteArray), (⟨#[97, 98]⟩ : ByteArray), (⟨#[32]⟩ : ByteArray), (⟨#[97, 98, 97]⟩ : ByteArray), (⟨#[10]⟩ : ByteArray), (⟨#[39]⟩ : ByteArray), strOfNums (([92] : List Int)), (⟨#[0]⟩ : ByteArray), (⟨#[255]⟩ : ByteArray), (⟨#[195, 169]⟩ : ByteArray), (⟨#[44]⟩ : ByteArray)], z.size ≤ 3 := by decide +kernel
      exact hall z hz
    obtain ⟨y, p2, ey, a2, b2⟩ := ih (x ++ z) p' (by omega) (by omega) (by rw [ByteArray.size_append]; omega) (by omega)
    refine ⟨y, p2, Ev.step (fun k => ?_) ey, by omega, by omega⟩
    simp only [spec_rnd_text.l0]
    rw [if_pos (by omega), e]
    show (if x.size + z.size ≤ 9223372036854775807 then _ else _) = _
    rw [if_pos (by omega), wn (by omega) (by omega)]
    show spec_rnd_text.l0 k (x ++ z) (((n + 1 : Nat) : Int) - 1) c p' = _
    rw [show (((n + 1 : Nat) : Int) - 1) = (n : Int) from by omega]
theorem text_ev {c : List Int} (hb : Bytes c) {pos : Int} (h0 : 0 ≤ pos) (h1 : pos < 1000) : ∃ y p', Ev (fun k => spec_rnd_text.f k c pos) (y, p') ∧ pos ≤ p' ∧ p' ≤ pos + 20 := by
  obtain ⟨r, p', e, r0, r1, a, b⟩ := pick_ok hb (pos := pos) (n := 9) h0 (by omega)
  obtain ⟨n, rfl⟩ := Int.eq_ofNat_of_zero_le r0
  obtain ⟨y, p2, ey, a2, b2⟩ := bits_ev hb n (⟨#[]⟩ : ByteArray) p' (by omega) (by omega) (by show 0 + 3 * n ≤ 1000; omega) (by omega)
  refine ⟨y, p2, Ev.congr (fun k => ?_) ey, by omega, by omega⟩
  unfold spec_rnd_text.f
  rw [e]; rfl
end Go.Proofs.YtcpeomfncopkaaaDoor.PFnSplitSwap
