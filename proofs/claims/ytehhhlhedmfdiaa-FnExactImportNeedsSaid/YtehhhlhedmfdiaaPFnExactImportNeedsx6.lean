-- Laid by wip/xprint.py of this session: the kit's printer over contracts typed by hand.
import Derived.Test.YtehhhlhedmfdiaaPFnExactImportNeedsx0
import Derived.Test.YtehhhlhedmfdiaaPFnExactImportNeedsx4
import Derived.Test.YtehhhlhedmfdiaaPFnExactImportNeedsx5
namespace Go.Proofs.Ytehhhlhedmfdiaa.PFnExactImportNeeds
open Go.RowKit Go.Proofs.YtehhhlhedmfdiaaW.PrintWords Go.Proofs.YtehhhlhedmfdiaaW.PrintLast Go.Proofs.YtehhhlhedmfdiaaW.PrintMore
attribute [local go_sem] max2_int min2_int max_two min_two max_three min_three max_four min_four   -- for this text's walks alone
set_option linter.unusedVariables false
set_option linter.unusedSimpArgs false

theorem isEmpty_bne (l : List UInt8) : (!l.isEmpty) = (l != ([] : List UInt8)) := by
  cases l <;> simp
/-! ### impl_ModsOk: function 59 -/
mutual
def impl_ModsOk.l0 : Nat → List (S72) → List (S72) → Int → Int → Option (Bool)
  | 0, _, _, _, _ => none
  | k + 1, x0, x9, x10, x11 => if x11 < x10 then (if 0 ≤ x11 then (if x11 < (x9.length : Int) then (if (((rd_T72 x9 x11).f0).length : Int) > 8 then (some false) else (impl_ModsOk.l1 k x0 x9 x10 x11 ((rd_T72 x9 x11).f0) (((rd_T72 x9 x11).f0).length : Int) 0)) else (none)) else (none)) else ((impl_within.f (x0.length : Int) 1 6).bind fun t225 => (some t225))
def impl_ModsOk.l1 : Nat → List (S72) → List (S72) → Int → Int → List (S74) → Int → Int → Option (Bool)
  | 0, _, _, _, _, _, _, _ => none
  | k + 1, x0, x9, x10, x11, x20, x21, x22 => if x22 < x21 then (if 0 ≤ x22 then (if x22 < (x20.length : Int) then (if ((rd_T74 x20 x22).f0) = 3 then (impl_ModsOk.j2 k x0 true x9 x10 x11 x20 x21 x22 ((rd_T74 x20 x22).f0) ((rd_T74 x20 x22).f1) ((rd_T74 x20 x22).f2)) else (impl_ModsOk.j2 k x0 (((rd_T74 x20 x22).f0) == 4) x9 x10 x11 x20 x21 x22 ((rd_T74 x20 x22).f0) ((rd_T74 x20 x22).f1) ((rd_T74 x20 x22).f2))) else (none)) else (none)) else (impl_ModsOk.l0 k x0 x9 x10 (wrap64 (x11 + 1)))
def impl_ModsOk.j2 : Nat → List (S72) → Bool → List (S72) → Int → Int → List (S74) → Int → Int → Int → Int → ByteArray → Option (Bool)
  | 0, _, _, _, _, _, _, _, _, _, _, _ => none
  | k + 1, x0, x7, x9, x10, x11, x20, x21, x22, x230000, x230001, x230002 => if x7 = true then ((impl_NameOk.f k x230002).bind fun t230 => (if t230 = true then (impl_ModsOk.j3 k x0 x9 x10 x11 x20 x21 x22 false x230000 x230001 x230002) else (impl_ModsOk.j3 k x0 x9 x10 x11 x20 x21 x22 true x230000 x230001 x230002))) else (impl_ModsOk.j3 k x0 x9 x10 x11 x20 x21 x22 (x230002.toList != ([] : List UInt8)) x230000 x230001 x230002)
def impl_ModsOk.j3 : Nat → List (S72) → List (S72) → Int → Int → List (S74) → Int → Int → Bool → Int → Int → ByteArray → Option (Bool)
  | 0, _, _, _, _, _, _, _, _, _, _, _ => none
  | k + 1, x0, x9, x10, x11, x20, x21, x22, x49, x230000, x230001, x230002 => if x49 = true then (some false) else (if x230000 = 1 then (impl_ModsOk.j4 k x0 (-1) x9 x10 x11 x20 x21 x22 x230000 (x230000 == 1) x230000 x230001 x230002) else (if x230000 = 2 then (impl_ModsOk.j4 k x0 (-1) x9 x10 x11 x20 x21 x22 x230000 (x230000 == 2) x230000 x230001 x230002) else (impl_ModsOk.j4 k x0 (-1) x9 x10 x11 x20 x21 x22 x230000 (x230000 == 4) x230000 x230001 x230002)))
def impl_ModsOk.j4 : Nat → List (S72) → Int → List (S72) → Int → Int → List (S74) → Int → Int → Int → Bool → Int → Int → ByteArray → Option (Bool)
  | 0, _, _, _, _, _, _, _, _, _, _, _, _, _ => none
  | k + 1, x0, x8, x9, x10, x11, x20, x21, x22, x51, x52, x230000, x230001, x230002 => if x52 = true then ((impl_within.f x230001 0 (wrap64 ((x0.length : Int) - 1))).bind fun t231 => (if t231 = true then (impl_ModsOk.l1 k x0 x9 x10 x11 x20 x21 (wrap64 (x22 + 1))) else (some false))) else (if x51 = 3 then (impl_ModsOk.j5 k x0 x8 x9 x10 x11 x20 x21 x22 (x51 == 3) x230000 x230001 x230002) else (impl_ModsOk.j5 k x0 x8 x9 x10 x11 x20 x21 x22 (x51 == 5) x230000 x230001 x230002))
def impl_ModsOk.j5 : Nat → List (S72) → Int → List (S72) → Int → Int → List (S74) → Int → Int → Bool → Int → Int → ByteArray → Option (Bool)
  | 0, _, _, _, _, _, _, _, _, _, _, _, _ => none
  | k + 1, x0, x8, x9, x10, x11, x20, x21, x22, x59, x230000, x230001, x230002 => if x59 = true then ((impl_within.f x230001 0 1000000).bind fun t232 => (if t232 = true then (impl_ModsOk.l1 k x0 x9 x10 x11 x20 x21 (wrap64 (x22 + 1))) else (some false))) else ((impl_within.f x230001 0 x8).bind fun t233 => (if t233 = true then (impl_ModsOk.l1 k x0 x9 x10 x11 x20 x21 (wrap64 (x22 + 1))) else (some false)))
end
def impl_ModsOk.f (k : Nat) (l0 : List (S72)) : Option (Bool) := impl_ModsOk.l0 k l0 l0 (l0.length : Int) 0
theorem impl_ModsOk.mono_l : ∀ k, (∀ y0 y1 y2 y3, LeO (impl_ModsOk.l0 k y0 y1 y2 y3) (impl_ModsOk.l0 (k + 1) y0 y1 y2 y3)) ∧ (∀ y0 y1 y2 y3 y4 y5 y6, LeO (impl_ModsOk.l1 k y0 y1 y2 y3 y4 y5 y6) (impl_ModsOk.l1 (k + 1) y0 y1 y2 y3 y4 y5 y6)) ∧ (∀ y0 y1 y2 y3 y4 y5 y6 y7 y8 y9 y10, LeO (impl_ModsOk.j2 k y0 y1 y2 y3 y4 y5 y6 y7 y8 y9 y10) (impl_ModsOk.j2 (k + 1) y0 y1 y2 y3 y4 y5 y6 y7 y8 y9 y10)) ∧ (∀ y0 y1 y2 y3 y4 y5 y6 y7 y8 y9 y10, LeO (impl_ModsOk.j3 k y0 y1 y2 y3 y4 y5 y6 y7 y8 y9 y10) (impl_ModsOk.j3 (k + 1) y0 y1 y2 y3 y4 y5 y6 y7 y8 y9 y10)) ∧ (∀ y0 y1 y2 y3 y4 y5 y6 y7 y8 y9 y10 y11 y12, LeO (impl_ModsOk.j4 k y0 y1 y2 y3 y4 y5 y6 y7 y8 y9 y10 y11 y12) (impl_ModsOk.j4 (k + 1) y0 y1 y2 y3 y4 y5 y6 y7 y8 y9 y10 y11 y12)) ∧ (∀ y0 y1 y2 y3 y4 y5 y6 y7 y8 y9 y10 y11, LeO (impl_ModsOk.j5 k y0 y1 y2 y3 y4 y5 y6 y7 y8 y9 y10 y11) (impl_ModsOk.j5 (k + 1) y0 y1 y2 y3 y4 y5 y6 y7 y8 y9 y10 y11))
  | 0 => ⟨fun _ _ _ _ r h => by simp [impl_ModsOk.l0] at h, fun _ _ _ _ _ _ _ r h => by simp [impl_ModsOk.l1] at h, fun _ _ _ _ _ _ _ _ _ _ _ r h => by simp [impl_ModsOk.j2] at h, fun _ _ _ _ _ _ _ _ _ _ _ r h => by simp [impl_ModsOk.j3] at h, fun _ _ _ _ _ _ _ _ _ _ _ _ _ r h => by simp [impl_ModsOk.j4] at h, fun _ _ _ _ _ _ _ _ _ _ _ _ r h => by simp [impl_ModsOk.j5] at h⟩
  | k + 1 => by
    obtain ⟨ih0, ih1, ih2, ih3, ih4, ih5⟩ := impl_ModsOk.mono_l k
    refine ⟨?_, ?_, ?_, ?_, ?_, ?_⟩
    · intro y0 y1 y2 y3
      unfold impl_ModsOk.l0
      repeat' first
      | (with_reducible exact ih0 _ _ _ _)
      | (with_reducible exact ih1 _ _ _ _ _ _ _)
      | (with_reducible exact ih2 _ _ _ _ _ _ _ _ _ _ _)
      | (with_reducible exact ih3 _ _ _ _ _ _ _ _ _ _ _)
      | (with_reducible exact ih4 _ _ _ _ _ _ _ _ _ _ _ _ _)
      | (with_reducible exact ih5 _ _ _ _ _ _ _ _ _ _ _ _)
      | (with_reducible exact impl_NameOk.mono _ _)
      | (with_reducible exact LeO.refl _)
      | (with_reducible exact LeO.none _)
      | (with_reducible refine LeO.ite ?_ ?_)
      | (with_reducible refine LeO.bind ?_ (fun _ => ?_))
      | exact ih0 _ _ _ _
      | exact ih1 _ _ _ _ _ _ _
      | exact ih2 _ _ _ _ _ _ _ _ _ _ _
      | exact ih3 _ _ _ _ _ _ _ _ _ _ _
      | exact ih4 _ _ _ _ _ _ _ _ _ _ _ _ _
      | exact ih5 _ _ _ _ _ _ _ _ _ _ _ _
      | exact impl_NameOk.mono _ _
      | exact LeO.none _
      | refine LeO.ite ?_ ?_
      | refine LeO.bind ?_ (fun _ => ?_)
    · intro y0 y1 y2 y3 y4 y5 y6
      unfold impl_ModsOk.l1
      repeat' first
      | (with_reducible exact ih0 _ _ _ _)
      | (with_reducible exact ih1 _ _ _ _ _ _ _)
      | (with_reducible exact ih2 _ _ _ _ _ _ _ _ _ _ _)
      | (with_reducible exact ih3 _ _ _ _ _ _ _ _ _ _ _)
      | (with_reducible exact ih4 _ _ _ _ _ _ _ _ _ _ _ _ _)
      | (with_reducible exact ih5 _ _ _ _ _ _ _ _ _ _ _ _)
      | (with_reducible exact impl_NameOk.mono _ _)
      | (with_reducible exact LeO.refl _)
      | (with_reducible exact LeO.none _)
      | (with_reducible refine LeO.ite ?_ ?_)
      | (with_reducible refine LeO.bind ?_ (fun _ => ?_))
      | exact ih0 _ _ _ _
      | exact ih1 _ _ _ _ _ _ _
      | exact ih2 _ _ _ _ _ _ _ _ _ _ _
      | exact ih3 _ _ _ _ _ _ _ _ _ _ _
      | exact ih4 _ _ _ _ _ _ _ _ _ _ _ _ _
      | exact ih5 _ _ _ _ _ _ _ _ _ _ _ _
      | exact impl_NameOk.mono _ _
      | exact LeO.none _
      | refine LeO.ite ?_ ?_
      | refine LeO.bind ?_ (fun _ => ?_)
    · intro y0 y1 y2 y3 y4 y5 y6 y7 y8 y9 y10
      unfold impl_ModsOk.j2
      repeat' first
      | (with_reducible exact ih0 _ _ _ _)
      | (with_reducible exact ih1 _ _ _ _ _ _ _)
      | (with_reducible exact ih2 _ _ _ _ _ _ _ _ _ _ _)
      | (with_reducible exact ih3 _ _ _ _ _ _ _ _ _ _ _)
      | (with_reducible exact ih4 _ _ _ _ _ _ _ _ _ _ _ _ _)
      | (with_reducible exact ih5 _ _ _ _ _ _ _ _ _ _ _ _)
      | (with_reducible exact impl_NameOk.mono _ _)
      | (with_reducible exact LeO.refl _)
      | (with_reducible exact LeO.none _)
      | (with_reducible refine LeO.ite ?_ ?_)
      | (with_reducible refine LeO.bind ?_ (fun _ => ?_))
      | exact ih0 _ _ _ _
      | exact ih1 _ _ _ _ _ _ _
      | exact ih2 _ _ _ _ _ _ _ _ _ _ _
      | exact ih3 _ _ _ _ _ _ _ _ _ _ _
      | exact ih4 _ _ _ _ _ _ _ _ _ _ _ _ _
      | exact ih5 _ _ _ _ _ _ _ _ _ _ _ _
      | exact impl_NameOk.mono _ _
      | exact LeO.none _
      | refine LeO.ite ?_ ?_
      | refine LeO.bind ?_ (fun _ => ?_)
    · intro y0 y1 y2 y3 y4 y5 y6 y7 y8 y9 y10
      unfold impl_ModsOk.j3
      repeat' first
      | (with_reducible exact ih0 _ _ _ _)
      | (with_reducible exact ih1 _ _ _ _ _ _ _)
      | (with_reducible exact ih2 _ _ _ _ _ _ _ _ _ _ _)
      | (with_reducible exact ih3 _ _ _ _ _ _ _ _ _ _ _)
      | (with_reducible exact ih4 _ _ _ _ _ _ _ _ _ _ _ _ _)
      | (with_reducible exact ih5 _ _ _ _ _ _ _ _ _ _ _ _)
      | (with_reducible exact impl_NameOk.mono _ _)
      | (with_reducible exact LeO.refl _)
      | (with_reducible exact LeO.none _)
      | (with_reducible refine LeO.ite ?_ ?_)
      | (with_reducible refine LeO.bind ?_ (fun _ => ?_))
      | exact ih0 _ _ _ _
      | exact ih1 _ _ _ _ _ _ _
      | exact ih2 _ _ _ _ _ _ _ _ _ _ _
      | exact ih3 _ _ _ _ _ _ _ _ _ _ _
      | exact ih4 _ _ _ _ _ _ _ _ _ _ _ _ _
      | exact ih5 _ _ _ _ _ _ _ _ _ _ _ _
      | exact impl_NameOk.mono _ _
      | exact LeO.none _
      | refine LeO.ite ?_ ?_
      | refine LeO.bind ?_ (fun _ => ?_)
    · intro y0 y1 y2 y3 y4 y5 y6 y7 y8 y9 y10 y11 y12
      unfold impl_ModsOk.j4
      repeat' first
      | (with_reducible exact ih0 _ _ _ _)
      | (with_reducible exact ih1 _ _ _ _ _ _ _)
      | (with_reducible exact ih2 _ _ _ _ _ _ _ _ _ _ _)
      | (with_reducible exact ih3 _ _ _ _ _ _ _ _ _ _ _)
      | (with_reducible exact ih4 _ _ _ _ _ _ _ _ _ _ _ _ _)
      | (with_reducible exact ih5 _ _ _ _ _ _ _ _ _ _ _ _)
      | (with_reducible exact impl_NameOk.mono _ _)
      | (with_reducible exact LeO.refl _)
      | (with_reducible exact LeO.none _)
      | (with_reducible refine LeO.ite ?_ ?_)
      | (with_reducible refine LeO.bind ?_ (fun _ => ?_))
      | exact ih0 _ _ _ _
      | exact ih1 _ _ _ _ _ _ _
      | exact ih2 _ _ _ _ _ _ _ _ _ _ _
      | exact ih3 _ _ _ _ _ _ _ _ _ _ _
      | exact ih4 _ _ _ _ _ _ _ _ _ _ _ _ _
      | exact ih5 _ _ _ _ _ _ _ _ _ _ _ _
      | exact impl_NameOk.mono _ _
      | exact LeO.none _
      | refine LeO.ite ?_ ?_
      | refine LeO.bind ?_ (fun _ => ?_)
    · intro y0 y1 y2 y3 y4 y5 y6 y7 y8 y9 y10 y11
      unfold impl_ModsOk.j5
      repeat' first
      | (with_reducible exact ih0 _ _ _ _)
      | (with_reducible exact ih1 _ _ _ _ _ _ _)
      | (with_reducible exact ih2 _ _ _ _ _ _ _ _ _ _ _)
      | (with_reducible exact ih3 _ _ _ _ _ _ _ _ _ _ _)
      | (with_reducible exact ih4 _ _ _ _ _ _ _ _ _ _ _ _ _)
      | (with_reducible exact ih5 _ _ _ _ _ _ _ _ _ _ _ _)
      | (with_reducible exact impl_NameOk.mono _ _)
      | (with_reducible exact LeO.refl _)
      | (with_reducible exact LeO.none _)
      | (with_reducible refine LeO.ite ?_ ?_)
      | (with_reducible refine LeO.bind ?_ (fun _ => ?_))
      | exact ih0 _ _ _ _
      | exact ih1 _ _ _ _ _ _ _
      | exact ih2 _ _ _ _ _ _ _ _ _ _ _
      | exact ih3 _ _ _ _ _ _ _ _ _ _ _
      | exact ih4 _ _ _ _ _ _ _ _ _ _ _ _ _
      | exact ih5 _ _ _ _ _ _ _ _ _ _ _ _
      | exact impl_NameOk.mono _ _
      | exact LeO.none _
      | refine LeO.ite ?_ ?_
      | refine LeO.bind ?_ (fun _ => ?_)
theorem impl_ModsOk.mono : ∀ a0 k, LeO (impl_ModsOk.f k a0) (impl_ModsOk.f (k + 1) a0) := by
  intro a0 k
  obtain ⟨ih0, ih1, ih2, ih3, ih4, ih5⟩ := impl_ModsOk.mono_l k
  unfold impl_ModsOk.f
  repeat' first
      | (with_reducible exact ih0 _ _ _ _)
      | (with_reducible exact ih1 _ _ _ _ _ _ _)
      | (with_reducible exact ih2 _ _ _ _ _ _ _ _ _ _ _)
      | (with_reducible exact ih3 _ _ _ _ _ _ _ _ _ _ _)
      | (with_reducible exact ih4 _ _ _ _ _ _ _ _ _ _ _ _ _)
      | (with_reducible exact ih5 _ _ _ _ _ _ _ _ _ _ _ _)
      | (with_reducible exact impl_NameOk.mono _ _)
      | (with_reducible exact LeO.refl _)
      | (with_reducible exact LeO.none _)
      | (with_reducible refine LeO.ite ?_ ?_)
      | (with_reducible refine LeO.bind ?_ (fun _ => ?_))
      | exact ih0 _ _ _ _
      | exact ih1 _ _ _ _ _ _ _
      | exact ih2 _ _ _ _ _ _ _ _ _ _ _
      | exact ih3 _ _ _ _ _ _ _ _ _ _ _
      | exact ih4 _ _ _ _ _ _ _ _ _ _ _ _ _
      | exact ih5 _ _ _ _ _ _ _ _ _ _ _ _
      | exact impl_NameOk.mono _ _
      | exact LeO.none _
      | refine LeO.ite ?_ ?_
      | refine LeO.bind ?_ (fun _ => ?_)
set_option maxHeartbeats 8000000 in
set_option maxRecDepth 100000 in
theorem impl_ModsOk.calls (k : Nat) (A0 : Option Addr) (c0 : Nat) (l0 : List (S72)) (r : Bool) (w : World) (hr0 : Kd.C k72 w A0 l0.length l0) (hc0 : l0.length ≤ c0) (h : impl_ModsOk.f k l0 = some r) :
    Calls Try.prog 59 #[.slice A0 l0.length c0] w fun e w' => e = .returned (.bool r) ∧ Below w.heap.size w w' := by
  have hu72 := Try.underlying72
  have hu74 := Try.underlying74
  have HR0 := Aside0.mk hr0
  have HC0 := Aside0.mk hc0
  clear hr0 hc0
  have HB := Aside0.mk (Below.refl w.heap.size w)
  have H : (impl_ModsOk.l0 k l0 l0 (l0.length : Int) 0) = some r := h
  clear h
  have H' := Aside0.mk H
  clear H
  go_enter Try.func59, Try.ntmps59
  go_wp2
  go_loopg [11] k (fun kq v11 w' => ∃ (x11_1 : Int), v11 = .int .i64 x11_1 ∧ Aside0 (impl_ModsOk.l0 kq l0 l0 (l0.length : Int) x11_1 = some r) ∧ Aside0 (kq ≤ k) ∧ Aside0 (Below w.heap.size w w'))
  case atStart => exact ⟨(0), (by first | rfl | (simp; done) | (simp [*]; done) | exact congrArg Value.bool (isEmpty_bne _)), H', ⟨Nat.le_refl _⟩, ⟨by repeat (first | (with_reducible first | exact HB.out | apply below_alloc | apply pw_below_drewN | apply below_drew1) | exact HB.out)⟩⟩
  case round =>
    clear H'
    obtain ⟨x11_1, rfl, HA, HK1, HB⟩ := hrel
    cases gk with
    | zero => exact absurd HA.out (by simp [impl_ModsOk.l0])
    | succ k1 =>
      have H := HA.out
      clear HA
      simp only [impl_ModsOk.l0] at H
      by_cases c2 : x11_1 < (l0.length : Int)
      · rw [if_pos c2] at H
        have c2b0 : decide (x11_1 < (l0.length : Int)) = true := decide_eq_true c2
        clear c2
        by_cases c3 : 0 ≤ x11_1
        · rw [if_pos c3] at H
          have c3b0 : decide (0 ≤ x11_1) = true := decide_eq_true c3
          clear c3
          by_cases c4 : x11_1 < (l0.length : Int)
          · rw [if_pos c4] at H
            have c4b0 : decide (x11_1 < (l0.length : Int)) = true := decide_eq_true c4
            clear c4
            by_cases c5 : (((rd_T72 l0 x11_1).f0).length : Int) > 8
            · rw [if_pos c5] at H
              have c5b0 : decide (8 < (((rd_T72 l0 x11_1).f0).length : Int)) = true := decide_eq_true c5
              have c5b1 : decide (8 < ((rd_T72 l0 x11_1).f0).length) = true := decide_eq_true (by omega)
              clear c5
              obtain rfl := Option.some.inj H
              have p226 : 0 ≤ (x11_1 : Int) := of_decide_eq_true (by first | (with_reducible assumption) | assumption)
              have q226 : x11_1 < (l0.length : Int) := of_decide_eq_true (by first | (with_reducible assumption) | assumption)
              obtain ⟨ad226, A226_0, c226_0, e226, hx226_0, hl226_0, hi226_0⟩ := at_T72 HR0.out x11_1 p226 q226
              cases e226
              replace hx226_0 := (HB.out.cell (World.block_lt_of_cell? w _ hx226_0)).trans hx226_0
              have HR226_0 := Aside0.mk hi226_0
              have HC226_0 := Aside0.mk hl226_0
              clear hi226_0 hl226_0
              replace p226 := eq_true p226
              replace q226 := eq_true q226
              go_wp2_with (first | ((with_reducible refine gate_dst (N := 4) rfl ?_); refine box_event ?hg (N := 4) ?hd (cs := #[.slice none 0 0]) (t := 72) ?hr ?_; (case hd => rfl); (case hg => rfl); (case hr => first | (go_simp; done) | (go_simp; rfl)); intro gb227 hg w6 hbox hb; have n0_ := Aside0.mk (below_step (by repeat (first | (with_reducible first | exact HB.out | apply below_alloc | apply pw_below_drewN | apply below_drew1) | exact HB.out)) hb); have n1_ := Aside0.mk (hbox); have n2_ := Aside0.mk ((by rw [hg]; exact (below_size (by repeat (first | (with_reducible first | exact HB.out | apply below_alloc | apply pw_below_drewN | apply below_drew1) | exact HB.out))) : w.heap.size ≤ gb227)); have n3_ := Aside0.mk ((by rw [hg]; exact (below_size (by repeat (first | (with_reducible first | exact HB.out | apply below_alloc | apply pw_below_drewN | apply below_drew1) | exact HB.out))) : w.heap.size ≤ gb227)); clear HB; have HB := n0_; have BK227 := n1_; have GW227 := n2_; have GE227 := n3_; clear n0_ n1_ n2_ n3_; clear hb hbox hg; have hcz7_0 : w6.cell? ⟨gb227, 0, none⟩ = some (.slice none 0 0) := (blk_cell BK227.out 0).trans rfl; have hfz7_0 := blk_frozen BK227.out 0))
              go_ret
              exact ⟨by first | rfl | (simp [errW_none, errW_some] <;> rfl) | (simp [*, errW_none, errW_some] <;> rfl), by repeat (first | (with_reducible first | exact HB.out | apply below_alloc | apply pw_below_drewN | apply below_drew1 | refine below_set ?_ GE227.out) | exact HB.out)⟩
            · rw [if_neg c5] at H
              have c5b0 : decide (8 < (((rd_T72 l0 x11_1).f0).length : Int)) = false := decide_eq_false c5
              have c5b1 : decide (8 < ((rd_T72 l0 x11_1).f0).length) = false := decide_eq_false (by omega)
              clear c5
              have H' := Aside0.mk H
              clear H
              have p226 : 0 ≤ (x11_1 : Int) := of_decide_eq_true (by first | (with_reducible assumption) | assumption)
              have q226 : x11_1 < (l0.length : Int) := of_decide_eq_true (by first | (with_reducible assumption) | assumption)
              obtain ⟨ad226, A226_0, c226_0, e226, hx226_0, hl226_0, hi226_0⟩ := at_T72 HR0.out x11_1 p226 q226
              cases e226
              replace hx226_0 := (HB.out.cell (World.block_lt_of_cell? w _ hx226_0)).trans hx226_0
              have HR226_0 := Aside0.mk hi226_0
              have HC226_0 := Aside0.mk hl226_0
              clear hi226_0 hl226_0
              replace p226 := eq_true p226
              replace q226 := eq_true q226
              go_wp2_with (first | ((with_reducible refine gate_dst (N := 4) rfl ?_); refine box_event ?hg (N := 4) ?hd (cs := #[.slice none 0 0]) (t := 72) ?hr ?_; (case hd => rfl); (case hg => rfl); (case hr => first | (go_simp; done) | (go_simp; rfl)); intro gb227 hg w8 hbox hb; have n0_ := Aside0.mk (below_step (by repeat (first | (with_reducible first | exact HB.out | apply below_alloc | apply pw_below_drewN | apply below_drew1) | exact HB.out)) hb); have n1_ := Aside0.mk (hbox); have n2_ := Aside0.mk ((by rw [hg]; exact (below_size (by repeat (first | (with_reducible first | exact HB.out | apply below_alloc | apply pw_below_drewN | apply below_drew1) | exact HB.out))) : w.heap.size ≤ gb227)); have n3_ := Aside0.mk ((by rw [hg]; exact (below_size (by repeat (first | (with_reducible first | exact HB.out | apply below_alloc | apply pw_below_drewN | apply below_drew1) | exact HB.out))) : w.heap.size ≤ gb227)); clear HB; have HB := n0_; have BK227 := n1_; have GW227 := n2_; have GE227 := n3_; clear n0_ n1_ n2_ n3_; clear hb hbox hg; have hcz9_0 : w8.cell? ⟨gb227, 0, none⟩ = some (.slice none 0 0) := (blk_cell BK227.out 0).trans rfl; have hfz9_0 := blk_frozen BK227.out 0))
              go_loopg [22] k1 (fun kq v22 w' => ∃ (x22_2 : Int), v22 = .int .i64 x22_2 ∧ Aside0 (impl_ModsOk.l1 kq l0 l0 (l0.length : Int) x11_1 ((rd_T72 l0 x11_1).f0) (((rd_T72 l0 x11_1).f0).length : Int) x22_2 = some r) ∧ Aside0 (kq ≤ k1) ∧ Aside0 (w'.heap[gb227]? = some (.cells #[(.slice A226_0 ((rd_T72 l0 x11_1).f0).length c226_0)] 72 (0, 0))) ∧ Aside0 (Below w.heap.size w w'))
              case atStart => exact ⟨(0), (by first | rfl | (simp; done) | (simp [*]; done) | exact congrArg Value.bool (isEmpty_bne _)), H', ⟨Nat.le_refl _⟩, ⟨by (with_reducible repeat (first | refine blk_drewN ?_ _ | refine blk_drew ?_ | refine blk_alloc ?_ _)); refine blk_put (cs := #[.slice none 0 0]) ?_ 0 _ rfl; (with_reducible repeat (first | refine blk_drewN ?_ _ | refine blk_drew ?_ | refine blk_alloc ?_ _)); exact BK227.out⟩, ⟨by repeat (first | (with_reducible first | exact HB.out | apply below_alloc | apply pw_below_drewN | apply below_drew1 | refine below_set ?_ GE227.out) | exact HB.out)⟩⟩
              case round =>
                clear H'
                try clear c2
                try clear c2b0
                try clear p2
                try clear q2
                try clear hx2
                try clear c3
                try clear c3b0
                try clear c4
                try clear c4b0
                try clear c5
                try clear c5b0
                try clear c5b1
                try clear hcz7_0
                try clear hcz9_0
                try clear hfz7_0
                try clear hfz9_0
                try clear hx226_0
                try clear p226
                try clear q226
                obtain ⟨x22_2, rfl, HA, HK2, BK227, HB⟩ := hrel
                cases gk with
                | zero => exact absurd HA.out (by simp [impl_ModsOk.l1])
                | succ k2 =>
                  have H := HA.out
                  clear HA
                  simp only [impl_ModsOk.l1] at H
                  by_cases c10 : x22_2 < (((rd_T72 l0 x11_1).f0).length : Int)
                  · rw [if_pos c10] at H
                    have c10b0 : decide (x22_2 < (((rd_T72 l0 x11_1).f0).length : Int)) = true := decide_eq_true c10
                    clear c10
                    by_cases c11 : 0 ≤ x22_2
                    · rw [if_pos c11] at H
                      have c11b0 : decide (0 ≤ x22_2) = true := decide_eq_true c11
                      clear c11
                      by_cases c12 : x22_2 < (((rd_T72 l0 x11_1).f0).length : Int)
                      · rw [if_pos c12] at H
                        have c12b0 : decide (x22_2 < (((rd_T72 l0 x11_1).f0).length : Int)) = true := decide_eq_true c12
                        clear c12
                        have HC13 := Aside0.mk H
                        clear H
                        have p228 : 0 ≤ (x22_2 : Int) := of_decide_eq_true (by first | (with_reducible assumption) | assumption)
                        have q228 : x22_2 < (((rd_T72 l0 x11_1).f0).length : Int) := of_decide_eq_true (by first | (with_reducible assumption) | assumption)
                        obtain ⟨ad228, e228, hx228_0, hx228_1, hx228_2⟩ := at_T74 HR226_0.out x22_2 p228 q228
                        cases e228
                        replace hx228_0 := (HB.out.cell (World.block_lt_of_cell? w _ hx228_0)).trans hx228_0
                        replace hx228_1 := (HB.out.cell (World.block_lt_of_cell? w _ hx228_1)).trans hx228_1
                        replace hx228_2 := (HB.out.cell (World.block_lt_of_cell? w _ hx228_2)).trans hx228_2
                        replace p228 := eq_true p228
                        replace q228 := eq_true q228
                        go_upto_region 9 with (first | ((with_reducible refine gate_dst (N := 6) rfl ?_); refine box_event ?hg (N := 6) ?hd (cs := #[.int .i64 0, .int .i64 0, .string (⟨#[]⟩ : ByteArray)]) (t := 74) ?hr ?_; (case hd => rfl); (case hg => rfl); (case hr => first | (go_simp; done) | (go_simp; rfl)); intro gb229 hg w14 hbox hb; have n0_ := Aside0.mk (blk_below (g := gb227) (o := .cells #[.slice (some ad228) ((rd_T72 l0 x11_1).f0).length c226_0] 72 (0, 0)) (by (with_reducible repeat (first | refine blk_drewN ?_ _ | refine blk_drew ?_ | refine blk_alloc ?_ _)); exact BK227.out) hb); have n1_ := Aside0.mk (below_step (by repeat (first | (with_reducible first | exact HB.out | apply below_alloc | apply pw_below_drewN | apply below_drew1 | refine below_set ?_ GE227.out) | exact HB.out)) hb); have n2_ := Aside0.mk (hbox); have n3_ := Aside0.mk ((by rw [hg]; exact (below_size (by repeat (first | (with_reducible first | exact HB.out | apply below_alloc | apply pw_below_drewN | apply below_drew1 | refine below_set ?_ GE227.out) | exact HB.out))) : w.heap.size ≤ gb229)); have n4_ := Aside0.mk ((by rw [hg]; exact (below_size (by repeat (first | (with_reducible first | exact HB.out | apply below_alloc | apply pw_below_drewN | apply below_drew1 | refine below_set ?_ GE227.out) | exact HB.out))) : w.heap.size ≤ gb229)); have n5_ := Aside0.mk ((by rw [hg]; exact Nat.ne_of_lt (blk_lt (g := gb227) (o := .cells #[.slice (some ad228) ((rd_T72 l0 x11_1).f0).length c226_0] 72 (0, 0)) (by (with_reducible repeat (first | refine blk_drewN ?_ _ | refine blk_drew ?_ | refine blk_alloc ?_ _)); exact BK227.out)) : gb227 ≠ gb229)); have n6_ := Aside0.mk ((by rw [hg]; exact Nat.ne_of_gt (blk_lt (g := gb227) (o := .cells #[.slice (some ad228) ((rd_T72 l0 x11_1).f0).length c226_0] 72 (0, 0)) (by (with_reducible repeat (first | refine blk_drewN ?_ _ | refine blk_drew ?_ | refine blk_alloc ?_ _)); exact BK227.out)) : gb229 ≠ gb227)); clear BK227; clear HB; have BK227 := n0_; have HB := n1_; have BK229 := n2_; have GW229 := n3_; have GE229 := n4_; have NB227_229 := n5_; have NB229_227 := n6_; clear n0_ n1_ n2_ n3_ n4_ n5_ n6_; clear hb hbox hg; have hnb15 := NB229_227.out; have hnc15 := NB227_229.out; have hcz16_0 : w14.cell? ⟨gb229, 0, none⟩ = some (.int .i64 0) := (blk_cell BK229.out 0).trans rfl; have hcz16_1 : w14.cell? ⟨gb229, 1, none⟩ = some (.int .i64 0) := (blk_cell BK229.out 1).trans rfl; have hcz16_2 : w14.cell? ⟨gb229, 2, none⟩ = some (.string (⟨#[]⟩ : ByteArray)) := (blk_cell BK229.out 2).trans rfl; have hfz16_0 := blk_frozen BK229.out 0; have hfz16_1 := blk_frozen BK229.out 1; have hfz16_2 := blk_frozen BK229.out 2))
                        (try simp only [Act.put, List.setIfInBounds_toArray, List.set_cons_zero, List.set_cons_succ])
                        go_cut [7] (fun v7 wc => ∃ (kq : Nat) (x7_12 : Bool), v7 = .bool x7_12 ∧ Aside0 (impl_ModsOk.j2 kq l0 x7_12 l0 (l0.length : Int) x11_1 ((rd_T72 l0 x11_1).f0) (((rd_T72 l0 x11_1).f0).length : Int) x22_2 ((rd_T74 ((rd_T72 l0 x11_1).f0) x22_2).f0) ((rd_T74 ((rd_T72 l0 x11_1).f0) x22_2).f1) ((rd_T74 ((rd_T72 l0 x11_1).f0) x22_2).f2) = some r) ∧ Aside0 (kq ≤ k2) ∧ Aside0 (wc.heap[gb227]? = some (.cells #[(.slice (some ad228) ((rd_T72 l0 x11_1).f0).length c226_0)] 72 (0, 0))) ∧ Aside0 (wc.heap[gb229]? = some (.cells #[.int .i64 ((rd_T74 ((rd_T72 l0 x11_1).f0) x22_2).f0), .int .i64 ((rd_T74 ((rd_T72 l0 x11_1).f0) x22_2).f1), .string ((rd_T74 ((rd_T72 l0 x11_1).f0) x22_2).f2)] 74 (0, 0))) ∧ Aside0 (Below w.heap.size w wc))
                        case first =>
                          have H := HC13.out
                          clear HC13
                          by_cases c17 : ((rd_T74 ((rd_T72 l0 x11_1).f0) x22_2).f0) = 3
                          · rw [if_pos c17] at H
                            have c17b0 : (((rd_T74 ((rd_T72 l0 x11_1).f0) x22_2).f0) == 3) = true := beq_iff_eq.mpr c17
                            have c17b1 : (((rd_T74 ((rd_T72 l0 x11_1).f0) x22_2).f0) != 3) = false := bne_eq_false_iff_eq.mpr c17
                            clear c17
                            (first | rw [c17b0] | (simp only [i64_w, i32_w]; rw [c17b0]) | skip)
                            have H' := Aside0.mk H
                            clear H
                            have hnb18 := NB229_227.out
                            have hnc18 := NB227_229.out
                            have hcz19_0 : w14.cell? ⟨gb229, 0, none⟩ = some (.int .i64 0) := (blk_cell BK229.out 0).trans rfl
                            have hcz19_1 : w14.cell? ⟨gb229, 1, none⟩ = some (.int .i64 0) := (blk_cell BK229.out 1).trans rfl
                            have hcz19_2 : w14.cell? ⟨gb229, 2, none⟩ = some (.string (⟨#[]⟩ : ByteArray)) := (blk_cell BK229.out 2).trans rfl
                            have hfz19_0 := blk_frozen BK229.out 0
                            have hfz19_1 := blk_frozen BK229.out 1
                            have hfz19_2 := blk_frozen BK229.out 2
                            go_wp2
                            go_meet
                            case rel => exact ⟨_, (true), (by first | rfl | (simp; done) | (simp [*]; done) | exact congrArg Value.bool (isEmpty_bne _)), H', ⟨by have := HK1.out; have := HK2.out; first | omega | exact Nat.le_refl _⟩, ⟨by (with_reducible repeat (first | refine blk_drewN ?_ _ | refine blk_drew ?_ | refine blk_alloc ?_ _)); refine blk_far ?_ NB227_229.out _; (with_reducible repeat (first | refine blk_drewN ?_ _ | refine blk_drew ?_ | refine blk_alloc ?_ _)); refine blk_far ?_ NB227_229.out _; (with_reducible repeat (first | refine blk_drewN ?_ _ | refine blk_drew ?_ | refine blk_alloc ?_ _)); refine blk_far ?_ NB227_229.out _; (with_reducible repeat (first | refine blk_drewN ?_ _ | refine blk_drew ?_ | refine blk_alloc ?_ _)); exact BK227.out⟩, ⟨by (with_reducible repeat (first | refine blk_drewN ?_ _ | refine blk_drew ?_ | refine blk_alloc ?_ _)); refine blk_put (cs := #[.int .i64 ((rd_T74 ((rd_T72 l0 x11_1).f0) x22_2).f0), .int .i64 ((rd_T74 ((rd_T72 l0 x11_1).f0) x22_2).f1), .string (⟨#[]⟩ : ByteArray)]) ?_ 2 _ rfl; (with_reducible repeat (first | refine blk_drewN ?_ _ | refine blk_drew ?_ | refine blk_alloc ?_ _)); refine blk_put (cs := #[.int .i64 ((rd_T74 ((rd_T72 l0 x11_1).f0) x22_2).f0), .int .i64 0, .string (⟨#[]⟩ : ByteArray)]) ?_ 1 _ rfl; (with_reducible repeat (first | refine blk_drewN ?_ _ | refine blk_drew ?_ | refine blk_alloc ?_ _)); refine blk_put (cs := #[.int .i64 0, .int .i64 0, .string (⟨#[]⟩ : ByteArray)]) ?_ 0 _ rfl; (with_reducible repeat (first | refine blk_drewN ?_ _ | refine blk_drew ?_ | refine blk_alloc ?_ _)); exact BK229.out⟩, ⟨by repeat (first | (with_reducible first | exact HB.out | apply below_alloc | apply pw_below_drewN | apply below_drew1 | refine below_set ?_ GE227.out | refine below_set ?_ GE229.out) | exact HB.out)⟩⟩
                          · rw [if_neg c17] at H
                            have c17b0 : (((rd_T74 ((rd_T72 l0 x11_1).f0) x22_2).f0) == 3) = false := beq_eq_false_iff_ne.mpr c17
                            have c17b1 : (((rd_T74 ((rd_T72 l0 x11_1).f0) x22_2).f0) != 3) = true := bne_iff_ne.mpr c17
                            (first | rw [c17b0] | (simp only [i64_w, i32_w]; rw [c17b0]) | skip)
                            have H' := Aside0.mk H
                            clear H
                            have hnb20 := NB229_227.out
                            have hnc20 := NB227_229.out
                            have hcz21_0 : w14.cell? ⟨gb229, 0, none⟩ = some (.int .i64 0) := (blk_cell BK229.out 0).trans rfl
                            have hcz21_1 : w14.cell? ⟨gb229, 1, none⟩ = some (.int .i64 0) := (blk_cell BK229.out 1).trans rfl
                            have hcz21_2 : w14.cell? ⟨gb229, 2, none⟩ = some (.string (⟨#[]⟩ : ByteArray)) := (blk_cell BK229.out 2).trans rfl
                            have hfz21_0 := blk_frozen BK229.out 0
                            have hfz21_1 := blk_frozen BK229.out 1
                            have hfz21_2 := blk_frozen BK229.out 2
                            go_wp2
                            go_meet
                            case rel => exact ⟨_, ((((rd_T74 ((rd_T72 l0 x11_1).f0) x22_2).f0) == 4)), (by first | rfl | (simp; done) | (simp [*]; done) | exact congrArg Value.bool (isEmpty_bne _)), H', ⟨by have := HK1.out; have := HK2.out; first | omega | exact Nat.le_refl _⟩, ⟨by (with_reducible repeat (first | refine blk_drewN ?_ _ | refine blk_drew ?_ | refine blk_alloc ?_ _)); refine blk_far ?_ NB227_229.out _; (with_reducible repeat (first | refine blk_drewN ?_ _ | refine blk_drew ?_ | refine blk_alloc ?_ _)); refine blk_far ?_ NB227_229.out _; (with_reducible repeat (first | refine blk_drewN ?_ _ | refine blk_drew ?_ | refine blk_alloc ?_ _)); refine blk_far ?_ NB227_229.out _; (with_reducible repeat (first | refine blk_drewN ?_ _ | refine blk_drew ?_ | refine blk_alloc ?_ _)); exact BK227.out⟩, ⟨by (with_reducible repeat (first | refine blk_drewN ?_ _ | refine blk_drew ?_ | refine blk_alloc ?_ _)); refine blk_put (cs := #[.int .i64 ((rd_T74 ((rd_T72 l0 x11_1).f0) x22_2).f0), .int .i64 ((rd_T74 ((rd_T72 l0 x11_1).f0) x22_2).f1), .string (⟨#[]⟩ : ByteArray)]) ?_ 2 _ rfl; (with_reducible repeat (first | refine blk_drewN ?_ _ | refine blk_drew ?_ | refine blk_alloc ?_ _)); refine blk_put (cs := #[.int .i64 ((rd_T74 ((rd_T72 l0 x11_1).f0) x22_2).f0), .int .i64 0, .string (⟨#[]⟩ : ByteArray)]) ?_ 1 _ rfl; (with_reducible repeat (first | refine blk_drewN ?_ _ | refine blk_drew ?_ | refine blk_alloc ?_ _)); refine blk_put (cs := #[.int .i64 0, .int .i64 0, .string (⟨#[]⟩ : ByteArray)]) ?_ 0 _ rfl; (with_reducible repeat (first | refine blk_drewN ?_ _ | refine blk_drew ?_ | refine blk_alloc ?_ _)); exact BK229.out⟩, ⟨by repeat (first | (with_reducible first | exact HB.out | apply below_alloc | apply pw_below_drewN | apply below_drew1 | refine below_set ?_ GE227.out | refine below_set ?_ GE229.out) | exact HB.out)⟩⟩
                        case rest =>
                          clear HC13
                          try clear c1
                          try clear c2
                          try clear c2b0
                          try clear p2
                          try clear q2
                          try clear hx2
                          try clear c3
                          try clear c3b0
                          try clear c4
                          try clear c4b0
                          try clear c5
                          try clear c5b0
                          try clear c5b1
                          try clear c10
                          try clear c10b0
                          try clear c11
                          try clear c11b0
                          try clear c12
                          try clear c12b0
                          try clear c15
                          try clear c17
                          try clear c17b0
                          try clear c17b1
                          try clear c18
                          try clear c20
                          try clear hcz16_0
                          try clear hcz16_1
                          try clear hcz16_2
                          try clear hcz19_0
                          try clear hcz19_1
                          try clear hcz19_2
                          try clear hcz21_0
                          try clear hcz21_1
                          try clear hcz21_2
                          try clear hcz7_0
                          try clear hcz9_0
                          try clear hfz16_0
                          try clear hfz16_1
                          try clear hfz16_2
                          try clear hfz19_0
                          try clear hfz19_1
                          try clear hfz19_2
                          try clear hfz21_0
                          try clear hfz21_1
                          try clear hfz21_2
                          try clear hfz7_0
                          try clear hfz9_0
                          try clear hx226_0
                          try clear hx228_0
                          try clear hx228_1
                          try clear hx228_2
                          try clear p2
                          try clear p226
                          try clear p228
                          try clear q2
                          try clear q226
                          try clear q228
                          obtain ⟨kq, x7_12, rfl, HA, HJ12, BK227, BK229, HB⟩ := hcut
                          cases kq with
                          | zero => exact absurd HA.out (by simp [impl_ModsOk.j2])
                          | succ kj12 =>
                            have H := HA.out
                            clear HA
                            simp only [impl_ModsOk.j2] at H
                            have HC22 := Aside0.mk H
                            clear H
                            go_upto_region 10 with (fail)
                            go_cut [49] (fun v49 wc => ∃ (kq : Nat) (x49_21 : Bool), v49 = .bool x49_21 ∧ Aside0 (impl_ModsOk.j3 kq l0 l0 (l0.length : Int) x11_1 ((rd_T72 l0 x11_1).f0) (((rd_T72 l0 x11_1).f0).length : Int) x22_2 x49_21 ((rd_T74 ((rd_T72 l0 x11_1).f0) x22_2).f0) ((rd_T74 ((rd_T72 l0 x11_1).f0) x22_2).f1) ((rd_T74 ((rd_T72 l0 x11_1).f0) x22_2).f2) = some r) ∧ Aside0 (kq ≤ kj12) ∧ Aside0 (wc.heap[gb227]? = some (.cells #[(.slice (some ad228) ((rd_T72 l0 x11_1).f0).length c226_0)] 72 (0, 0))) ∧ Aside0 (wc.heap[gb229]? = some (.cells #[.int .i64 ((rd_T74 ((rd_T72 l0 x11_1).f0) x22_2).f0), .int .i64 ((rd_T74 ((rd_T72 l0 x11_1).f0) x22_2).f1), .string ((rd_T74 ((rd_T72 l0 x11_1).f0) x22_2).f2)] 74 (0, 0))) ∧ Aside0 (Below w.heap.size w wc))
                            case first =>
                              have H := HC22.out
                              clear HC22
                              by_cases c23 : x7_12 = true
                              · subst c23
                                have H1 : ((impl_NameOk.f kj12 ((rd_T74 ((rd_T72 l0 x11_1).f0) x22_2).f2)).bind fun t230 => (if t230 = true then (impl_ModsOk.j3 kj12 l0 l0 (l0.length : Int) x11_1 ((rd_T72 l0 x11_1).f0) (((rd_T72 l0 x11_1).f0).length : Int) x22_2 false ((rd_T74 ((rd_T72 l0 x11_1).f0) x22_2).f0) ((rd_T74 ((rd_T72 l0 x11_1).f0) x22_2).f1) ((rd_T74 ((rd_T72 l0 x11_1).f0) x22_2).f2)) else (impl_ModsOk.j3 kj12 l0 l0 (l0.length : Int) x11_1 ((rd_T72 l0 x11_1).f0) (((rd_T72 l0 x11_1).f0).length : Int) x22_2 true ((rd_T74 ((rd_T72 l0 x11_1).f0) x22_2).f0) ((rd_T74 ((rd_T72 l0 x11_1).f0) x22_2).f1) ((rd_T74 ((rd_T72 l0 x11_1).f0) x22_2).f2)))) = some r := by rw [if_pos rfl] at H; exact H
                                clear H
                                have H := H1
                                clear H1
                                replace H := Option.bind_eq_some_iff.mp H
                                obtain ⟨t230, A240, H⟩ := H
                                replace H : (if t230 = true then (impl_ModsOk.j3 kj12 l0 l0 (l0.length : Int) x11_1 ((rd_T72 l0 x11_1).f0) (((rd_T72 l0 x11_1).f0).length : Int) x22_2 false ((rd_T74 ((rd_T72 l0 x11_1).f0) x22_2).f0) ((rd_T74 ((rd_T72 l0 x11_1).f0) x22_2).f1) ((rd_T74 ((rd_T72 l0 x11_1).f0) x22_2).f2)) else (impl_ModsOk.j3 kj12 l0 l0 (l0.length : Int) x11_1 ((rd_T72 l0 x11_1).f0) (((rd_T72 l0 x11_1).f0).length : Int) x22_2 true ((rd_T74 ((rd_T72 l0 x11_1).f0) x22_2).f0) ((rd_T74 ((rd_T72 l0 x11_1).f0) x22_2).f1) ((rd_T74 ((rd_T72 l0 x11_1).f0) x22_2).f2))) = some r := H
                                have A24 := Aside0.mk A240
                                clear A240
                                by_cases c25 : t230 = true
                                · subst c25
                                  have H1 : (impl_ModsOk.j3 kj12 l0 l0 (l0.length : Int) x11_1 ((rd_T72 l0 x11_1).f0) (((rd_T72 l0 x11_1).f0).length : Int) x22_2 false ((rd_T74 ((rd_T72 l0 x11_1).f0) x22_2).f0) ((rd_T74 ((rd_T72 l0 x11_1).f0) x22_2).f1) ((rd_T74 ((rd_T72 l0 x11_1).f0) x22_2).f2)) = some r := by rw [if_pos rfl] at H; exact H
                                  clear H
                                  have H := H1
                                  clear H1
                                  have H' := Aside0.mk H
                                  clear H
                                  have hnb26 := NB229_227.out
                                  have hnc26 := NB227_229.out
                                  have hcz27_0 : wc.cell? ⟨gb229, 0, none⟩ = some (.int .i64 ((rd_T74 ((rd_T72 l0 x11_1).f0) x22_2).f0)) := (blk_cell BK229.out 0).trans rfl
                                  have hcz27_1 : wc.cell? ⟨gb229, 1, none⟩ = some (.int .i64 ((rd_T74 ((rd_T72 l0 x11_1).f0) x22_2).f1)) := (blk_cell BK229.out 1).trans rfl
                                  have hcz27_2 : wc.cell? ⟨gb229, 2, none⟩ = some (.string ((rd_T74 ((rd_T72 l0 x11_1).f0) x22_2).f2)) := (blk_cell BK229.out 2).trans rfl
                                  have hfz27_0 := blk_frozen BK229.out 0
                                  have hfz27_1 := blk_frozen BK229.out 1
                                  have hfz27_2 := blk_frozen BK229.out 2
                                  go_wp2_with (first | (go_at_call 94; (with_reducible refine (impl_NameOk.calls kj12 ((rd_T74 ((rd_T72 l0 x11_1).f0) x22_2).f2) true _ A24.out).mono ?_); rintro e w28 ⟨rfl, hb⟩; have n0_ := Aside0.mk (blk_below (g := gb227) (o := .cells #[.slice (some ad228) ((rd_T72 l0 x11_1).f0).length c226_0] 72 (0, 0)) (by (with_reducible repeat (first | refine blk_drewN ?_ _ | refine blk_drew ?_ | refine blk_alloc ?_ _)); exact BK227.out) hb); have n1_ := Aside0.mk (blk_below (g := gb229) (o := .cells #[.int .i64 ((rd_T74 ((rd_T72 l0 x11_1).f0) x22_2).f0), .int .i64 ((rd_T74 ((rd_T72 l0 x11_1).f0) x22_2).f1), .string ((rd_T74 ((rd_T72 l0 x11_1).f0) x22_2).f2)] 74 (0, 0)) (by (with_reducible repeat (first | refine blk_drewN ?_ _ | refine blk_drew ?_ | refine blk_alloc ?_ _)); exact BK229.out) hb); have n2_ := Aside0.mk (below_step (by repeat (first | (with_reducible first | exact HB.out | apply below_alloc | apply pw_below_drewN | apply below_drew1 | refine below_set ?_ GE227.out | refine below_set ?_ GE229.out) | exact HB.out)) hb); clear BK227; clear BK229; clear HB; have BK227 := n0_; have BK229 := n1_; have HB := n2_; clear n0_ n1_ n2_; (try clear hb); (try clear hb2); (try clear hk); (try clear hi)))
                                  go_meet
                                  case rel => exact ⟨_, (false), (by first | rfl | (simp; done) | (simp [*]; done) | exact congrArg Value.bool (isEmpty_bne _)), H', ⟨by have := HK1.out; have := HK2.out; have := HJ12.out; first | omega | exact Nat.le_refl _⟩, ⟨by (with_reducible repeat (first | refine blk_drewN ?_ _ | refine blk_drew ?_ | refine blk_alloc ?_ _)); exact BK227.out⟩, ⟨by (with_reducible repeat (first | refine blk_drewN ?_ _ | refine blk_drew ?_ | refine blk_alloc ?_ _)); exact BK229.out⟩, ⟨by repeat (first | (with_reducible first | exact HB.out | apply below_alloc | apply pw_below_drewN | apply below_drew1 | refine below_set ?_ GE227.out | refine below_set ?_ GE229.out) | exact HB.out)⟩⟩
                                · replace c25 := Bool.eq_false_iff.mpr c25
                                  subst c25
                                  have H1 : (impl_ModsOk.j3 kj12 l0 l0 (l0.length : Int) x11_1 ((rd_T72 l0 x11_1).f0) (((rd_T72 l0 x11_1).f0).length : Int) x22_2 true ((rd_T74 ((rd_T72 l0 x11_1).f0) x22_2).f0) ((rd_T74 ((rd_T72 l0 x11_1).f0) x22_2).f1) ((rd_T74 ((rd_T72 l0 x11_1).f0) x22_2).f2)) = some r := by rw [if_neg (show ¬ (false = true) by decide)] at H; exact H
                                  clear H
                                  have H := H1
                                  clear H1
                                  have H' := Aside0.mk H
                                  clear H
                                  have hnb29 := NB229_227.out
                                  have hnc29 := NB227_229.out
                                  have hcz30_0 : wc.cell? ⟨gb229, 0, none⟩ = some (.int .i64 ((rd_T74 ((rd_T72 l0 x11_1).f0) x22_2).f0)) := (blk_cell BK229.out 0).trans rfl
                                  have hcz30_1 : wc.cell? ⟨gb229, 1, none⟩ = some (.int .i64 ((rd_T74 ((rd_T72 l0 x11_1).f0) x22_2).f1)) := (blk_cell BK229.out 1).trans rfl
                                  have hcz30_2 : wc.cell? ⟨gb229, 2, none⟩ = some (.string ((rd_T74 ((rd_T72 l0 x11_1).f0) x22_2).f2)) := (blk_cell BK229.out 2).trans rfl
                                  have hfz30_0 := blk_frozen BK229.out 0
                                  have hfz30_1 := blk_frozen BK229.out 1
                                  have hfz30_2 := blk_frozen BK229.out 2
                                  go_wp2_with (first | (go_at_call 94; (with_reducible refine (impl_NameOk.calls kj12 ((rd_T74 ((rd_T72 l0 x11_1).f0) x22_2).f2) false _ A24.out).mono ?_); rintro e w31 ⟨rfl, hb⟩; have n0_ := Aside0.mk (blk_below (g := gb227) (o := .cells #[.slice (some ad228) ((rd_T72 l0 x11_1).f0).length c226_0] 72 (0, 0)) (by (with_reducible repeat (first | refine blk_drewN ?_ _ | refine blk_drew ?_ | refine blk_alloc ?_ _)); exact BK227.out) hb); have n1_ := Aside0.mk (blk_below (g := gb229) (o := .cells #[.int .i64 ((rd_T74 ((rd_T72 l0 x11_1).f0) x22_2).f0), .int .i64 ((rd_T74 ((rd_T72 l0 x11_1).f0) x22_2).f1), .string ((rd_T74 ((rd_T72 l0 x11_1).f0) x22_2).f2)] 74 (0, 0)) (by (with_reducible repeat (first | refine blk_drewN ?_ _ | refine blk_drew ?_ | refine blk_alloc ?_ _)); exact BK229.out) hb); have n2_ := Aside0.mk (below_step (by repeat (first | (with_reducible first | exact HB.out | apply below_alloc | apply pw_below_drewN | apply below_drew1 | refine below_set ?_ GE227.out | refine below_set ?_ GE229.out) | exact HB.out)) hb); clear BK227; clear BK229; clear HB; have BK227 := n0_; have BK229 := n1_; have HB := n2_; clear n0_ n1_ n2_; (try clear hb); (try clear hb2); (try clear hk); (try clear hi)))
                                  go_meet
                                  case rel => exact ⟨_, (true), (by first | rfl | (simp; done) | (simp [*]; done) | exact congrArg Value.bool (isEmpty_bne _)), H', ⟨by have := HK1.out; have := HK2.out; have := HJ12.out; first | omega | exact Nat.le_refl _⟩, ⟨by (with_reducible repeat (first | refine blk_drewN ?_ _ | refine blk_drew ?_ | refine blk_alloc ?_ _)); exact BK227.out⟩, ⟨by (with_reducible repeat (first | refine blk_drewN ?_ _ | refine blk_drew ?_ | refine blk_alloc ?_ _)); exact BK229.out⟩, ⟨by repeat (first | (with_reducible first | exact HB.out | apply below_alloc | apply pw_below_drewN | apply below_drew1 | refine below_set ?_ GE227.out | refine below_set ?_ GE229.out) | exact HB.out)⟩⟩
                              · replace c23 := Bool.eq_false_iff.mpr c23
                                subst c23
                                have H1 : (impl_ModsOk.j3 kj12 l0 l0 (l0.length : Int) x11_1 ((rd_T72 l0 x11_1).f0) (((rd_T72 l0 x11_1).f0).length : Int) x22_2 (((rd_T74 ((rd_T72 l0 x11_1).f0) x22_2).f2).toList != ([] : List UInt8)) ((rd_T74 ((rd_T72 l0 x11_1).f0) x22_2).f0) ((rd_T74 ((rd_T72 l0 x11_1).f0) x22_2).f1) ((rd_T74 ((rd_T72 l0 x11_1).f0) x22_2).f2)) = some r := by rw [if_neg (show ¬ (false = true) by decide)] at H; exact H
                                clear H
                                have H := H1
                                clear H1
                                have H' := Aside0.mk H
                                clear H
                                have hnb32 := NB229_227.out
                                have hnc32 := NB227_229.out
                                have hcz33_0 : wc.cell? ⟨gb229, 0, none⟩ = some (.int .i64 ((rd_T74 ((rd_T72 l0 x11_1).f0) x22_2).f0)) := (blk_cell BK229.out 0).trans rfl
                                have hcz33_1 : wc.cell? ⟨gb229, 1, none⟩ = some (.int .i64 ((rd_T74 ((rd_T72 l0 x11_1).f0) x22_2).f1)) := (blk_cell BK229.out 1).trans rfl
                                have hcz33_2 : wc.cell? ⟨gb229, 2, none⟩ = some (.string ((rd_T74 ((rd_T72 l0 x11_1).f0) x22_2).f2)) := (blk_cell BK229.out 2).trans rfl
                                have hfz33_0 := blk_frozen BK229.out 0
                                have hfz33_1 := blk_frozen BK229.out 1
                                have hfz33_2 := blk_frozen BK229.out 2
                                go_wp2
                                go_meet
                                case rel => exact ⟨_, ((((rd_T74 ((rd_T72 l0 x11_1).f0) x22_2).f2).toList != ([] : List UInt8))), (by first | rfl | (simp; done) | (simp [*]; done) | exact congrArg Value.bool (isEmpty_bne _)), H', ⟨by have := HK1.out; have := HK2.out; have := HJ12.out; first | omega | exact Nat.le_refl _⟩, ⟨by (with_reducible repeat (first | refine blk_drewN ?_ _ | refine blk_drew ?_ | refine blk_alloc ?_ _)); exact BK227.out⟩, ⟨by (with_reducible repeat (first | refine blk_drewN ?_ _ | refine blk_drew ?_ | refine blk_alloc ?_ _)); exact BK229.out⟩, ⟨by repeat (first | (with_reducible first | exact HB.out | apply below_alloc | apply pw_below_drewN | apply below_drew1 | refine below_set ?_ GE227.out | refine below_set ?_ GE229.out) | exact HB.out)⟩⟩
                            case rest =>
                              clear HC22
                              try clear c1
                              try clear c2
                              try clear c2b0
                              try clear p2
                              try clear q2
                              try clear hx2
                              try clear c3
                              try clear c3b0
                              try clear c4
                              try clear c4b0
                              try clear c5
                              try clear c5b0
                              try clear c5b1
                              try clear c10
                              try clear c10b0
                              try clear c11
                              try clear c11b0
                              try clear c12
                              try clear c12b0
                              try clear c15
                              try clear c17
                              try clear c17b0
                              try clear c17b1
                              try clear c18
                              try clear c20
                              try clear c22
                              try clear p22
                              try clear q22
                              try clear hx22
                              try clear c23
                              try clear c25
                              try clear c26
                              try clear c29
                              try clear c32
                              try clear hcz16_0
                              try clear hcz16_1
                              try clear hcz16_2
                              try clear hcz19_0
                              try clear hcz19_1
                              try clear hcz19_2
                              try clear hcz21_0
                              try clear hcz21_1
                              try clear hcz21_2
                              try clear hcz27_0
                              try clear hcz27_1
                              try clear hcz27_2
                              try clear hcz30_0
                              try clear hcz30_1
                              try clear hcz30_2
                              try clear hcz33_0
                              try clear hcz33_1
                              try clear hcz33_2
                              try clear hcz7_0
                              try clear hcz9_0
                              try clear hfz16_0
                              try clear hfz16_1
                              try clear hfz16_2
                              try clear hfz19_0
                              try clear hfz19_1
                              try clear hfz19_2
                              try clear hfz21_0
                              try clear hfz21_1
                              try clear hfz21_2
                              try clear hfz27_0
                              try clear hfz27_1
                              try clear hfz27_2
                              try clear hfz30_0
                              try clear hfz30_1
                              try clear hfz30_2
                              try clear hfz33_0
                              try clear hfz33_1
                              try clear hfz33_2
                              try clear hfz7_0
                              try clear hfz9_0
                              try clear hx226_0
                              try clear hx228_0
                              try clear hx228_1
                              try clear hx228_2
                              try clear p2
                              try clear p226
                              try clear p228
                              try clear q2
                              try clear q226
                              try clear q228
                              obtain ⟨kq, x49_21, rfl, HA, HJ21, BK227, BK229, HB⟩ := hcut
                              cases kq with
                              | zero => exact absurd HA.out (by simp [impl_ModsOk.j3])
                              | succ kj21 =>
                                have H := HA.out
                                clear HA
                                simp only [impl_ModsOk.j3] at H
                                by_cases c34 : x49_21 = true
                                · subst c34
                                  have H1 : (some false) = some r := by rw [if_pos rfl] at H; exact H
                                  clear H
                                  have H := H1
                                  clear H1
                                  obtain rfl := Option.some.inj H
                                  go_wp2
                                  go_ret
                                  exact ⟨by first | rfl | (simp [errW_none, errW_some] <;> rfl) | (simp [*, errW_none, errW_some] <;> rfl), by repeat (first | (with_reducible first | exact HB.out | apply below_alloc | apply pw_below_drewN | apply below_drew1 | refine below_set ?_ GE227.out | refine below_set ?_ GE229.out) | exact HB.out)⟩
                                · replace c34 := Bool.eq_false_iff.mpr c34
                                  subst c34
                                  have H1 : (if ((rd_T74 ((rd_T72 l0 x11_1).f0) x22_2).f0) = 1 then (impl_ModsOk.j4 kj21 l0 (-1) l0 (l0.length : Int) x11_1 ((rd_T72 l0 x11_1).f0) (((rd_T72 l0 x11_1).f0).length : Int) x22_2 ((rd_T74 ((rd_T72 l0 x11_1).f0) x22_2).f0) (((rd_T74 ((rd_T72 l0 x11_1).f0) x22_2).f0) == 1) ((rd_T74 ((rd_T72 l0 x11_1).f0) x22_2).f0) ((rd_T74 ((rd_T72 l0 x11_1).f0) x22_2).f1) ((rd_T74 ((rd_T72 l0 x11_1).f0) x22_2).f2)) else (if ((rd_T74 ((rd_T72 l0 x11_1).f0) x22_2).f0) = 2 then (impl_ModsOk.j4 kj21 l0 (-1) l0 (l0.length : Int) x11_1 ((rd_T72 l0 x11_1).f0) (((rd_T72 l0 x11_1).f0).length : Int) x22_2 ((rd_T74 ((rd_T72 l0 x11_1).f0) x22_2).f0) (((rd_T74 ((rd_T72 l0 x11_1).f0) x22_2).f0) == 2) ((rd_T74 ((rd_T72 l0 x11_1).f0) x22_2).f0) ((rd_T74 ((rd_T72 l0 x11_1).f0) x22_2).f1) ((rd_T74 ((rd_T72 l0 x11_1).f0) x22_2).f2)) else (impl_ModsOk.j4 kj21 l0 (-1) l0 (l0.length : Int) x11_1 ((rd_T72 l0 x11_1).f0) (((rd_T72 l0 x11_1).f0).length : Int) x22_2 ((rd_T74 ((rd_T72 l0 x11_1).f0) x22_2).f0) (((rd_T74 ((rd_T72 l0 x11_1).f0) x22_2).f0) == 4) ((rd_T74 ((rd_T72 l0 x11_1).f0) x22_2).f0) ((rd_T74 ((rd_T72 l0 x11_1).f0) x22_2).f1) ((rd_T74 ((rd_T72 l0 x11_1).f0) x22_2).f2)))) = some r := by rw [if_neg (show ¬ (false = true) by decide)] at H; exact H
                                  clear H
                                  have H := H1
                                  clear H1
                                  have HC35 := Aside0.mk H
                                  clear H
                                  have hnb36 := NB229_227.out
                                  have hnc36 := NB227_229.out
                                  have hcz37_0 : wc.cell? ⟨gb229, 0, none⟩ = some (.int .i64 ((rd_T74 ((rd_T72 l0 x11_1).f0) x22_2).f0)) := (blk_cell BK229.out 0).trans rfl
                                  have hcz37_1 : wc.cell? ⟨gb229, 1, none⟩ = some (.int .i64 ((rd_T74 ((rd_T72 l0 x11_1).f0) x22_2).f1)) := (blk_cell BK229.out 1).trans rfl
                                  have hcz37_2 : wc.cell? ⟨gb229, 2, none⟩ = some (.string ((rd_T74 ((rd_T72 l0 x11_1).f0) x22_2).f2)) := (blk_cell BK229.out 2).trans rfl
                                  have hfz37_0 := blk_frozen BK229.out 0
                                  have hfz37_1 := blk_frozen BK229.out 1
                                  have hfz37_2 := blk_frozen BK229.out 2
                                  go_upto_if 52 with (fail)
                                  go_cut [52] (fun v52 wc => ∃ (kq : Nat) (x52_34 : Bool), v52 = .bool x52_34 ∧ Aside0 (impl_ModsOk.j4 kq l0 (-1) l0 (l0.length : Int) x11_1 ((rd_T72 l0 x11_1).f0) (((rd_T72 l0 x11_1).f0).length : Int) x22_2 ((rd_T74 ((rd_T72 l0 x11_1).f0) x22_2).f0) x52_34 ((rd_T74 ((rd_T72 l0 x11_1).f0) x22_2).f0) ((rd_T74 ((rd_T72 l0 x11_1).f0) x22_2).f1) ((rd_T74 ((rd_T72 l0 x11_1).f0) x22_2).f2) = some r) ∧ Aside0 (kq ≤ kj21) ∧ Aside0 (wc.heap[gb227]? = some (.cells #[(.slice (some ad228) ((rd_T72 l0 x11_1).f0).length c226_0)] 72 (0, 0))) ∧ Aside0 (wc.heap[gb229]? = some (.cells #[.int .i64 ((rd_T74 ((rd_T72 l0 x11_1).f0) x22_2).f0), .int .i64 ((rd_T74 ((rd_T72 l0 x11_1).f0) x22_2).f1), .string ((rd_T74 ((rd_T72 l0 x11_1).f0) x22_2).f2)] 74 (0, 0))) ∧ Aside0 (Below w.heap.size w wc))
                                  case first =>
                                    have H := HC35.out
                                    clear HC35
                                    by_cases c38 : ((rd_T74 ((rd_T72 l0 x11_1).f0) x22_2).f0) = 1
                                    · rw [if_pos c38] at H
                                      have c38b0 : (((rd_T74 ((rd_T72 l0 x11_1).f0) x22_2).f0) == 1) = true := beq_iff_eq.mpr c38
                                      have c38b1 : (((rd_T74 ((rd_T72 l0 x11_1).f0) x22_2).f0) != 1) = false := bne_eq_false_iff_eq.mpr c38
                                      clear c38
                                      (first | rw [c38b0] | (simp only [i64_w, i32_w]; rw [c38b0]) | skip)
                                      have H' := Aside0.mk H
                                      clear H
                                      go_wp2
                                      go_meet
                                      case rel => exact ⟨_, ((((rd_T74 ((rd_T72 l0 x11_1).f0) x22_2).f0) == 1)), (by first | rfl | (simp; done) | (simp [*]; done) | exact congrArg Value.bool (isEmpty_bne _)), H', ⟨by have := HK1.out; have := HK2.out; have := HJ12.out; have := HJ21.out; first | omega | exact Nat.le_refl _⟩, ⟨by (with_reducible repeat (first | refine blk_drewN ?_ _ | refine blk_drew ?_ | refine blk_alloc ?_ _)); exact BK227.out⟩, ⟨by (with_reducible repeat (first | refine blk_drewN ?_ _ | refine blk_drew ?_ | refine blk_alloc ?_ _)); exact BK229.out⟩, ⟨by repeat (first | (with_reducible first | exact HB.out | apply below_alloc | apply pw_below_drewN | apply below_drew1 | refine below_set ?_ GE227.out | refine below_set ?_ GE229.out) | exact HB.out)⟩⟩
                                    · rw [if_neg c38] at H
                                      have c38b0 : (((rd_T74 ((rd_T72 l0 x11_1).f0) x22_2).f0) == 1) = false := beq_eq_false_iff_ne.mpr c38
                                      have c38b1 : (((rd_T74 ((rd_T72 l0 x11_1).f0) x22_2).f0) != 1) = true := bne_iff_ne.mpr c38
                                      (first | rw [c38b0] | (simp only [i64_w, i32_w]; rw [c38b0]) | skip)
                                      by_cases c39 : ((rd_T74 ((rd_T72 l0 x11_1).f0) x22_2).f0) = 2
                                      · rw [if_pos c39] at H
                                        have c39b0 : (((rd_T74 ((rd_T72 l0 x11_1).f0) x22_2).f0) == 2) = true := beq_iff_eq.mpr c39
                                        have c39b1 : (((rd_T74 ((rd_T72 l0 x11_1).f0) x22_2).f0) != 2) = false := bne_eq_false_iff_eq.mpr c39
                                        clear c39
                                        have H' := Aside0.mk H
                                        clear H
                                        go_wp2
                                        go_meet
                                        case rel => exact ⟨_, ((((rd_T74 ((rd_T72 l0 x11_1).f0) x22_2).f0) == 2)), (by first | rfl | (simp; done) | (simp [*]; done) | exact congrArg Value.bool (isEmpty_bne _)), H', ⟨by have := HK1.out; have := HK2.out; have := HJ12.out; have := HJ21.out; first | omega | exact Nat.le_refl _⟩, ⟨by (with_reducible repeat (first | refine blk_drewN ?_ _ | refine blk_drew ?_ | refine blk_alloc ?_ _)); exact BK227.out⟩, ⟨by (with_reducible repeat (first | refine blk_drewN ?_ _ | refine blk_drew ?_ | refine blk_alloc ?_ _)); exact BK229.out⟩, ⟨by repeat (first | (with_reducible first | exact HB.out | apply below_alloc | apply pw_below_drewN | apply below_drew1 | refine below_set ?_ GE227.out | refine below_set ?_ GE229.out) | exact HB.out)⟩⟩
                                      · rw [if_neg c39] at H
                                        have c39b0 : (((rd_T74 ((rd_T72 l0 x11_1).f0) x22_2).f0) == 2) = false := beq_eq_false_iff_ne.mpr c39
                                        have c39b1 : (((rd_T74 ((rd_T72 l0 x11_1).f0) x22_2).f0) != 2) = true := bne_iff_ne.mpr c39
                                        have H' := Aside0.mk H
                                        clear H
                                        go_wp2
                                        go_meet
                                        case rel => exact ⟨_, ((((rd_T74 ((rd_T72 l0 x11_1).f0) x22_2).f0) == 4)), (by first | rfl | (simp; done) | (simp [*]; done) | exact congrArg Value.bool (isEmpty_bne _)), H', ⟨by have := HK1.out; have := HK2.out; have := HJ12.out; have := HJ21.out; first | omega | exact Nat.le_refl _⟩, ⟨by (with_reducible repeat (first | refine blk_drewN ?_ _ | refine blk_drew ?_ | refine blk_alloc ?_ _)); exact BK227.out⟩, ⟨by (with_reducible repeat (first | refine blk_drewN ?_ _ | refine blk_drew ?_ | refine blk_alloc ?_ _)); exact BK229.out⟩, ⟨by repeat (first | (with_reducible first | exact HB.out | apply below_alloc | apply pw_below_drewN | apply below_drew1 | refine below_set ?_ GE227.out | refine below_set ?_ GE229.out) | exact HB.out)⟩⟩
                                  case rest =>
                                    clear HC35
                                    try clear c1
                                    try clear c2
                                    try clear c2b0
                                    try clear p2
                                    try clear q2
                                    try clear hx2
                                    try clear c3
                                    try clear c3b0
                                    try clear c4
                                    try clear c4b0
                                    try clear c5
                                    try clear c5b0
                                    try clear c5b1
                                    try clear c10
                                    try clear c10b0
                                    try clear c11
                                    try clear c11b0
                                    try clear c12
                                    try clear c12b0
                                    try clear c15
                                    try clear c17
                                    try clear c17b0
                                    try clear c17b1
                                    try clear c18
                                    try clear c20
                                    try clear c22
                                    try clear p22
                                    try clear q22
                                    try clear hx22
                                    try clear c23
                                    try clear c25
                                    try clear c26
                                    try clear c29
                                    try clear c32
                                    try clear c34
                                    try clear c36
                                    try clear c38
                                    try clear c38b0
                                    try clear c38b1
                                    try clear c39
                                    try clear c39b0
                                    try clear c39b1
                                    try clear hcz16_0
                                    try clear hcz16_1
                                    try clear hcz16_2
                                    try clear hcz19_0
                                    try clear hcz19_1
                                    try clear hcz19_2
                                    try clear hcz21_0
                                    try clear hcz21_1
                                    try clear hcz21_2
                                    try clear hcz27_0
                                    try clear hcz27_1
                                    try clear hcz27_2
                                    try clear hcz30_0
                                    try clear hcz30_1
                                    try clear hcz30_2
                                    try clear hcz33_0
                                    try clear hcz33_1
                                    try clear hcz33_2
                                    try clear hcz37_0
                                    try clear hcz37_1
                                    try clear hcz37_2
                                    try clear hcz7_0
                                    try clear hcz9_0
                                    try clear hfz16_0
                                    try clear hfz16_1
                                    try clear hfz16_2
                                    try clear hfz19_0
                                    try clear hfz19_1
                                    try clear hfz19_2
                                    try clear hfz21_0
                                    try clear hfz21_1
                                    try clear hfz21_2
                                    try clear hfz27_0
                                    try clear hfz27_1
                                    try clear hfz27_2
                                    try clear hfz30_0
                                    try clear hfz30_1
                                    try clear hfz30_2
                                    try clear hfz33_0
                                    try clear hfz33_1
                                    try clear hfz33_2
                                    try clear hfz37_0
                                    try clear hfz37_1
                                    try clear hfz37_2
                                    try clear hfz7_0
                                    try clear hfz9_0
                                    try clear hx226_0
                                    try clear hx228_0
                                    try clear hx228_1
                                    try clear hx228_2
                                    try clear p2
                                    try clear p22
                                    try clear p226
                                    try clear p228
                                    try clear q2
                                    try clear q22
                                    try clear q226
                                    try clear q228
                                    obtain ⟨kq, x52_34, rfl, HA, HJ34, BK227, BK229, HB⟩ := hcut
                                    cases kq with
                                    | zero => exact absurd HA.out (by simp [impl_ModsOk.j4])
                                    | succ kj34 =>
                                      have H := HA.out
                                      clear HA
                                      simp only [impl_ModsOk.j4] at H
                                      by_cases c40 : x52_34 = true
                                      · subst c40
                                        have H1 : ((impl_within.f ((rd_T74 ((rd_T72 l0 x11_1).f0) x22_2).f1) 0 (wrap64 ((l0.length : Int) - 1))).bind fun t231 => (if t231 = true then (impl_ModsOk.l1 kj34 l0 l0 (l0.length : Int) x11_1 ((rd_T72 l0 x11_1).f0) (((rd_T72 l0 x11_1).f0).length : Int) (wrap64 (x22_2 + 1))) else (some false))) = some r := by rw [if_pos rfl] at H; exact H
                                        clear H
                                        have H := H1
                                        clear H1
                                        replace H := Option.bind_eq_some_iff.mp H
                                        obtain ⟨t231, A410, H⟩ := H
                                        replace H : (if t231 = true then (impl_ModsOk.l1 kj34 l0 l0 (l0.length : Int) x11_1 ((rd_T72 l0 x11_1).f0) (((rd_T72 l0 x11_1).f0).length : Int) (wrap64 (x22_2 + 1))) else (some false)) = some r := H
                                        have A41 := Aside0.mk A410
                                        clear A410
                                        by_cases c42 : t231 = true
                                        · subst c42
                                          have H1 : (impl_ModsOk.l1 kj34 l0 l0 (l0.length : Int) x11_1 ((rd_T72 l0 x11_1).f0) (((rd_T72 l0 x11_1).f0).length : Int) (wrap64 (x22_2 + 1))) = some r := by rw [if_pos rfl] at H; exact H
                                          clear H
                                          have H := H1
                                          clear H1
                                          have H' := Aside0.mk H
                                          clear H
                                          have hnb43 := NB229_227.out
                                          have hnc43 := NB227_229.out
                                          have hcz44_0 : wc.cell? ⟨gb229, 0, none⟩ = some (.int .i64 ((rd_T74 ((rd_T72 l0 x11_1).f0) x22_2).f0)) := (blk_cell BK229.out 0).trans rfl
                                          have hcz44_1 : wc.cell? ⟨gb229, 1, none⟩ = some (.int .i64 ((rd_T74 ((rd_T72 l0 x11_1).f0) x22_2).f1)) := (blk_cell BK229.out 1).trans rfl
                                          have hcz44_2 : wc.cell? ⟨gb229, 2, none⟩ = some (.string ((rd_T74 ((rd_T72 l0 x11_1).f0) x22_2).f2)) := (blk_cell BK229.out 2).trans rfl
                                          have hfz44_0 := blk_frozen BK229.out 0
                                          have hfz44_1 := blk_frozen BK229.out 1
                                          have hfz44_2 := blk_frozen BK229.out 2
                                          go_wp2_with (first | ((with_reducible refine gate_callee (f := 91) rfl ?_); refine goesL_ (some 65) rfl rfl Try.func91 (by kernel_rfl) rfl #[.int .i64 ((rd_T74 ((rd_T72 l0 x11_1).f0) x22_2).f1), .int .i64 0, .int .i64 (wrap64 ((l0.length : Int) - 1))] rfl (by (try simp only [List.map_toArray, List.map_cons, List.map_nil]); first | done | rfl | (simp only [List.length_drop, List.length_take]; rfl)) ?_; (with_reducible refine (impl_within.calls ((rd_T74 ((rd_T72 l0 x11_1).f0) x22_2).f1) 0 (wrap64 ((l0.length : Int) - 1)) true _ A41.out).mono ?_); rintro e w' ⟨rfl, ⟨nd, rfl⟩⟩; refine ⟨_, rfl, ?_⟩))
                                          go_roundg kj34
                                          case measure => have := HK1.out; have := HK2.out; have := HJ12.out; have := HJ21.out; have := HJ34.out; omega
                                          case rel => exact ⟨(wrap64 (x22_2 + 1)), (by first | rfl | (simp; done) | (simp [*]; done) | exact congrArg Value.bool (isEmpty_bne _)), H', ⟨by have := HK1.out; have := HK2.out; have := HJ12.out; have := HJ21.out; have := HJ34.out; omega⟩, ⟨by (with_reducible repeat (first | refine blk_drewN ?_ _ | refine blk_drew ?_ | refine blk_alloc ?_ _)); exact BK227.out⟩, ⟨by repeat (first | (with_reducible first | exact HB.out | apply below_alloc | apply pw_below_drewN | apply below_drew1 | refine below_set ?_ GE227.out | refine below_set ?_ GE229.out) | exact HB.out)⟩⟩
                                        · replace c42 := Bool.eq_false_iff.mpr c42
                                          subst c42
                                          have H1 : (some false) = some r := by rw [if_neg (show ¬ (false = true) by decide)] at H; exact H
                                          clear H
                                          have H := H1
                                          clear H1
                                          obtain rfl := Option.some.inj H
                                          have hnb45 := NB229_227.out
                                          have hnc45 := NB227_229.out
                                          have hcz46_0 : wc.cell? ⟨gb229, 0, none⟩ = some (.int .i64 ((rd_T74 ((rd_T72 l0 x11_1).f0) x22_2).f0)) := (blk_cell BK229.out 0).trans rfl
                                          have hcz46_1 : wc.cell? ⟨gb229, 1, none⟩ = some (.int .i64 ((rd_T74 ((rd_T72 l0 x11_1).f0) x22_2).f1)) := (blk_cell BK229.out 1).trans rfl
                                          have hcz46_2 : wc.cell? ⟨gb229, 2, none⟩ = some (.string ((rd_T74 ((rd_T72 l0 x11_1).f0) x22_2).f2)) := (blk_cell BK229.out 2).trans rfl
                                          have hfz46_0 := blk_frozen BK229.out 0
                                          have hfz46_1 := blk_frozen BK229.out 1
                                          have hfz46_2 := blk_frozen BK229.out 2
                                          go_wp2_with (first | ((with_reducible refine gate_callee (f := 91) rfl ?_); refine goesL_ (some 65) rfl rfl Try.func91 (by kernel_rfl) rfl #[.int .i64 ((rd_T74 ((rd_T72 l0 x11_1).f0) x22_2).f1), .int .i64 0, .int .i64 (wrap64 ((l0.length : Int) - 1))] rfl (by (try simp only [List.map_toArray, List.map_cons, List.map_nil]); first | done | rfl | (simp only [List.length_drop, List.length_take]; rfl)) ?_; (with_reducible refine (impl_within.calls ((rd_T74 ((rd_T72 l0 x11_1).f0) x22_2).f1) 0 (wrap64 ((l0.length : Int) - 1)) false _ A41.out).mono ?_); rintro e w' ⟨rfl, ⟨nd, rfl⟩⟩; refine ⟨_, rfl, ?_⟩))
                                          go_ret
                                          exact ⟨by first | rfl | (simp [errW_none, errW_some] <;> rfl) | (simp [*, errW_none, errW_some] <;> rfl), by repeat (first | (with_reducible first | exact HB.out | apply below_alloc | apply pw_below_drewN | apply below_drew1 | refine below_set ?_ GE227.out | refine below_set ?_ GE229.out) | exact HB.out)⟩
                                      · replace c40 := Bool.eq_false_iff.mpr c40
                                        subst c40
                                        have H1 : (if ((rd_T74 ((rd_T72 l0 x11_1).f0) x22_2).f0) = 3 then (impl_ModsOk.j5 kj34 l0 (-1) l0 (l0.length : Int) x11_1 ((rd_T72 l0 x11_1).f0) (((rd_T72 l0 x11_1).f0).length : Int) x22_2 (((rd_T74 ((rd_T72 l0 x11_1).f0) x22_2).f0) == 3) ((rd_T74 ((rd_T72 l0 x11_1).f0) x22_2).f0) ((rd_T74 ((rd_T72 l0 x11_1).f0) x22_2).f1) ((rd_T74 ((rd_T72 l0 x11_1).f0) x22_2).f2)) else (impl_ModsOk.j5 kj34 l0 (-1) l0 (l0.length : Int) x11_1 ((rd_T72 l0 x11_1).f0) (((rd_T72 l0 x11_1).f0).length : Int) x22_2 (((rd_T74 ((rd_T72 l0 x11_1).f0) x22_2).f0) == 5) ((rd_T74 ((rd_T72 l0 x11_1).f0) x22_2).f0) ((rd_T74 ((rd_T72 l0 x11_1).f0) x22_2).f1) ((rd_T74 ((rd_T72 l0 x11_1).f0) x22_2).f2))) = some r := by rw [if_neg (show ¬ (false = true) by decide)] at H; exact H
                                        clear H
                                        have H := H1
                                        clear H1
                                        have HC47 := Aside0.mk H
                                        clear H
                                        go_upto_if 59 with (fail)
                                        go_cut [59] (fun v59 wc => ∃ (kq : Nat) (x59_46 : Bool), v59 = .bool x59_46 ∧ Aside0 (impl_ModsOk.j5 kq l0 (-1) l0 (l0.length : Int) x11_1 ((rd_T72 l0 x11_1).f0) (((rd_T72 l0 x11_1).f0).length : Int) x22_2 x59_46 ((rd_T74 ((rd_T72 l0 x11_1).f0) x22_2).f0) ((rd_T74 ((rd_T72 l0 x11_1).f0) x22_2).f1) ((rd_T74 ((rd_T72 l0 x11_1).f0) x22_2).f2) = some r) ∧ Aside0 (kq ≤ kj34) ∧ Aside0 (wc.heap[gb227]? = some (.cells #[(.slice (some ad228) ((rd_T72 l0 x11_1).f0).length c226_0)] 72 (0, 0))) ∧ Aside0 (wc.heap[gb229]? = some (.cells #[.int .i64 ((rd_T74 ((rd_T72 l0 x11_1).f0) x22_2).f0), .int .i64 ((rd_T74 ((rd_T72 l0 x11_1).f0) x22_2).f1), .string ((rd_T74 ((rd_T72 l0 x11_1).f0) x22_2).f2)] 74 (0, 0))) ∧ Aside0 (Below w.heap.size w wc))
                                        case first =>
                                          have H := HC47.out
                                          clear HC47
                                          by_cases c48 : ((rd_T74 ((rd_T72 l0 x11_1).f0) x22_2).f0) = 3
                                          · rw [if_pos c48] at H
                                            have c48b0 : (((rd_T74 ((rd_T72 l0 x11_1).f0) x22_2).f0) == 3) = true := beq_iff_eq.mpr c48
                                            have c48b1 : (((rd_T74 ((rd_T72 l0 x11_1).f0) x22_2).f0) != 3) = false := bne_eq_false_iff_eq.mpr c48
                                            clear c48
                                            (first | rw [c48b0] | (simp only [i64_w, i32_w]; rw [c48b0]) | skip)
                                            have H' := Aside0.mk H
                                            clear H
                                            go_wp2
                                            go_meet
                                            case rel => exact ⟨_, ((((rd_T74 ((rd_T72 l0 x11_1).f0) x22_2).f0) == 3)), (by first | rfl | (simp; done) | (simp [*]; done) | exact congrArg Value.bool (isEmpty_bne _)), H', ⟨by have := HK1.out; have := HK2.out; have := HJ12.out; have := HJ21.out; have := HJ34.out; first | omega | exact Nat.le_refl _⟩, ⟨by (with_reducible repeat (first | refine blk_drewN ?_ _ | refine blk_drew ?_ | refine blk_alloc ?_ _)); exact BK227.out⟩, ⟨by (with_reducible repeat (first | refine blk_drewN ?_ _ | refine blk_drew ?_ | refine blk_alloc ?_ _)); exact BK229.out⟩, ⟨by repeat (first | (with_reducible first | exact HB.out | apply below_alloc | apply pw_below_drewN | apply below_drew1 | refine below_set ?_ GE227.out | refine below_set ?_ GE229.out) | exact HB.out)⟩⟩
                                          · rw [if_neg c48] at H
                                            have c48b0 : (((rd_T74 ((rd_T72 l0 x11_1).f0) x22_2).f0) == 3) = false := beq_eq_false_iff_ne.mpr c48
                                            have c48b1 : (((rd_T74 ((rd_T72 l0 x11_1).f0) x22_2).f0) != 3) = true := bne_iff_ne.mpr c48
                                            (first | rw [c48b0] | (simp only [i64_w, i32_w]; rw [c48b0]) | skip)
                                            have H' := Aside0.mk H
                                            clear H
                                            go_wp2
                                            go_meet
                                            case rel => exact ⟨_, ((((rd_T74 ((rd_T72 l0 x11_1).f0) x22_2).f0) == 5)), (by first | rfl | (simp; done) | (simp [*]; done) | exact congrArg Value.bool (isEmpty_bne _)), H', ⟨by have := HK1.out; have := HK2.out; have := HJ12.out; have := HJ21.out; have := HJ34.out; first | omega | exact Nat.le_refl _⟩, ⟨by (with_reducible repeat (first | refine blk_drewN ?_ _ | refine blk_drew ?_ | refine blk_alloc ?_ _)); exact BK227.out⟩, ⟨by (with_reducible repeat (first | refine blk_drewN ?_ _ | refine blk_drew ?_ | refine blk_alloc ?_ _)); exact BK229.out⟩, ⟨by repeat (first | (with_reducible first | exact HB.out | apply below_alloc | apply pw_below_drewN | apply below_drew1 | refine below_set ?_ GE227.out | refine below_set ?_ GE229.out) | exact HB.out)⟩⟩
                                        case rest =>
                                          clear HC47
                                          try clear c1
                                          try clear c2
                                          try clear c2b0
                                          try clear p2
                                          try clear q2
                                          try clear hx2
                                          try clear c3
                                          try clear c3b0
                                          try clear c4
                                          try clear c4b0
                                          try clear c5
                                          try clear c5b0
                                          try clear c5b1
                                          try clear p6
                                          try clear c9
                                          try clear c10
                                          try clear c10b0
                                          try clear c11
                                          try clear c11b0
                                          try clear c12
                                          try clear c12b0
                                          try clear c15
                                          try clear c17
                                          try clear c17b0
                                          try clear c17b1
                                          try clear c18
                                          try clear c20
                                          try clear c22
                                          try clear p22
                                          try clear q22
                                          try clear hx22
                                          try clear c23
                                          try clear c25
                                          try clear c26
                                          try clear c29
                                          try clear c32
                                          try clear c34
                                          try clear c36
                                          try clear c38
                                          try clear c38b0
                                          try clear c38b1
                                          try clear c39
                                          try clear c39b0
                                          try clear c39b1
                                          try clear c40
                                          try clear c42
                                          try clear c43
                                          try clear c45
                                          try clear c48
                                          try clear c48b0
                                          try clear c48b1
                                          try clear hcz16_0
                                          try clear hcz16_1
                                          try clear hcz16_2
                                          try clear hcz19_0
                                          try clear hcz19_1
                                          try clear hcz19_2
                                          try clear hcz21_0
                                          try clear hcz21_1
                                          try clear hcz21_2
                                          try clear hcz27_0
                                          try clear hcz27_1
                                          try clear hcz27_2
                                          try clear hcz30_0
                                          try clear hcz30_1
                                          try clear hcz30_2
                                          try clear hcz33_0
                                          try clear hcz33_1
                                          try clear hcz33_2
                                          try clear hcz37_0
                                          try clear hcz37_1
                                          try clear hcz37_2
                                          try clear hcz44_0
                                          try clear hcz44_1
                                          try clear hcz44_2
                                          try clear hcz46_0
                                          try clear hcz46_1
                                          try clear hcz46_2
                                          try clear hcz7_0
                                          try clear hcz9_0
                                          try clear hfz16_0
                                          try clear hfz16_1
                                          try clear hfz16_2
                                          try clear hfz19_0
                                          try clear hfz19_1
                                          try clear hfz19_2
                                          try clear hfz21_0
                                          try clear hfz21_1
                                          try clear hfz21_2
                                          try clear hfz27_0
                                          try clear hfz27_1
                                          try clear hfz27_2
                                          try clear hfz30_0
                                          try clear hfz30_1
                                          try clear hfz30_2
                                          try clear hfz33_0
                                          try clear hfz33_1
                                          try clear hfz33_2
                                          try clear hfz37_0
                                          try clear hfz37_1
                                          try clear hfz37_2
                                          try clear hfz44_0
                                          try clear hfz44_1
                                          try clear hfz44_2
                                          try clear hfz46_0
                                          try clear hfz46_1
                                          try clear hfz46_2
                                          try clear hfz7_0
                                          try clear hfz9_0
                                          try clear hx226_0
                                          try clear hx228_0
                                          try clear hx228_1
                                          try clear hx228_2
                                          try clear p2
                                          try clear p22
                                          try clear p226
                                          try clear p228
                                          try clear q2
                                          try clear q22
                                          try clear q226
                                          try clear q228
                                          obtain ⟨kq, x59_46, rfl, HA, HJ46, BK227, BK229, HB⟩ := hcut
                                          cases kq with
                                          | zero => exact absurd HA.out (by simp [impl_ModsOk.j5])
                                          | succ kj46 =>
                                            have H := HA.out
                                            clear HA
                                            simp only [impl_ModsOk.j5] at H
                                            by_cases c49 : x59_46 = true
                                            · subst c49
                                              have H1 : ((impl_within.f ((rd_T74 ((rd_T72 l0 x11_1).f0) x22_2).f1) 0 1000000).bind fun t232 => (if t232 = true then (impl_ModsOk.l1 kj46 l0 l0 (l0.length : Int) x11_1 ((rd_T72 l0 x11_1).f0) (((rd_T72 l0 x11_1).f0).length : Int) (wrap64 (x22_2 + 1))) else (some false))) = some r := by rw [if_pos rfl] at H; exact H
                                              clear H
                                              have H := H1
                                              clear H1
                                              replace H := Option.bind_eq_some_iff.mp H
                                              obtain ⟨t232, A500, H⟩ := H
                                              replace H : (if t232 = true then (impl_ModsOk.l1 kj46 l0 l0 (l0.length : Int) x11_1 ((rd_T72 l0 x11_1).f0) (((rd_T72 l0 x11_1).f0).length : Int) (wrap64 (x22_2 + 1))) else (some false)) = some r := H
                                              have A50 := Aside0.mk A500
                                              clear A500
                                              by_cases c51 : t232 = true
                                              · subst c51
                                                have H1 : (impl_ModsOk.l1 kj46 l0 l0 (l0.length : Int) x11_1 ((rd_T72 l0 x11_1).f0) (((rd_T72 l0 x11_1).f0).length : Int) (wrap64 (x22_2 + 1))) = some r := by rw [if_pos rfl] at H; exact H
                                                clear H
                                                have H := H1
                                                clear H1
                                                have H' := Aside0.mk H
                                                clear H
                                                have hnb52 := NB229_227.out
                                                have hnc52 := NB227_229.out
                                                have hcz53_0 : wc.cell? ⟨gb229, 0, none⟩ = some (.int .i64 ((rd_T74 ((rd_T72 l0 x11_1).f0) x22_2).f0)) := (blk_cell BK229.out 0).trans rfl
                                                have hcz53_1 : wc.cell? ⟨gb229, 1, none⟩ = some (.int .i64 ((rd_T74 ((rd_T72 l0 x11_1).f0) x22_2).f1)) := (blk_cell BK229.out 1).trans rfl
                                                have hcz53_2 : wc.cell? ⟨gb229, 2, none⟩ = some (.string ((rd_T74 ((rd_T72 l0 x11_1).f0) x22_2).f2)) := (blk_cell BK229.out 2).trans rfl
                                                have hfz53_0 := blk_frozen BK229.out 0
                                                have hfz53_1 := blk_frozen BK229.out 1
                                                have hfz53_2 := blk_frozen BK229.out 2
                                                go_wp2_with (first | ((with_reducible refine gate_callee (f := 91) rfl ?_); refine goesL_ (some 65) rfl rfl Try.func91 (by kernel_rfl) rfl #[.int .i64 ((rd_T74 ((rd_T72 l0 x11_1).f0) x22_2).f1), .int .i64 0, .int .i64 1000000] rfl (by (try simp only [List.map_toArray, List.map_cons, List.map_nil]); first | done | rfl | (simp only [List.length_drop, List.length_take]; rfl)) ?_; (with_reducible refine (impl_within.calls ((rd_T74 ((rd_T72 l0 x11_1).f0) x22_2).f1) 0 1000000 true _ A50.out).mono ?_); rintro e w' ⟨rfl, ⟨nd, rfl⟩⟩; refine ⟨_, rfl, ?_⟩))
                                                go_roundg kj46
                                                case measure => have := HK1.out; have := HK2.out; have := HJ12.out; have := HJ21.out; have := HJ34.out; have := HJ46.out; omega
                                                case rel => exact ⟨(wrap64 (x22_2 + 1)), (by first | rfl | (simp; done) | (simp [*]; done) | exact congrArg Value.bool (isEmpty_bne _)), H', ⟨by have := HK1.out; have := HK2.out; have := HJ12.out; have := HJ21.out; have := HJ34.out; have := HJ46.out; omega⟩, ⟨by (with_reducible repeat (first | refine blk_drewN ?_ _ | refine blk_drew ?_ | refine blk_alloc ?_ _)); exact BK227.out⟩, ⟨by repeat (first | (with_reducible first | exact HB.out | apply below_alloc | apply pw_below_drewN | apply below_drew1 | refine below_set ?_ GE227.out | refine below_set ?_ GE229.out) | exact HB.out)⟩⟩
                                              · replace c51 := Bool.eq_false_iff.mpr c51
                                                subst c51
                                                have H1 : (some false) = some r := by rw [if_neg (show ¬ (false = true) by decide)] at H; exact H
                                                clear H
                                                have H := H1
                                                clear H1
                                                obtain rfl := Option.some.inj H
                                                have hnb54 := NB229_227.out
                                                have hnc54 := NB227_229.out
                                                have hcz55_0 : wc.cell? ⟨gb229, 0, none⟩ = some (.int .i64 ((rd_T74 ((rd_T72 l0 x11_1).f0) x22_2).f0)) := (blk_cell BK229.out 0).trans rfl
                                                have hcz55_1 : wc.cell? ⟨gb229, 1, none⟩ = some (.int .i64 ((rd_T74 ((rd_T72 l0 x11_1).f0) x22_2).f1)) := (blk_cell BK229.out 1).trans rfl
                                                have hcz55_2 : wc.cell? ⟨gb229, 2, none⟩ = some (.string ((rd_T74 ((rd_T72 l0 x11_1).f0) x22_2).f2)) := (blk_cell BK229.out 2).trans rfl
                                                have hfz55_0 := blk_frozen BK229.out 0
                                                have hfz55_1 := blk_frozen BK229.out 1
                                                have hfz55_2 := blk_frozen BK229.out 2
                                                go_wp2_with (first | ((with_reducible refine gate_callee (f := 91) rfl ?_); refine goesL_ (some 65) rfl rfl Try.func91 (by kernel_rfl) rfl #[.int .i64 ((rd_T74 ((rd_T72 l0 x11_1).f0) x22_2).f1), .int .i64 0, .int .i64 1000000] rfl (by (try simp only [List.map_toArray, List.map_cons, List.map_nil]); first | done | rfl | (simp only [List.length_drop, List.length_take]; rfl)) ?_; (with_reducible refine (impl_within.calls ((rd_T74 ((rd_T72 l0 x11_1).f0) x22_2).f1) 0 1000000 false _ A50.out).mono ?_); rintro e w' ⟨rfl, ⟨nd, rfl⟩⟩; refine ⟨_, rfl, ?_⟩))
                                                go_ret
                                                exact ⟨by first | rfl | (simp [errW_none, errW_some] <;> rfl) | (simp [*, errW_none, errW_some] <;> rfl), by repeat (first | (with_reducible first | exact HB.out | apply below_alloc | apply pw_below_drewN | apply below_drew1 | refine below_set ?_ GE227.out | refine below_set ?_ GE229.out) | exact HB.out)⟩
                                            · replace c49 := Bool.eq_false_iff.mpr c49
                                              subst c49
                                              have H1 : ((impl_within.f ((rd_T74 ((rd_T72 l0 x11_1).f0) x22_2).f1) 0 (-1)).bind fun t233 => (if t233 = true then (impl_ModsOk.l1 kj46 l0 l0 (l0.length : Int) x11_1 ((rd_T72 l0 x11_1).f0) (((rd_T72 l0 x11_1).f0).length : Int) (wrap64 (x22_2 + 1))) else (some false))) = some r := by rw [if_neg (show ¬ (false = true) by decide)] at H; exact H
                                              clear H
                                              have H := H1
                                              clear H1
                                              replace H := Option.bind_eq_some_iff.mp H
                                              obtain ⟨t233, A560, H⟩ := H
                                              replace H : (if t233 = true then (impl_ModsOk.l1 kj46 l0 l0 (l0.length : Int) x11_1 ((rd_T72 l0 x11_1).f0) (((rd_T72 l0 x11_1).f0).length : Int) (wrap64 (x22_2 + 1))) else (some false)) = some r := H
                                              have A56 := Aside0.mk A560
                                              clear A560
                                              by_cases c57 : t233 = true
                                              · subst c57
                                                have H1 : (impl_ModsOk.l1 kj46 l0 l0 (l0.length : Int) x11_1 ((rd_T72 l0 x11_1).f0) (((rd_T72 l0 x11_1).f0).length : Int) (wrap64 (x22_2 + 1))) = some r := by rw [if_pos rfl] at H; exact H
                                                clear H
                                                have H := H1
                                                clear H1
                                                have H' := Aside0.mk H
                                                clear H
                                                have hnb58 := NB229_227.out
                                                have hnc58 := NB227_229.out
                                                have hcz59_0 : wc.cell? ⟨gb229, 0, none⟩ = some (.int .i64 ((rd_T74 ((rd_T72 l0 x11_1).f0) x22_2).f0)) := (blk_cell BK229.out 0).trans rfl
                                                have hcz59_1 : wc.cell? ⟨gb229, 1, none⟩ = some (.int .i64 ((rd_T74 ((rd_T72 l0 x11_1).f0) x22_2).f1)) := (blk_cell BK229.out 1).trans rfl
                                                have hcz59_2 : wc.cell? ⟨gb229, 2, none⟩ = some (.string ((rd_T74 ((rd_T72 l0 x11_1).f0) x22_2).f2)) := (blk_cell BK229.out 2).trans rfl
                                                have hfz59_0 := blk_frozen BK229.out 0
                                                have hfz59_1 := blk_frozen BK229.out 1
                                                have hfz59_2 := blk_frozen BK229.out 2
                                                go_wp2_with (first | ((with_reducible refine gate_callee (f := 91) rfl ?_); refine goesL_ (some 65) rfl rfl Try.func91 (by kernel_rfl) rfl #[.int .i64 ((rd_T74 ((rd_T72 l0 x11_1).f0) x22_2).f1), .int .i64 0, .int .i64 (-1)] rfl (by (try simp only [List.map_toArray, List.map_cons, List.map_nil]); first | done | rfl | (simp only [List.length_drop, List.length_take]; rfl)) ?_; (with_reducible refine (impl_within.calls ((rd_T74 ((rd_T72 l0 x11_1).f0) x22_2).f1) 0 (-1) true _ A56.out).mono ?_); rintro e w' ⟨rfl, ⟨nd, rfl⟩⟩; refine ⟨_, rfl, ?_⟩))
                                                go_roundg kj46
                                                case measure => have := HK1.out; have := HK2.out; have := HJ12.out; have := HJ21.out; have := HJ34.out; have := HJ46.out; omega
                                                case rel => exact ⟨(wrap64 (x22_2 + 1)), (by first | rfl | (simp; done) | (simp [*]; done) | exact congrArg Value.bool (isEmpty_bne _)), H', ⟨by have := HK1.out; have := HK2.out; have := HJ12.out; have := HJ21.out; have := HJ34.out; have := HJ46.out; omega⟩, ⟨by (with_reducible repeat (first | refine blk_drewN ?_ _ | refine blk_drew ?_ | refine blk_alloc ?_ _)); exact BK227.out⟩, ⟨by repeat (first | (with_reducible first | exact HB.out | apply below_alloc | apply pw_below_drewN | apply below_drew1 | refine below_set ?_ GE227.out | refine below_set ?_ GE229.out) | exact HB.out)⟩⟩
                                              · replace c57 := Bool.eq_false_iff.mpr c57
                                                subst c57
                                                have H1 : (some false) = some r := by rw [if_neg (show ¬ (false = true) by decide)] at H; exact H
                                                clear H
                                                have H := H1
                                                clear H1
                                                obtain rfl := Option.some.inj H
                                                have hnb60 := NB229_227.out
                                                have hnc60 := NB227_229.out
                                                have hcz61_0 : wc.cell? ⟨gb229, 0, none⟩ = some (.int .i64 ((rd_T74 ((rd_T72 l0 x11_1).f0) x22_2).f0)) := (blk_cell BK229.out 0).trans rfl
                                                have hcz61_1 : wc.cell? ⟨gb229, 1, none⟩ = some (.int .i64 ((rd_T74 ((rd_T72 l0 x11_1).f0) x22_2).f1)) := (blk_cell BK229.out 1).trans rfl
                                                have hcz61_2 : wc.cell? ⟨gb229, 2, none⟩ = some (.string ((rd_T74 ((rd_T72 l0 x11_1).f0) x22_2).f2)) := (blk_cell BK229.out 2).trans rfl
                                                have hfz61_0 := blk_frozen BK229.out 0
                                                have hfz61_1 := blk_frozen BK229.out 1
                                                have hfz61_2 := blk_frozen BK229.out 2
                                                go_wp2_with (first | ((with_reducible refine gate_callee (f := 91) rfl ?_); refine goesL_ (some 65) rfl rfl Try.func91 (by kernel_rfl) rfl #[.int .i64 ((rd_T74 ((rd_T72 l0 x11_1).f0) x22_2).f1), .int .i64 0, .int .i64 (-1)] rfl (by (try simp only [List.map_toArray, List.map_cons, List.map_nil]); first | done | rfl | (simp only [List.length_drop, List.length_take]; rfl)) ?_; (with_reducible refine (impl_within.calls ((rd_T74 ((rd_T72 l0 x11_1).f0) x22_2).f1) 0 (-1) false _ A56.out).mono ?_); rintro e w' ⟨rfl, ⟨nd, rfl⟩⟩; refine ⟨_, rfl, ?_⟩))
                                                go_ret
                                                exact ⟨by first | rfl | (simp [errW_none, errW_some] <;> rfl) | (simp [*, errW_none, errW_some] <;> rfl), by repeat (first | (with_reducible first | exact HB.out | apply below_alloc | apply pw_below_drewN | apply below_drew1 | refine below_set ?_ GE227.out | refine below_set ?_ GE229.out) | exact HB.out)⟩
                      · rw [if_neg c12] at H
                        exact absurd H (by simp)
                    · rw [if_neg c11] at H
                      exact absurd H (by simp)
                  · rw [if_neg c10] at H
                    have c10b0 : decide (x22_2 < (((rd_T72 l0 x11_1).f0).length : Int)) = false := decide_eq_false c10
                    clear c10
                    have H' := Aside0.mk H
                    clear H
                    go_wp2
                    go_roundg k2
                    case measure => have := HK1.out; have := HK2.out; omega
                    case rel => exact ⟨(wrap64 (x11_1 + 1)), (by first | rfl | (simp; done) | (simp [*]; done) | exact congrArg Value.bool (isEmpty_bne _)), H', ⟨by have := HK1.out; have := HK2.out; omega⟩, ⟨by repeat (first | (with_reducible first | exact HB.out | apply below_alloc | apply pw_below_drewN | apply below_drew1 | refine below_set ?_ GE227.out) | exact HB.out)⟩⟩
          · rw [if_neg c4] at H
            exact absurd H (by simp)
        · rw [if_neg c3] at H
          exact absurd H (by simp)
      · rw [if_neg c2] at H
        have c2b0 : decide (x11_1 < (l0.length : Int)) = false := decide_eq_false c2
        clear c2
        replace H := Option.bind_eq_some_iff.mp H
        obtain ⟨t225, A620, H⟩ := H
        replace H : (some t225) = some r := H
        have A62 := Aside0.mk A620
        clear A620
        obtain rfl := Option.some.inj H
        go_wp2_with (first | ((with_reducible refine gate_callee (f := 91) rfl ?_); refine goesL_ (some 71) rfl rfl Try.func91 (by kernel_rfl) rfl #[.int .i64 (l0.length : Int), .int .i64 1, .int .i64 6] rfl (by (try simp only [List.map_toArray, List.map_cons, List.map_nil]); first | done | rfl | (simp only [List.length_drop, List.length_take]; rfl)) ?_; (with_reducible refine (impl_within.calls (l0.length : Int) 1 6 t225 _ A62.out).mono ?_); rintro e w' ⟨rfl, ⟨nd, rfl⟩⟩; refine ⟨_, rfl, ?_⟩))
        go_ret
        exact ⟨by first | rfl | (simp [errW_none, errW_some] <;> rfl) | (simp [*, errW_none, errW_some] <;> rfl), by repeat (first | (with_reducible first | exact HB.out | apply below_alloc | apply pw_below_drewN | apply below_drew1) | exact HB.out)⟩

end Go.Proofs.Ytehhhlhedmfdiaa.PFnExactImportNeeds
