/- finalsOk: at most twelve, each in its bounds, no two of one object. -/
import Derived.Test.YtehhhlhedmfdiaaPFnExactFinalSweepxOk
namespace Go.Proofs.Ytehhhlhedmfdiaa.PFnExactFinalSweep
open Go.RowKit Go.Proofs.YtehhhlhedmfdiaaW.PrintWords Go.Proofs.YtehhhlhedmfdiaaW.PrintLast Go.Proofs.YtehhhlhedmfdiaaW.PrintMore
set_option linter.unusedVariables false
set_option linter.unusedSimpArgs false

def finIn (n : Nat) (x : S110) : Prop := 0 ≤ x.f0 ∧ x.f0 < n ∧ -1 ≤ x.f1 ∧ x.f1 < n
/-- The finalizer at i is in its bounds, and none ahead of it is of its object. -/
def finAt (n : Nat) (l : List S110) (i : Nat) : Prop := finIn n (rd_T110 l (i : Int)) ∧ ((l.take i).any fun x => x.f0 == (rd_T110 l (i : Int)).f0) = false
def FinOk (n : Nat) (l : List S110) : Prop := l.length ≤ 12 ∧ ∀ i, i < l.length → finAt n l i
instance (n : Nat) (x : S110) : Decidable (finIn n x) := by unfold finIn; exact inferInstance
instance (n : Nat) (l : List S110) (i : Nat) : Decidable (finAt n l i) := by unfold finAt; exact inferInstance

theorem alloc_lt (w : World) (o : Obj) : w.heap.size < (w.alloc o).heap.size := by simp
theorem bad_at {n : Nat} {l : List S110} {b : Bool} (hb : b = true ↔ FinOk n l) {i : Nat} (hi : i < l.length) (h : ¬ finAt n l i) : b = false := by
  rw [Bool.eq_false_iff]; intro e
  exact h ((hb.1 e).2 i hi)
theorem C_take110 {w : World} {A : Option Addr} {n i : Nat} {xs : List S110} (h : Kd.C k110 w A n xs) (hi : i ≤ n) : Kd.C k110 w A (xs.take i).length (xs.take i) := by
  obtain ⟨h1, h2, h3⟩ := h
  refine ⟨rfl, by rw [List.length_take]; omega, fun h0 => ?_⟩
  rw [List.length_take] at h0
  obtain ⟨ad, e, hc⟩ := h3 (by omega)
  refine ⟨ad, e, fun j p hj => hc j p ?_⟩
  rw [List.getElem?_take] at hj
  split at hj
  · exact hj
  · cases hj

set_option maxHeartbeats 8000000 in
set_option maxRecDepth 100000 in
theorem impl_finalsOk.calls (A0 : Option Addr) (n c0 : Nat) (A1 : Option Addr) (c1 : Nat) (l1 : List S110) (b : Bool) (hb : b = true ↔ FinOk n l1) (w : World) (hr1 : Kd.C k110 w A1 l1.length l1) (hc1 : l1.length ≤ c1) :
    Calls Try.prog 81 #[.slice A0 n c0, .slice A1 l1.length c1] w fun e w' => e = .returned (.bool b) ∧ Below w.heap.size w w' := by
  have HR1 := Aside0.mk hr1
  have HC1 := Aside0.mk hc1
  have HBB := Aside0.mk hb
  clear hr1 hc1 hb
  by_cases hl : (l1.length : Int) > 12
  · have hb0 : decide ((l1.length : Int) > 12) = true := decide_eq_true hl
    have hb1 : (12 < l1.length) = True := eq_true (by omega)
    go_enter Try.func81, Try.ntmps81
    go_wp2_with fail
    go_ret
    have : b = false := by
      rw [Bool.eq_false_iff]; intro h
      have := (HBB.out.1 h).1; omega
    exact ⟨by rw [this]; rfl, Below.refl _ _⟩
  · have hb0 : decide ((l1.length : Int) > 12) = false := decide_eq_false hl
    have hb1 : (12 < l1.length) = False := eq_false (by omega)
    have HL := Aside0.mk hl
    clear hl
    go_enter Try.func81, Try.ntmps81
    go_wp2_with fail
    go_loopg [12] (l1.length + 1) (fun kq v12 w' => ∃ (i : Nat), v12 = .int .i64 (i : Int) ∧ Aside0 (i + kq = l1.length + 1 ∧ i ≤ l1.length) ∧ Aside0 (∀ j, j < i → finAt n l1 j) ∧ Aside0 (Below w.heap.size w w'))
    case atStart => exact ⟨0, rfl, ⟨by omega, by omega⟩, ⟨fun j hj => by omega⟩, ⟨Below.refl _ _⟩⟩
    case round =>
      obtain ⟨i, rfl, HI, HX, HB⟩ := hrel
      by_cases hi : (i : Int) < (l1.length : Int)
      · have p160 : 0 ≤ (i : Int) := by omega
        obtain ⟨ad160, e160, hx160_0, hx160_1, hx160_2⟩ := at_T110 (Kd.C_below HR1.out HB.out) (i : Int) p160 hi
        cases e160
        simp only [Int.toNat_natCast] at hx160_0 hx160_1 hx160_2
        have hi0 : decide ((i : Int) < (l1.length : Int)) = true := decide_eq_true hi
        have hi1 : (i < l1.length) = True := eq_true (by omega)
        have HII := Aside0.mk hi
        clear hi
        by_cases h1 : (rd_T110 l1 (i : Int)).f0 < 0
        · have h1b : decide ((rd_T110 l1 (i : Int)).f0 < 0) = true := decide_eq_true h1
          go_wp2_with fail
          go_ret
          have : b = false := bad_at (i := i) HBB.out (by have := HII.out; omega) (fun h => by have := h.1.1; omega)
          exact ⟨by rw [this]; rfl, below_alloc HB.out _⟩
        have h1b : decide ((rd_T110 l1 (i : Int)).f0 < 0) = false := decide_eq_false h1
        by_cases h2 : (rd_T110 l1 (i : Int)).f0 ≥ (n : Int)
        · have h2b : decide ((rd_T110 l1 (i : Int)).f0 ≥ (n : Int)) = true := decide_eq_true h2
          go_wp2_with fail
          go_ret
          have : b = false := bad_at (i := i) HBB.out (by have := HII.out; omega) (fun h => by have := h.1.2.1; omega)
          exact ⟨by rw [this]; rfl, below_alloc HB.out _⟩
        have h2b : decide ((rd_T110 l1 (i : Int)).f0 ≥ (n : Int)) = false := decide_eq_false h2
        by_cases h3 : (rd_T110 l1 (i : Int)).f1 < -1
        · have h3b : decide ((rd_T110 l1 (i : Int)).f1 < -1) = true := decide_eq_true h3
          go_wp2_with fail
          go_ret
          have : b = false := bad_at (i := i) HBB.out (by have := HII.out; omega) (fun h => by have := h.1.2.2.1; omega)
          exact ⟨by rw [this]; rfl, below_alloc HB.out _⟩
        have h3b : decide ((rd_T110 l1 (i : Int)).f1 < -1) = false := decide_eq_false h3
        by_cases h4 : (rd_T110 l1 (i : Int)).f1 ≥ (n : Int)
        · have h4b : decide ((rd_T110 l1 (i : Int)).f1 ≥ (n : Int)) = true := decide_eq_true h4
          go_wp2_with fail
          go_ret
          have : b = false := bad_at (i := i) HBB.out (by have := HII.out; omega) (fun h => by have := h.1.2.2.2; omega)
          exact ⟨by rw [this]; rfl, below_alloc HB.out _⟩
        have h4b : decide ((rd_T110 l1 (i : Int)).f1 ≥ (n : Int)) = false := decide_eq_false h4
        have HIN : Aside0 (finIn n (rd_T110 l1 (i : Int))) := ⟨⟨by omega, by omega, by omega, by omega⟩⟩
        have hc1 : (i : Int) ≤ (c1 : Int) := by have := HC1.out; have := HII.out; omega
        have hc1b : decide ((i : Int) ≤ (c1 : Int)) = true := decide_eq_true hc1
        have hc1n : (i ≤ c1) = True := eq_true (by omega)
        clear h1 h2 h3 h4
        go_wp2_with fail
        have e : (l1.take i).length = i := by rw [List.length_take]; have := HII.out; omega
        have HB2 : Aside0 (Below w.heap.size w (wr.alloc (Obj.cells #[Value.int IntKind.i64 (rd_T110 l1 (i : Int)).f0, Value.int IntKind.i64 (rd_T110 l1 (i : Int)).f1, Value.bool (rd_T110 l1 (i : Int)).f2] 110))) := ⟨below_alloc HB.out _⟩
        have hcf := contains_func wr.heap.size (rd_T110 l1 (i : Int)).f0 (some ad160) c1 (l1.take i) _ (C_take110 (Kd.C_below HR1.out HB2.out) (by have := HII.out; omega)) (by omega) (by have := HL.out; have := HII.out; omega)
          (alloc_lt _ _) (World.cell?_alloc_at _ _ _ _ rfl)
        rw [e] at hcf
        refine hcf.mono ?_
        clear hcf
        rintro e' w1 ⟨rfl, hb⟩
        have n1 := Aside0.mk (below_step HB2.out hb)
        clear HB HB2 hb hx160_0 hx160_1 hx160_2 hc1 hc1b hc1n h1b h2b h3b h4b
        have HB := n1
        clear n1
        by_cases ha : ((l1.take i).any fun x => x.f0 == (rd_T110 l1 (i : Int)).f0) = true
        · rw [ha]
          have HA := Aside0.mk ha
          clear ha
          go_wp2_with fail
          go_ret
          have : b = false := bad_at (i := i) HBB.out (by have := HII.out; omega) (fun h => by have := h.2; rw [HA.out] at this; cases this)
          exact ⟨by rw [this]; rfl, HB.out⟩
        · have ha2 : ((l1.take i).any fun x => x.f0 == (rd_T110 l1 (i : Int)).f0) = false := Bool.eq_false_iff.2 ha
          rw [ha2]
          have HA := Aside0.mk ha2
          clear ha ha2
          have hwr : wrap64 ((i : Int) + 1) = ((i + 1 : Nat) : Int) := by have := HII.out; have := HL.out; unfold wrap64; omega
          go_wp2_with fail
          go_roundg (gk - 1)
          case measure => have := HI.out; omega
          case rel =>
            refine ⟨i + 1, ?_, ⟨?_, ?_⟩, ⟨fun j hj => ?_⟩, HB⟩
            · first | rfl | (rw [hwr]) | (simp [hwr])
            · have := HI.out; omega
            · have := HII.out; omega
            · rcases Nat.lt_or_ge j i with h | h
              · exact HX.out j h
              · have : j = i := by omega
                subst this
                exact ⟨HIN.out, HA.out⟩
      · have hi0 : decide ((i : Int) < (l1.length : Int)) = false := decide_eq_false hi
        have hi1 : (i < l1.length) = False := eq_false (by omega)
        go_wp2_with fail
        go_ret
        have : b = true := HBB.out.2 ⟨by have := HL.out; omega, fun j hj => HX.out j (by omega)⟩
        exact ⟨by rw [this]; rfl, HB.out⟩
end Go.Proofs.Ytehhhlhedmfdiaa.PFnExactFinalSweep
