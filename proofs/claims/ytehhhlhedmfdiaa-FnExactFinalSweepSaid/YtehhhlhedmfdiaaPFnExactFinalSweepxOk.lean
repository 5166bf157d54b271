/- finalsOk, with the closure that it hands to slices.ContainsFunc. -/
import Derived.Test.YtehhhlhedmfdiaaPFnExactFinalSweepx0
namespace Go.Proofs.Ytehhhlhedmfdiaa.PFnExactFinalSweep
open Go.RowKit Go.Proofs.YtehhhlhedmfdiaaW.PrintWords Go.Proofs.YtehhhlhedmfdiaaW.PrintLast Go.Proofs.YtehhhlhedmfdiaaW.PrintMore
set_option linter.unusedVariables false
set_option linter.unusedSimpArgs false

/-- The first place at which the object is v, from behind: -1 if there is none. -/
def ixOf (v : Int) : List S110 → Int
  | [] => -1
  | x :: l => if x.f0 = v then 0 else if ixOf v l = -1 then -1 else ixOf v l + 1
theorem ixOf_ge (v : Int) : ∀ l, -1 ≤ ixOf v l
  | [] => by simp [ixOf]
  | x :: l => by have := ixOf_ge v l; unfold ixOf; split <;> (try split) <;> omega
theorem ixOf_any (v : Int) : ∀ l : List S110, (0 ≤ ixOf v l) ↔ (l.any fun x => x.f0 == v) = true
  | [] => by simp [ixOf]
  | x :: l => by
    have ih := ixOf_any v l
    have hg := ixOf_ge v l
    unfold ixOf
    by_cases h : x.f0 = v
    · rw [if_pos h]; simp [h]
    · rw [if_neg h, List.any_cons, show (x.f0 == v) = false from by simpa using h, Bool.false_or, ← ih]
      split <;> omega
theorem ixOf_ne {v : Int} {x : S110} {l : List S110} (h : ¬ x.f0 = v) : ixOf v (x :: l) = if ixOf v l = -1 then -1 else ixOf v l + 1 := by
  rw [ixOf, if_neg h]
theorem drop_S110 {l : List S110} {i : Nat} (h : i < l.length) : l.drop i = rd_T110 l (i : Int) :: l.drop (i + 1) := by
  unfold rd_T110
  rw [show ((i : Int)).toNat = i from rfl, List.getD_eq_getElem?_getD, List.getElem?_eq_getElem h, List.drop_eq_getElem_cons h]
  rfl

set_option maxHeartbeats 8000000 in
set_option maxRecDepth 100000 in
theorem same_at (g : Nat) (a b : Int) (c : Bool) (v : Int) (w : World) (hg : g < w.heap.size) (hc : w.cell? ⟨g, 0, none⟩ = some (.int .i64 v)) :
    Calls Try.prog 112 #[.agg #[.int .i64 a, .int .i64 b, .bool c], .pointer (some ⟨g, 0, none⟩)] w fun e w' => e = .returned (.bool (a == v)) ∧ Below w.heap.size w w' := by
  have hc2 : (w.alloc (.cells #[.int .i64 a, .int .i64 b, .bool c] 110)).cell? ⟨g, 0, none⟩ = some (.int .i64 v) := by rw [World.cell?_alloc_past _ _ _ hg]; exact hc
  go_enter Try.func112, Try.ntmps112
  go_wp2
  go_ret
  exact ⟨rfl, below_alloc (Below.refl _ _) _⟩

set_option maxHeartbeats 8000000 in
set_option maxRecDepth 100000 in
theorem index_func (g : Nat) (v : Int) (A0 : Option Addr) (c0 : Nat) (l0 : List S110) (w : World) (hr0 : Kd.C k110 w A0 l0.length l0) (hc0 : l0.length ≤ c0) (hlen : l0.length ≤ 1000)
    (hg : g < w.heap.size) (hc : w.cell? ⟨g, 0, none⟩ = some (.int .i64 v)) :
    Calls Try.prog 132 #[.slice A0 l0.length c0, .func (.func 112) #[] #[.pointer (some ⟨g, 0, none⟩)]] w fun e w' => e = .returned (.int .i64 (ixOf v l0)) ∧ Below w.heap.size w w' := by
  have HR0 := Aside0.mk hr0
  have HC0 := Aside0.mk hc0
  have HL := Aside0.mk hlen
  have HV := Aside0.mk hc
  have HG := Aside0.mk hg
  clear hr0 hc0 hlen hc hg
  go_enter Try.func132, Try.ntmps132
  go_wp2
  go_loopg [8] (l0.length + 1) (fun kq v8 w' => ∃ (i : Nat), v8 = .int .i64 (i : Int) ∧ Aside0 (i + kq = l0.length + 1 ∧ i ≤ l0.length) ∧ Aside0 (ixOf v l0 = if ixOf v (l0.drop i) = -1 then -1 else ixOf v (l0.drop i) + i) ∧ Aside0 (Below w.heap.size w w'))
  case atStart => exact ⟨0, rfl, ⟨by omega, by omega⟩, ⟨by simp⟩, ⟨Below.refl _ _⟩⟩
  case round =>
    obtain ⟨i, rfl, HI, HX, HB⟩ := hrel
    by_cases hi : (i : Int) < (l0.length : Int)
    · have p160 : 0 ≤ (i : Int) := by omega
      obtain ⟨ad160, e160, hx160_0, hx160_1, hx160_2⟩ := at_T110 (Kd.C_below HR0.out HB.out) (i : Int) p160 hi
      cases e160
      simp only [Int.toNat_natCast] at hx160_0 hx160_1 hx160_2
      have hb0 : decide ((i : Int) < (l0.length : Int)) = true := decide_eq_true hi
      have hdr : l0.drop i = rd_T110 l0 (i : Int) :: l0.drop (i + 1) := drop_S110 (by omega)
      have HD := Aside0.mk hdr
      clear hdr
      go_wp2_with fail
      refine (same_at g _ _ _ v _ (Nat.lt_of_lt_of_le HG.out HB.out.size) ((HB.out.cell HG.out).trans HV.out)).mono ?_
      rintro e w1 ⟨rfl, hb⟩
      have n1 := Aside0.mk (below_step HB.out hb)
      clear HB hb hx160_0 hx160_1 hx160_2
      have HB := n1
      clear n1
      by_cases hs : (rd_T110 l0 (i : Int)).f0 = v
      · have hs2 : ((rd_T110 l0 (i : Int)).f0 == v) = true := by simpa using hs
        have HS := Aside0.mk hs
        rw [hs2]
        clear hs hs2
        go_wp2_with fail
        go_ret
        refine ⟨?_, HB.out⟩
        have h1 : ixOf v (l0.drop i) = 0 := by rw [HD.out]; unfold ixOf; rw [if_pos HS.out]
        have h2 := HX.out
        rw [h1, if_neg (by decide)] at h2
        rw [h2]; simp
      · have hs2 : ((rd_T110 l0 (i : Int)).f0 == v) = false := by simpa using hs
        have HS := Aside0.mk hs
        rw [hs2]
        clear hs hs2
        have hwr : wrap64 ((i : Int) + 1) = ((i + 1 : Nat) : Int) := by have := HI.out; have := HL.out; unfold wrap64; omega
        go_wp2_with fail
        go_roundg (gk - 1)
        case measure => have := HI.out; omega
        case rel =>
          refine ⟨i + 1, ?_, ⟨?_, ?_⟩, ⟨?_⟩, HB⟩
          · first | rfl | (rw [hwr]) | (simp [hwr])
          · have := HI.out; omega
          · omega
          · have h1 := HX.out
            have h3 := ixOf_ge v (l0.drop (i + 1))
            rw [HD.out] at h1
            rw [ixOf_ne HS.out] at h1
            rw [h1]
            generalize ixOf v (l0.drop (i + 1)) = z at h3
            by_cases h2 : z = -1
            · subst h2; simp
            · simp only [if_neg h2]; rw [if_neg (by omega)]; omega
    · have hb0 : decide ((i : Int) < (l0.length : Int)) = false := decide_eq_false hi
      go_wp2_with fail
      go_ret
      refine ⟨?_, HB.out⟩
      have h1 := HX.out
      rw [List.drop_eq_nil_of_le (by omega)] at h1
      rw [h1]; simp [ixOf]

set_option maxHeartbeats 8000000 in
set_option maxRecDepth 100000 in
theorem contains_func (g : Nat) (v : Int) (A0 : Option Addr) (c0 : Nat) (l0 : List S110) (w : World) (hr0 : Kd.C k110 w A0 l0.length l0) (hc0 : l0.length ≤ c0) (hlen : l0.length ≤ 1000)
    (hg : g < w.heap.size) (hc : w.cell? ⟨g, 0, none⟩ = some (.int .i64 v)) :
    Calls Try.prog 111 #[.slice A0 l0.length c0, .func (.func 112) #[] #[.pointer (some ⟨g, 0, none⟩)]] w fun e w' => e = .returned (.bool (l0.any fun x => x.f0 == v)) ∧ Below w.heap.size w w' := by
  have hb0 : decide (ixOf v l0 ≥ 0) = (l0.any fun x => x.f0 == v) := by rw [Bool.eq_iff_iff, decide_eq_true_eq]; exact ixOf_any v l0
  go_enter Try.func111, Try.ntmps111
  go_wp2_with fail
  refine (index_func g v A0 c0 l0 _ hr0 hc0 hlen hg hc).mono ?_
  rintro e w1 ⟨rfl, hb⟩
  go_wp2_with fail
  go_ret
  refine ⟨?_, hb⟩
  first | (rw [← hb0]; rfl) | (rw [← hb0]) | (simp [← hb0])
end Go.Proofs.Ytehhhlhedmfdiaa.PFnExactFinalSweep
