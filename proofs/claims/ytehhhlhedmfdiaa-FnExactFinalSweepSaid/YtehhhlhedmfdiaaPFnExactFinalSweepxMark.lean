/- markIntSS: it writes marks into every row of a slice of rows that is the caller's own, and tells the last mark; nothing else is turned. -/
import Derived.Test.YtehhhlhedmfdiaaPFnExactFinalSweepx6
namespace Go.Proofs.Ytehhhlhedmfdiaa.PFnExactFinalSweep
open Go.RowKit Go.Proofs.YtehhhlhedmfdiaaW.PrintWords Go.Proofs.YtehhhlhedmfdiaaW.PrintLast Go.Proofs.YtehhhlhedmfdiaaW.PrintMore
set_option linter.unusedVariables false
set_option linter.unusedSimpArgs false

def laws_markIntSS.l0 : Nat → List (List Int) → Int → Int → Option Int
  | 0, _, _, _ => none
  | k + 1, x0, x1, x5 => if x5 < (x0.length : Int) then (if 0 ≤ x5 then ((laws_markIntS.f k (rd_L1 x0 x5) x1).bind fun b => laws_markIntSS.l0 k (x0.set x5.toNat b.2) b.1 (wrap64 (x5 + 1))) else none) else some x1
def laws_markIntSS.f (k : Nat) (l0 : List (List Int)) (a1 : Int) : Option Int := laws_markIntSS.l0 k l0 a1 0

set_option maxHeartbeats 8000000 in
set_option maxRecDepth 100000 in
theorem laws_markIntSS.calls (k : Nat) (P0_ : Nat → Prop) (u : Value) (l0 : List (List Int)) (a1 : Int) (r : Int) (w0 w : World) (hB : Below w0.heap.size w0 w) (ho0 : Kd.S (Kd.slice 3 (Kd.int .i64)) 35 w w0.heap.size P0_ u l0) (h : laws_markIntSS.f k l0 a1 = some r) :
    Calls Try.prog 38 #[u, .int .i64 a1] w fun e w' => e = .returned (.int .i64 r) ∧ Below w0.heap.size w0 w' ∧ Kept w w' P0_ := by
  obtain ⟨A, c, rfl, hl, _⟩ := Kd.S_reads ho0
  have HC0 := Aside0.mk hl
  clear hl
  have HO := Aside0.mk ho0
  clear ho0
  have HB := Aside0.mk hB
  clear hB
  have HK := Aside0.mk (Kept.refl w P0_)
  have H' : Aside0 (laws_markIntSS.l0 k l0 a1 0 = some r) := ⟨h⟩
  clear h
  go_enter Try.func38, Try.ntmps38
  go_wp2
  go_loopg [1, 5] k (fun kq v1 v5 w' => ∃ (x0 : List (List Int)) (x1 : Int) (x5 : Int), v1 = .int .i64 x1 ∧ v5 = .int .i64 x5 ∧ Aside0 (laws_markIntSS.l0 kq x0 x1 x5 = some r) ∧ Aside0 (kq ≤ k) ∧ Aside0 (x0.length = l0.length) ∧ Aside0 (Kd.S (Kd.slice 3 (Kd.int .i64)) 35 w' w0.heap.size P0_ (.slice A l0.length c) x0) ∧ Aside0 (Below w0.heap.size w0 w') ∧ Aside0 (Kept w w' P0_))
  case atStart => exact ⟨l0, a1, 0, rfl, rfl, H', ⟨Nat.le_refl _⟩, ⟨rfl⟩, HO, HB, HK⟩
  case round =>
    clear H' HO HB HK
    obtain ⟨x0, x1, x5, rfl, rfl, HA, HK1, HLE, HO, HB, HK⟩ := hrel
    cases gk with
    | zero => exact absurd HA.out (by simp [laws_markIntSS.l0])
    | succ k1 =>
      have H := HA.out
      clear HA
      simp only [laws_markIntSS.l0] at H
      by_cases c4 : x5 < (x0.length : Int)
      · rw [if_pos c4] at H
        have q5 : x5 < (l0.length : Int) := by have := HLE.out; omega
        by_cases c5 : 0 ≤ x5
        · rw [if_pos c5] at H
          obtain ⟨⟨b1, b2⟩, A60, H⟩ := Option.bind_eq_some_iff.mp H
          have A6 := Aside0.mk A60
          clear A60
          have H' : Aside0 (laws_markIntSS.l0 k1 (x0.set x5.toNat b2) b1 (wrap64 (x5 + 1)) = some r) := ⟨H⟩
          clear H
          obtain ⟨ad, _, _, e106, _, _, _⟩ := at_L1 (Kd.S_reads' HO.out).2.2 x5 c5 (by have := HLE.out; omega)
          subst e106
          obtain ⟨g, rfl⟩ := Kd.R_head (Kd.S_R HO.out)
          obtain ⟨oki, cs, hcl, hM, hcc, hoki, hH⟩ := Kd.S_lend HO.out ([] : List Int) x5 c5 q5
          obtain ⟨v0, rfl, hR⟩ := hM
          have hx : wr.cell? ⟨g, x5.toNat, none⟩ = some v0 := by have := hcc 0 v0 rfl; rwa [show x5.toNat * (Kd.slice 3 (Kd.int .i64)).sz + 0 = x5.toNat from Nat.mul_one _] at this
          have HR := Aside0.mk hR
          have HH := Aside0.mk hH
          have HOK := Aside0.mk hoki
          clear hR hH hoki hcc hcl
          have c4b0 : decide (x5 < (l0.length : Int)) = true := decide_eq_true q5
          have c5b0 : decide (0 ≤ x5) = true := decide_eq_true c5
          have p106 := eq_true c5
          have q106 := eq_true q5
          clear c4 c5 q5
          go_wp2_with (first | ((with_reducible refine gate_callee (f := 21) rfl ?_); refine goesL_ (some 17) rfl rfl Try.func21 (by kernel_rfl) rfl #[v0, .int .i64 x1] rfl (by (try simp only [List.map_toArray, List.map_cons, List.map_nil]); first | done | rfl | (simp only [List.length_drop, List.length_take]; rfl)) ?_; (with_reducible refine (laws_markIntS.calls k1 oki v0 (rd_L1 x0 x5) x1 b1 b2 w0 _ ?side1 ?side2 A6.out).mono ?_); (case side1 => exact HB.out); (case side2 => exact HR.out); rintro e w8 ⟨rfl, hr, hb, hk⟩; refine ⟨_, rfl, ?_⟩; have n1 := Aside0.mk hr; have n2 := Aside0.mk hb; have n3 := Aside0.mk hk; clear hr hb hk))
          have HO2 : Aside0 (Kd.S (Kd.slice 3 (Kd.int .i64)) 35 w8 w0.heap.size P0_ (.slice (some ⟨g, 0, none⟩) l0.length c) (x0.set x5.toNat b2)) := by
            refine ⟨Kd.H_back (Kd.H_kept HH.out n3.out (fun k _ hn => hn)) (okp := fun k => some k = v0.ownBlock) (Kd.M_row (Kd.R_tight rfl n1.out)) (fun k hk => HR.out.1 k hk.symm)⟩
          have HB2 : Aside0 (Below w0.heap.size w0 w8) := n2
          have HK2 : Aside0 (Kept w w8 P0_) := ⟨HK.out.then_ n3.out (fun k hk => .inl (HOK.out k hk).1)⟩
          have HLE2 : Aside0 ((x0.set x5.toNat b2).length = l0.length) := ⟨by rw [List.length_set]; exact HLE.out⟩
          clear HO HB HK HLE n1 n2 n3 HR HH HOK hx A6
          go_roundg k1
          case measure => have := HK1.out; omega
          case rel => exact ⟨_, b1, (wrap64 (x5 + 1)), rfl, (by first | rfl | (simp; done) | (simp [*]; done)), H', ⟨by have := HK1.out; omega⟩, HLE2, HO2, HB2, HK2⟩
        · rw [if_neg c5] at H
          exact absurd H (by simp)
      · rw [if_neg c4] at H
        have c4b0 : decide (x5 < (l0.length : Int)) = false := decide_eq_false (by have := HLE.out; omega)
        clear c4
        obtain rfl := Option.some.inj H
        go_wp2
        go_ret
        exact ⟨rfl, HB.out, HK.out⟩
end Go.Proofs.Ytehhhlhedmfdiaa.PFnExactFinalSweep
