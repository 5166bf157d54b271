/- FnExactFinalSweep's own walk: three ways out at once where the size is too great; else one way to the end, and true. -/
import Derived.Test.YtehhhlhedmfdiaaPFnExactFinalSweepxSweep
import Derived.Test.YtehhhlhedmfdiaaPFnExactFinalSweepxMark
namespace Go.Proofs.Ytehhhlhedmfdiaa.PFnExactFinalSweep
open Go.RowKit Go.Proofs.YtehhhlhedmfdiaaW.PrintWords Go.Proofs.YtehhhlhedmfdiaaW.PrintLast Go.Proofs.YtehhhlhedmfdiaaW.PrintMore
set_option linter.unusedVariables false
set_option linter.unusedSimpArgs false

def Ends (w : World) (e : Ending) (w' : World) : Prop := e = .returned (.bool true) ∧ Below w.heap.size w w'
theorem cells4 {W : World} {g : Nat} {a b c d : Value} (h : W.heap[g]? = some (.cells #[a, b, c, d] 57 (0, 0))) : W.cell? ⟨g, 0, none⟩ = some a ∧ W.cell? ⟨g, 1, none⟩ = some b ∧ W.cell? ⟨g, 2, none⟩ = some c ∧ W.cell? ⟨g, 3, none⟩ = some d :=
  ⟨(blk_cell h 0).trans rfl, (blk_cell h 1).trans rfl, (blk_cell h 2).trans rfl, (blk_cell h 3).trans rfl⟩
structure GInv (w w3 w6 W : World) (gG : Nat) (u0 u1 u2 u3 : Value) (g1 g2 g3 : List Int) (g4 : List S110) : Prop where
  b : Below w.heap.size w W
  b3 : Below w3.heap.size w3 W
  w3b : Below w.heap.size w w3
  G0 : Kd.R (Kd.int .i64) 3 W w6.heap.size (fun k => some k ≠ u1.ownBlock ∧ some k ≠ u2.ownBlock) u0 g1
  G1 : Kd.R (Kd.int .i64) 3 W w6.heap.size (fun k => some k ≠ u0.ownBlock ∧ some k ≠ u2.ownBlock) u1 g2
  G2 : Kd.R (Kd.int .i64) 3 W w6.heap.size (fun k => some k ≠ u0.ownBlock ∧ some k ≠ u1.ownBlock) u2 g3
  G3 : Kd.R k110 110 W w6.heap.size (fun _ => True) u3 g4
  bx : W.heap[gG]? = some (.cells #[u0, u1, u2, u3] 57 (0, 0))
  hg : w6.heap.size ≤ gG
  h6 : w3.heap.size ≤ w6.heap.size
variable {w w3 w6 W W' : World} {gG : Nat} {u0 u1 u2 u3 : Value} {g1 g2 g3 : List Int} {g4 : List S110}
theorem GInv.below (h : GInv w w3 w6 W gG u0 u1 u2 u3 g1 g2 g3 g4) (hb : Below W.heap.size W W') : GInv w w3 w6 W' gG u0 u1 u2 u3 g1 g2 g3 g4 :=
  ⟨below_step h.b hb, below_step h.b3 hb, h.w3b, Kd.R_below h.G0 hb, Kd.R_below h.G1 hb, Kd.R_below h.G2 hb, Kd.R_below h.G3 hb, blk_below h.bx hb, h.hg, h.h6⟩
theorem GInv.kept {S : Nat → Prop} (h : GInv w w3 w6 W gG u0 u1 u2 u3 g1 g2 g3 g4) (hb3 : Below w3.heap.size w3 W') (hk : Kept W W' S) (hS : ∀ k, S k → k < w6.heap.size) : GInv w w3 w6 W' gG u0 u1 u2 u3 g1 g2 g3 g4 := by
  have far : ∀ {α : Type} {d : Kd α} {e : TypeId} {ok : Nat → Prop} {v : Value} {xs : List α}, d.R e W w6.heap.size ok v xs → d.R e W' w6.heap.size ok v xs := fun hr =>
    Kd.R_mono (Kd.R_kept (Kd.R_bound hr) hk (fun k h1 h2 => absurd (hS k h2) (Nat.not_lt.2 h1.2.1))) (fun _ hk => hk.1)
  exact ⟨below_step h.w3b hb3, hb3, h.w3b, far h.G0, far h.G1, far h.G2, far h.G3, (hk.2 gG (blk_lt h.bx) (fun e => absurd (hS gG e) (Nat.not_lt.2 h.hg))).trans h.bx, h.hg, h.h6⟩
set_option maxHeartbeats 8000000 in
set_option maxRecDepth 100000 in
theorem law_long (k : Nat) (A0 : Option Addr) (c0 : Nat) (l0 : List (List Int)) (A1 : Option Addr) (c1 : Nat) (l1 : List Int) (A2 : Option Addr) (c2 : Nat) (l2 : List S112) (w : World) (hr0 : Kd.C (Kd.slice 3 (Kd.int .i64)) w A0 l0.length l0) (hc0 : l0.length ≤ c0) (hr1 : Kd.C (Kd.int .i64) w A1 l1.length l1) (hc1 : l1.length ≤ c1) (hr2 : Kd.C k112 w A2 l2.length l2) (hc2 : l2.length ≤ c2) (h : (l1.length : Int) > 1048576) : Calls Try.prog 6 #[.slice A0 l0.length c0, .slice A1 l1.length c1, .slice A2 l2.length c2] w (Ends w) := by
  have hb0 : decide ((l1.length : Int) > 1048576) = true := decide_eq_true h
  have hb1 : (1048576 < l1.length) = True := eq_true (by omega)
  go_enter Try.func6, Try.ntmps6
  go_wp2_with fail
  go_ret
  exact ⟨rfl, Below.refl _ _⟩
set_option maxHeartbeats 8000000 in
set_option maxRecDepth 100000 in
theorem law_small1 (k : Nat) (A0 : Option Addr) (c0 : Nat) (l0 : List (List Int)) (A1 : Option Addr) (c1 : Nat) (l1 : List Int) (A2 : Option Addr) (c2 : Nat) (l2 : List S112) (w : World) (hr0 : Kd.C (Kd.slice 3 (Kd.int .i64)) w A0 l0.length l0) (hc0 : l0.length ≤ c0) (hr1 : Kd.C (Kd.int .i64) w A1 l1.length l1) (hc1 : l1.length ≤ c1) (hr2 : Kd.C k112 w A2 l2.length l2) (hc2 : l2.length ≤ c2) (h : ¬ (l1.length : Int) > 1048576) (t1 : Int) (h1 : laws_szIntSS.f k l0 1048576 = some t1) (ht : t1 < 0) : Calls Try.prog 6 #[.slice A0 l0.length c0, .slice A1 l1.length c1, .slice A2 l2.length c2] w (Ends w) := by
  have hb0 : decide ((l1.length : Int) > 1048576) = false := decide_eq_false h
  have hb1 : (1048576 < l1.length) = False := eq_false (by omega)
  have hb2 : decide (t1 < 0) = true := decide_eq_true ht
  have HR0 := Aside0.mk hr0
  have HC0 := Aside0.mk hc0
  have HR1 := Aside0.mk hr1
  have HC1 := Aside0.mk hc1
  have HR2 := Aside0.mk hr2
  have HC2 := Aside0.mk hc2
  clear hr0 hc0 hr1 hc1 hr2 hc2
  have H1 := Aside0.mk h1
  clear h h1 ht
  go_enter Try.func6, Try.ntmps6
  go_wp2_with fail
  refine (laws_szIntSS.calls k A0 c0 l0 1048576 t1 _ HR0.out HC0.out H1.out).mono ?_
  rintro e w1 ⟨rfl, hd⟩
  have HB := Aside0.mk hd.below
  clear hd
  go_wp2_with fail
  go_ret
  exact ⟨rfl, HB.out⟩
set_option maxHeartbeats 8000000 in
set_option maxRecDepth 100000 in
theorem law_small2 (k : Nat) (A0 : Option Addr) (c0 : Nat) (l0 : List (List Int)) (A1 : Option Addr) (c1 : Nat) (l1 : List Int) (A2 : Option Addr) (c2 : Nat) (l2 : List S112) (w : World) (hr0 : Kd.C (Kd.slice 3 (Kd.int .i64)) w A0 l0.length l0) (hc0 : l0.length ≤ c0) (hr1 : Kd.C (Kd.int .i64) w A1 l1.length l1) (hc1 : l1.length ≤ c1) (hr2 : Kd.C k112 w A2 l2.length l2) (hc2 : l2.length ≤ c2) (h : ¬ (l1.length : Int) > 1048576) (t1 t2 : Int) (h1 : laws_szIntSS.f k l0 1048576 = some t1) (ht : ¬ t1 < 0) (h2 : laws_szFinalS.f l2 t1 = some t2) (ht2 : t2 < 0) : Calls Try.prog 6 #[.slice A0 l0.length c0, .slice A1 l1.length c1, .slice A2 l2.length c2] w (Ends w) := by
  have hb0 : decide ((l1.length : Int) > 1048576) = false := decide_eq_false h
  have hb1 : (1048576 < l1.length) = False := eq_false (by omega)
  have hb2 : decide (t1 < 0) = false := decide_eq_false ht
  have hb3 : decide (t2 < 0) = true := decide_eq_true ht2
  have HR0 := Aside0.mk hr0
  have HC0 := Aside0.mk hc0
  have HR1 := Aside0.mk hr1
  have HC1 := Aside0.mk hc1
  have HR2 := Aside0.mk hr2
  have HC2 := Aside0.mk hc2
  clear hr0 hc0 hr1 hc1 hr2 hc2
  have H1 := Aside0.mk h1
  have H2 := Aside0.mk h2
  clear h h1 ht h2 ht2
  go_enter Try.func6, Try.ntmps6
  go_wp2_with fail
  refine (laws_szIntSS.calls k A0 c0 l0 1048576 t1 _ HR0.out HC0.out H1.out).mono ?_
  rintro e w1 ⟨rfl, hd⟩
  have HB := Aside0.mk hd.below
  clear hd
  go_wp2_with fail
  refine (laws_szFinalS.calls A2 c2 l2 t1 t2 _ (Kd.C_below HR2.out HB.out) HC2.out H2.out).mono ?_
  rintro e w2 ⟨rfl, hd⟩
  have n1 := Aside0.mk (below_step HB.out hd.below)
  clear hd HB
  have HB := n1
  clear n1
  go_wp2_with fail
  go_ret
  exact ⟨rfl, HB.out⟩
set_option maxHeartbeats 8000000 in
set_option maxRecDepth 100000 in
theorem law_whole (k : Nat) (A0 : Option Addr) (c0 : Nat) (l0 : List (List Int)) (A1 : Option Addr) (c1 : Nat) (l1 : List Int) (A2 : Option Addr) (c2 : Nat) (l2 : List S112) (w : World) (hr0 : Kd.C (Kd.slice 3 (Kd.int .i64)) w A0 l0.length l0) (hc0 : l0.length ≤ c0) (hr1 : Kd.C (Kd.int .i64) w A1 l1.length l1) (hc1 : l1.length ≤ c1) (hr2 : Kd.C k112 w A2 l2.length l2) (hc2 : l2.length ≤ c2) (h : ¬ (l1.length : Int) > 1048576) (t1 t2 : Int) (h1 : laws_szIntSS.f k l0 1048576 = some t1) (ht : ¬ t1 < 0) (h2 : laws_szFinalS.f l2 t1 = some t2) (ht2 : ¬ t2 < 0)
    (m0 : List (List Int)) (m1 : List Int) (m2 : List S110) (hm0 : laws_toIntSS.f k l0 = some m0) (hm1 : laws_toIntS.f k l1 = some m1) (hm2 : laws_toFinalS.f k l2 = some m2)
    (r1 r2 r3 : List Int) (r4 : List S110) (hsp : spec_FinalSweep.f k m0 m1 m2 = some (r1, r2, r3, r4))
    (him : ∀ (A0 : Option Addr) (c0 : Nat) (A1 : Option Addr) (c1 : Nat) (A2 : Option Addr) (c2 : Nat) (w : World), Kd.C (Kd.slice 3 (Kd.int .i64)) w A0 m0.length m0 → m0.length ≤ c0 → Kd.C (Kd.int .i64) w A1 m1.length m1 → m1.length ≤ c1 → Kd.C k110 w A2 m2.length m2 → m2.length ≤ c2 →
      Calls Try.prog 34 #[.slice A0 m0.length c0, .slice A1 m1.length c1, .slice A2 m2.length c2] w (Four w r1 r2 r3 r4))
    (heq : laws_eqSweep.f k r1 r2 r3 r4 r1 r2 r3 r4 = some true) (he0 : laws_eqIntSS.f k m0 m0 = some true) (he1 : laws_eqIntS.f k m1 m1 = some true) (he2 : laws_eqFinalS.f k m2 m2 = some true)
    (k1 k2 k3 : Int) (n1' : List Int) (n2' : List S110) (hk1 : laws_markIntSS.f k m0 1 = some k1) (hk2 : laws_markIntS.f k m1 k1 = some (k2, n1')) (hk3 : laws_markFinalS.f k m2 k2 = some (k3, n2')) (hk : ¬ k3 < 0)
    (mm : Int) (s1 s2 s3 : List Int) (s4 : List S110) (hmk : laws_markSweep.f k r1 r2 r3 r4 1 = some (mm, s1, s2, s3, s4)) (hhe : laws_heldSweep.f k s1 s2 s3 s4 1 = some mm) (hmm : ¬ mm < 0) : Calls Try.prog 6 #[.slice A0 l0.length c0, .slice A1 l1.length c1, .slice A2 l2.length c2] w (Ends w) := by
  have hb0 : decide ((l1.length : Int) > 1048576) = false := decide_eq_false h
  have hb1 : (1048576 < l1.length) = False := eq_false (by omega)
  have hb2 : decide (t1 < 0) = false := decide_eq_false ht
  have hb3 : decide (t2 < 0) = false := decide_eq_false ht2
  have hb4 : decide (k3 < 0) = false := decide_eq_false hk
  have hb5 : decide (mm < 0) = false := decide_eq_false hmm
  have HR0 := Aside0.mk hr0
  have HC0 := Aside0.mk hc0
  have HR1 := Aside0.mk hr1
  have HC1 := Aside0.mk hc1
  have HR2 := Aside0.mk hr2
  have HC2 := Aside0.mk hc2
  clear hr0 hc0 hr1 hc1 hr2 hc2
  have Xh1 := Aside0.mk h1
  have Xh2 := Aside0.mk h2
  have Xhm0 := Aside0.mk hm0
  have Xhm1 := Aside0.mk hm1
  have Xhm2 := Aside0.mk hm2
  have Xhsp := Aside0.mk hsp
  have Xhim := Aside0.mk him
  have Xheq := Aside0.mk heq
  have Xhe0 := Aside0.mk he0
  have Xhe1 := Aside0.mk he1
  have Xhe2 := Aside0.mk he2
  have Xhk1 := Aside0.mk hk1
  have Xhk2 := Aside0.mk hk2
  have Xhk3 := Aside0.mk hk3
  have Xhmk := Aside0.mk hmk
  have Xhhe := Aside0.mk hhe
  clear h h1 ht h2 ht2 hm0 hm1 hm2 hsp him heq he0 he1 he2 hk1 hk2 hk3 hk hmk hhe hmm
  go_enter Try.func6, Try.ntmps6
  go_wp2_with fail
  refine (laws_szIntSS.calls k A0 c0 l0 1048576 t1 _ HR0.out HC0.out Xh1.out).mono ?_
  rintro e w1 ⟨rfl, hd⟩
  have HB := Aside0.mk hd.below
  clear hd Xh1
  go_wp2_with fail
  refine (laws_szFinalS.calls A2 c2 l2 t1 t2 _ (Kd.C_below HR2.out HB.out) HC2.out Xh2.out).mono ?_
  rintro e w2 ⟨rfl, hd⟩
  have n1 := Aside0.mk (below_step HB.out hd.below)
  clear hd HB Xh2
  have HB := n1
  clear n1
  go_wp2_with fail
  refine (laws_toIntSS.calls k A0 c0 l0 m0 _ (Kd.C_below HR0.out HB.out) HC0.out Xhm0.out).mono ?_
  rintro e wa ⟨v0, rfl, ho, hb⟩
  obtain ⟨B0, d0, rfl, hl0, hC0⟩ := Kd.S_reads ho
  have P0 := Aside0.mk hC0
  have L0 := Aside0.mk hl0
  have n1 := Aside0.mk (below_step HB.out hb)
  clear HB
  have HB := n1
  clear n1
  clear ho hb hC0 hl0
  go_wp2_with fail
  refine (laws_toIntS.calls k A1 c1 l1 m1 _ (Kd.C_below HR1.out HB.out) HC1.out Xhm1.out).mono ?_
  rintro e wb ⟨v1, rfl, ho, hb⟩
  obtain ⟨B1, d1, rfl, hl1, hC1⟩ := Kd.R_reads ho
  have P1 := Aside0.mk hC1
  have L1 := Aside0.mk hl1
  have n2 := Aside0.mk (Kd.C_below P0.out hb)
  clear P0
  have P0 := n2
  clear n2
  have n1 := Aside0.mk (below_step HB.out hb)
  clear HB
  have HB := n1
  clear n1
  clear ho hb hC1 hl1
  go_wp2_with fail
  refine (laws_toFinalS.calls k A2 c2 l2 m2 _ (Kd.C_below HR2.out HB.out) HC2.out Xhm2.out).mono ?_
  rintro e wc ⟨v2, rfl, ho, hb⟩
  obtain ⟨B2, d2, rfl, hl2, hC2⟩ := Kd.R_reads ho
  have P2 := Aside0.mk hC2
  have L2 := Aside0.mk hl2
  have n2 := Aside0.mk (Kd.C_below P0.out hb)
  have n3 := Aside0.mk (Kd.C_below P1.out hb)
  clear P0 P1
  have P0 := n2
  have P1 := n3
  clear n2 n3
  have n1 := Aside0.mk (below_step HB.out hb)
  clear HB
  have HB := n1
  clear n1
  clear ho hb hC2 hl2
  go_wp2_with fail
  refine (spec_FinalSweep.calls k B0 d0 m0 B1 d1 m1 B2 d2 m2 r1 r2 r3 r4 _ P0.out L0.out P1.out L1.out P2.out L2.out Xhsp.out).mono ?_
  rintro e wd ⟨q0, q1, q2, q3, rfl, ho0, ho1, ho2, ho3, hb⟩
  obtain ⟨D0, f0, rfl, hf0, _⟩ := Kd.R_reads ho0
  obtain ⟨D1, f1, rfl, hf1, _⟩ := Kd.R_reads ho1
  obtain ⟨D2, f2, rfl, hf2, _⟩ := Kd.R_reads ho2
  obtain ⟨D3, f3, rfl, hf3, _⟩ := Kd.R_reads ho3
  have W0 := Aside0.mk ho0
  have W1 := Aside0.mk ho1
  have W2 := Aside0.mk ho2
  have W3 := Aside0.mk ho3
  have F0 := Aside0.mk hf0
  have F1 := Aside0.mk hf1
  have F2 := Aside0.mk hf2
  have F3 := Aside0.mk hf3
  have n1 := Aside0.mk (below_step HB.out hb)
  clear HB
  have HB := n1
  clear n1
  clear P0 P1 P2 L0 L1 L2 ho0 ho1 ho2 ho3 hf0 hf1 hf2 hf3 hb Xhsp
  go_wp2_with fail
  obtain ⟨w3, hw3⟩ : ∃ x, x = wd.alloc (Obj.cells #[Value.slice D0 r1.length f0, Value.slice D1 r2.length f1, Value.slice D2 r3.length f2, Value.slice D3 r4.length f3] 57) := ⟨_, rfl⟩
  have W3B : Aside0 (Below w.heap.size w w3) := ⟨by rw [hw3]; exact below_alloc HB.out _⟩
  have C0 : Aside0 (Kd.C (Kd.int .i64) w3 D0 r1.length r1) := ⟨by rw [hw3]; exact (Kd.R_reads' (Kd.R_alloc W0.out _)).2.2⟩
  have C1 : Aside0 (Kd.C (Kd.int .i64) w3 D1 r2.length r2) := ⟨by rw [hw3]; exact (Kd.R_reads' (Kd.R_alloc W1.out _)).2.2⟩
  have C2 : Aside0 (Kd.C (Kd.int .i64) w3 D2 r3.length r3) := ⟨by rw [hw3]; exact (Kd.R_reads' (Kd.R_alloc W2.out _)).2.2⟩
  have C3 : Aside0 (Kd.C k110 w3 D3 r4.length r4) := ⟨by rw [hw3]; exact (Kd.R_reads' (Kd.R_alloc W3.out _)).2.2⟩
  obtain ⟨gW, hgW⟩ : ∃ g, g = wd.heap.size := ⟨_, rfl⟩
  have BW : Aside0 (w3.heap[gW]? = some (.cells #[Value.slice D0 r1.length f0, Value.slice D1 r2.length f1, Value.slice D2 r3.length f2, Value.slice D3 r4.length f3] 57 (0, 0))) := ⟨by rw [hw3, hgW]; exact blk_new _ _⟩
  rw [← hw3, ← hgW]
  clear hw3 hgW HB W0 W1 W2 W3
  have HB3 := Aside0.mk (Below.refl w3.heap.size w3)
  refine (laws_toIntSS.calls k A0 c0 l0 m0 _ (Kd.C_below HR0.out W3B.out) HC0.out Xhm0.out).mono ?_
  rintro e w4 ⟨v0, rfl, ho, hb⟩
  obtain ⟨B0, d0, rfl, hl0, _⟩ := Kd.S_reads ho
  have X0 := Aside0.mk ho
  have L0 := Aside0.mk hl0
  have S34 := Aside0.mk hb.size
  have n0_ := Aside0.mk (below_step HB3.out hb)
  clear HB3
  have HB3 := n0_
  clear n0_
  clear ho hb hl0
  go_wp2_with fail
  refine (laws_toIntS.calls k A1 c1 l1 m1 _ (Kd.C_below HR1.out (below_step W3B.out HB3.out)) HC1.out Xhm1.out).mono ?_
  rintro e w5 ⟨v1, rfl, ho, hb⟩
  obtain ⟨B1, d1, rfl, hl1, _⟩ := Kd.R_reads ho
  have X1 := Aside0.mk ho
  have L1 := Aside0.mk hl1
  have S45 := Aside0.mk hb.size
  have n0_ := Aside0.mk (below_step HB3.out hb)
  have n1_ := Aside0.mk (Kd.S_old X0.out hb)
  clear HB3 X0
  have HB3 := n0_
  have X0 := n1_
  clear n0_ n1_
  clear ho hb hl1
  go_wp2_with fail
  refine (laws_toFinalS.calls k A2 c2 l2 m2 _ (Kd.C_below HR2.out (below_step W3B.out HB3.out)) HC2.out Xhm2.out).mono ?_
  rintro e w6 ⟨v2, rfl, ho, hb⟩
  obtain ⟨B2, d2, rfl, hl2, _⟩ := Kd.R_reads ho
  have X2 := Aside0.mk ho
  have L2 := Aside0.mk hl2
  have S56 := Aside0.mk hb.size
  have n0_ := Aside0.mk (below_step HB3.out hb)
  have n1_ := Aside0.mk (Kd.S_below X0.out hb)
  have n2_ := Aside0.mk (Kd.R_old X1.out hb)
  clear HB3 X0 X1
  have HB3 := n0_
  have X0 := n1_
  have X1 := n2_
  clear n0_ n1_ n2_
  clear ho hb hl2
  go_wp2_with fail
  refine (Xhim.out B0 d0 B1 d1 B2 d2 _ (Kd.S_reads' X0.out).2.2 L0.out (Kd.R_reads' X1.out).2.2 L1.out (Kd.R_reads' X2.out).2.2 L2.out).mono ?_
  rintro e w7 ⟨q0, q1, q2, q3, rfl, ho0, ho1, ho2, ho3, hb⟩
  obtain ⟨E0, e0, rfl, he0_, _⟩ := Kd.R_reads ho0
  obtain ⟨E1, e1, rfl, he1_, _⟩ := Kd.R_reads ho1
  obtain ⟨E2, e2, rfl, he2_, _⟩ := Kd.R_reads ho2
  obtain ⟨E3, e3, rfl, he3_, _⟩ := Kd.R_reads ho3
  have K0 := Aside0.mk he0_
  have K1 := Aside0.mk he1_
  have K2 := Aside0.mk he2_
  have K3 := Aside0.mk he3_
  have S36 := Aside0.mk HB3.out.size
  have S67 := Aside0.mk hb.size
  have n0_ := Aside0.mk (below_step HB3.out hb)
  have n1_ := Aside0.mk (Kd.S_below X0.out hb)
  have n2_ := Aside0.mk (Kd.R_below X1.out hb)
  have n3_ := Aside0.mk (Kd.R_old X2.out hb)
  clear HB3 X0 X1 X2
  have HB3 := n0_
  have X0 := n1_
  have X1 := n2_
  have X2 := n3_
  clear n0_ n1_ n2_ n3_
  obtain ⟨hz0, hz1, hz2, hz3⟩ := cells4 (blk_below BW.out (below_alloc HB3.out (Obj.cells #[Value.slice E0 r1.length e0, Value.slice E1 r2.length e1, Value.slice E2 r3.length e2, Value.slice E3 r4.length e3] 57)))
  go_wp2_with fail
  clear hz0 hz1 hz2 hz3
  obtain ⟨w8, hw8⟩ : ∃ x, x = w7.alloc (Obj.cells #[Value.slice E0 r1.length e0, Value.slice E1 r2.length e1, Value.slice E2 r3.length e2, Value.slice E3 r4.length e3] 57) := ⟨_, rfl⟩
  obtain ⟨gG, hgG⟩ : ∃ g, g = w7.heap.size := ⟨_, rfl⟩
  have HG : Aside0 (GInv w w3 w6 w8 gG (Value.slice E0 r1.length e0) (Value.slice E1 r2.length e1) (Value.slice E2 r3.length e2) (Value.slice E3 r4.length e3) r1 r2 r3 r4) := ⟨by
    rw [hw8, hgG]
    exact ⟨below_alloc (below_step W3B.out HB3.out) _, below_alloc HB3.out _, W3B.out, Kd.R_alloc ho0 _, Kd.R_alloc ho1 _, Kd.R_alloc ho2 _, Kd.R_alloc ho3 _, blk_new _ _, S67.out, S36.out⟩⟩
  have hb8 : Below w7.heap.size w7 w8 := by rw [hw8]; exact below_alloc (Below.refl _ _) _
  have n0_ := Aside0.mk (Kd.S_below X0.out hb8)
  have n1_ := Aside0.mk (Kd.R_below X1.out hb8)
  have n2_ := Aside0.mk (Kd.R_below X2.out hb8)
  clear X0 X1 X2
  have X0 := n0_
  have X1 := n1_
  have X2 := n2_
  clear n0_ n1_ n2_
  rw [← hw8, ← hgG]
  clear hw8 hgG HB3 ho0 ho1 ho2 ho3 hb hb8 S67 he0_ he1_ he2_ he3_
  refine (laws_eqSweep.calls k E0 e0 r1 E1 e1 r2 E2 e2 r3 E3 e3 r4 D0 f0 r1 D1 f1 r2 D2 f2 r3 D3 f3 r4 true _ (Kd.R_reads' HG.out.G0).2.2 K0.out (Kd.R_reads' HG.out.G1).2.2 K1.out (Kd.R_reads' HG.out.G2).2.2 K2.out (Kd.R_reads' HG.out.G3).2.2 K3.out (Kd.C_below C0.out HG.out.b3) F0.out (Kd.C_below C1.out HG.out.b3) F1.out (Kd.C_below C2.out HG.out.b3) F2.out (Kd.C_below C3.out HG.out.b3) F3.out Xheq.out).mono ?_
  rintro e w9 ⟨rfl, hb⟩
  have n0_ := Aside0.mk (HG.out.below hb)
  have n1_ := Aside0.mk (Kd.S_below X0.out hb)
  have n2_ := Aside0.mk (Kd.R_below X1.out hb)
  have n3_ := Aside0.mk (Kd.R_below X2.out hb)
  clear HG X0 X1 X2
  have HG := n0_
  have X0 := n1_
  have X1 := n2_
  have X2 := n3_
  clear n0_ n1_ n2_ n3_
  clear hb
  go_wp2_with fail
  refine (laws_toIntSS.calls k A0 c0 l0 m0 _ (Kd.C_below HR0.out HG.out.b) HC0.out Xhm0.out).mono ?_
  rintro e w10 ⟨v0, rfl, ho, hb⟩
  obtain ⟨Y0, y0, rfl, hl, hC⟩ := Kd.S_reads ho
  have P := Aside0.mk hC
  have L := Aside0.mk hl
  have n0_ := Aside0.mk (HG.out.below hb)
  have n1_ := Aside0.mk (Kd.S_below X0.out hb)
  have n2_ := Aside0.mk (Kd.R_below X1.out hb)
  have n3_ := Aside0.mk (Kd.R_below X2.out hb)
  clear HG X0 X1 X2
  have HG := n0_
  have X0 := n1_
  have X1 := n2_
  have X2 := n3_
  clear n0_ n1_ n2_ n3_
  clear ho hb hl hC
  go_wp2_with fail
  refine (laws_eqIntSS.calls k B0 d0 m0 Y0 y0 m0 true _ (Kd.S_reads' X0.out).2.2 L0.out P.out L.out Xhe0.out).mono ?_
  rintro e w11 ⟨rfl, hd⟩
  have hb := hd.below
  have n0_ := Aside0.mk (HG.out.below hb)
  have n1_ := Aside0.mk (Kd.S_below X0.out hb)
  have n2_ := Aside0.mk (Kd.R_below X1.out hb)
  have n3_ := Aside0.mk (Kd.R_below X2.out hb)
  clear HG X0 X1 X2
  have HG := n0_
  have X0 := n1_
  have X1 := n2_
  have X2 := n3_
  clear n0_ n1_ n2_ n3_
  clear hb hd P L
  go_wp2_with fail
  refine (laws_toIntS.calls k A1 c1 l1 m1 _ (Kd.C_below HR1.out HG.out.b) HC1.out Xhm1.out).mono ?_
  rintro e w12 ⟨v0, rfl, ho, hb⟩
  obtain ⟨Y1, y1, rfl, hl, hC⟩ := Kd.R_reads ho
  have P := Aside0.mk hC
  have L := Aside0.mk hl
  have n0_ := Aside0.mk (HG.out.below hb)
  have n1_ := Aside0.mk (Kd.S_below X0.out hb)
  have n2_ := Aside0.mk (Kd.R_below X1.out hb)
  have n3_ := Aside0.mk (Kd.R_below X2.out hb)
  clear HG X0 X1 X2
  have HG := n0_
  have X0 := n1_
  have X1 := n2_
  have X2 := n3_
  clear n0_ n1_ n2_ n3_
  clear ho hb hl hC
  go_wp2_with fail
  refine (laws_eqIntS.calls k B1 d1 m1 Y1 y1 m1 true _ (Kd.R_reads' X1.out).2.2 L1.out P.out L.out Xhe1.out).mono ?_
  rintro e w13 ⟨rfl, hd⟩
  have hb := hd.below
  have n0_ := Aside0.mk (HG.out.below hb)
  have n1_ := Aside0.mk (Kd.S_below X0.out hb)
  have n2_ := Aside0.mk (Kd.R_below X1.out hb)
  have n3_ := Aside0.mk (Kd.R_below X2.out hb)
  clear HG X0 X1 X2
  have HG := n0_
  have X0 := n1_
  have X1 := n2_
  have X2 := n3_
  clear n0_ n1_ n2_ n3_
  clear hb hd P L
  go_wp2_with fail
  refine (laws_toFinalS.calls k A2 c2 l2 m2 _ (Kd.C_below HR2.out HG.out.b) HC2.out Xhm2.out).mono ?_
  rintro e w14 ⟨v0, rfl, ho, hb⟩
  obtain ⟨Y2, y2, rfl, hl, hC⟩ := Kd.R_reads ho
  have P := Aside0.mk hC
  have L := Aside0.mk hl
  have n0_ := Aside0.mk (HG.out.below hb)
  have n1_ := Aside0.mk (Kd.S_below X0.out hb)
  have n2_ := Aside0.mk (Kd.R_below X1.out hb)
  have n3_ := Aside0.mk (Kd.R_below X2.out hb)
  clear HG X0 X1 X2
  have HG := n0_
  have X0 := n1_
  have X1 := n2_
  have X2 := n3_
  clear n0_ n1_ n2_ n3_
  clear ho hb hl hC
  go_wp2_with fail
  refine (laws_eqFinalS.calls k B2 d2 m2 Y2 y2 m2 true _ (Kd.R_reads' X2.out).2.2 L2.out P.out L.out Xhe2.out).mono ?_
  rintro e w15 ⟨rfl, hb⟩
  have n0_ := Aside0.mk (HG.out.below hb)
  have n1_ := Aside0.mk (Kd.S_below X0.out hb)
  have n2_ := Aside0.mk (Kd.R_below X1.out hb)
  have n3_ := Aside0.mk (Kd.R_below X2.out hb)
  clear HG X0 X1 X2
  have HG := n0_
  have X0 := n1_
  have X1 := n2_
  have X2 := n3_
  clear n0_ n1_ n2_ n3_
  clear hb P L
  go_wp2_with fail
  refine (laws_markIntSS.calls k _ _ m0 1 k1 w3 _ HG.out.b3 X0.out Xhk1.out).mono ?_
  rintro e w16 ⟨rfl, hb3, hk⟩
  have n0_ := Aside0.mk (HG.out.kept hb3 hk (fun k h => Nat.lt_of_lt_of_le (Nat.lt_of_lt_of_le h.2 S45.out) S56.out))
  have n1_ := Aside0.mk (Kd.R_kept (Kd.R_bound X1.out) hk (fun k h h2 => absurd h2.2 (Nat.not_lt.2 h.2.1)))
  have n2_ := Aside0.mk (Kd.R_kept (Kd.R_bound X2.out) hk (fun k h h2 => absurd (Nat.lt_of_lt_of_le h2.2 S45.out) (Nat.not_lt.2 h.2.1)))
  clear HG X1 X2
  have HG := n0_
  have X1 := n1_
  have X2 := n2_
  clear n0_ n1_ n2_
  clear hb3 hk X0 L0
  go_wp2_with fail
  refine (laws_markIntS.calls k _ _ m1 k1 k2 n1' w3 _ HG.out.b3 (Kd.R_lower X1.out S34.out) Xhk2.out).mono ?_
  rintro e w17 ⟨rfl, _, hb3, hk⟩
  have n0_ := Aside0.mk (HG.out.kept hb3 hk (fun k h => Nat.lt_of_lt_of_le h.1.2 S56.out))
  have n1_ := Aside0.mk (Kd.R_kept X2.out hk (fun k h h2 => absurd h2.1.2 (Nat.not_lt.2 h.2.1)))
  clear HG X2
  have HG := n0_
  have X2 := n1_
  clear n0_ n1_
  clear hb3 hk X1 L1
  go_wp2_with fail
  refine (laws_markFinalS.calls k _ _ m2 k2 k3 n2' w3 _ HG.out.b3 (Kd.R_lower X2.out (Nat.le_trans S34.out S45.out)) Xhk3.out).mono ?_
  rintro e w18 ⟨rfl, _, hb3, hk⟩
  have n0_ := Aside0.mk (HG.out.kept hb3 hk (fun k h => h.1.2))
  clear HG
  have HG := n0_
  clear n0_
  clear hb3 hk X2 L2
  obtain ⟨hz0, hz1, hz2, hz3⟩ := cells4 (blk_below BW.out HG.out.b3)
  obtain ⟨hy0, hy1, hy2, hy3⟩ := cells4 HG.out.bx
  go_wp2_with fail
  refine (laws_eqSweep.calls k E0 e0 r1 E1 e1 r2 E2 e2 r3 E3 e3 r4 D0 f0 r1 D1 f1 r2 D2 f2 r3 D3 f3 r4 true _ (Kd.R_reads' HG.out.G0).2.2 K0.out (Kd.R_reads' HG.out.G1).2.2 K1.out (Kd.R_reads' HG.out.G2).2.2 K2.out (Kd.R_reads' HG.out.G3).2.2 K3.out (Kd.C_below C0.out HG.out.b3) F0.out (Kd.C_below C1.out HG.out.b3) F1.out (Kd.C_below C2.out HG.out.b3) F2.out (Kd.C_below C3.out HG.out.b3) F3.out Xheq.out).mono ?_
  rintro e w19 ⟨rfl, hb⟩
  have n0_ := Aside0.mk (HG.out.below hb)
  clear HG
  have HG := n0_
  clear n0_
  clear hb
  clear hz0 hz1 hz2 hz3 hy0 hy1 hy2 hy3
  obtain ⟨hy0, hy1, hy2, hy3⟩ := cells4 HG.out.bx
  go_wp2_with fail
  refine (laws_markSweep.calls k _ _ r1 _ _ r2 _ _ r3 _ _ r4 1 mm s1 s2 s3 s4 w3 _ HG.out.b3 (Kd.R_lower (Kd.R_tight2 rfl HG.out.G0) HG.out.h6) (fun k h h2 => h.2.1 h2.1) (fun k h h2 => h.2.2 h2.1) (Kd.R_lower (Kd.R_tight2 rfl HG.out.G1) HG.out.h6) (fun k h h2 => h.2.1 h2.1) (fun k h h2 => h.2.2 h2.1)
    (Kd.R_lower (Kd.R_tight2 rfl HG.out.G2) HG.out.h6) (fun k h h2 => h.2.1 h2.1) (fun k h h2 => h.2.2 h2.1) (Kd.R_lower (Kd.R_tight2 rfl HG.out.G3) HG.out.h6) Xhmk.out).mono ?_
  rintro e w20 ⟨rfl, ho0, ho1, ho2, ho3, hb3, hk⟩
  have BG := Aside0.mk (blk_kept HG.out.bx hk (fun h => by
    rcases h with h | h | h | h
    · exact Kd.R_ne HG.out.G0 HG.out.bx (by decide) h.1
    · exact Kd.R_ne HG.out.G1 HG.out.bx (by decide) h.1
    · exact Kd.R_ne HG.out.G2 HG.out.bx (by decide) h.1
    · exact Kd.R_ne HG.out.G3 HG.out.bx (by decide) h.1))
  have N0 := Aside0.mk ho0
  have N1 := Aside0.mk ho1
  have N2 := Aside0.mk ho2
  have N3 := Aside0.mk ho3
  have M0 := Aside0.mk (Kd.R_reads' ho0).1
  have M1 := Aside0.mk (Kd.R_reads' ho1).1
  have M2 := Aside0.mk (Kd.R_reads' ho2).1
  have M3 := Aside0.mk (Kd.R_reads' ho3).1
  have HB3 := Aside0.mk hb3
  clear HG ho0 ho1 ho2 ho3 hb3 hk hy0 hy1 hy2 hy3
  obtain ⟨hy0, hy1, hy2, hy3⟩ := cells4 BG.out
  go_wp2_with fail
  have hc_ := laws_heldSweep.calls k E0 e0 s1 E1 e1 s2 E2 e2 s3 E3 e3 s4 1 mm _ (Kd.R_reads' N0.out).2.2 (by rw [← M0.out]; exact K0.out) (Kd.R_reads' N1.out).2.2 (by rw [← M1.out]; exact K1.out) (Kd.R_reads' N2.out).2.2 (by rw [← M2.out]; exact K2.out) (Kd.R_reads' N3.out).2.2 (by rw [← M3.out]; exact K3.out) Xhhe.out
  rw [← M0.out, ← M1.out, ← M2.out, ← M3.out] at hc_
  refine hc_.mono ?_
  clear hc_
  rintro e w21 ⟨rfl, hb⟩
  have n0_ := Aside0.mk (below_step HB3.out hb)
  have n1_ := Aside0.mk (Kd.R_below N0.out hb)
  have n2_ := Aside0.mk (Kd.R_below N1.out hb)
  have n3_ := Aside0.mk (Kd.R_below N2.out hb)
  have n4_ := Aside0.mk (Kd.R_below N3.out hb)
  have n5_ := Aside0.mk (blk_below BG.out hb)
  clear HB3 N0 N1 N2 N3 BG
  have HB3 := n0_
  have N0 := n1_
  have N1 := n2_
  have N2 := n3_
  have N3 := n4_
  have BG := n5_
  clear n0_ n1_ n2_ n3_ n4_ n5_
  clear hb hy0 hy1 hy2 hy3
  go_wp2_with fail
  refine (laws_toIntSS.calls k A0 c0 l0 m0 _ (Kd.C_below HR0.out (below_step W3B.out HB3.out)) HC0.out Xhm0.out).mono ?_
  rintro e w22 ⟨v0, rfl, ho, hb⟩
  obtain ⟨Y0, y0, rfl, hl, hC⟩ := Kd.S_reads ho
  have P0 := Aside0.mk hC
  have L0 := Aside0.mk hl
  have n0_ := Aside0.mk (below_step HB3.out hb)
  have n1_ := Aside0.mk (Kd.R_below N0.out hb)
  have n2_ := Aside0.mk (Kd.R_below N1.out hb)
  have n3_ := Aside0.mk (Kd.R_below N2.out hb)
  have n4_ := Aside0.mk (Kd.R_below N3.out hb)
  have n5_ := Aside0.mk (blk_below BG.out hb)
  clear HB3 N0 N1 N2 N3 BG
  have HB3 := n0_
  have N0 := n1_
  have N1 := n2_
  have N2 := n3_
  have N3 := n4_
  have BG := n5_
  clear n0_ n1_ n2_ n3_ n4_ n5_
  clear ho hb hl hC
  go_wp2_with fail
  refine (laws_toIntS.calls k A1 c1 l1 m1 _ (Kd.C_below HR1.out (below_step W3B.out HB3.out)) HC1.out Xhm1.out).mono ?_
  rintro e w23 ⟨v0, rfl, ho, hb⟩
  obtain ⟨Y1, y1, rfl, hl, hC⟩ := Kd.R_reads ho
  have P1 := Aside0.mk hC
  have L1 := Aside0.mk hl
  have n0_ := Aside0.mk (below_step HB3.out hb)
  have n1_ := Aside0.mk (Kd.R_below N0.out hb)
  have n2_ := Aside0.mk (Kd.R_below N1.out hb)
  have n3_ := Aside0.mk (Kd.R_below N2.out hb)
  have n4_ := Aside0.mk (Kd.R_below N3.out hb)
  have n5_ := Aside0.mk (blk_below BG.out hb)
  clear HB3 N0 N1 N2 N3 BG
  have HB3 := n0_
  have N0 := n1_
  have N1 := n2_
  have N2 := n3_
  have N3 := n4_
  have BG := n5_
  clear n0_ n1_ n2_ n3_ n4_ n5_
  have n0_ := Aside0.mk (Kd.C_below P0.out hb)
  clear P0
  have P0 := n0_
  clear n0_
  clear ho hb hl hC
  go_wp2_with fail
  refine (laws_toFinalS.calls k A2 c2 l2 m2 _ (Kd.C_below HR2.out (below_step W3B.out HB3.out)) HC2.out Xhm2.out).mono ?_
  rintro e w24 ⟨v0, rfl, ho, hb⟩
  obtain ⟨Y2, y2, rfl, hl, hC⟩ := Kd.R_reads ho
  have P2 := Aside0.mk hC
  have L2 := Aside0.mk hl
  have n0_ := Aside0.mk (below_step HB3.out hb)
  have n1_ := Aside0.mk (Kd.R_below N0.out hb)
  have n2_ := Aside0.mk (Kd.R_below N1.out hb)
  have n3_ := Aside0.mk (Kd.R_below N2.out hb)
  have n4_ := Aside0.mk (Kd.R_below N3.out hb)
  have n5_ := Aside0.mk (blk_below BG.out hb)
  clear HB3 N0 N1 N2 N3 BG
  have HB3 := n0_
  have N0 := n1_
  have N1 := n2_
  have N2 := n3_
  have N3 := n4_
  have BG := n5_
  clear n0_ n1_ n2_ n3_ n4_ n5_
  have n0_ := Aside0.mk (Kd.C_below P0.out hb)
  have n1_ := Aside0.mk (Kd.C_below P1.out hb)
  clear P0 P1
  have P0 := n0_
  have P1 := n1_
  clear n0_ n1_
  clear ho hb hl hC
  go_wp2_with fail
  refine (Xhim.out Y0 y0 Y1 y1 Y2 y2 _ P0.out L0.out P1.out L1.out P2.out L2.out).mono ?_
  rintro e w25 ⟨q0, q1, q2, q3, rfl, ho0, ho1, ho2, ho3, hb⟩
  obtain ⟨T0, t0, rfl, ht0_, hT0⟩ := Kd.R_reads ho0
  obtain ⟨T1, t1', rfl, ht1_, hT1⟩ := Kd.R_reads ho1
  obtain ⟨T2, t2', rfl, ht2_, hT2⟩ := Kd.R_reads ho2
  obtain ⟨T3, t3, rfl, ht3_, hT3⟩ := Kd.R_reads ho3
  have Q0 := Aside0.mk hT0
  have Q1 := Aside0.mk hT1
  have Q2 := Aside0.mk hT2
  have Q3 := Aside0.mk hT3
  have J0 := Aside0.mk ht0_
  have J1 := Aside0.mk ht1_
  have J2 := Aside0.mk ht2_
  have J3 := Aside0.mk ht3_
  have n0_ := Aside0.mk (below_step HB3.out hb)
  have n1_ := Aside0.mk (Kd.R_below N0.out hb)
  have n2_ := Aside0.mk (Kd.R_below N1.out hb)
  have n3_ := Aside0.mk (Kd.R_below N2.out hb)
  have n4_ := Aside0.mk (Kd.R_below N3.out hb)
  have n5_ := Aside0.mk (blk_below BG.out hb)
  clear HB3 N0 N1 N2 N3 BG
  have HB3 := n0_
  have N0 := n1_
  have N1 := n2_
  have N2 := n3_
  have N3 := n4_
  have BG := n5_
  clear n0_ n1_ n2_ n3_ n4_ n5_
  clear ho0 ho1 ho2 ho3 hb hT0 hT1 hT2 hT3 ht0_ ht1_ ht2_ ht3_ P0 P1 P2 L0 L1 L2
  obtain ⟨hz0, hz1, hz2, hz3⟩ := cells4 (blk_below BW.out (below_alloc HB3.out (Obj.cells #[Value.slice T0 r1.length t0, Value.slice T1 r2.length t1', Value.slice T2 r3.length t2', Value.slice T3 r4.length t3] 57)))
  obtain ⟨hy0, hy1, hy2, hy3⟩ := cells4 (blk_new w25 (Obj.cells #[Value.slice T0 r1.length t0, Value.slice T1 r2.length t1', Value.slice T2 r3.length t2', Value.slice T3 r4.length t3] 57))
  go_wp2_with fail
  refine (laws_eqSweep.calls k T0 t0 r1 T1 t1' r2 T2 t2' r3 T3 t3 r4 D0 f0 r1 D1 f1 r2 D2 f2 r3 D3 f3 r4 true _ (Kd.C_alloc Q0.out _) J0.out (Kd.C_alloc Q1.out _) J1.out (Kd.C_alloc Q2.out _) J2.out (Kd.C_alloc Q3.out _) J3.out (Kd.C_below C0.out (below_alloc HB3.out _)) F0.out (Kd.C_below C1.out (below_alloc HB3.out _)) F1.out (Kd.C_below C2.out (below_alloc HB3.out _)) F2.out (Kd.C_below C3.out (below_alloc HB3.out _)) F3.out Xheq.out).mono ?_
  rintro e w26 ⟨rfl, hb⟩
  have hb2 := below_step (below_alloc (Below.refl w25.heap.size w25) _) hb
  have n0_ := Aside0.mk (below_step HB3.out hb2)
  have n1_ := Aside0.mk (Kd.R_below N0.out hb2)
  have n2_ := Aside0.mk (Kd.R_below N1.out hb2)
  have n3_ := Aside0.mk (Kd.R_below N2.out hb2)
  have n4_ := Aside0.mk (Kd.R_below N3.out hb2)
  have n5_ := Aside0.mk (blk_below BG.out hb2)
  clear HB3 N0 N1 N2 N3 BG
  have HB3 := n0_
  have N0 := n1_
  have N1 := n2_
  have N2 := n3_
  have N3 := n4_
  have BG := n5_
  clear n0_ n1_ n2_ n3_ n4_ n5_
  clear hb hb2 hz0 hz1 hz2 hz3 hy0 hy1 hy2 hy3
  obtain ⟨hy0, hy1, hy2, hy3⟩ := cells4 BG.out
  go_wp2_with fail
  have hc_ := laws_heldSweep.calls k E0 e0 s1 E1 e1 s2 E2 e2 s3 E3 e3 s4 1 mm _ (Kd.R_reads' N0.out).2.2 (by rw [← M0.out]; exact K0.out) (Kd.R_reads' N1.out).2.2 (by rw [← M1.out]; exact K1.out) (Kd.R_reads' N2.out).2.2 (by rw [← M2.out]; exact K2.out) (Kd.R_reads' N3.out).2.2 (by rw [← M3.out]; exact K3.out) Xhhe.out
  rw [← M0.out, ← M1.out, ← M2.out, ← M3.out] at hc_
  refine hc_.mono ?_
  clear hc_
  rintro e w27 ⟨rfl, hb⟩
  have n0_ := Aside0.mk (below_step HB3.out hb)
  have n1_ := Aside0.mk (Kd.R_below N0.out hb)
  have n2_ := Aside0.mk (Kd.R_below N1.out hb)
  have n3_ := Aside0.mk (Kd.R_below N2.out hb)
  have n4_ := Aside0.mk (Kd.R_below N3.out hb)
  have n5_ := Aside0.mk (blk_below BG.out hb)
  clear HB3 N0 N1 N2 N3 BG
  have HB3 := n0_
  have N0 := n1_
  have N1 := n2_
  have N2 := n3_
  have N3 := n4_
  have BG := n5_
  clear n0_ n1_ n2_ n3_ n4_ n5_
  clear hb hy0 hy1 hy2 hy3
  go_wp2_with fail
  go_ret
  exact ⟨rfl, below_step W3B.out HB3.out⟩
end Go.Proofs.Ytehhhlhedmfdiaa.PFnExactFinalSweep
