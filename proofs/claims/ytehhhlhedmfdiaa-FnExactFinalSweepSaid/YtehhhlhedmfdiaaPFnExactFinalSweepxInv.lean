/- impl.FinalSweep's state while its loop runs: the struct s, its three rows, the marks; what a store and an append do to it. -/
import Derived.Test.YtehhhlhedmfdiaaPFnExactFinalSweepx0
namespace Go.Proofs.Ytehhhlhedmfdiaa.PFnExactFinalSweep
open Go.RowKit Go.Proofs.YtehhhlhedmfdiaaW.PrintWords Go.Proofs.YtehhhlhedmfdiaaW.PrintLast Go.Proofs.YtehhhlhedmfdiaaW.PrintMore
set_option linter.unusedVariables false
set_option linter.unusedSimpArgs false

structure SwInv (w W : World) (gS gR : Nat) (uA uB uF uS : Value) (ran roots : List Int) (fin : List S110) (seen : List Bool) : Prop where
  ra : Kd.R (Kd.int .i64) 3 W w.heap.size (fun k => some k ≠ uB.ownBlock) uA ran
  ro : Kd.R (Kd.int .i64) 3 W w.heap.size (fun k => some k ≠ uA.ownBlock) uB roots
  fi : Kd.R k110 110 W w.heap.size (fun _ => True) uF fin
  se : Kd.R Kd.bool 4 W w.heap.size (fun _ => True) uS seen
  br : W.heap[gR]? = some (.cells #[.slice none 0 0, .slice none 0 0, .slice none 0 0, .slice none 0 0] 57 (0, 0))
  bs : W.heap[gS]? = some (.cells #[uA, uB, .slice none 0 0, uF] 57 (0, 0))
  be : Below w.heap.size w W
  hs : w.heap.size ≤ gS
  hr : w.heap.size ≤ gR
  ne : gS ≠ gR
variable {w W w1 : World} {gS gR : Nat} {uA uB uF uS v1 : Value} {ran roots r' : List Int} {fin : List S110} {seen : List Bool}
theorem SwInv.below (h : SwInv w W gS gR uA uB uF uS ran roots fin seen) (hb : Below W.heap.size W w1) : SwInv w w1 gS gR uA uB uF uS ran roots fin seen :=
  ⟨Kd.R_below h.ra hb, Kd.R_below h.ro hb, Kd.R_below h.fi hb, Kd.R_below h.se hb, blk_below h.br hb, blk_below h.bs hb, below_step h.be hb, h.hs, h.hr, h.ne⟩
theorem SwInv.alloc (h : SwInv w W gS gR uA uB uF uS ran roots fin seen) (o : Obj) : SwInv w (W.alloc o) gS gR uA uB uF uS ran roots fin seen := h.below (below_alloc (Below.refl _ _) o)
theorem SwInv.drewN (h : SwInv w W gS gR uA uB uF uS ran roots fin seen) (m : Nat) : SwInv w (W.drewN m) gS gR uA uB uF uS ran roots fin seen := h.below (pw_below_drewN (Below.refl _ _) m)
theorem SwInv.drew (h : SwInv w W gS gR uA uB uF uS ran roots fin seen) : SwInv w W.drew gS gR uA uB uF uS ran roots fin seen := h.below (below_drew (Below.refl _ _))

/-- 'f.Done = true'. -/
theorem SwInv.setF {g n c i : Nat} (h : SwInv w W gS gR uA uB (.slice (some ⟨g, 0, none⟩) n c) uS ran roots fin seen) (hi : i < n) :
    SwInv w (W.setCell ⟨g, i * 3 + 2, none⟩ (.bool true)) gS gR uA uB (.slice (some ⟨g, 0, none⟩) n c) uS ran roots (fin.set i ⟨(rd_T110 fin (i : Int)).f0, (rd_T110 fin (i : Int)).f1, true⟩) seen := by
  have h0 : (0 : Int) ≤ (i : Int) := by omega
  have h1 : (i : Int) < (n : Int) := by omega
  obtain ⟨ce, hcl, hM, hcc, hfr⟩ := Kd.R_elem h.fi z110 (i : Int) h0 h1
  obtain rfl := k110_openM hM
  have HP := Kd.R_seg h.fi (i : Int) h0 h1 (seg := [.bool true]) (j := 2) hcl hcc (show 3 ≤ 3 from by decide) (x' := (⟨(rd_T110 fin (i : Int)).f0, (rd_T110 fin (i : Int)).f1, true⟩ : S110)) (k110_mkM _ _ _ (⟨(rd_T110 fin (i : Int)).f0, (rd_T110 fin (i : Int)).f1, true⟩ : S110)) (fun _ hk => hk)
  have hw : W.setCells g ((i : Int).toNat * k110.sz + 2) [.bool true] = W.setCell ⟨g, i * 3 + 2, none⟩ (.bool true) := rfl
  rw [hw] at HP
  have hg : W.grownBy (W.setCell ⟨g, i * 3 + 2, none⟩ (.bool true)) (Value.slice (some ⟨g, 0, none⟩) n c).ownBlock := HP.2
  obtain ⟨g2, cap, e2, hb2, _⟩ := Kd.R_form h.fi (by have := (Kd.R_reads' h.fi).1; omega)
  injection e2 with e3 _ _
  injection e3 with e3
  injection e3 with e3 _ _
  subst e3
  exact ⟨Kd.R_over' h.ra (Kd.R_typed h.fi) (by decide) hg, Kd.R_over' h.ro (Kd.R_typed h.fi) (by decide) hg, HP.1, Kd.R_over' h.se (Kd.R_typed h.fi) (by decide) hg, blk_grown h.br hg (Kd.R_ne h.fi h.br (by decide)), blk_grown h.bs hg (Kd.R_ne h.fi h.bs (by decide)),
    below_set h.be hb2, h.hs, h.hr, h.ne⟩

/-- 's.Ran = append(s.Ran, ..)'. -/
theorem SwInv.putA (h : SwInv w W gS gR uA uB uF uS ran roots fin seen) (ho : Kd.R (Kd.int .i64) 3 w1 w.heap.size (fun k => some k ≠ uB.ownBlock) v1 r') (hb : Below w.heap.size w w1) (hg : W.grownBy w1 uA.ownBlock)
    (hat : v1.ownBlock = uA.ownBlock ∨ ∃ b, v1.ownBlock = some b ∧ W.heap.size ≤ b) : SwInv w (w1.setCell ⟨gS, 0, none⟩ v1) gS gR v1 uB uF uS r' roots fin seen ∧ w1.cell? ⟨gS, 0, none⟩ = some uA ∧ w1.frozen? ⟨gS, 0, none⟩ = false := by
  have BS := blk_grown h.bs hg (Kd.R_ne h.ra h.bs (by decide))
  have BR := blk_grown h.br hg (Kd.R_ne h.ra h.br (by decide))
  have RO := Kd.R_after (ok := (fun _ => True)) (Kd.R_mono h.ro (fun _ hk => ⟨trivial, hk⟩)) hg hat
  have FI := Kd.R_over' h.fi (Kd.R_typed h.ra) (by decide) hg
  have SE := Kd.R_over' h.se (Kd.R_typed h.ra) (by decide) hg
  refine ⟨⟨Kd.R_mono (Kd.R_far (p := ⟨gS, 0, none⟩) (Kd.R_types ho BS (by decide)) (fun _ hk => hk.2) v1) (fun _ hk => hk.1),
    Kd.R_mono (Kd.R_far (p := ⟨gS, 0, none⟩) (Kd.R_types RO BS (by decide)) (fun _ hk => hk.2) v1) (fun _ hk => hk.1.2),
    Kd.R_mono (Kd.R_far (p := ⟨gS, 0, none⟩) (Kd.R_types FI BS (by decide)) (fun _ hk => hk.2) v1) (fun _ hk => trivial),
    Kd.R_mono (Kd.R_far (p := ⟨gS, 0, none⟩) (Kd.R_types SE BS (by decide)) (fun _ hk => hk.2) v1) (fun _ hk => trivial),
    blk_far BR (fun e => h.ne e.symm) _, blk_put (cs := #[uA, uB, .slice none 0 0, uF]) BS 0 _ rfl, below_set hb h.hs, h.hs, h.hr, h.ne⟩, (blk_cell BS 0).trans rfl, blk_frozen BS 0⟩
/-- 's.Roots = append(s.Roots, ..)'. -/
theorem SwInv.putB (h : SwInv w W gS gR uA uB uF uS ran roots fin seen) (ho : Kd.R (Kd.int .i64) 3 w1 w.heap.size (fun k => some k ≠ uA.ownBlock) v1 r') (hb : Below w.heap.size w w1) (hg : W.grownBy w1 uB.ownBlock)
    (hat : v1.ownBlock = uB.ownBlock ∨ ∃ b, v1.ownBlock = some b ∧ W.heap.size ≤ b) : SwInv w (w1.setCell ⟨gS, 1, none⟩ v1) gS gR uA v1 uF uS ran r' fin seen ∧ w1.cell? ⟨gS, 1, none⟩ = some uB ∧ w1.frozen? ⟨gS, 1, none⟩ = false := by
  have BS := blk_grown h.bs hg (Kd.R_ne h.ro h.bs (by decide))
  have BR := blk_grown h.br hg (Kd.R_ne h.ro h.br (by decide))
  have RA := Kd.R_after (ok := (fun _ => True)) (Kd.R_mono h.ra (fun _ hk => ⟨trivial, hk⟩)) hg hat
  have FI := Kd.R_over' h.fi (Kd.R_typed h.ro) (by decide) hg
  have SE := Kd.R_over' h.se (Kd.R_typed h.ro) (by decide) hg
  refine ⟨⟨Kd.R_mono (Kd.R_far (p := ⟨gS, 1, none⟩) (Kd.R_types RA BS (by decide)) (fun _ hk => hk.2) v1) (fun _ hk => hk.1.2),
    Kd.R_mono (Kd.R_far (p := ⟨gS, 1, none⟩) (Kd.R_types ho BS (by decide)) (fun _ hk => hk.2) v1) (fun _ hk => hk.1),
    Kd.R_mono (Kd.R_far (p := ⟨gS, 1, none⟩) (Kd.R_types FI BS (by decide)) (fun _ hk => hk.2) v1) (fun _ hk => trivial),
    Kd.R_mono (Kd.R_far (p := ⟨gS, 1, none⟩) (Kd.R_types SE BS (by decide)) (fun _ hk => hk.2) v1) (fun _ hk => trivial),
    blk_far BR (fun e => h.ne e.symm) _, blk_put (cs := #[uA, uB, .slice none 0 0, uF]) BS 1 _ rfl, below_set hb h.hs, h.hs, h.hr, h.ne⟩, (blk_cell BS 1).trans rfl, blk_frozen BS 1⟩
/-- The cells of the element at i. -/
theorem SwInv.elemAt {g n c i : Nat} (h : SwInv w W gS gR uA uB (.slice (some ⟨g, 0, none⟩) n c) uS ran roots fin seen) (hi : i < n) : W.cell? ⟨g, i * 3, none⟩ = some (.int .i64 (rd_T110 fin (i : Int)).f0) ∧
    W.cell? ⟨g, i * 3 + 1, none⟩ = some (.int .i64 (rd_T110 fin (i : Int)).f1) ∧ W.cell? ⟨g, i * 3 + 2, none⟩ = some (.bool (rd_T110 fin (i : Int)).f2) ∧ W.frozen? ⟨g, i * 3 + 2, none⟩ = false := by
  obtain ⟨ce, hcl, hM, hcc, hfr⟩ := Kd.R_elem h.fi z110 (i : Int) (by omega) (by omega)
  obtain rfl := k110_openM hM
  exact ⟨hcc 0 _ rfl, hcc 1 _ rfl, hcc 2 _ rfl, hfr 2⟩
theorem SwInv.cells (h : SwInv w W gS gR uA uB uF uS ran roots fin seen) : W.cell? ⟨gS, 0, none⟩ = some uA ∧ W.cell? ⟨gS, 1, none⟩ = some uB ∧ W.cell? ⟨gS, 2, none⟩ = some (.slice none 0 0) ∧ W.cell? ⟨gS, 3, none⟩ = some uF ∧ (∀ j, W.frozen? ⟨gS, j, none⟩ = false) ∧ (∀ j, W.frozen? ⟨gR, j, none⟩ = false) :=
  ⟨(blk_cell h.bs 0).trans rfl, (blk_cell h.bs 1).trans rfl, (blk_cell h.bs 2).trans rfl, (blk_cell h.bs 3).trans rfl, fun j => blk_frozen h.bs j, fun j => blk_frozen h.br j⟩
end Go.Proofs.Ytehhhlhedmfdiaa.PFnExactFinalSweep
