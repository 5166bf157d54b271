/- impl.FinalSweep: what it computes. -/
import Derived.Test.YtehhhlhedmfdiaaPFnExactFinalSweepxInv
import Derived.Test.YtehhhlhedmfdiaaPFnExactFinalSweepxFok
import Derived.Test.YtehhhlhedmfdiaaPFnExactFinalSweepxCloneF
import Derived.Test.YtehhhlhedmfdiaaPFnExactFinalSweepx5
namespace Go.Proofs.Ytehhhlhedmfdiaa.PFnExactFinalSweep
open Go.RowKit Go.Proofs.YtehhhlhedmfdiaaW.PrintWords Go.Proofs.YtehhhlhedmfdiaaW.PrintLast Go.Proofs.YtehhhlhedmfdiaaW.PrintMore
set_option linter.unusedVariables false
set_option linter.unusedSimpArgs false

def Four (w : World) (r1 r2 r3 : List Int) (r4 : List S110) (e : Ending) (w' : World) : Prop := ∃ v0_ v1_ v2_ v3_ : Value, e = .returned (.agg #[v0_, v1_, v2_, v3_]) ∧ Kd.R (Kd.int .i64) 3 w' w.heap.size (fun k_ => some k_ ≠ (v1_ : Value).ownBlock ∧ some k_ ≠ (v2_ : Value).ownBlock) v0_ r1 ∧ Kd.R (Kd.int .i64) 3 w' w.heap.size (fun k_ => some k_ ≠ (v0_ : Value).ownBlock ∧ some k_ ≠ (v2_ : Value).ownBlock) v1_ r2 ∧ Kd.R (Kd.int .i64) 3 w' w.heap.size (fun k_ => some k_ ≠ (v0_ : Value).ownBlock ∧ some k_ ≠ (v1_ : Value).ownBlock) v2_ r3 ∧ Kd.R k110 110 w' w.heap.size (fun _ => True) v3_ r4 ∧ Below w.heap.size w w'

theorem put4 {W : World} {g : Nat} {a b c d x0 x1 x2 x3 : Value} (h : W.heap[g]? = some (.cells #[x0, x1, x2, x3] 57 (0, 0))) :
    ((((W.setCell ⟨g, 0, none⟩ a).setCell ⟨g, 1, none⟩ b).setCell ⟨g, 2, none⟩ c).setCell ⟨g, 3, none⟩ d).heap[g]? = some (.cells #[a, b, c, d] 57 (0, 0)) :=
  blk_put (cs := #[a, b, c, x3]) (blk_put (cs := #[a, b, x2, x3]) (blk_put (cs := #[a, x1, x2, x3]) (blk_put (cs := #[x0, x1, x2, x3]) h 0 _ rfl) 1 _ rfl) 2 _ rfl) 3 _ rfl

set_option maxHeartbeats 8000000 in
set_option maxRecDepth 100000 in
theorem sweep_bad (k : Nat) (A0 : Option Addr) (c0 : Nat) (l0 : List (List Int)) (A1 : Option Addr) (c1 : Nat) (l1 : List Int) (A2 : Option Addr) (c2 : Nat) (l2 : List S110) (w : World) (hr0 : Kd.C (Kd.slice 3 (Kd.int .i64)) w A0 l0.length l0) (hc0 : l0.length ≤ c0) (hr1 : Kd.C (Kd.int .i64) w A1 l1.length l1) (hc1 : l1.length ≤ c1) (hr2 : Kd.C k110 w A2 l2.length l2) (hc2 : l2.length ≤ c2)
    (g : Bool) (hG : impl_GraphOk.f k l0 l1 = some g) (hbad : g = false ∨ ¬ FinOk l0.length l2) : Calls Try.prog 34 #[.slice A0 l0.length c0, .slice A1 l1.length c1, .slice A2 l2.length c2] w (Four w [] [] [] []) := by
  have HR0 := Aside0.mk hr0
  have HC0 := Aside0.mk hc0
  have HR1 := Aside0.mk hr1
  have HC1 := Aside0.mk hc1
  have HR2 := Aside0.mk hr2
  have HC2 := Aside0.mk hc2
  have HG := Aside0.mk hG
  have HBAD := Aside0.mk hbad
  clear hr0 hc0 hr1 hc1 hr2 hc2 hG hbad
  have hu57 := Try.underlying57
  go_enter Try.func34, Try.ntmps34
  go_wp2_with fail
  refine (impl_GraphOk.calls k A0 c0 l0 A1 c1 l1 g _ (Kd.C_alloc HR0.out _) HC0.out (Kd.C_alloc HR1.out _) HC1.out HG.out).mono ?_
  rintro e w1 ⟨rfl, hd⟩
  have HB := Aside0.mk (below_step (below_alloc (Below.refl _ _) _) hd.below)
  have BR := Aside0.mk (blk_below (blk_new w (.cells #[.slice none 0 0, .slice none 0 0, .slice none 0 0, .slice none 0 0] 57 (0, 0))) hd.below)
  clear hd HR0 HR1 HC0 HC1
  cases g with
  | false =>
    have hz0 : w1.cell? ⟨w.heap.size, 0, none⟩ = some (.slice none 0 0) := (blk_cell BR.out 0).trans rfl
    have hz1 : w1.cell? ⟨w.heap.size, 1, none⟩ = some (.slice none 0 0) := (blk_cell BR.out 1).trans rfl
    have hz2 : w1.cell? ⟨w.heap.size, 2, none⟩ = some (.slice none 0 0) := (blk_cell BR.out 2).trans rfl
    have hz3 : w1.cell? ⟨w.heap.size, 3, none⟩ = some (.slice none 0 0) := (blk_cell BR.out 3).trans rfl
    have hf0 := blk_frozen BR.out 0
    have hf1 := blk_frozen BR.out 1
    have hf2 := blk_frozen BR.out 2
    have hf3 := blk_frozen BR.out 3
    go_wp2_with fail
    refine bodyPost_ret (results_cell_row rfl _ _ w.heap.size 57 #[.slice none 0 0, .slice none 0 0, .slice none 0 0, .slice none 0 0] (0, 0) _ rfl (put4 BR.out) Try.underlying57 rfl (by kernel_rfl)) rfl ?_
    exact ⟨_, _, _, _, rfl, Kd.R_nil _ _ _ _ _, Kd.R_nil _ _ _ _ _, Kd.R_nil _ _ _ _ _, Kd.R_nil _ _ _ _ _, below_set (below_set (below_set (below_set HB.out (Nat.le_refl _)) (Nat.le_refl _)) (Nat.le_refl _)) (Nat.le_refl _)⟩
  | true =>
    go_wp2_with fail
    refine (impl_finalsOk.calls A0 l0.length c0 A2 c2 l2 false (by constructor <;> intro h; cases h; exact absurd h (by rcases HBAD.out with h2 | h2; cases h2; exact h2)) _ (Kd.C_below HR2.out HB.out) HC2.out).mono ?_
    rintro e w2 ⟨rfl, hb⟩
    have n1 := Aside0.mk (below_step HB.out hb)
    have n2 := Aside0.mk (blk_below BR.out hb)
    clear HB BR hb
    have HB := n1
    have BR := n2
    clear n1 n2
    have hz0 : w2.cell? ⟨w.heap.size, 0, none⟩ = some (.slice none 0 0) := (blk_cell BR.out 0).trans rfl
    have hz1 : w2.cell? ⟨w.heap.size, 1, none⟩ = some (.slice none 0 0) := (blk_cell BR.out 1).trans rfl
    have hz2 : w2.cell? ⟨w.heap.size, 2, none⟩ = some (.slice none 0 0) := (blk_cell BR.out 2).trans rfl
    have hz3 : w2.cell? ⟨w.heap.size, 3, none⟩ = some (.slice none 0 0) := (blk_cell BR.out 3).trans rfl
    have hf0 := blk_frozen BR.out 0
    have hf1 := blk_frozen BR.out 1
    have hf2 := blk_frozen BR.out 2
    have hf3 := blk_frozen BR.out 3
    go_wp2_with fail
    refine bodyPost_ret (results_cell_row rfl _ _ w.heap.size 57 #[.slice none 0 0, .slice none 0 0, .slice none 0 0, .slice none 0 0] (0, 0) _ rfl (put4 BR.out) Try.underlying57 rfl (by kernel_rfl)) rfl ?_
    exact ⟨_, _, _, _, rfl, Kd.R_nil _ _ _ _ _, Kd.R_nil _ _ _ _ _, Kd.R_nil _ _ _ _ _, Kd.R_nil _ _ _ _ _, below_set (below_set (below_set (below_set HB.out (Nat.le_refl _)) (Nat.le_refl _)) (Nat.le_refl _)) (Nat.le_refl _)⟩

theorem rd_set110 {l : List S110} {i : Nat} {x : S110} (h : i < l.length) : rd_T110 (l.set i x) (i : Int) = x := by
  unfold rd_T110
  rw [show ((i : Int)).toNat = i from rfl, List.getD_eq_getElem?_getD, List.getElem?_set_self h]
  rfl
theorem far5 {α : Type} {d : Kd α} {w W : World} {gS gR : Nat} {uA uB uF uS : Value} {ran roots : List Int} {fin : List S110} {seen : List Bool} (h : SwInv w W gS gR uA uB uF uS ran roots fin seen) {e : TypeId} {base : Nat} {ok : Nat → Prop} {v : Value} {xs : List α}
    (hr : d.R e W base ok v xs) (ht : ∀ q, q ∈ e :: d.E → q ≠ 57) {v2 x0 x1 x2 x3 : Value} : d.R e (((((W.setCell ⟨gS, 2, none⟩ v2).setCell ⟨gR, 0, none⟩ x0).setCell ⟨gR, 1, none⟩ x1).setCell ⟨gR, 2, none⟩ x2).setCell ⟨gR, 3, none⟩ x3) base ok v xs := by
  have h1 := Kd.R_types (Kd.R_types hr h.bs ht) h.br ht
  exact Kd.R_mono (Kd.R_far (p := ⟨gR, 3, none⟩) (Kd.R_far (p := ⟨gR, 2, none⟩) (Kd.R_far (p := ⟨gR, 1, none⟩) (Kd.R_far (p := ⟨gR, 0, none⟩) (Kd.R_far (p := ⟨gS, 2, none⟩) h1 (fun _ hk => hk.1.2) v2) (fun _ hk => hk.2) x0) (fun _ hk => hk.2) x1) (fun _ hk => hk.2) x2) (fun _ hk => hk.2) x3) (fun _ hk => hk.1.1)
/-- The loop: what it makes of Ran, Roots and the finalizers from i on. -/
def swp (seen : List Bool) : Nat → Nat → List Int → List Int → List S110 → Option (List Int × List Int × List S110)
  | 0, _, ran, roots, fin => some (ran, roots, fin)
  | d + 1, i, ran, roots, fin => if (rd_T110 fin (i : Int)).f2 = true then swp seen d (i + 1) ran roots fin else
      if 0 ≤ (rd_T110 fin (i : Int)).f0 ∧ (rd_T110 fin (i : Int)).f0 < (seen.length : Int) then
        (if rdOf false seen (rd_T110 fin (i : Int)).f0 = true then swp seen d (i + 1) ran roots fin
         else swp seen d (i + 1) (ran ++ [(rd_T110 fin (i : Int)).f0]) (if 0 ≤ (rd_T110 fin (i : Int)).f1 ∧ roots.length < 12 then roots ++ [(rd_T110 fin (i : Int)).f1] else roots) (fin.set i ⟨(rd_T110 fin (i : Int)).f0, (rd_T110 fin (i : Int)).f1, true⟩))
      else none

set_option maxHeartbeats 8000000 in
set_option maxRecDepth 100000 in
theorem sweep_good (k : Nat) (A0 : Option Addr) (c0 : Nat) (l0 : List (List Int)) (A1 : Option Addr) (c1 : Nat) (l1 : List Int) (A2 : Option Addr) (c2 : Nat) (l2 : List S110) (w : World) (hr0 : Kd.C (Kd.slice 3 (Kd.int .i64)) w A0 l0.length l0) (hc0 : l0.length ≤ c0) (hr1 : Kd.C (Kd.int .i64) w A1 l1.length l1) (hc1 : l1.length ≤ c1) (hr2 : Kd.C k110 w A2 l2.length l2) (hc2 : l2.length ≤ c2)
    (hG : impl_GraphOk.f k l0 l1 = some true) (hF : FinOk l0.length l2) (seen : List Bool) (hS : impl_reached.f k l0 l1 = some seen) (hl1 : l1.length ≤ 12) (ran roots : List Int) (fin : List S110) (hW : swp seen l2.length 0 [] l1 l2 = some (ran, roots, fin))
    (s2 : List Bool) (hS2 : impl_reached.f k l0 roots = some s2) (gone : List Int) (hM : impl_marked.f k s2 false = some gone) : Calls Try.prog 34 #[.slice A0 l0.length c0, .slice A1 l1.length c1, .slice A2 l2.length c2] w (Four w ran roots gone fin) := by
  have HR0 := Aside0.mk hr0
  have HC0 := Aside0.mk hc0
  have HR1 := Aside0.mk hr1
  have HC1 := Aside0.mk hc1
  have HR2 := Aside0.mk hr2
  have HC2 := Aside0.mk hc2
  have HG := Aside0.mk hG
  have HF := Aside0.mk hF
  have HS := Aside0.mk hS
  have HL1 := Aside0.mk hl1
  have HW := Aside0.mk hW
  have HS2 := Aside0.mk hS2
  have HM := Aside0.mk hM
  clear hr0 hc0 hr1 hc1 hr2 hc2 hG hF hS hl1 hW hS2 hM
  have hu57 := Try.underlying57
  have hu110 := Try.underlying110
  go_enter Try.func34, Try.ntmps34
  go_wp2_with fail
  refine (impl_GraphOk.calls k A0 c0 l0 A1 c1 l1 true _ (Kd.C_alloc HR0.out _) HC0.out (Kd.C_alloc HR1.out _) HC1.out HG.out).mono ?_
  rintro e w1 ⟨rfl, hd⟩
  have HB := Aside0.mk (below_step (below_alloc (Below.refl _ _) _) hd.below)
  have BR := Aside0.mk (blk_below (blk_new w (.cells #[.slice none 0 0, .slice none 0 0, .slice none 0 0, .slice none 0 0] 57 (0, 0))) hd.below)
  clear hd
  go_wp2_with fail
  refine (impl_finalsOk.calls A0 l0.length c0 A2 c2 l2 true (by constructor; intro _; exact HF.out; intro _; rfl) _ (Kd.C_below HR2.out HB.out) HC2.out).mono ?_
  rintro e w2 ⟨rfl, hb⟩
  have n1 := Aside0.mk (below_step HB.out hb)
  have n2 := Aside0.mk (blk_below BR.out hb)
  clear HB BR hb
  have HB := n1
  have BR := n2
  clear n1 n2
  go_wp2_with fail
  refine (slices_Clone_int_int.calls A1 c1 l1 l1 _ (Kd.C_below HR1.out HB.out) HC1.out (by unfold slices_Clone_int_int.f; rw [if_pos]; have := HL1.out; omega)).mono ?_
  rintro e w3 ⟨vB, rfl, ho, hb⟩
  have HO1 := Aside0.mk (Kd.R_lower ho (below_size HB.out))
  have n1 := Aside0.mk (below_step HB.out hb)
  have n2 := Aside0.mk (blk_below BR.out hb)
  clear HB BR hb ho
  have HB := n1
  have BR := n2
  clear n1 n2
  go_wp2_with fail
  refine (impl_Final_83.calls A2 c2 l2 l2 _ (Kd.C_below HR2.out HB.out) HC2.out (by unfold impl_Final_83.f; rw [if_pos]; have := HF.out.1; omega)).mono ?_
  rintro e w4 ⟨vF, rfl, ho, hb⟩
  have HO2 := Aside0.mk (Kd.R_lower ho (below_size HB.out))
  have n3 := Aside0.mk (Kd.R_below HO1.out hb)
  have n1 := Aside0.mk (below_step HB.out hb)
  have n2 := Aside0.mk (blk_below BR.out hb)
  clear HB BR hb ho HO1
  have HB := n1
  have BR := n2
  have HO1 := n3
  clear n1 n2 n3
  obtain ⟨AB, cB, rfl⟩ := Kd.R_slice HO1.out
  obtain ⟨AF, cF, rfl⟩ := Kd.R_slice HO2.out
  go_wp2_with fail
  refine (impl_reached.calls k A0 c0 l0 A1 c1 l1 seen _ (Kd.C_alloc (Kd.C_below HR0.out HB.out) _) HC0.out (Kd.C_alloc (Kd.C_below HR1.out HB.out) _) HC1.out HS.out).mono ?_
  rintro e w5 ⟨uS, rfl, ho, hb⟩
  obtain ⟨AS, cS, rfl⟩ := Kd.R_slice ho
  have HI0 : Aside0 (SwInv w w5 w4.heap.size w.heap.size (.slice none 0 0) (.slice AB l1.length cB) (.slice AF l2.length cF) (.slice AS seen.length cS) [] l1 l2 seen) :=
    ⟨⟨Kd.R_nil _ _ _ _ _, Kd.R_mono (Kd.R_below (Kd.R_alloc HO1.out _) hb) (fun _ _ => by simp [Value.ownBlock]), Kd.R_below (Kd.R_alloc HO2.out _) hb, Kd.R_lower ho (below_size (below_alloc HB.out _)), blk_below (blk_alloc BR.out _) hb, blk_below (blk_new _ _) hb, below_step (below_alloc HB.out _) hb, below_size HB.out, Nat.le_refl _, (Nat.ne_of_lt (blk_lt BR.out)).symm⟩⟩
  obtain ⟨gS, hgS⟩ : ∃ g, g = w4.heap.size := ⟨_, rfl⟩
  rw [← hgS] at HI0
  rw [← hgS]
  clear hgS
  have HLF : Aside0 (l2.length ≤ 12) := ⟨HF.out.1⟩
  clear HB BR HO1 HO2 ho hb HR1 HR2 HG HF HS
  obtain ⟨hz0, hz1, hz2, hz3, hzf, hzr⟩ := HI0.out.cells
  go_wp2_with fail
  clear hz0 hz1 hz2 hz3 hzf hzr
  go_loopg [33] (l2.length + 1) (fun kq v33 w' => ∃ (i : Nat) (ra ro : List Int) (fi : List S110) (uA uB : Value), v33 = .int .i64 (i : Int) ∧ Aside0 (i + kq = l2.length + 1 ∧ i ≤ l2.length) ∧ Aside0 (swp seen (l2.length - i) i ra ro fi = some (ran, roots, fin)) ∧ Aside0 (ra.length ≤ i ∧ ro.length ≤ 12 + i) ∧ Aside0 (SwInv w w' gS w.heap.size uA uB (.slice AF l2.length cF) (.slice AS seen.length cS) ra ro fi seen))
  case atStart => exact ⟨0, _, _, _, _, _, rfl, ⟨by omega, by omega⟩, ⟨HW.out⟩, ⟨by simp, by have := HL1.out; omega⟩, HI0⟩
  case round =>
    clear HI0 HW
    obtain ⟨i, ra, ro, fi, uA, uB, rfl, HII, HW, HLen, HI⟩ := hrel
    by_cases hi : (i : Int) < (l2.length : Int)
    · have hi0 : decide ((i : Int) < (l2.length : Int)) = true := decide_eq_true hi
      have hi1 : (i < l2.length) = True := eq_true (by omega)
      have hfl := (Kd.R_reads' HI.out.fi).1
      obtain ⟨gF, cF2, eF, _⟩ := Kd.R_form HI.out.fi (by omega)
      injection eF with eF e3 eF2
      clear e3
      subst eF eF2
      obtain ⟨AX, cX, eX⟩ := Kd.R_slice HI.out.ra
      subst eX
      obtain ⟨AY, cY, eY⟩ := Kd.R_slice HI.out.ro
      subst eY
      obtain ⟨hz0, hz1, hz2, hz3, hzf, hzr⟩ := HI.out.cells
      obtain ⟨hx0, hx1, hx2, hf2⟩ := HI.out.elemAt (i := i) (by omega)
      have hd : l2.length - i = (l2.length - (i + 1)) + 1 := by omega
      have hw := HW.out
      rw [hd, swp] at hw
      have hwr : wrap64 ((i : Int) + 1) = ((i + 1 : Nat) : Int) := by have := HLF.out; unfold wrap64; omega
      have HFL := Aside0.mk hfl
      have HHI := Aside0.mk hi
      clear hfl hi hd HW
      by_cases h1 : (rd_T110 fi (i : Int)).f2 = true
      · rw [if_pos h1] at hw
        have HW := Aside0.mk hw
        clear hw
        rw [h1] at hx2
        go_wp2_with fail
        go_roundg (gk - 1)
        case measure => have := HII.out; omega
        case rel => exact ⟨i + 1, _, _, _, _, _, (by first | rfl | (rw [hwr]) | (simp [hwr])), ⟨by have := HII.out; omega, by have := HHI.out; omega⟩, HW, ⟨by have := HLen.out; omega, by have := HLen.out; omega⟩, HI⟩
      · have h1b : (rd_T110 fi (i : Int)).f2 = false := Bool.eq_false_iff.2 h1
        rw [if_neg h1] at hw
        rw [h1b] at hx2
        by_cases h2 : 0 ≤ (rd_T110 fi (i : Int)).f0 ∧ (rd_T110 fi (i : Int)).f0 < (seen.length : Int)
        · rw [if_pos h2] at hw
          obtain ⟨h3, h4⟩ := h2
          obtain ⟨adS, eS, hxs⟩ := Kd.at_bool (Kd.R_reads' HI.out.se).2.2 (rd_T110 fi (i : Int)).f0 h3 h4
          subst eS
          have h3b : decide (0 ≤ (rd_T110 fi (i : Int)).f0) = true := decide_eq_true h3
          have h4b : decide ((rd_T110 fi (i : Int)).f0 < (seen.length : Int)) = true := decide_eq_true h4
          have h3c := eq_true h3
          have h4c := eq_true h4
          clear h1 h3 h4
          by_cases h5 : rdOf false seen (rd_T110 fi (i : Int)).f0 = true
          · rw [if_pos h5] at hw
            have HW := Aside0.mk hw
            clear hw
            rw [h5] at hxs
            go_wp2_with fail
            go_roundg (gk - 1)
            case measure => have := HII.out; omega
            case rel => exact ⟨i + 1, _, _, _, _, _, (by first | rfl | (rw [hwr]) | (simp [hwr])), ⟨by have := HII.out; omega, by have := HHI.out; omega⟩, HW, ⟨by have := HLen.out; omega, by have := HLen.out; omega⟩, HI⟩
          · have h5b := Bool.eq_false_iff.2 h5
            rw [if_neg h5] at hw
            rw [h5b] at hxs
            have HIL : Aside0 (i < l2.length) := ⟨by have := HHI.out; omega⟩
            obtain ⟨fi2, hfi2⟩ : ∃ y, y = fi.set i ⟨(rd_T110 fi (i : Int)).f0, (rd_T110 fi (i : Int)).f1, true⟩ := ⟨_, rfl⟩
            rw [← hfi2] at hw
            obtain ⟨ra2, hra2⟩ : ∃ y : List Int, y = ra ++ [(rd_T110 fi (i : Int)).f0] := ⟨_, rfl⟩
            rw [← hra2] at hw
            have HRA := Aside0.mk hra2
            have HRL : Aside0 (ra2.length = ra.length + 1) := ⟨by rw [hra2]; simp⟩
            clear hra2
            have HRD : Aside0 (rd_T110 fi2 (i : Int) = ⟨(rd_T110 fi (i : Int)).f0, (rd_T110 fi (i : Int)).f1, true⟩) := ⟨by rw [hfi2]; exact rd_set110 (by have := HFL.out; have := HHI.out; omega)⟩
            have HFI := Aside0.mk hfi2
            clear h5 h5b hfi2
            by_cases h6 : 0 ≤ (rd_T110 fi (i : Int)).f1
            · have h6b : decide (0 ≤ (rd_T110 fi (i : Int)).f1) = true := decide_eq_true h6
              have h6c := eq_true h6
              by_cases h7 : ro.length < 12
              · rw [if_pos ⟨h6, h7⟩] at hw
                obtain ⟨ro2, hro2⟩ : ∃ y : List Int, y = ro ++ [(rd_T110 fi (i : Int)).f1] := ⟨_, rfl⟩
                rw [← hro2] at hw
                have HRO := Aside0.mk hro2
                have HROL : Aside0 (ro2.length = ro.length + 1) := ⟨by rw [hro2]; simp⟩
                clear hro2
                have HW := Aside0.mk hw
                clear hw
                have h7b : decide ((ro.length : Int) < 12) = true := decide_eq_true (by omega)
                have h7c := eq_true h7
                go_wp2_with (first | ((with_reducible refine gate_store (t := 4) (p := 55) rfl ?_); refine store_event (t := 4) (p := 55) (v := ?vo) (w1 := (wr.setCell ⟨gF, i * 3 + 2, none⟩ (.bool true))) ?hg ?ho ?hn ?hr ?_; (case ho => rfl); (case hg => rfl); (case hn => rfl); (case hr => first | (go_simp; done) | (go_simp; rfl)); intro w10 hw10; have n0_ : Aside0 (SwInv w w10 gS w.heap.size (.slice AX ra.length cX) (.slice AY ro.length cY) (.slice (some ⟨gF, 0, none⟩) l2.length cF) (.slice (some adS) seen.length cS) ra ro fi2 seen) := ⟨by rw [hw10, HFI.out]; exact SwInv.setF HI.out HIL.out⟩; clear HI hw10 hz0 hz1 hz2 hz3 hzf hzr hx0 hx1 hx2 hf2 hxs; have HI := n0_; clear n0_; obtain ⟨hz0, hz1, hz2, hz3, hzf, hzr⟩ := HI.out.cells; obtain ⟨hx0, hx1, hx2, hf2⟩ := HI.out.elemAt HIL.out; rw [HRD.out] at hx0 hx1; dsimp only at hx0 hx1))
                refine start_ (n := 10) (S := (fun w' => w'.cell? ⟨gS, 0, none⟩ = some ((.slice AX ra.length cX)) ∧ w'.cell? ⟨gF, i * 3, none⟩ = some (.int .i64 (rd_T110 fi (i : Int)).f0))) (ds := [7, 9]) #[false, false, false, false, false, false, false, false, false, false] (by kernel_rfl) rfl rfl ⟨hz0, hx0⟩ (fun hHeld => ?_)
                have n0_ := Aside0.mk (SwInv.drew HI.out)
                clear HI hz0 hz1 hz2 hz3 hzf hzr hx0 hx1 hx2 hf2
                have HI := n0_
                clear n0_
                generalize World.drew _ = w11 at HI hHeld ⊢
                refine pure_ (i := 0) (N := some 56) (v := ?_) (a' := ?_) #[true, false, false, false, false, false, false, false, false, false] rfl rfl (by kernel_rfl) (fun _ _ _ h => h) (Or.inl ⟨by rfl, ?_⟩) ?_ ?_
                rotate_left
                · intro w'
                  go_simp
                  with_reducible rfl
                rotate_left
                · simp only [Act.put, List.setIfInBounds_toArray, List.set_cons_zero, List.set_cons_succ, i64_w, i32_w]
                  rfl
                refine pure_ (i := 2) (N := some 58) (v := ?_) (a' := ?_) #[true, false, true, false, false, false, false, false, false, false] rfl rfl (by kernel_rfl) (fun _ _ _ h => h) (Or.inl ⟨by rfl, ?_⟩) ?_ ?_
                rotate_left
                · intro w'
                  go_simp
                  with_reducible rfl
                rotate_left
                · simp only [Act.put, List.setIfInBounds_toArray, List.set_cons_zero, List.set_cons_succ, i64_w, i32_w]
                  rfl
                refine pure_ (i := 3) (N := some 59) (v := ?_) (a' := ?_) #[true, false, true, true, false, false, false, false, false, false] rfl rfl (by kernel_rfl) (fun _ _ _ h => h) (Or.inl ⟨by rfl, ?_⟩) ?_ ?_
                rotate_left
                · intro w'
                  go_simp
                  with_reducible rfl
                rotate_left
                · simp only [Act.put, List.setIfInBounds_toArray, List.set_cons_zero, List.set_cons_succ, i64_w, i32_w]
                  rfl
                refine pure_ (i := 4) (N := some 60) (v := ?_) (a' := ?_) #[true, false, true, true, true, false, false, false, false, false] rfl rfl (by kernel_rfl) (fun _ _ _ h => h) (Or.inl ⟨by rfl, ?_⟩) ?_ ?_
                rotate_left
                · intro w'
                  go_simp
                  with_reducible rfl
                rotate_left
                · simp only [Act.put, List.setIfInBounds_toArray, List.set_cons_zero, List.set_cons_succ, i64_w, i32_w]
                  rfl
                refine take_ (i := 1) (N := some 57) (v := ?_) (a' := ?_) #[true, true, true, true, true, false, false, false, false, false] rfl rfl (by kernel_rfl) (fun _ _ _ h => h) (Or.inl ⟨by rfl, ?_⟩) hHeld ?_ ?_
                rotate_left
                · rintro w' ⟨s0, s1⟩
                  go_simp
                  with_reducible rfl
                rotate_left
                · simp only [Act.put, List.setIfInBounds_toArray, List.set_cons_zero, List.set_cons_succ, i64_w, i32_w]
                  rfl
                refine take_ (i := 5) (N := some 61) (v := ?_) (a' := ?_) #[true, true, true, true, true, true, false, false, false, false] rfl rfl (by kernel_rfl) (fun _ _ _ h => h) (Or.inl ⟨by rfl, ?_⟩) hHeld ?_ ?_
                rotate_left
                · rintro w' ⟨s0, s1⟩
                  go_simp
                  with_reducible rfl
                rotate_left
                · simp only [Act.put, List.setIfInBounds_toArray, List.set_cons_zero, List.set_cons_succ, i64_w, i32_w]
                  rfl
                refine one_ (i := 6) (N := some 62) #[true, true, true, true, true, true, true, false, false, false] rfl rfl (by kernel_rfl) (by decide) (fun K hK => ?_)
                refine value_ (w1 := ?_) (v := ?_) (by rfl) rfl ?_ ?_
                rotate_left 2
                · go_simp
                  constructor
                  · rfl
                  · rfl
                refine hK.out _ _ ⟨(World.cell?_alloc_past _ _ _ (World.block_lt_of_cell? _ _ hHeld.1)).trans hHeld.1, (World.cell?_alloc_past _ _ _ (World.block_lt_of_cell? _ _ hHeld.2)).trans hHeld.2⟩ (fun hHeld => ?_)
                clear hK K
                refine norm_ (a' := ?_) ?_ ?_
                rotate_left
                · show Act.put _ (some 62) _ = _
                  simp only [Act.put, List.setIfInBounds_toArray, List.set_cons_zero, List.set_cons_succ, i64_w, i32_w]
                  rfl
                refine last_ (i := 7) (N := some 63) #[true, true, true, true, true, true, true, true, false, false] rfl rfl (by kernel_rfl) (by decide) (fun K hK => ?_)
                refine Kd.R_append_step (Kd.int .i64) (w0 := w) w.heap.size (by rfl) (.tmp 57) (.tmp 62) 35 3 (.int .i64 0) 8 rfl Try.underlying35 info3 rfl (by decide) (by omega) (.slice AX ra.length cX) ra (rd_T110 fi (i : Int)).f0 [.int .i64 (rd_T110 fi (i : Int)).f0] (fun k_ => some k_ ≠ ((.slice AY ro.length cY) : Value).ownBlock) (fun _ => False) rfl rfl ?aP (fun _ hk => hk.elim) ?aF ?aO ?aB ?aS ?aL ?_
                (case aP => exact rfl)
                (case aB => exact (SwInv.be (by (with_reducible repeat (first | apply SwInv.alloc | apply SwInv.drewN | apply SwInv.drew)); exact HI.out)))
                (case aF => exact (fun k_ hk => Kd.fresh' (Kd.R_lt (SwInv.ro (by (with_reducible repeat (first | apply SwInv.alloc | apply SwInv.drewN | apply SwInv.drew)); exact HI.out))) k_ hk))
                (case aO => exact (SwInv.ra (by (with_reducible repeat (first | apply SwInv.alloc | apply SwInv.drewN | apply SwInv.drew)); exact HI.out)))
                (case aS => exact (below_size (SwInv.be (by (with_reducible repeat (first | apply SwInv.alloc | apply SwInv.drewN | apply SwInv.drew)); exact HI.out))))
                (case aL => have := HLen.out; have := HLF.out; have := HHI.out; omega)
                intro vA w12 ho hb hg hat
                rw [← HRA.out] at ho
                obtain ⟨AA, cA, e_⟩ := Kd.R_slice ho
                subst e_
                obtain ⟨hI_, hy0, hyf⟩ := SwInv.putA (by (with_reducible repeat (first | apply SwInv.alloc | apply SwInv.drewN | apply SwInv.drew)); exact HI.out) ho hb hg hat
                have n0_ := Aside0.mk hI_
                clear HI hI_ ho hb hg hat hHeld
                have HI := n0_
                clear n0_
                refine hK.out _ _ ?_
                clear hK K
                refine norm_ (a' := ?_) ?_ ?_
                rotate_left
                · show Act.put _ (some 63) _ = _
                  simp only [Act.put, List.setIfInBounds_toArray, List.set_cons_zero, List.set_cons_succ, i64_w, i32_w]
                  rfl
                refine pure_ (i := 8) (N := some 64) (v := ?_) (a' := ?_) #[true, true, true, true, true, true, true, true, true, false] rfl rfl (by kernel_rfl) (fun _ _ _ h => h) (Or.inl ⟨by rfl, ?_⟩) ?_ ?_
                rotate_left
                · intro w'
                  go_simp
                  with_reducible rfl
                rotate_left
                · simp only [Act.put, List.setIfInBounds_toArray, List.set_cons_zero, List.set_cons_succ, i64_w, i32_w]
                  rfl
                refine last_ (i := 9) (N := none) #[true, true, true, true, true, true, true, true, true, true] rfl rfl (by kernel_rfl) (by decide) (fun K hK => ?_)
                refine skip_ (w1 := ?_) (by rfl) rfl ?_ ?_
                rotate_left
                · go_simp
                  rfl
                refine hK.out _ _ ?_
                clear hK K hy0 hyf
                refine done_ (by kernel_rfl) ?_
                generalize World.setCell _ _ _ = w13 at HI ⊢
                obtain ⟨hz0, hz1, hz2, hz3, hzf, hzr⟩ := HI.out.cells
                obtain ⟨hx0, hx1, hx2, hf2⟩ := HI.out.elemAt HIL.out
                rw [HRD.out] at hx0 hx1
                dsimp only at hx0 hx1
                go_wp2_with fail
                refine start_ (n := 10) (S := (fun w' => w'.cell? ⟨gS, 1, none⟩ = some ((.slice AY ro.length cY)) ∧ w'.cell? ⟨gF, i * 3 + 1, none⟩ = some (.int .i64 (rd_T110 fi (i : Int)).f1))) (ds := [7, 9]) #[false, false, false, false, false, false, false, false, false, false] (by kernel_rfl) rfl rfl ⟨hz1, hx1⟩ (fun hHeld => ?_)
                have n0_ := Aside0.mk (SwInv.drew HI.out)
                clear HI hz0 hz1 hz2 hz3 hzf hzr hx0 hx1 hx2 hf2
                have HI := n0_
                clear n0_
                generalize World.drew _ = w15 at HI hHeld ⊢
                refine pure_ (i := 0) (N := some 76) (v := ?_) (a' := ?_) #[true, false, false, false, false, false, false, false, false, false] rfl rfl (by kernel_rfl) (fun _ _ _ h => h) (Or.inl ⟨by rfl, ?_⟩) ?_ ?_
                rotate_left
                · intro w'
                  go_simp
                  with_reducible rfl
                rotate_left
                · simp only [Act.put, List.setIfInBounds_toArray, List.set_cons_zero, List.set_cons_succ, i64_w, i32_w]
                  rfl
                refine pure_ (i := 2) (N := some 78) (v := ?_) (a' := ?_) #[true, false, true, false, false, false, false, false, false, false] rfl rfl (by kernel_rfl) (fun _ _ _ h => h) (Or.inl ⟨by rfl, ?_⟩) ?_ ?_
                rotate_left
                · intro w'
                  go_simp
                  with_reducible rfl
                rotate_left
                · simp only [Act.put, List.setIfInBounds_toArray, List.set_cons_zero, List.set_cons_succ, i64_w, i32_w]
                  rfl
                refine pure_ (i := 3) (N := some 79) (v := ?_) (a' := ?_) #[true, false, true, true, false, false, false, false, false, false] rfl rfl (by kernel_rfl) (fun _ _ _ h => h) (Or.inl ⟨by rfl, ?_⟩) ?_ ?_
                rotate_left
                · intro w'
                  go_simp
                  with_reducible rfl
                rotate_left
                · simp only [Act.put, List.setIfInBounds_toArray, List.set_cons_zero, List.set_cons_succ, i64_w, i32_w]
                  rfl
                refine pure_ (i := 4) (N := some 80) (v := ?_) (a' := ?_) #[true, false, true, true, true, false, false, false, false, false] rfl rfl (by kernel_rfl) (fun _ _ _ h => h) (Or.inl ⟨by rfl, ?_⟩) ?_ ?_
                rotate_left
                · intro w'
                  go_simp
                  with_reducible rfl
                rotate_left
                · simp only [Act.put, List.setIfInBounds_toArray, List.set_cons_zero, List.set_cons_succ, i64_w, i32_w]
                  rfl
                refine take_ (i := 1) (N := some 77) (v := ?_) (a' := ?_) #[true, true, true, true, true, false, false, false, false, false] rfl rfl (by kernel_rfl) (fun _ _ _ h => h) (Or.inl ⟨by rfl, ?_⟩) hHeld ?_ ?_
                rotate_left
                · rintro w' ⟨s0, s1⟩
                  go_simp
                  with_reducible rfl
                rotate_left
                · simp only [Act.put, List.setIfInBounds_toArray, List.set_cons_zero, List.set_cons_succ, i64_w, i32_w]
                  rfl
                refine take_ (i := 5) (N := some 81) (v := ?_) (a' := ?_) #[true, true, true, true, true, true, false, false, false, false] rfl rfl (by kernel_rfl) (fun _ _ _ h => h) (Or.inl ⟨by rfl, ?_⟩) hHeld ?_ ?_
                rotate_left
                · rintro w' ⟨s0, s1⟩
                  go_simp
                  with_reducible rfl
                rotate_left
                · simp only [Act.put, List.setIfInBounds_toArray, List.set_cons_zero, List.set_cons_succ, i64_w, i32_w]
                  rfl
                refine one_ (i := 6) (N := some 82) #[true, true, true, true, true, true, true, false, false, false] rfl rfl (by kernel_rfl) (by decide) (fun K hK => ?_)
                refine value_ (w1 := ?_) (v := ?_) (by rfl) rfl ?_ ?_
                rotate_left 2
                · go_simp
                  constructor
                  · rfl
                  · rfl
                refine hK.out _ _ ⟨(World.cell?_alloc_past _ _ _ (World.block_lt_of_cell? _ _ hHeld.1)).trans hHeld.1, (World.cell?_alloc_past _ _ _ (World.block_lt_of_cell? _ _ hHeld.2)).trans hHeld.2⟩ (fun hHeld => ?_)
                clear hK K
                refine norm_ (a' := ?_) ?_ ?_
                rotate_left
                · show Act.put _ (some 82) _ = _
                  simp only [Act.put, List.setIfInBounds_toArray, List.set_cons_zero, List.set_cons_succ, i64_w, i32_w]
                  rfl
                refine last_ (i := 7) (N := some 83) #[true, true, true, true, true, true, true, true, false, false] rfl rfl (by kernel_rfl) (by decide) (fun K hK => ?_)
                refine Kd.R_append_step (Kd.int .i64) (w0 := w) w.heap.size (by rfl) (.tmp 77) (.tmp 82) 35 3 (.int .i64 0) 8 rfl Try.underlying35 info3 rfl (by decide) (by omega) (.slice AY ro.length cY) ro (rd_T110 fi (i : Int)).f1 [.int .i64 (rd_T110 fi (i : Int)).f1] (fun k_ => some k_ ≠ ((.slice AA ra2.length cA) : Value).ownBlock) (fun _ => False) rfl rfl ?aP (fun _ hk => hk.elim) ?aF ?aO ?aB ?aS ?aL ?_
                (case aP => exact rfl)
                (case aB => exact (SwInv.be (by (with_reducible repeat (first | apply SwInv.alloc | apply SwInv.drewN | apply SwInv.drew)); exact HI.out)))
                (case aF => exact (fun k_ hk => Kd.fresh' (Kd.R_lt (SwInv.ra (by (with_reducible repeat (first | apply SwInv.alloc | apply SwInv.drewN | apply SwInv.drew)); exact HI.out))) k_ hk))
                (case aO => exact (SwInv.ro (by (with_reducible repeat (first | apply SwInv.alloc | apply SwInv.drewN | apply SwInv.drew)); exact HI.out)))
                (case aS => exact (below_size (SwInv.be (by (with_reducible repeat (first | apply SwInv.alloc | apply SwInv.drewN | apply SwInv.drew)); exact HI.out))))
                (case aL => have := HLen.out; have := HLF.out; have := HHI.out; omega)
                intro vB w16 ho hb hg hat
                rw [← HRO.out] at ho
                obtain ⟨AQ, cQ, e_⟩ := Kd.R_slice ho
                subst e_
                obtain ⟨hI_, hy0, hyf⟩ := SwInv.putB (by (with_reducible repeat (first | apply SwInv.alloc | apply SwInv.drewN | apply SwInv.drew)); exact HI.out) ho hb hg hat
                have n0_ := Aside0.mk hI_
                clear HI hI_ ho hb hg hat hHeld
                have HI := n0_
                clear n0_
                refine hK.out _ _ ?_
                clear hK K
                refine norm_ (a' := ?_) ?_ ?_
                rotate_left
                · show Act.put _ (some 83) _ = _
                  simp only [Act.put, List.setIfInBounds_toArray, List.set_cons_zero, List.set_cons_succ, i64_w, i32_w]
                  rfl
                refine pure_ (i := 8) (N := some 84) (v := ?_) (a' := ?_) #[true, true, true, true, true, true, true, true, true, false] rfl rfl (by kernel_rfl) (fun _ _ _ h => h) (Or.inl ⟨by rfl, ?_⟩) ?_ ?_
                rotate_left
                · intro w'
                  go_simp
                  with_reducible rfl
                rotate_left
                · simp only [Act.put, List.setIfInBounds_toArray, List.set_cons_zero, List.set_cons_succ, i64_w, i32_w]
                  rfl
                refine last_ (i := 9) (N := none) #[true, true, true, true, true, true, true, true, true, true] rfl rfl (by kernel_rfl) (by decide) (fun K hK => ?_)
                refine skip_ (w1 := ?_) (by rfl) rfl ?_ ?_
                rotate_left
                · go_simp
                  rfl
                refine hK.out _ _ ?_
                clear hK K hy0 hyf
                refine done_ (by kernel_rfl) ?_
                generalize World.setCell _ _ _ = w17 at HI ⊢
                obtain ⟨hz0, hz1, hz2, hz3, hzf, hzr⟩ := HI.out.cells
                obtain ⟨hx0, hx1, hx2, hf2⟩ := HI.out.elemAt HIL.out
                rw [HRD.out] at hx0 hx1
                dsimp only at hx0 hx1
                go_wp2_with fail
                go_roundg (gk - 1)
                case measure => have := HII.out; omega
                case rel => exact ⟨i + 1, _, _, _, _, _, (by first | rfl | (rw [hwr]) | (simp [hwr])), ⟨by have := HII.out; omega, by have := HHI.out; omega⟩, HW, ⟨by have := HLen.out; have := HRL.out; omega, by have := HLen.out; have := HROL.out; omega⟩, ⟨(by (with_reducible repeat (first | apply SwInv.alloc | apply SwInv.drewN | apply SwInv.drew)); exact HI.out)⟩⟩
              · rw [if_neg (fun h => h7 h.2)] at hw
                have HW := Aside0.mk hw
                clear hw
                have h7b : decide ((ro.length : Int) < 12) = false := decide_eq_false (by omega)
                have h7c := eq_false h7
                go_wp2_with (first | ((with_reducible refine gate_store (t := 4) (p := 55) rfl ?_); refine store_event (t := 4) (p := 55) (v := ?vo) (w1 := (wr.setCell ⟨gF, i * 3 + 2, none⟩ (.bool true))) ?hg ?ho ?hn ?hr ?_; (case ho => rfl); (case hg => rfl); (case hn => rfl); (case hr => first | (go_simp; done) | (go_simp; rfl)); intro w10 hw10; have n0_ : Aside0 (SwInv w w10 gS w.heap.size (.slice AX ra.length cX) (.slice AY ro.length cY) (.slice (some ⟨gF, 0, none⟩) l2.length cF) (.slice (some adS) seen.length cS) ra ro fi2 seen) := ⟨by rw [hw10, HFI.out]; exact SwInv.setF HI.out HIL.out⟩; clear HI hw10 hz0 hz1 hz2 hz3 hzf hzr hx0 hx1 hx2 hf2 hxs; have HI := n0_; clear n0_; obtain ⟨hz0, hz1, hz2, hz3, hzf, hzr⟩ := HI.out.cells; obtain ⟨hx0, hx1, hx2, hf2⟩ := HI.out.elemAt HIL.out; rw [HRD.out] at hx0 hx1; dsimp only at hx0 hx1))
                refine start_ (n := 10) (S := (fun w' => w'.cell? ⟨gS, 0, none⟩ = some ((.slice AX ra.length cX)) ∧ w'.cell? ⟨gF, i * 3, none⟩ = some (.int .i64 (rd_T110 fi (i : Int)).f0))) (ds := [7, 9]) #[false, false, false, false, false, false, false, false, false, false] (by kernel_rfl) rfl rfl ⟨hz0, hx0⟩ (fun hHeld => ?_)
                have n0_ := Aside0.mk (SwInv.drew HI.out)
                clear HI hz0 hz1 hz2 hz3 hzf hzr hx0 hx1 hx2 hf2
                have HI := n0_
                clear n0_
                generalize World.drew _ = w11 at HI hHeld ⊢
                refine pure_ (i := 0) (N := some 56) (v := ?_) (a' := ?_) #[true, false, false, false, false, false, false, false, false, false] rfl rfl (by kernel_rfl) (fun _ _ _ h => h) (Or.inl ⟨by rfl, ?_⟩) ?_ ?_
                rotate_left
                · intro w'
                  go_simp
                  with_reducible rfl
                rotate_left
                · simp only [Act.put, List.setIfInBounds_toArray, List.set_cons_zero, List.set_cons_succ, i64_w, i32_w]
                  rfl
                refine pure_ (i := 2) (N := some 58) (v := ?_) (a' := ?_) #[true, false, true, false, false, false, false, false, false, false] rfl rfl (by kernel_rfl) (fun _ _ _ h => h) (Or.inl ⟨by rfl, ?_⟩) ?_ ?_
                rotate_left
                · intro w'
                  go_simp
                  with_reducible rfl
                rotate_left
                · simp only [Act.put, List.setIfInBounds_toArray, List.set_cons_zero, List.set_cons_succ, i64_w, i32_w]
                  rfl
                refine pure_ (i := 3) (N := some 59) (v := ?_) (a' := ?_) #[true, false, true, true, false, false, false, false, false, false] rfl rfl (by kernel_rfl) (fun _ _ _ h => h) (Or.inl ⟨by rfl, ?_⟩) ?_ ?_
                rotate_left
                · intro w'
                  go_simp
                  with_reducible rfl
                rotate_left
                · simp only [Act.put, List.setIfInBounds_toArray, List.set_cons_zero, List.set_cons_succ, i64_w, i32_w]
                  rfl
                refine pure_ (i := 4) (N := some 60) (v := ?_) (a' := ?_) #[true, false, true, true, true, false, false, false, false, false] rfl rfl (by kernel_rfl) (fun _ _ _ h => h) (Or.inl ⟨by rfl, ?_⟩) ?_ ?_
                rotate_left
                · intro w'
                  go_simp
                  with_reducible rfl
                rotate_left
                · simp only [Act.put, List.setIfInBounds_toArray, List.set_cons_zero, List.set_cons_succ, i64_w, i32_w]
                  rfl
                refine take_ (i := 1) (N := some 57) (v := ?_) (a' := ?_) #[true, true, true, true, true, false, false, false, false, false] rfl rfl (by kernel_rfl) (fun _ _ _ h => h) (Or.inl ⟨by rfl, ?_⟩) hHeld ?_ ?_
                rotate_left
                · rintro w' ⟨s0, s1⟩
                  go_simp
                  with_reducible rfl
                rotate_left
                · simp only [Act.put, List.setIfInBounds_toArray, List.set_cons_zero, List.set_cons_succ, i64_w, i32_w]
                  rfl
                refine take_ (i := 5) (N := some 61) (v := ?_) (a' := ?_) #[true, true, true, true, true, true, false, false, false, false] rfl rfl (by kernel_rfl) (fun _ _ _ h => h) (Or.inl ⟨by rfl, ?_⟩) hHeld ?_ ?_
                rotate_left
                · rintro w' ⟨s0, s1⟩
                  go_simp
                  with_reducible rfl
                rotate_left
                · simp only [Act.put, List.setIfInBounds_toArray, List.set_cons_zero, List.set_cons_succ, i64_w, i32_w]
                  rfl
                refine one_ (i := 6) (N := some 62) #[true, true, true, true, true, true, true, false, false, false] rfl rfl (by kernel_rfl) (by decide) (fun K hK => ?_)
                refine value_ (w1 := ?_) (v := ?_) (by rfl) rfl ?_ ?_
                rotate_left 2
                · go_simp
                  constructor
                  · rfl
                  · rfl
                refine hK.out _ _ ⟨(World.cell?_alloc_past _ _ _ (World.block_lt_of_cell? _ _ hHeld.1)).trans hHeld.1, (World.cell?_alloc_past _ _ _ (World.block_lt_of_cell? _ _ hHeld.2)).trans hHeld.2⟩ (fun hHeld => ?_)
                clear hK K
                refine norm_ (a' := ?_) ?_ ?_
                rotate_left
                · show Act.put _ (some 62) _ = _
                  simp only [Act.put, List.setIfInBounds_toArray, List.set_cons_zero, List.set_cons_succ, i64_w, i32_w]
                  rfl
                refine last_ (i := 7) (N := some 63) #[true, true, true, true, true, true, true, true, false, false] rfl rfl (by kernel_rfl) (by decide) (fun K hK => ?_)
                refine Kd.R_append_step (Kd.int .i64) (w0 := w) w.heap.size (by rfl) (.tmp 57) (.tmp 62) 35 3 (.int .i64 0) 8 rfl Try.underlying35 info3 rfl (by decide) (by omega) (.slice AX ra.length cX) ra (rd_T110 fi (i : Int)).f0 [.int .i64 (rd_T110 fi (i : Int)).f0] (fun k_ => some k_ ≠ ((.slice AY ro.length cY) : Value).ownBlock) (fun _ => False) rfl rfl ?aP (fun _ hk => hk.elim) ?aF ?aO ?aB ?aS ?aL ?_
                (case aP => exact rfl)
                (case aB => exact (SwInv.be (by (with_reducible repeat (first | apply SwInv.alloc | apply SwInv.drewN | apply SwInv.drew)); exact HI.out)))
                (case aF => exact (fun k_ hk => Kd.fresh' (Kd.R_lt (SwInv.ro (by (with_reducible repeat (first | apply SwInv.alloc | apply SwInv.drewN | apply SwInv.drew)); exact HI.out))) k_ hk))
                (case aO => exact (SwInv.ra (by (with_reducible repeat (first | apply SwInv.alloc | apply SwInv.drewN | apply SwInv.drew)); exact HI.out)))
                (case aS => exact (below_size (SwInv.be (by (with_reducible repeat (first | apply SwInv.alloc | apply SwInv.drewN | apply SwInv.drew)); exact HI.out))))
                (case aL => have := HLen.out; have := HLF.out; have := HHI.out; omega)
                intro vA w12 ho hb hg hat
                rw [← HRA.out] at ho
                obtain ⟨AA, cA, e_⟩ := Kd.R_slice ho
                subst e_
                obtain ⟨hI_, hy0, hyf⟩ := SwInv.putA (by (with_reducible repeat (first | apply SwInv.alloc | apply SwInv.drewN | apply SwInv.drew)); exact HI.out) ho hb hg hat
                have n0_ := Aside0.mk hI_
                clear HI hI_ ho hb hg hat hHeld
                have HI := n0_
                clear n0_
                refine hK.out _ _ ?_
                clear hK K
                refine norm_ (a' := ?_) ?_ ?_
                rotate_left
                · show Act.put _ (some 63) _ = _
                  simp only [Act.put, List.setIfInBounds_toArray, List.set_cons_zero, List.set_cons_succ, i64_w, i32_w]
                  rfl
                refine pure_ (i := 8) (N := some 64) (v := ?_) (a' := ?_) #[true, true, true, true, true, true, true, true, true, false] rfl rfl (by kernel_rfl) (fun _ _ _ h => h) (Or.inl ⟨by rfl, ?_⟩) ?_ ?_
                rotate_left
                · intro w'
                  go_simp
                  with_reducible rfl
                rotate_left
                · simp only [Act.put, List.setIfInBounds_toArray, List.set_cons_zero, List.set_cons_succ, i64_w, i32_w]
                  rfl
                refine last_ (i := 9) (N := none) #[true, true, true, true, true, true, true, true, true, true] rfl rfl (by kernel_rfl) (by decide) (fun K hK => ?_)
                refine skip_ (w1 := ?_) (by rfl) rfl ?_ ?_
                rotate_left
                · go_simp
                  rfl
                refine hK.out _ _ ?_
                clear hK K hy0 hyf
                refine done_ (by kernel_rfl) ?_
                generalize World.setCell _ _ _ = w13 at HI ⊢
                obtain ⟨hz0, hz1, hz2, hz3, hzf, hzr⟩ := HI.out.cells
                obtain ⟨hx0, hx1, hx2, hf2⟩ := HI.out.elemAt HIL.out
                rw [HRD.out] at hx0 hx1
                dsimp only at hx0 hx1
                go_wp2_with fail
                go_roundg (gk - 1)
                case measure => have := HII.out; omega
                case rel => exact ⟨i + 1, _, _, _, _, _, (by first | rfl | (rw [hwr]) | (simp [hwr])), ⟨by have := HII.out; omega, by have := HHI.out; omega⟩, HW, ⟨by have := HLen.out; have := HRL.out; omega, by have := HLen.out; omega⟩, ⟨(by (with_reducible repeat (first | apply SwInv.alloc | apply SwInv.drewN | apply SwInv.drew)); exact HI.out)⟩⟩
            · rw [if_neg (fun h => h6 h.1)] at hw
              have HW := Aside0.mk hw
              clear hw
              have h6b : decide (0 ≤ (rd_T110 fi (i : Int)).f1) = false := decide_eq_false h6
              have h6c := eq_false h6
              go_wp2_with (first | ((with_reducible refine gate_store (t := 4) (p := 55) rfl ?_); refine store_event (t := 4) (p := 55) (v := ?vo) (w1 := (wr.setCell ⟨gF, i * 3 + 2, none⟩ (.bool true))) ?hg ?ho ?hn ?hr ?_; (case ho => rfl); (case hg => rfl); (case hn => rfl); (case hr => first | (go_simp; done) | (go_simp; rfl)); intro w10 hw10; have n0_ : Aside0 (SwInv w w10 gS w.heap.size (.slice AX ra.length cX) (.slice AY ro.length cY) (.slice (some ⟨gF, 0, none⟩) l2.length cF) (.slice (some adS) seen.length cS) ra ro fi2 seen) := ⟨by rw [hw10, HFI.out]; exact SwInv.setF HI.out HIL.out⟩; clear HI hw10 hz0 hz1 hz2 hz3 hzf hzr hx0 hx1 hx2 hf2 hxs; have HI := n0_; clear n0_; obtain ⟨hz0, hz1, hz2, hz3, hzf, hzr⟩ := HI.out.cells; obtain ⟨hx0, hx1, hx2, hf2⟩ := HI.out.elemAt HIL.out; rw [HRD.out] at hx0 hx1; dsimp only at hx0 hx1))
              refine start_ (n := 10) (S := (fun w' => w'.cell? ⟨gS, 0, none⟩ = some ((.slice AX ra.length cX)) ∧ w'.cell? ⟨gF, i * 3, none⟩ = some (.int .i64 (rd_T110 fi (i : Int)).f0))) (ds := [7, 9]) #[false, false, false, false, false, false, false, false, false, false] (by kernel_rfl) rfl rfl ⟨hz0, hx0⟩ (fun hHeld => ?_)
              have n0_ := Aside0.mk (SwInv.drew HI.out)
              clear HI hz0 hz1 hz2 hz3 hzf hzr hx0 hx1 hx2 hf2
              have HI := n0_
              clear n0_
              generalize World.drew _ = w11 at HI hHeld ⊢
              refine pure_ (i := 0) (N := some 56) (v := ?_) (a' := ?_) #[true, false, false, false, false, false, false, false, false, false] rfl rfl (by kernel_rfl) (fun _ _ _ h => h) (Or.inl ⟨by rfl, ?_⟩) ?_ ?_
              rotate_left
              · intro w'
                go_simp
                with_reducible rfl
              rotate_left
              · simp only [Act.put, List.setIfInBounds_toArray, List.set_cons_zero, List.set_cons_succ, i64_w, i32_w]
                rfl
              refine pure_ (i := 2) (N := some 58) (v := ?_) (a' := ?_) #[true, false, true, false, false, false, false, false, false, false] rfl rfl (by kernel_rfl) (fun _ _ _ h => h) (Or.inl ⟨by rfl, ?_⟩) ?_ ?_
              rotate_left
              · intro w'
                go_simp
                with_reducible rfl
              rotate_left
              · simp only [Act.put, List.setIfInBounds_toArray, List.set_cons_zero, List.set_cons_succ, i64_w, i32_w]
                rfl
              refine pure_ (i := 3) (N := some 59) (v := ?_) (a' := ?_) #[true, false, true, true, false, false, false, false, false, false] rfl rfl (by kernel_rfl) (fun _ _ _ h => h) (Or.inl ⟨by rfl, ?_⟩) ?_ ?_
              rotate_left
              · intro w'
                go_simp
                with_reducible rfl
              rotate_left
              · simp only [Act.put, List.setIfInBounds_toArray, List.set_cons_zero, List.set_cons_succ, i64_w, i32_w]
                rfl
              refine pure_ (i := 4) (N := some 60) (v := ?_) (a' := ?_) #[true, false, true, true, true, false, false, false, false, false] rfl rfl (by kernel_rfl) (fun _ _ _ h => h) (Or.inl ⟨by rfl, ?_⟩) ?_ ?_
              rotate_left
              · intro w'
                go_simp
                with_reducible rfl
              rotate_left
              · simp only [Act.put, List.setIfInBounds_toArray, List.set_cons_zero, List.set_cons_succ, i64_w, i32_w]
                rfl
              refine take_ (i := 1) (N := some 57) (v := ?_) (a' := ?_) #[true, true, true, true, true, false, false, false, false, false] rfl rfl (by kernel_rfl) (fun _ _ _ h => h) (Or.inl ⟨by rfl, ?_⟩) hHeld ?_ ?_
              rotate_left
              · rintro w' ⟨s0, s1⟩
                go_simp
                with_reducible rfl
              rotate_left
              · simp only [Act.put, List.setIfInBounds_toArray, List.set_cons_zero, List.set_cons_succ, i64_w, i32_w]
                rfl
              refine take_ (i := 5) (N := some 61) (v := ?_) (a' := ?_) #[true, true, true, true, true, true, false, false, false, false] rfl rfl (by kernel_rfl) (fun _ _ _ h => h) (Or.inl ⟨by rfl, ?_⟩) hHeld ?_ ?_
              rotate_left
              · rintro w' ⟨s0, s1⟩
                go_simp
                with_reducible rfl
              rotate_left
              · simp only [Act.put, List.setIfInBounds_toArray, List.set_cons_zero, List.set_cons_succ, i64_w, i32_w]
                rfl
              refine one_ (i := 6) (N := some 62) #[true, true, true, true, true, true, true, false, false, false] rfl rfl (by kernel_rfl) (by decide) (fun K hK => ?_)
              refine value_ (w1 := ?_) (v := ?_) (by rfl) rfl ?_ ?_
              rotate_left 2
              · go_simp
                constructor
                · rfl
                · rfl
              refine hK.out _ _ ⟨(World.cell?_alloc_past _ _ _ (World.block_lt_of_cell? _ _ hHeld.1)).trans hHeld.1, (World.cell?_alloc_past _ _ _ (World.block_lt_of_cell? _ _ hHeld.2)).trans hHeld.2⟩ (fun hHeld => ?_)
              clear hK K
              refine norm_ (a' := ?_) ?_ ?_
              rotate_left
              · show Act.put _ (some 62) _ = _
                simp only [Act.put, List.setIfInBounds_toArray, List.set_cons_zero, List.set_cons_succ, i64_w, i32_w]
                rfl
              refine last_ (i := 7) (N := some 63) #[true, true, true, true, true, true, true, true, false, false] rfl rfl (by kernel_rfl) (by decide) (fun K hK => ?_)
              refine Kd.R_append_step (Kd.int .i64) (w0 := w) w.heap.size (by rfl) (.tmp 57) (.tmp 62) 35 3 (.int .i64 0) 8 rfl Try.underlying35 info3 rfl (by decide) (by omega) (.slice AX ra.length cX) ra (rd_T110 fi (i : Int)).f0 [.int .i64 (rd_T110 fi (i : Int)).f0] (fun k_ => some k_ ≠ ((.slice AY ro.length cY) : Value).ownBlock) (fun _ => False) rfl rfl ?aP (fun _ hk => hk.elim) ?aF ?aO ?aB ?aS ?aL ?_
              (case aP => exact rfl)
              (case aB => exact (SwInv.be (by (with_reducible repeat (first | apply SwInv.alloc | apply SwInv.drewN | apply SwInv.drew)); exact HI.out)))
              (case aF => exact (fun k_ hk => Kd.fresh' (Kd.R_lt (SwInv.ro (by (with_reducible repeat (first | apply SwInv.alloc | apply SwInv.drewN | apply SwInv.drew)); exact HI.out))) k_ hk))
              (case aO => exact (SwInv.ra (by (with_reducible repeat (first | apply SwInv.alloc | apply SwInv.drewN | apply SwInv.drew)); exact HI.out)))
              (case aS => exact (below_size (SwInv.be (by (with_reducible repeat (first | apply SwInv.alloc | apply SwInv.drewN | apply SwInv.drew)); exact HI.out))))
              (case aL => have := HLen.out; have := HLF.out; have := HHI.out; omega)
              intro vA w12 ho hb hg hat
              rw [← HRA.out] at ho
              obtain ⟨AA, cA, e_⟩ := Kd.R_slice ho
              subst e_
              obtain ⟨hI_, hy0, hyf⟩ := SwInv.putA (by (with_reducible repeat (first | apply SwInv.alloc | apply SwInv.drewN | apply SwInv.drew)); exact HI.out) ho hb hg hat
              have n0_ := Aside0.mk hI_
              clear HI hI_ ho hb hg hat hHeld
              have HI := n0_
              clear n0_
              refine hK.out _ _ ?_
              clear hK K
              refine norm_ (a' := ?_) ?_ ?_
              rotate_left
              · show Act.put _ (some 63) _ = _
                simp only [Act.put, List.setIfInBounds_toArray, List.set_cons_zero, List.set_cons_succ, i64_w, i32_w]
                rfl
              refine pure_ (i := 8) (N := some 64) (v := ?_) (a' := ?_) #[true, true, true, true, true, true, true, true, true, false] rfl rfl (by kernel_rfl) (fun _ _ _ h => h) (Or.inl ⟨by rfl, ?_⟩) ?_ ?_
              rotate_left
              · intro w'
                go_simp
                with_reducible rfl
              rotate_left
              · simp only [Act.put, List.setIfInBounds_toArray, List.set_cons_zero, List.set_cons_succ, i64_w, i32_w]
                rfl
              refine last_ (i := 9) (N := none) #[true, true, true, true, true, true, true, true, true, true] rfl rfl (by kernel_rfl) (by decide) (fun K hK => ?_)
              refine skip_ (w1 := ?_) (by rfl) rfl ?_ ?_
              rotate_left
              · go_simp
                rfl
              refine hK.out _ _ ?_
              clear hK K hy0 hyf
              refine done_ (by kernel_rfl) ?_
              generalize World.setCell _ _ _ = w13 at HI ⊢
              obtain ⟨hz0, hz1, hz2, hz3, hzf, hzr⟩ := HI.out.cells
              obtain ⟨hx0, hx1, hx2, hf2⟩ := HI.out.elemAt HIL.out
              rw [HRD.out] at hx0 hx1
              dsimp only at hx0 hx1
              go_wp2_with fail
              go_roundg (gk - 1)
              case measure => have := HII.out; omega
              case rel => exact ⟨i + 1, _, _, _, _, _, (by first | rfl | (rw [hwr]) | (simp [hwr])), ⟨by have := HII.out; omega, by have := HHI.out; omega⟩, HW, ⟨by have := HLen.out; have := HRL.out; omega, by have := HLen.out; omega⟩, ⟨(by (with_reducible repeat (first | apply SwInv.alloc | apply SwInv.drewN | apply SwInv.drew)); exact HI.out)⟩⟩
        · rw [if_neg h2] at hw; cases hw
    · have hi0 : decide ((i : Int) < (l2.length : Int)) = false := decide_eq_false hi
      have hi1 : (i < l2.length) = False := eq_false (by omega)
      have hw := HW.out
      rw [show l2.length - i = 0 by omega, swp] at hw
      simp only [Option.some.injEq, Prod.mk.injEq] at hw
      obtain ⟨rfl, rfl, rfl⟩ := hw
      clear HW
      obtain ⟨AX, cX, eX⟩ := Kd.R_slice HI.out.ra
      subst eX
      obtain ⟨AY, cY, eY⟩ := Kd.R_slice HI.out.ro
      subst eY
      obtain ⟨hz0, hz1, hz2, hz3, hzf, hzr⟩ := HI.out.cells
      go_wp2_with fail
      refine (impl_reached.calls k A0 c0 l0 AY cY ro s2 _ (Kd.C_below HR0.out HI.out.be) HC0.out (Kd.R_reads' HI.out.ro).2.2 (Kd.R_reads' HI.out.ro).2.1 HS2.out).mono ?_
      rintro e w6 ⟨v2, rfl, ho, hb⟩
      have hb6 := hb
      obtain ⟨A6, c6, rfl⟩ := Kd.R_slice ho
      have n1 := Aside0.mk (SwInv.below HI.out hb)
      have n2 := Aside0.mk ho
      clear HI hz0 hz1 hz2 hz3 hzf hzr ho hb hb6
      have HI := n1
      have HO := n2
      clear n1 n2
      go_wp2_with fail
      refine (impl_marked.calls k A6 c6 s2 false gone _ (Kd.R_reads' HO.out).2.2 (Kd.R_reads' HO.out).2.1 HM.out).mono ?_
      rintro e w7 ⟨v3, rfl, ho, hb⟩
      obtain ⟨A7, c7, rfl⟩ := Kd.R_slice ho
      have HI7 := Aside0.mk (SwInv.below HI.out hb)
      have RA := Aside0.mk (Kd.R_elder HI.out.ra ho hb)
      have RO := Aside0.mk (Kd.R_elder HI.out.ro ho hb)
      have RG := Aside0.mk (Kd.R_lower (Kd.R_newR (Kd.R_newR ho HI.out.ra) HI.out.ro) (below_size HI.out.be))
      clear HI ho hb HO
      obtain ⟨hz0, hz1, hz2, hz3, hzf, hzr⟩ := HI7.out.cells
      have BS8 := Aside0.mk (blk_put (cs := #[.slice AX ra.length cX, .slice AY ro.length cY, .slice none 0 0, .slice AF l2.length cF]) HI7.out.bs 2 (.slice A7 gone.length c7) rfl)
      have BR8 := Aside0.mk (blk_far HI7.out.br (p := ⟨gS, 2, none⟩) (fun e => HI7.out.ne e.symm) (.slice A7 gone.length c7))
      have hy0 : (w7.setCell ⟨gS, 2, none⟩ (.slice A7 gone.length c7)).cell? ⟨gS, 0, none⟩ = some (.slice AX ra.length cX) := (blk_cell BS8.out 0).trans rfl
      have hy1 : (w7.setCell ⟨gS, 2, none⟩ (.slice A7 gone.length c7)).cell? ⟨gS, 1, none⟩ = some (.slice AY ro.length cY) := (blk_cell BS8.out 1).trans rfl
      have hy2 : (w7.setCell ⟨gS, 2, none⟩ (.slice A7 gone.length c7)).cell? ⟨gS, 2, none⟩ = some (.slice A7 gone.length c7) := (blk_cell BS8.out 2).trans rfl
      have hy3 : (w7.setCell ⟨gS, 2, none⟩ (.slice A7 gone.length c7)).cell? ⟨gS, 3, none⟩ = some (.slice AF l2.length cF) := (blk_cell BS8.out 3).trans rfl
      have hq0 : (w7.setCell ⟨gS, 2, none⟩ (.slice A7 gone.length c7)).cell? ⟨w.heap.size, 0, none⟩ = some (.slice none 0 0) := (blk_cell BR8.out 0).trans rfl
      have hq1 : (w7.setCell ⟨gS, 2, none⟩ (.slice A7 gone.length c7)).cell? ⟨w.heap.size, 1, none⟩ = some (.slice none 0 0) := (blk_cell BR8.out 1).trans rfl
      have hq2 : (w7.setCell ⟨gS, 2, none⟩ (.slice A7 gone.length c7)).cell? ⟨w.heap.size, 2, none⟩ = some (.slice none 0 0) := (blk_cell BR8.out 2).trans rfl
      have hq3 : (w7.setCell ⟨gS, 2, none⟩ (.slice A7 gone.length c7)).cell? ⟨w.heap.size, 3, none⟩ = some (.slice none 0 0) := (blk_cell BR8.out 3).trans rfl
      have hqf : ∀ j, (w7.setCell ⟨gS, 2, none⟩ (.slice A7 gone.length c7)).frozen? ⟨w.heap.size, j, none⟩ = false := fun j => blk_frozen BR8.out j
      go_wp2_with fail
      refine bodyPost_ret (results_cell_row rfl _ _ w.heap.size 57 #[.slice AX ra.length cX, .slice AY ro.length cY, .slice A7 gone.length c7, .slice AF l2.length cF] (0, 0) _ rfl (put4 BR8.out) Try.underlying57 rfl (by kernel_rfl)) rfl ?_
      exact ⟨_, _, _, _, rfl, far5 HI7.out RA.out (by decide), far5 HI7.out RO.out (by decide), Kd.R_mono (far5 HI7.out RG.out (by decide)) (fun _ hk => ⟨hk.1.2, hk.2⟩), far5 HI7.out HI7.out.fi (by decide),
        below_set (below_set (below_set (below_set (below_set HI7.out.be HI7.out.hs) (Nat.le_refl _)) (Nat.le_refl _)) (Nat.le_refl _)) (Nat.le_refl _)⟩
end Go.Proofs.Ytehhhlhedmfdiaa.PFnExactFinalSweep
