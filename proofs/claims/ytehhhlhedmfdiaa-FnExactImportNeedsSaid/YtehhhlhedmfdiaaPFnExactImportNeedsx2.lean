-- Laid by wip/xprint.py of this session: the kit's printer over contracts typed by hand.
import Derived.Test.YtehhhlhedmfdiaaPFnExactImportNeedsx0
import Derived.Test.YtehhhlhedmfdiaaPFnExactImportNeedsx1
namespace Go.Proofs.Ytehhhlhedmfdiaa.PFnExactImportNeeds
open Go.RowKit Go.Proofs.YtehhhlhedmfdiaaW.PrintWords Go.Proofs.YtehhhlhedmfdiaaW.PrintLast Go.Proofs.YtehhhlhedmfdiaaW.PrintMore
attribute [local go_sem] max2_int min2_int max_two min_two max_three min_three max_four min_four   -- for this text's walks alone
set_option linter.unusedVariables false
set_option linter.unusedSimpArgs false

theorem bne_empty_t {x : Bool} {l : List UInt8} (h : (x != (l != ([] : List UInt8))) = true) : (x = !l.isEmpty) = False := by
  cases x <;> cases l <;> simp at h ⊢
theorem bne_empty_f {x : Bool} {l : List UInt8} (h : ¬ (x != (l != ([] : List UInt8))) = true) : (x = !l.isEmpty) = True := by
  cases x <;> cases l <;> simp at h ⊢
theorem ne_of_true {l : List UInt8} (h : (true = !l.isEmpty) = True) : (l = []) = False ∧ l.isEmpty = false := by
  cases l <;> simp at h ⊢
theorem eq_of_false {l : List UInt8} (h : (false = !l.isEmpty) = True) : (l = []) = True ∧ l.isEmpty = true := by
  cases l <;> simp at h ⊢
/-! ### spec_validMods: function 53 -/
mutual
def spec_validMods.l0 : Nat → List (S72) → Int → Option (Bool)
  | 0, _, _ => none
  | k + 1, x0, x3 => if x3 < (x0.length : Int) then (spec_validMods.l1 k x0 x3 0) else ((spec_inRange.f (x0.length : Int) 1 6).bind fun t120 => (some t120))
def spec_validMods.l1 : Nat → List (S72) → Int → Int → Option (Bool)
  | 0, _, _, _ => none
  | k + 1, x0, x3, x4 => if 0 ≤ x3 then (if x3 < (x0.length : Int) then (if x4 < (((rd_T72 x0 x3).f0).length : Int) then (if 0 ≤ x4 then (if ((rd_T74 ((rd_T72 x0 x3).f0) x4).f0) = 3 then (spec_validMods.j2 k x0 x3 x4 0 (wrap64 ((x0.length : Int) - 1)) true ((rd_T74 ((rd_T72 x0 x3).f0) x4).f0) ((rd_T74 ((rd_T72 x0 x3).f0) x4).f1) ((rd_T74 ((rd_T72 x0 x3).f0) x4).f2)) else (spec_validMods.j2 k x0 x3 x4 0 (wrap64 ((x0.length : Int) - 1)) (((rd_T74 ((rd_T72 x0 x3).f0) x4).f0) == 5) ((rd_T74 ((rd_T72 x0 x3).f0) x4).f0) ((rd_T74 ((rd_T72 x0 x3).f0) x4).f1) ((rd_T74 ((rd_T72 x0 x3).f0) x4).f2))) else (none)) else (if (((rd_T72 x0 x3).f0).length : Int) > 8 then (some false) else (spec_validMods.l0 k x0 (wrap64 (x3 + 1))))) else (none)) else (none)
def spec_validMods.j2 : Nat → List (S72) → Int → Int → Int → Int → Bool → Int → Int → ByteArray → Option (Bool)
  | 0, _, _, _, _, _, _, _, _, _ => none
  | k + 1, x0, x3, x4, x6, x7, x43, x126000, x126001, x126002 => if x43 = true then (spec_validMods.j3 k x0 x3 x4 x6 1000000 x126000 x126001 x126002) else (spec_validMods.j3 k x0 x3 x4 x6 x7 x126000 x126001 x126002)
def spec_validMods.j3 : Nat → List (S72) → Int → Int → Int → Int → Int → Int → ByteArray → Option (Bool)
  | 0, _, _, _, _, _, _, _, _ => none
  | k + 1, x0, x3, x4, x6, x7, x126000, x126001, x126002 => if x126000 = 3 then (spec_validMods.j4 k x0 x3 x4 x6 x7 true x126000 x126001 x126002) else (spec_validMods.j4 k x0 x3 x4 x6 x7 (x126000 == 4) x126000 x126001 x126002)
def spec_validMods.j4 : Nat → List (S72) → Int → Int → Int → Int → Bool → Int → Int → ByteArray → Option (Bool)
  | 0, _, _, _, _, _, _, _, _, _ => none
  | k + 1, x0, x3, x4, x6, x7, x8, x126000, x126001, x126002 => (spec_inRange.f x126000 1 5).bind fun t126 => (if t126 = true then ((spec_inRange.f x126001 x6 x7).bind fun t127 => (if t127 = true then (if (x8 != (x126002.toList != ([] : List UInt8))) = true then (some false) else (if x8 = true then ((spec_validName.f k x126002).bind fun t128 => (if t128 = true then (spec_validMods.l1 k x0 x3 (wrap64 (x4 + 1))) else (some false))) else (spec_validMods.l1 k x0 x3 (wrap64 (x4 + 1))))) else (some false))) else (some false))
end
def spec_validMods.f (k : Nat) (l0 : List (S72)) : Option (Bool) := spec_validMods.l0 k l0 0
theorem spec_validMods.mono_l : ∀ k, (∀ y0 y1, LeO (spec_validMods.l0 k y0 y1) (spec_validMods.l0 (k + 1) y0 y1)) ∧ (∀ y0 y1 y2, LeO (spec_validMods.l1 k y0 y1 y2) (spec_validMods.l1 (k + 1) y0 y1 y2)) ∧ (∀ y0 y1 y2 y3 y4 y5 y6 y7 y8, LeO (spec_validMods.j2 k y0 y1 y2 y3 y4 y5 y6 y7 y8) (spec_validMods.j2 (k + 1) y0 y1 y2 y3 y4 y5 y6 y7 y8)) ∧ (∀ y0 y1 y2 y3 y4 y5 y6 y7, LeO (spec_validMods.j3 k y0 y1 y2 y3 y4 y5 y6 y7) (spec_validMods.j3 (k + 1) y0 y1 y2 y3 y4 y5 y6 y7)) ∧ (∀ y0 y1 y2 y3 y4 y5 y6 y7 y8, LeO (spec_validMods.j4 k y0 y1 y2 y3 y4 y5 y6 y7 y8) (spec_validMods.j4 (k + 1) y0 y1 y2 y3 y4 y5 y6 y7 y8))
  | 0 => ⟨fun _ _ r h => by simp [spec_validMods.l0] at h, fun _ _ _ r h => by simp [spec_validMods.l1] at h, fun _ _ _ _ _ _ _ _ _ r h => by simp [spec_validMods.j2] at h, fun _ _ _ _ _ _ _ _ r h => by simp [spec_validMods.j3] at h, fun _ _ _ _ _ _ _ _ _ r h => by simp [spec_validMods.j4] at h⟩
  | k + 1 => by
    obtain ⟨ih0, ih1, ih2, ih3, ih4⟩ := spec_validMods.mono_l k
    refine ⟨?_, ?_, ?_, ?_, ?_⟩
    · intro y0 y1
      unfold spec_validMods.l0
      repeat' first
      | (with_reducible exact ih0 _ _)
      | (with_reducible exact ih1 _ _ _)
      | (with_reducible exact ih2 _ _ _ _ _ _ _ _ _)
      | (with_reducible exact ih3 _ _ _ _ _ _ _ _)
      | (with_reducible exact ih4 _ _ _ _ _ _ _ _ _)
      | (with_reducible exact spec_validName.mono _ _)
      | (with_reducible exact LeO.refl _)
      | (with_reducible exact LeO.none _)
      | (with_reducible refine LeO.ite ?_ ?_)
      | (with_reducible refine LeO.bind ?_ (fun _ => ?_))
      | exact ih0 _ _
      | exact ih1 _ _ _
      | exact ih2 _ _ _ _ _ _ _ _ _
      | exact ih3 _ _ _ _ _ _ _ _
      | exact ih4 _ _ _ _ _ _ _ _ _
      | exact spec_validName.mono _ _
      | exact LeO.none _
      | refine LeO.ite ?_ ?_
      | refine LeO.bind ?_ (fun _ => ?_)
    · intro y0 y1 y2
      unfold spec_validMods.l1
      repeat' first
      | (with_reducible exact ih0 _ _)
      | (with_reducible exact ih1 _ _ _)
      | (with_reducible exact ih2 _ _ _ _ _ _ _ _ _)
      | (with_reducible exact ih3 _ _ _ _ _ _ _ _)
      | (with_reducible exact ih4 _ _ _ _ _ _ _ _ _)
      | (with_reducible exact spec_validName.mono _ _)
      | (with_reducible exact LeO.refl _)
      | (with_reducible exact LeO.none _)
      | (with_reducible refine LeO.ite ?_ ?_)
      | (with_reducible refine LeO.bind ?_ (fun _ => ?_))
      | exact ih0 _ _
      | exact ih1 _ _ _
      | exact ih2 _ _ _ _ _ _ _ _ _
      | exact ih3 _ _ _ _ _ _ _ _
      | exact ih4 _ _ _ _ _ _ _ _ _
      | exact spec_validName.mono _ _
      | exact LeO.none _
      | refine LeO.ite ?_ ?_
      | refine LeO.bind ?_ (fun _ => ?_)
    · intro y0 y1 y2 y3 y4 y5 y6 y7 y8
      unfold spec_validMods.j2
      repeat' first
      | (with_reducible exact ih0 _ _)
      | (with_reducible exact ih1 _ _ _)
      | (with_reducible exact ih2 _ _ _ _ _ _ _ _ _)
      | (with_reducible exact ih3 _ _ _ _ _ _ _ _)
      | (with_reducible exact ih4 _ _ _ _ _ _ _ _ _)
      | (with_reducible exact spec_validName.mono _ _)
      | (with_reducible exact LeO.refl _)
      | (with_reducible exact LeO.none _)
      | (with_reducible refine LeO.ite ?_ ?_)
      | (with_reducible refine LeO.bind ?_ (fun _ => ?_))
      | exact ih0 _ _
      | exact ih1 _ _ _
      | exact ih2 _ _ _ _ _ _ _ _ _
      | exact ih3 _ _ _ _ _ _ _ _
      | exact ih4 _ _ _ _ _ _ _ _ _
      | exact spec_validName.mono _ _
      | exact LeO.none _
      | refine LeO.ite ?_ ?_
      | refine LeO.bind ?_ (fun _ => ?_)
    · intro y0 y1 y2 y3 y4 y5 y6 y7
      unfold spec_validMods.j3
      repeat' first
      | (with_reducible exact ih0 _ _)
      | (with_reducible exact ih1 _ _ _)
      | (with_reducible exact ih2 _ _ _ _ _ _ _ _ _)
      | (with_reducible exact ih3 _ _ _ _ _ _ _ _)
      | (with_reducible exact ih4 _ _ _ _ _ _ _ _ _)
      | (with_reducible exact spec_validName.mono _ _)
      | (with_reducible exact LeO.refl _)
      | (with_reducible exact LeO.none _)
      | (with_reducible refine LeO.ite ?_ ?_)
      | (with_reducible refine LeO.bind ?_ (fun _ => ?_))
      | exact ih0 _ _
      | exact ih1 _ _ _
      | exact ih2 _ _ _ _ _ _ _ _ _
      | exact ih3 _ _ _ _ _ _ _ _
      | exact ih4 _ _ _ _ _ _ _ _ _
      | exact spec_validName.mono _ _
      | exact LeO.none _
      | refine LeO.ite ?_ ?_
      | refine LeO.bind ?_ (fun _ => ?_)
    · intro y0 y1 y2 y3 y4 y5 y6 y7 y8
      unfold spec_validMods.j4
      repeat' first
      | (with_reducible exact ih0 _ _)
      | (with_reducible exact ih1 _ _ _)
      | (with_reducible exact ih2 _ _ _ _ _ _ _ _ _)
      | (with_reducible exact ih3 _ _ _ _ _ _ _ _)
      | (with_reducible exact ih4 _ _ _ _ _ _ _ _ _)
      | (with_reducible exact spec_validName.mono _ _)
      | (with_reducible exact LeO.refl _)
      | (with_reducible exact LeO.none _)
      | (with_reducible refine LeO.ite ?_ ?_)
      | (with_reducible refine LeO.bind ?_ (fun _ => ?_))
      | exact ih0 _ _
      | exact ih1 _ _ _
      | exact ih2 _ _ _ _ _ _ _ _ _
      | exact ih3 _ _ _ _ _ _ _ _
      | exact ih4 _ _ _ _ _ _ _ _ _
      | exact spec_validName.mono _ _
      | exact LeO.none _
      | refine LeO.ite ?_ ?_
      | refine LeO.bind ?_ (fun _ => ?_)
theorem spec_validMods.mono : ∀ a0 k, LeO (spec_validMods.f k a0) (spec_validMods.f (k + 1) a0) := by
  intro a0 k
  obtain ⟨ih0, ih1, ih2, ih3, ih4⟩ := spec_validMods.mono_l k
  unfold spec_validMods.f
  repeat' first
      | (with_reducible exact ih0 _ _)
      | (with_reducible exact ih1 _ _ _)
      | (with_reducible exact ih2 _ _ _ _ _ _ _ _ _)
      | (with_reducible exact ih3 _ _ _ _ _ _ _ _)
      | (with_reducible exact ih4 _ _ _ _ _ _ _ _ _)
      | (with_reducible exact spec_validName.mono _ _)
      | (with_reducible exact LeO.refl _)
      | (with_reducible exact LeO.none _)
      | (with_reducible refine LeO.ite ?_ ?_)
      | (with_reducible refine LeO.bind ?_ (fun _ => ?_))
      | exact ih0 _ _
      | exact ih1 _ _ _
      | exact ih2 _ _ _ _ _ _ _ _ _
      | exact ih3 _ _ _ _ _ _ _ _
      | exact ih4 _ _ _ _ _ _ _ _ _
      | exact spec_validName.mono _ _
      | exact LeO.none _
      | refine LeO.ite ?_ ?_
      | refine LeO.bind ?_ (fun _ => ?_)
set_option maxHeartbeats 8000000 in
set_option maxRecDepth 100000 in
theorem spec_validMods.calls (k : Nat) (A0 : Option Addr) (c0 : Nat) (l0 : List (S72)) (r : Bool) (w : World) (hr0 : Kd.C k72 w A0 l0.length l0) (hc0 : l0.length ≤ c0) (h : spec_validMods.f k l0 = some r) :
    Calls Try.prog 53 #[.slice A0 l0.length c0] w fun e w' => e = .returned (.bool r) ∧ Below w.heap.size w w' := by
  have hu74 := Try.underlying74
  have HR0 := Aside0.mk hr0
  have HC0 := Aside0.mk hc0
  clear hr0 hc0
  have HB := Aside0.mk (Below.refl w.heap.size w)
  have H : (spec_validMods.l0 k l0 0) = some r := h
  clear h
  have H' := Aside0.mk H
  clear H
  go_enter Try.func53, Try.ntmps53
  go_wp2
  go_loopg [3] k (fun kq v3 w' => ∃ (x3_1 : Int), v3 = .int .i64 x3_1 ∧ Aside0 (spec_validMods.l0 kq l0 x3_1 = some r) ∧ Aside0 (kq ≤ k) ∧ Aside0 (Below w.heap.size w w'))
  case atStart => exact ⟨(0), (by first | rfl | (simp; done) | (simp [*]; done)), H', ⟨Nat.le_refl _⟩, ⟨by repeat (first | (with_reducible first | exact HB.out | apply below_alloc | apply pw_below_drewN | apply below_drew1) | exact HB.out)⟩⟩
  case round =>
    clear H'
    obtain ⟨x3_1, rfl, HA, HK1, HB⟩ := hrel
    cases gk with
    | zero => exact absurd HA.out (by simp [spec_validMods.l0])
    | succ k1 =>
      have H := HA.out
      clear HA
      simp only [spec_validMods.l0] at H
      by_cases c2 : x3_1 < (l0.length : Int)
      · rw [if_pos c2] at H
        have c2b0 : decide (x3_1 < (l0.length : Int)) = true := decide_eq_true c2
        clear c2
        have H' := Aside0.mk H
        clear H
        go_wp2
        go_loopg [4] k1 (fun kq v4 w' => ∃ (x4_2 : Int), v4 = .int .i64 x4_2 ∧ Aside0 (spec_validMods.l1 kq l0 x3_1 x4_2 = some r) ∧ Aside0 (kq ≤ k1) ∧ Aside0 (Below w.heap.size w w'))
        case atStart => exact ⟨(0), (by first | rfl | (simp; done) | (simp [*]; done)), H', ⟨Nat.le_refl _⟩, ⟨by repeat (first | (with_reducible first | exact HB.out | apply below_alloc | apply pw_below_drewN | apply below_drew1) | exact HB.out)⟩⟩
        case round =>
          clear H'
          try clear c2
          try clear c2b0
          try clear p2
          obtain ⟨x4_2, rfl, HA, HK2, HB⟩ := hrel
          cases gk with
          | zero => exact absurd HA.out (by simp [spec_validMods.l1])
          | succ k2 =>
            have H := HA.out
            clear HA
            simp only [spec_validMods.l1] at H
            by_cases c3 : 0 ≤ x3_1
            · rw [if_pos c3] at H
              have c3b0 : decide (0 ≤ x3_1) = true := decide_eq_true c3
              clear c3
              by_cases c4 : x3_1 < (l0.length : Int)
              · rw [if_pos c4] at H
                have c4b0 : decide (x3_1 < (l0.length : Int)) = true := decide_eq_true c4
                clear c4
                by_cases c5 : x4_2 < (((rd_T72 l0 x3_1).f0).length : Int)
                · rw [if_pos c5] at H
                  have c5b0 : decide (x4_2 < (((rd_T72 l0 x3_1).f0).length : Int)) = true := decide_eq_true c5
                  clear c5
                  by_cases c6 : 0 ≤ x4_2
                  · rw [if_pos c6] at H
                    have c6b0 : decide (0 ≤ x4_2) = true := decide_eq_true c6
                    clear c6
                    have HC7 := Aside0.mk H
                    clear H
                    have p121 : 0 ≤ (x3_1 : Int) := of_decide_eq_true (by first | (with_reducible assumption) | assumption)
                    have q121 : x3_1 < (l0.length : Int) := of_decide_eq_true (by first | (with_reducible assumption) | assumption)
                    obtain ⟨ad121, A121_0, c121_0, e121, hx121_0, hl121_0, hi121_0⟩ := at_T72 HR0.out x3_1 p121 q121
                    cases e121
                    replace hx121_0 := (HB.out.cell (World.block_lt_of_cell? w _ hx121_0)).trans hx121_0
                    have HR121_0 := Aside0.mk hi121_0
                    have HC121_0 := Aside0.mk hl121_0
                    clear hi121_0 hl121_0
                    replace p121 := eq_true p121
                    replace q121 := eq_true q121
                    have p123 : 0 ≤ (x3_1 : Int) := of_decide_eq_true (by first | (with_reducible assumption) | assumption)
                    have q123 : x3_1 < (l0.length : Int) := of_decide_eq_true (by first | (with_reducible assumption) | assumption)
                    obtain ⟨ad123, A123_0, c123_0, e123, hx123_0, hl123_0, hi123_0⟩ := at_T72 HR0.out x3_1 p123 q123
                    obtain rfl : ad121 = ad123 := (by injection e123)
                    replace hx123_0 := (HB.out.cell (World.block_lt_of_cell? w _ hx123_0)).trans hx123_0
                    have HR123_0 := Aside0.mk hi123_0
                    have HC123_0 := Aside0.mk hl123_0
                    clear hi123_0 hl123_0
                    replace p123 := eq_true p123
                    replace q123 := eq_true q123
                    have ea_ := Option.some.inj (hx121_0.symm.trans hx123_0)
                    injection ea_ with ea_ en_ ec_
                    subst ea_
                    subst ec_
                    clear en_
                    have p124 : 0 ≤ (x4_2 : Int) := of_decide_eq_true (by first | (with_reducible assumption) | assumption)
                    have q124 : x4_2 < (((rd_T72 l0 x3_1).f0).length : Int) := of_decide_eq_true (by first | (with_reducible assumption) | assumption)
                    obtain ⟨ad124, e124, hx124_0, hx124_1, hx124_2⟩ := at_T74 HR123_0.out x4_2 p124 q124
                    cases e124
                    replace hx124_0 := (HB.out.cell (World.block_lt_of_cell? w _ hx124_0)).trans hx124_0
                    replace hx124_1 := (HB.out.cell (World.block_lt_of_cell? w _ hx124_1)).trans hx124_1
                    replace hx124_2 := (HB.out.cell (World.block_lt_of_cell? w _ hx124_2)).trans hx124_2
                    replace p124 := eq_true p124
                    replace q124 := eq_true q124
                    go_upto_region 10 with (first | ((with_reducible refine gate_dst (N := 5) rfl ?_); refine box_event ?hg (N := 5) ?hd (cs := #[.int .i64 0, .int .i64 0, .string (⟨#[]⟩ : ByteArray)]) (t := 74) ?hr ?_; (case hd => rfl); (case hg => rfl); (case hr => first | (go_simp; done) | (go_simp; rfl)); intro gb125 hg w8 hbox hb; have n0_ := Aside0.mk (below_step (by repeat (first | (with_reducible first | exact HB.out | apply below_alloc | apply pw_below_drewN | apply below_drew1) | exact HB.out)) hb); have n1_ := Aside0.mk (hbox); have n2_ := Aside0.mk ((by rw [hg]; exact (below_size (by repeat (first | (with_reducible first | exact HB.out | apply below_alloc | apply pw_below_drewN | apply below_drew1) | exact HB.out))) : w.heap.size ≤ gb125)); have n3_ := Aside0.mk ((by rw [hg]; exact (below_size (by repeat (first | (with_reducible first | exact HB.out | apply below_alloc | apply pw_below_drewN | apply below_drew1) | exact HB.out))) : w.heap.size ≤ gb125)); clear HB; have HB := n0_; have BK125 := n1_; have GW125 := n2_; have GE125 := n3_; clear n0_ n1_ n2_ n3_; clear hb hbox hg; have hcz9_0 : w8.cell? ⟨gb125, 0, none⟩ = some (.int .i64 0) := (blk_cell BK125.out 0).trans rfl; have hcz9_1 : w8.cell? ⟨gb125, 1, none⟩ = some (.int .i64 0) := (blk_cell BK125.out 1).trans rfl; have hcz9_2 : w8.cell? ⟨gb125, 2, none⟩ = some (.string (⟨#[]⟩ : ByteArray)) := (blk_cell BK125.out 2).trans rfl; have hfz9_0 := blk_frozen BK125.out 0; have hfz9_1 := blk_frozen BK125.out 1; have hfz9_2 := blk_frozen BK125.out 2))
                    (try simp only [Act.put, List.setIfInBounds_toArray, List.set_cons_zero, List.set_cons_succ])
                    go_cut [43] (fun v43 wc => ∃ (kq : Nat) (x43_6 : Bool), v43 = .bool x43_6 ∧ Aside0 (spec_validMods.j2 kq l0 x3_1 x4_2 0 (wrap64 ((l0.length : Int) - 1)) x43_6 ((rd_T74 ((rd_T72 l0 x3_1).f0) x4_2).f0) ((rd_T74 ((rd_T72 l0 x3_1).f0) x4_2).f1) ((rd_T74 ((rd_T72 l0 x3_1).f0) x4_2).f2) = some r) ∧ Aside0 (kq ≤ k2) ∧ Aside0 (wc.heap[gb125]? = some (.cells #[.int .i64 ((rd_T74 ((rd_T72 l0 x3_1).f0) x4_2).f0), .int .i64 ((rd_T74 ((rd_T72 l0 x3_1).f0) x4_2).f1), .string ((rd_T74 ((rd_T72 l0 x3_1).f0) x4_2).f2)] 74 (0, 0))) ∧ Aside0 (Below w.heap.size w wc))
                    case first =>
                      have H := HC7.out
                      clear HC7
                      by_cases c10 : ((rd_T74 ((rd_T72 l0 x3_1).f0) x4_2).f0) = 3
                      · rw [if_pos c10] at H
                        have c10b0 : (((rd_T74 ((rd_T72 l0 x3_1).f0) x4_2).f0) == 3) = true := beq_iff_eq.mpr c10
                        have c10b1 : (((rd_T74 ((rd_T72 l0 x3_1).f0) x4_2).f0) != 3) = false := bne_eq_false_iff_eq.mpr c10
                        clear c10
                        (first | rw [c10b0] | (simp only [i64_w, i32_w]; rw [c10b0]) | skip)
                        have H' := Aside0.mk H
                        clear H
                        have hcz11_0 : w8.cell? ⟨gb125, 0, none⟩ = some (.int .i64 0) := (blk_cell BK125.out 0).trans rfl
                        have hcz11_1 : w8.cell? ⟨gb125, 1, none⟩ = some (.int .i64 0) := (blk_cell BK125.out 1).trans rfl
                        have hcz11_2 : w8.cell? ⟨gb125, 2, none⟩ = some (.string (⟨#[]⟩ : ByteArray)) := (blk_cell BK125.out 2).trans rfl
                        have hfz11_0 := blk_frozen BK125.out 0
                        have hfz11_1 := blk_frozen BK125.out 1
                        have hfz11_2 := blk_frozen BK125.out 2
                        go_wp2
                        go_meet
                        case rel => exact ⟨_, (true), (by first | rfl | (simp; done) | (simp [*]; done)), H', ⟨by have := HK1.out; have := HK2.out; first | omega | exact Nat.le_refl _⟩, ⟨by (with_reducible repeat (first | refine blk_drewN ?_ _ | refine blk_drew ?_ | refine blk_alloc ?_ _)); refine blk_put (cs := #[.int .i64 ((rd_T74 ((rd_T72 l0 x3_1).f0) x4_2).f0), .int .i64 ((rd_T74 ((rd_T72 l0 x3_1).f0) x4_2).f1), .string (⟨#[]⟩ : ByteArray)]) ?_ 2 _ rfl; (with_reducible repeat (first | refine blk_drewN ?_ _ | refine blk_drew ?_ | refine blk_alloc ?_ _)); refine blk_put (cs := #[.int .i64 ((rd_T74 ((rd_T72 l0 x3_1).f0) x4_2).f0), .int .i64 0, .string (⟨#[]⟩ : ByteArray)]) ?_ 1 _ rfl; (with_reducible repeat (first | refine blk_drewN ?_ _ | refine blk_drew ?_ | refine blk_alloc ?_ _)); refine blk_put (cs := #[.int .i64 0, .int .i64 0, .string (⟨#[]⟩ : ByteArray)]) ?_ 0 _ rfl; (with_reducible repeat (first | refine blk_drewN ?_ _ | refine blk_drew ?_ | refine blk_alloc ?_ _)); exact BK125.out⟩, ⟨by repeat (first | (with_reducible first | exact HB.out | apply below_alloc | apply pw_below_drewN | apply below_drew1 | refine below_set ?_ GE125.out) | exact HB.out)⟩⟩
                      · rw [if_neg c10] at H
                        have c10b0 : (((rd_T74 ((rd_T72 l0 x3_1).f0) x4_2).f0) == 3) = false := beq_eq_false_iff_ne.mpr c10
                        have c10b1 : (((rd_T74 ((rd_T72 l0 x3_1).f0) x4_2).f0) != 3) = true := bne_iff_ne.mpr c10
                        (first | rw [c10b0] | (simp only [i64_w, i32_w]; rw [c10b0]) | skip)
                        have H' := Aside0.mk H
                        clear H
                        have hcz12_0 : w8.cell? ⟨gb125, 0, none⟩ = some (.int .i64 0) := (blk_cell BK125.out 0).trans rfl
                        have hcz12_1 : w8.cell? ⟨gb125, 1, none⟩ = some (.int .i64 0) := (blk_cell BK125.out 1).trans rfl
                        have hcz12_2 : w8.cell? ⟨gb125, 2, none⟩ = some (.string (⟨#[]⟩ : ByteArray)) := (blk_cell BK125.out 2).trans rfl
                        have hfz12_0 := blk_frozen BK125.out 0
                        have hfz12_1 := blk_frozen BK125.out 1
                        have hfz12_2 := blk_frozen BK125.out 2
                        go_wp2
                        go_meet
                        case rel => exact ⟨_, ((((rd_T74 ((rd_T72 l0 x3_1).f0) x4_2).f0) == 5)), (by first | rfl | (simp; done) | (simp [*]; done)), H', ⟨by have := HK1.out; have := HK2.out; first | omega | exact Nat.le_refl _⟩, ⟨by (with_reducible repeat (first | refine blk_drewN ?_ _ | refine blk_drew ?_ | refine blk_alloc ?_ _)); refine blk_put (cs := #[.int .i64 ((rd_T74 ((rd_T72 l0 x3_1).f0) x4_2).f0), .int .i64 ((rd_T74 ((rd_T72 l0 x3_1).f0) x4_2).f1), .string (⟨#[]⟩ : ByteArray)]) ?_ 2 _ rfl; (with_reducible repeat (first | refine blk_drewN ?_ _ | refine blk_drew ?_ | refine blk_alloc ?_ _)); refine blk_put (cs := #[.int .i64 ((rd_T74 ((rd_T72 l0 x3_1).f0) x4_2).f0), .int .i64 0, .string (⟨#[]⟩ : ByteArray)]) ?_ 1 _ rfl; (with_reducible repeat (first | refine blk_drewN ?_ _ | refine blk_drew ?_ | refine blk_alloc ?_ _)); refine blk_put (cs := #[.int .i64 0, .int .i64 0, .string (⟨#[]⟩ : ByteArray)]) ?_ 0 _ rfl; (with_reducible repeat (first | refine blk_drewN ?_ _ | refine blk_drew ?_ | refine blk_alloc ?_ _)); exact BK125.out⟩, ⟨by repeat (first | (with_reducible first | exact HB.out | apply below_alloc | apply pw_below_drewN | apply below_drew1 | refine below_set ?_ GE125.out) | exact HB.out)⟩⟩
                    case rest =>
                      clear HC7
                      try clear c1
                      try clear p1
                      try clear q1
                      try clear hx1
                      try clear c2
                      try clear c2b0
                      try clear p2
                      try clear c3
                      try clear c3b0
                      try clear c4
                      try clear c4b0
                      try clear c5
                      try clear c5b0
                      try clear c6
                      try clear c6b0
                      try clear p6
                      try clear c10
                      try clear c10b0
                      try clear c10b1
                      try clear c12
                      try clear p12
                      try clear q12
                      try clear hx12
                      try clear hcz11_0
                      try clear hcz11_1
                      try clear hcz11_2
                      try clear hcz12_0
                      try clear hcz12_1
                      try clear hcz12_2
                      try clear hcz9_0
                      try clear hcz9_1
                      try clear hcz9_2
                      try clear hfz11_0
                      try clear hfz11_1
                      try clear hfz11_2
                      try clear hfz12_0
                      try clear hfz12_1
                      try clear hfz12_2
                      try clear hfz9_0
                      try clear hfz9_1
                      try clear hfz9_2
                      try clear hx121_0
                      try clear hx123_0
                      try clear hx124_0
                      try clear hx124_1
                      try clear hx124_2
                      try clear p121
                      try clear p123
                      try clear p124
                      try clear p2
                      try clear q121
                      try clear q123
                      try clear q124
                      obtain ⟨kq, x43_6, rfl, HA, HJ6, BK125, HB⟩ := hcut
                      cases kq with
                      | zero => exact absurd HA.out (by simp [spec_validMods.j2])
                      | succ kj6 =>
                        have H := HA.out
                        clear HA
                        simp only [spec_validMods.j2] at H
                        have HC13 := Aside0.mk H
                        clear H
                        go_upto_if 43 with (fail)
                        go_cut [7] (fun v7 wc => ∃ (kq : Nat) (x7_12 : Int), v7 = .int .i64 x7_12 ∧ Aside0 (spec_validMods.j3 kq l0 x3_1 x4_2 0 x7_12 ((rd_T74 ((rd_T72 l0 x3_1).f0) x4_2).f0) ((rd_T74 ((rd_T72 l0 x3_1).f0) x4_2).f1) ((rd_T74 ((rd_T72 l0 x3_1).f0) x4_2).f2) = some r) ∧ Aside0 (kq ≤ kj6) ∧ Aside0 (wc.heap[gb125]? = some (.cells #[.int .i64 ((rd_T74 ((rd_T72 l0 x3_1).f0) x4_2).f0), .int .i64 ((rd_T74 ((rd_T72 l0 x3_1).f0) x4_2).f1), .string ((rd_T74 ((rd_T72 l0 x3_1).f0) x4_2).f2)] 74 (0, 0))) ∧ Aside0 (Below w.heap.size w wc))
                        case first =>
                          have H := HC13.out
                          clear HC13
                          by_cases c14 : x43_6 = true
                          · subst c14
                            have H1 : (spec_validMods.j3 kj6 l0 x3_1 x4_2 0 1000000 ((rd_T74 ((rd_T72 l0 x3_1).f0) x4_2).f0) ((rd_T74 ((rd_T72 l0 x3_1).f0) x4_2).f1) ((rd_T74 ((rd_T72 l0 x3_1).f0) x4_2).f2)) = some r := by rw [if_pos rfl] at H; exact H
                            clear H
                            have H := H1
                            clear H1
                            have H' := Aside0.mk H
                            clear H
                            go_wp2
                            go_meet
                            case rel => exact ⟨_, (1000000), (by first | rfl | (simp; done) | (simp [*]; done)), H', ⟨by have := HK1.out; have := HK2.out; have := HJ6.out; first | omega | exact Nat.le_refl _⟩, ⟨by (with_reducible repeat (first | refine blk_drewN ?_ _ | refine blk_drew ?_ | refine blk_alloc ?_ _)); exact BK125.out⟩, ⟨by repeat (first | (with_reducible first | exact HB.out | apply below_alloc | apply pw_below_drewN | apply below_drew1 | refine below_set ?_ GE125.out) | exact HB.out)⟩⟩
                          · replace c14 := Bool.eq_false_iff.mpr c14
                            subst c14
                            have H1 : (spec_validMods.j3 kj6 l0 x3_1 x4_2 0 (wrap64 ((l0.length : Int) - 1)) ((rd_T74 ((rd_T72 l0 x3_1).f0) x4_2).f0) ((rd_T74 ((rd_T72 l0 x3_1).f0) x4_2).f1) ((rd_T74 ((rd_T72 l0 x3_1).f0) x4_2).f2)) = some r := by rw [if_neg (show ¬ (false = true) by decide)] at H; exact H
                            clear H
                            have H := H1
                            clear H1
                            have H' := Aside0.mk H
                            clear H
                            go_wp2
                            go_meet
                            case rel => exact ⟨_, ((wrap64 ((l0.length : Int) - 1))), (by first | rfl | (simp; done) | (simp [*]; done)), H', ⟨by have := HK1.out; have := HK2.out; have := HJ6.out; first | omega | exact Nat.le_refl _⟩, ⟨by (with_reducible repeat (first | refine blk_drewN ?_ _ | refine blk_drew ?_ | refine blk_alloc ?_ _)); exact BK125.out⟩, ⟨by repeat (first | (with_reducible first | exact HB.out | apply below_alloc | apply pw_below_drewN | apply below_drew1 | refine below_set ?_ GE125.out) | exact HB.out)⟩⟩
                        case rest =>
                          clear HC13
                          try clear c1
                          try clear p1
                          try clear q1
                          try clear hx1
                          try clear c2
                          try clear c2b0
                          try clear p2
                          try clear c3
                          try clear c3b0
                          try clear c4
                          try clear c4b0
                          try clear c5
                          try clear c5b0
                          try clear c6
                          try clear c6b0
                          try clear p6
                          try clear c10
                          try clear c10b0
                          try clear c10b1
                          try clear c12
                          try clear p12
                          try clear q12
                          try clear hx12
                          try clear c14
                          try clear hcz11_0
                          try clear hcz11_1
                          try clear hcz11_2
                          try clear hcz12_0
                          try clear hcz12_1
                          try clear hcz12_2
                          try clear hcz9_0
                          try clear hcz9_1
                          try clear hcz9_2
                          try clear hfz11_0
                          try clear hfz11_1
                          try clear hfz11_2
                          try clear hfz12_0
                          try clear hfz12_1
                          try clear hfz12_2
                          try clear hfz9_0
                          try clear hfz9_1
                          try clear hfz9_2
                          try clear hx121_0
                          try clear hx123_0
                          try clear hx124_0
                          try clear hx124_1
                          try clear hx124_2
                          try clear p1
                          try clear p12
                          try clear p121
                          try clear p123
                          try clear p124
                          try clear p2
                          try clear p6
                          try clear q1
                          try clear q12
                          try clear q121
                          try clear q123
                          try clear q124
                          obtain ⟨kq, x7_12, rfl, HA, HJ12, BK125, HB⟩ := hcut
                          cases kq with
                          | zero => exact absurd HA.out (by simp [spec_validMods.j3])
                          | succ kj12 =>
                            have H := HA.out
                            clear HA
                            simp only [spec_validMods.j3] at H
                            have HC15 := Aside0.mk H
                            clear H
                            go_upto_region 12 with (fail)
                            go_cut [8] (fun v8 wc => ∃ (kq : Nat) (x8_14 : Bool), v8 = .bool x8_14 ∧ Aside0 (spec_validMods.j4 kq l0 x3_1 x4_2 0 x7_12 x8_14 ((rd_T74 ((rd_T72 l0 x3_1).f0) x4_2).f0) ((rd_T74 ((rd_T72 l0 x3_1).f0) x4_2).f1) ((rd_T74 ((rd_T72 l0 x3_1).f0) x4_2).f2) = some r) ∧ Aside0 (kq ≤ kj12) ∧ Aside0 (wc.heap[gb125]? = some (.cells #[.int .i64 ((rd_T74 ((rd_T72 l0 x3_1).f0) x4_2).f0), .int .i64 ((rd_T74 ((rd_T72 l0 x3_1).f0) x4_2).f1), .string ((rd_T74 ((rd_T72 l0 x3_1).f0) x4_2).f2)] 74 (0, 0))) ∧ Aside0 (Below w.heap.size w wc))
                            case first =>
                              have H := HC15.out
                              clear HC15
                              by_cases c16 : ((rd_T74 ((rd_T72 l0 x3_1).f0) x4_2).f0) = 3
                              · rw [if_pos c16] at H
                                have c16b0 : (((rd_T74 ((rd_T72 l0 x3_1).f0) x4_2).f0) == 3) = true := beq_iff_eq.mpr c16
                                have c16b1 : (((rd_T74 ((rd_T72 l0 x3_1).f0) x4_2).f0) != 3) = false := bne_eq_false_iff_eq.mpr c16
                                clear c16
                                (first | rw [c16b0] | (simp only [i64_w, i32_w]; rw [c16b0]) | skip)
                                have H' := Aside0.mk H
                                clear H
                                have hcz17_0 : wc.cell? ⟨gb125, 0, none⟩ = some (.int .i64 ((rd_T74 ((rd_T72 l0 x3_1).f0) x4_2).f0)) := (blk_cell BK125.out 0).trans rfl
                                have hcz17_1 : wc.cell? ⟨gb125, 1, none⟩ = some (.int .i64 ((rd_T74 ((rd_T72 l0 x3_1).f0) x4_2).f1)) := (blk_cell BK125.out 1).trans rfl
                                have hcz17_2 : wc.cell? ⟨gb125, 2, none⟩ = some (.string ((rd_T74 ((rd_T72 l0 x3_1).f0) x4_2).f2)) := (blk_cell BK125.out 2).trans rfl
                                have hfz17_0 := blk_frozen BK125.out 0
                                have hfz17_1 := blk_frozen BK125.out 1
                                have hfz17_2 := blk_frozen BK125.out 2
                                go_wp2
                                go_meet
                                case rel => exact ⟨_, (true), (by first | rfl | (simp; done) | (simp [*]; done)), H', ⟨by have := HK1.out; have := HK2.out; have := HJ6.out; have := HJ12.out; first | omega | exact Nat.le_refl _⟩, ⟨by (with_reducible repeat (first | refine blk_drewN ?_ _ | refine blk_drew ?_ | refine blk_alloc ?_ _)); exact BK125.out⟩, ⟨by repeat (first | (with_reducible first | exact HB.out | apply below_alloc | apply pw_below_drewN | apply below_drew1 | refine below_set ?_ GE125.out) | exact HB.out)⟩⟩
                              · rw [if_neg c16] at H
                                have c16b0 : (((rd_T74 ((rd_T72 l0 x3_1).f0) x4_2).f0) == 3) = false := beq_eq_false_iff_ne.mpr c16
                                have c16b1 : (((rd_T74 ((rd_T72 l0 x3_1).f0) x4_2).f0) != 3) = true := bne_iff_ne.mpr c16
                                (first | rw [c16b0] | (simp only [i64_w, i32_w]; rw [c16b0]) | skip)
                                have H' := Aside0.mk H
                                clear H
                                have hcz18_0 : wc.cell? ⟨gb125, 0, none⟩ = some (.int .i64 ((rd_T74 ((rd_T72 l0 x3_1).f0) x4_2).f0)) := (blk_cell BK125.out 0).trans rfl
                                have hcz18_1 : wc.cell? ⟨gb125, 1, none⟩ = some (.int .i64 ((rd_T74 ((rd_T72 l0 x3_1).f0) x4_2).f1)) := (blk_cell BK125.out 1).trans rfl
                                have hcz18_2 : wc.cell? ⟨gb125, 2, none⟩ = some (.string ((rd_T74 ((rd_T72 l0 x3_1).f0) x4_2).f2)) := (blk_cell BK125.out 2).trans rfl
                                have hfz18_0 := blk_frozen BK125.out 0
                                have hfz18_1 := blk_frozen BK125.out 1
                                have hfz18_2 := blk_frozen BK125.out 2
                                go_wp2
                                go_meet
                                case rel => exact ⟨_, ((((rd_T74 ((rd_T72 l0 x3_1).f0) x4_2).f0) == 4)), (by first | rfl | (simp; done) | (simp [*]; done)), H', ⟨by have := HK1.out; have := HK2.out; have := HJ6.out; have := HJ12.out; first | omega | exact Nat.le_refl _⟩, ⟨by (with_reducible repeat (first | refine blk_drewN ?_ _ | refine blk_drew ?_ | refine blk_alloc ?_ _)); exact BK125.out⟩, ⟨by repeat (first | (with_reducible first | exact HB.out | apply below_alloc | apply pw_below_drewN | apply below_drew1 | refine below_set ?_ GE125.out) | exact HB.out)⟩⟩
                            case rest =>
                              clear HC15
                              try clear c1
                              try clear p1
                              try clear q1
                              try clear hx1
                              try clear c2
                              try clear c2b0
                              try clear p2
                              try clear c3
                              try clear c3b0
                              try clear c4
                              try clear c4b0
                              try clear c5
                              try clear c5b0
                              try clear c6
                              try clear c6b0
                              try clear p6
                              try clear c10
                              try clear c10b0
                              try clear c10b1
                              try clear c12
                              try clear p12
                              try clear q12
                              try clear hx12
                              try clear c14
                              try clear c16
                              try clear c16b0
                              try clear c16b1
                              try clear hcz11_0
                              try clear hcz11_1
                              try clear hcz11_2
                              try clear hcz12_0
                              try clear hcz12_1
                              try clear hcz12_2
                              try clear hcz17_0
                              try clear hcz17_1
                              try clear hcz17_2
                              try clear hcz18_0
                              try clear hcz18_1
                              try clear hcz18_2
                              try clear hcz9_0
                              try clear hcz9_1
                              try clear hcz9_2
                              try clear hfz11_0
                              try clear hfz11_1
                              try clear hfz11_2
                              try clear hfz12_0
                              try clear hfz12_1
                              try clear hfz12_2
                              try clear hfz17_0
                              try clear hfz17_1
                              try clear hfz17_2
                              try clear hfz18_0
                              try clear hfz18_1
                              try clear hfz18_2
                              try clear hfz9_0
                              try clear hfz9_1
                              try clear hfz9_2
                              try clear hx121_0
                              try clear hx123_0
                              try clear hx124_0
                              try clear hx124_1
                              try clear hx124_2
                              try clear p1
                              try clear p12
                              try clear p121
                              try clear p123
                              try clear p124
                              try clear p2
                              try clear p6
                              try clear q1
                              try clear q12
                              try clear q121
                              try clear q123
                              try clear q124
                              obtain ⟨kq, x8_14, rfl, HA, HJ14, BK125, HB⟩ := hcut
                              cases kq with
                              | zero => exact absurd HA.out (by simp [spec_validMods.j4])
                              | succ kj14 =>
                                have H := HA.out
                                clear HA
                                simp only [spec_validMods.j4] at H
                                replace H := Option.bind_eq_some_iff.mp H
                                obtain ⟨t126, A190, H⟩ := H
                                replace H : (if t126 = true then ((spec_inRange.f ((rd_T74 ((rd_T72 l0 x3_1).f0) x4_2).f1) 0 x7_12).bind fun t127 => (if t127 = true then (if (x8_14 != (((rd_T74 ((rd_T72 l0 x3_1).f0) x4_2).f2).toList != ([] : List UInt8))) = true then (some false) else (if x8_14 = true then ((spec_validName.f kj14 ((rd_T74 ((rd_T72 l0 x3_1).f0) x4_2).f2)).bind fun t128 => (if t128 = true then (spec_validMods.l1 kj14 l0 x3_1 (wrap64 (x4_2 + 1))) else (some false))) else (spec_validMods.l1 kj14 l0 x3_1 (wrap64 (x4_2 + 1))))) else (some false))) else (some false)) = some r := H
                                have A19 := Aside0.mk A190
                                clear A190
                                by_cases c20 : t126 = true
                                · subst c20
                                  have H1 : ((spec_inRange.f ((rd_T74 ((rd_T72 l0 x3_1).f0) x4_2).f1) 0 x7_12).bind fun t127 => (if t127 = true then (if (x8_14 != (((rd_T74 ((rd_T72 l0 x3_1).f0) x4_2).f2).toList != ([] : List UInt8))) = true then (some false) else (if x8_14 = true then ((spec_validName.f kj14 ((rd_T74 ((rd_T72 l0 x3_1).f0) x4_2).f2)).bind fun t128 => (if t128 = true then (spec_validMods.l1 kj14 l0 x3_1 (wrap64 (x4_2 + 1))) else (some false))) else (spec_validMods.l1 kj14 l0 x3_1 (wrap64 (x4_2 + 1))))) else (some false))) = some r := by rw [if_pos rfl] at H; exact H
                                  clear H
                                  have H := H1
                                  clear H1
                                  replace H := Option.bind_eq_some_iff.mp H
                                  obtain ⟨t127, A210, H⟩ := H
                                  replace H : (if t127 = true then (if (x8_14 != (((rd_T74 ((rd_T72 l0 x3_1).f0) x4_2).f2).toList != ([] : List UInt8))) = true then (some false) else (if x8_14 = true then ((spec_validName.f kj14 ((rd_T74 ((rd_T72 l0 x3_1).f0) x4_2).f2)).bind fun t128 => (if t128 = true then (spec_validMods.l1 kj14 l0 x3_1 (wrap64 (x4_2 + 1))) else (some false))) else (spec_validMods.l1 kj14 l0 x3_1 (wrap64 (x4_2 + 1))))) else (some false)) = some r := H
                                  have A21 := Aside0.mk A210
                                  clear A210
                                  by_cases c22 : t127 = true
                                  · subst c22
                                    have H1 : (if (x8_14 != (((rd_T74 ((rd_T72 l0 x3_1).f0) x4_2).f2).toList != ([] : List UInt8))) = true then (some false) else (if x8_14 = true then ((spec_validName.f kj14 ((rd_T74 ((rd_T72 l0 x3_1).f0) x4_2).f2)).bind fun t128 => (if t128 = true then (spec_validMods.l1 kj14 l0 x3_1 (wrap64 (x4_2 + 1))) else (some false))) else (spec_validMods.l1 kj14 l0 x3_1 (wrap64 (x4_2 + 1))))) = some r := by rw [if_pos rfl] at H; exact H
                                    clear H
                                    have H := H1
                                    clear H1
                                    by_cases c23 : (x8_14 != (((rd_T74 ((rd_T72 l0 x3_1).f0) x4_2).f2).toList != ([] : List UInt8))) = true
                                    · rw [if_pos c23] at H
                                      have c23b0 : (x8_14 != (((rd_T74 ((rd_T72 l0 x3_1).f0) x4_2).f2).toList != ([] : List UInt8))) = true := c23
                                      have c23b9 := bne_empty_t c23
                                      (try (have c23b1 : decide (x8_14 = (((rd_T74 ((rd_T72 l0 x3_1).f0) x4_2).f2).toList != ([] : List UInt8))) = false := by simpa using c23))
                                      (try (have c23b2 : (x8_14 == (((rd_T74 ((rd_T72 l0 x3_1).f0) x4_2).f2).toList != ([] : List UInt8))) = false := by simpa using c23))
                                      (try (have c23b3 : ¬ (x8_14 = (((rd_T74 ((rd_T72 l0 x3_1).f0) x4_2).f2).toList != ([] : List UInt8))) := by simpa using c23))
                                      clear c23
                                      obtain rfl := Option.some.inj H
                                      have hcz24_0 : wc.cell? ⟨gb125, 0, none⟩ = some (.int .i64 ((rd_T74 ((rd_T72 l0 x3_1).f0) x4_2).f0)) := (blk_cell BK125.out 0).trans rfl
                                      have hcz24_1 : wc.cell? ⟨gb125, 1, none⟩ = some (.int .i64 ((rd_T74 ((rd_T72 l0 x3_1).f0) x4_2).f1)) := (blk_cell BK125.out 1).trans rfl
                                      have hcz24_2 : wc.cell? ⟨gb125, 2, none⟩ = some (.string ((rd_T74 ((rd_T72 l0 x3_1).f0) x4_2).f2)) := (blk_cell BK125.out 2).trans rfl
                                      have hfz24_0 := blk_frozen BK125.out 0
                                      have hfz24_1 := blk_frozen BK125.out 1
                                      have hfz24_2 := blk_frozen BK125.out 2
                                      go_wp2_with (first | ((with_reducible refine gate_callee (f := 54) rfl ?_); refine goesL_ (some 54) rfl rfl Try.func54 (by kernel_rfl) rfl #[.int .i64 ((rd_T74 ((rd_T72 l0 x3_1).f0) x4_2).f0), .int .i64 1, .int .i64 5] rfl (by (try simp only [List.map_toArray, List.map_cons, List.map_nil]); first | done | rfl | (simp only [List.length_drop, List.length_take]; rfl)) ?_; (with_reducible refine (spec_inRange.calls ((rd_T74 ((rd_T72 l0 x3_1).f0) x4_2).f0) 1 5 true _ A19.out).mono ?_); rintro e w' ⟨rfl, ⟨nd, rfl⟩⟩; refine ⟨_, rfl, ?_⟩) | (go_at_call 54; (with_reducible refine (spec_inRange.calls ((rd_T74 ((rd_T72 l0 x3_1).f0) x4_2).f1) 0 x7_12 true _ A21.out).mono ?_); rintro e w' ⟨rfl, ⟨nd, rfl⟩⟩))
                                      go_ret
                                      exact ⟨by first | rfl | (simp [errW_none, errW_some] <;> rfl) | (simp [*, errW_none, errW_some] <;> rfl), by repeat (first | (with_reducible first | exact HB.out | apply below_alloc | apply pw_below_drewN | apply below_drew1 | refine below_set ?_ GE125.out) | exact HB.out)⟩
                                    · rw [if_neg c23] at H
                                      have c23b0 : (x8_14 != (((rd_T74 ((rd_T72 l0 x3_1).f0) x4_2).f2).toList != ([] : List UInt8))) = false := by simpa using c23
                                      have c23b9 := bne_empty_f c23
                                      (try (have c23b1 : decide (x8_14 = (((rd_T74 ((rd_T72 l0 x3_1).f0) x4_2).f2).toList != ([] : List UInt8))) = true := by simpa using c23))
                                      (try (have c23b2 : (x8_14 == (((rd_T74 ((rd_T72 l0 x3_1).f0) x4_2).f2).toList != ([] : List UInt8))) = true := by simpa using c23))
                                      clear c23
                                      by_cases c25 : x8_14 = true
                                      · subst c25
                                        obtain ⟨c25e1, c25e2⟩ := ne_of_true c23b9
                                        have H1 : ((spec_validName.f kj14 ((rd_T74 ((rd_T72 l0 x3_1).f0) x4_2).f2)).bind fun t128 => (if t128 = true then (spec_validMods.l1 kj14 l0 x3_1 (wrap64 (x4_2 + 1))) else (some false))) = some r := by rw [if_pos rfl] at H; exact H
                                        clear H
                                        have H := H1
                                        clear H1
                                        replace H := Option.bind_eq_some_iff.mp H
                                        obtain ⟨t128, A260, H⟩ := H
                                        replace H : (if t128 = true then (spec_validMods.l1 kj14 l0 x3_1 (wrap64 (x4_2 + 1))) else (some false)) = some r := H
                                        have A26 := Aside0.mk A260
                                        clear A260
                                        by_cases c27 : t128 = true
                                        · subst c27
                                          have H1 : (spec_validMods.l1 kj14 l0 x3_1 (wrap64 (x4_2 + 1))) = some r := by rw [if_pos rfl] at H; exact H
                                          clear H
                                          have H := H1
                                          clear H1
                                          have H' := Aside0.mk H
                                          clear H
                                          have hcz28_0 : wc.cell? ⟨gb125, 0, none⟩ = some (.int .i64 ((rd_T74 ((rd_T72 l0 x3_1).f0) x4_2).f0)) := (blk_cell BK125.out 0).trans rfl
                                          have hcz28_1 : wc.cell? ⟨gb125, 1, none⟩ = some (.int .i64 ((rd_T74 ((rd_T72 l0 x3_1).f0) x4_2).f1)) := (blk_cell BK125.out 1).trans rfl
                                          have hcz28_2 : wc.cell? ⟨gb125, 2, none⟩ = some (.string ((rd_T74 ((rd_T72 l0 x3_1).f0) x4_2).f2)) := (blk_cell BK125.out 2).trans rfl
                                          have hfz28_0 := blk_frozen BK125.out 0
                                          have hfz28_1 := blk_frozen BK125.out 1
                                          have hfz28_2 := blk_frozen BK125.out 2
                                          go_wp2_with (first | ((with_reducible refine gate_callee (f := 54) rfl ?_); refine goesL_ (some 54) rfl rfl Try.func54 (by kernel_rfl) rfl #[.int .i64 ((rd_T74 ((rd_T72 l0 x3_1).f0) x4_2).f0), .int .i64 1, .int .i64 5] rfl (by (try simp only [List.map_toArray, List.map_cons, List.map_nil]); first | done | rfl | (simp only [List.length_drop, List.length_take]; rfl)) ?_; (with_reducible refine (spec_inRange.calls ((rd_T74 ((rd_T72 l0 x3_1).f0) x4_2).f0) 1 5 true _ A19.out).mono ?_); rintro e w' ⟨rfl, ⟨nd, rfl⟩⟩; refine ⟨_, rfl, ?_⟩) | (go_at_call 54; (with_reducible refine (spec_inRange.calls ((rd_T74 ((rd_T72 l0 x3_1).f0) x4_2).f1) 0 x7_12 true _ A21.out).mono ?_); rintro e w' ⟨rfl, ⟨nd, rfl⟩⟩) | (go_at_call 100; (with_reducible refine (spec_validName.calls kj14 ((rd_T74 ((rd_T72 l0 x3_1).f0) x4_2).f2) true _ A26.out).mono ?_); rintro e w29 ⟨rfl, hb⟩; have n0_ := Aside0.mk (blk_below (g := gb125) (o := .cells #[.int .i64 ((rd_T74 ((rd_T72 l0 x3_1).f0) x4_2).f0), .int .i64 ((rd_T74 ((rd_T72 l0 x3_1).f0) x4_2).f1), .string ((rd_T74 ((rd_T72 l0 x3_1).f0) x4_2).f2)] 74 (0, 0)) (by (with_reducible repeat (first | refine blk_drewN ?_ _ | refine blk_drew ?_ | refine blk_alloc ?_ _)); exact BK125.out) hb); have n1_ := Aside0.mk (below_step (by repeat (first | (with_reducible first | exact HB.out | apply below_alloc | apply pw_below_drewN | apply below_drew1 | refine below_set ?_ GE125.out) | exact HB.out)) hb); clear BK125; clear HB; have BK125 := n0_; have HB := n1_; clear n0_ n1_; (try clear hb); (try clear hb2); (try clear hk); (try clear hi)))
                                          go_roundg kj14
                                          case measure => have := HK1.out; have := HK2.out; have := HJ6.out; have := HJ12.out; have := HJ14.out; omega
                                          case rel => exact ⟨(wrap64 (x4_2 + 1)), (by first | rfl | (simp; done) | (simp [*]; done)), H', ⟨by have := HK1.out; have := HK2.out; have := HJ6.out; have := HJ12.out; have := HJ14.out; omega⟩, ⟨by repeat (first | (with_reducible first | exact HB.out | apply below_alloc | apply pw_below_drewN | apply below_drew1 | refine below_set ?_ GE125.out) | exact HB.out)⟩⟩
                                        · replace c27 := Bool.eq_false_iff.mpr c27
                                          subst c27
                                          have H1 : (some false) = some r := by rw [if_neg (show ¬ (false = true) by decide)] at H; exact H
                                          clear H
                                          have H := H1
                                          clear H1
                                          obtain rfl := Option.some.inj H
                                          have hcz30_0 : wc.cell? ⟨gb125, 0, none⟩ = some (.int .i64 ((rd_T74 ((rd_T72 l0 x3_1).f0) x4_2).f0)) := (blk_cell BK125.out 0).trans rfl
                                          have hcz30_1 : wc.cell? ⟨gb125, 1, none⟩ = some (.int .i64 ((rd_T74 ((rd_T72 l0 x3_1).f0) x4_2).f1)) := (blk_cell BK125.out 1).trans rfl
                                          have hcz30_2 : wc.cell? ⟨gb125, 2, none⟩ = some (.string ((rd_T74 ((rd_T72 l0 x3_1).f0) x4_2).f2)) := (blk_cell BK125.out 2).trans rfl
                                          have hfz30_0 := blk_frozen BK125.out 0
                                          have hfz30_1 := blk_frozen BK125.out 1
                                          have hfz30_2 := blk_frozen BK125.out 2
                                          go_wp2_with (first | ((with_reducible refine gate_callee (f := 54) rfl ?_); refine goesL_ (some 54) rfl rfl Try.func54 (by kernel_rfl) rfl #[.int .i64 ((rd_T74 ((rd_T72 l0 x3_1).f0) x4_2).f0), .int .i64 1, .int .i64 5] rfl (by (try simp only [List.map_toArray, List.map_cons, List.map_nil]); first | done | rfl | (simp only [List.length_drop, List.length_take]; rfl)) ?_; (with_reducible refine (spec_inRange.calls ((rd_T74 ((rd_T72 l0 x3_1).f0) x4_2).f0) 1 5 true _ A19.out).mono ?_); rintro e w' ⟨rfl, ⟨nd, rfl⟩⟩; refine ⟨_, rfl, ?_⟩) | (go_at_call 54; (with_reducible refine (spec_inRange.calls ((rd_T74 ((rd_T72 l0 x3_1).f0) x4_2).f1) 0 x7_12 true _ A21.out).mono ?_); rintro e w' ⟨rfl, ⟨nd, rfl⟩⟩) | (go_at_call 100; (with_reducible refine (spec_validName.calls kj14 ((rd_T74 ((rd_T72 l0 x3_1).f0) x4_2).f2) false _ A26.out).mono ?_); rintro e w31 ⟨rfl, hb⟩; have n0_ := Aside0.mk (blk_below (g := gb125) (o := .cells #[.int .i64 ((rd_T74 ((rd_T72 l0 x3_1).f0) x4_2).f0), .int .i64 ((rd_T74 ((rd_T72 l0 x3_1).f0) x4_2).f1), .string ((rd_T74 ((rd_T72 l0 x3_1).f0) x4_2).f2)] 74 (0, 0)) (by (with_reducible repeat (first | refine blk_drewN ?_ _ | refine blk_drew ?_ | refine blk_alloc ?_ _)); exact BK125.out) hb); have n1_ := Aside0.mk (below_step (by repeat (first | (with_reducible first | exact HB.out | apply below_alloc | apply pw_below_drewN | apply below_drew1 | refine below_set ?_ GE125.out) | exact HB.out)) hb); clear BK125; clear HB; have BK125 := n0_; have HB := n1_; clear n0_ n1_; (try clear hb); (try clear hb2); (try clear hk); (try clear hi)))
                                          go_ret
                                          exact ⟨by first | rfl | (simp [errW_none, errW_some] <;> rfl) | (simp [*, errW_none, errW_some] <;> rfl), by repeat (first | (with_reducible first | exact HB.out | apply below_alloc | apply pw_below_drewN | apply below_drew1 | refine below_set ?_ GE125.out) | exact HB.out)⟩
                                      · replace c25 := Bool.eq_false_iff.mpr c25
                                        subst c25
                                        obtain ⟨c25e1, c25e2⟩ := eq_of_false c23b9
                                        have H1 : (spec_validMods.l1 kj14 l0 x3_1 (wrap64 (x4_2 + 1))) = some r := by rw [if_neg (show ¬ (false = true) by decide)] at H; exact H
                                        clear H
                                        have H := H1
                                        clear H1
                                        have H' := Aside0.mk H
                                        clear H
                                        have hcz32_0 : wc.cell? ⟨gb125, 0, none⟩ = some (.int .i64 ((rd_T74 ((rd_T72 l0 x3_1).f0) x4_2).f0)) := (blk_cell BK125.out 0).trans rfl
                                        have hcz32_1 : wc.cell? ⟨gb125, 1, none⟩ = some (.int .i64 ((rd_T74 ((rd_T72 l0 x3_1).f0) x4_2).f1)) := (blk_cell BK125.out 1).trans rfl
                                        have hcz32_2 : wc.cell? ⟨gb125, 2, none⟩ = some (.string ((rd_T74 ((rd_T72 l0 x3_1).f0) x4_2).f2)) := (blk_cell BK125.out 2).trans rfl
                                        have hfz32_0 := blk_frozen BK125.out 0
                                        have hfz32_1 := blk_frozen BK125.out 1
                                        have hfz32_2 := blk_frozen BK125.out 2
                                        go_wp2_with (first | ((with_reducible refine gate_callee (f := 54) rfl ?_); refine goesL_ (some 54) rfl rfl Try.func54 (by kernel_rfl) rfl #[.int .i64 ((rd_T74 ((rd_T72 l0 x3_1).f0) x4_2).f0), .int .i64 1, .int .i64 5] rfl (by (try simp only [List.map_toArray, List.map_cons, List.map_nil]); first | done | rfl | (simp only [List.length_drop, List.length_take]; rfl)) ?_; (with_reducible refine (spec_inRange.calls ((rd_T74 ((rd_T72 l0 x3_1).f0) x4_2).f0) 1 5 true _ A19.out).mono ?_); rintro e w' ⟨rfl, ⟨nd, rfl⟩⟩; refine ⟨_, rfl, ?_⟩) | (go_at_call 54; (with_reducible refine (spec_inRange.calls ((rd_T74 ((rd_T72 l0 x3_1).f0) x4_2).f1) 0 x7_12 true _ A21.out).mono ?_); rintro e w' ⟨rfl, ⟨nd, rfl⟩⟩))
                                        go_roundg kj14
                                        case measure => have := HK1.out; have := HK2.out; have := HJ6.out; have := HJ12.out; have := HJ14.out; omega
                                        case rel => exact ⟨(wrap64 (x4_2 + 1)), (by first | rfl | (simp; done) | (simp [*]; done)), H', ⟨by have := HK1.out; have := HK2.out; have := HJ6.out; have := HJ12.out; have := HJ14.out; omega⟩, ⟨by repeat (first | (with_reducible first | exact HB.out | apply below_alloc | apply pw_below_drewN | apply below_drew1 | refine below_set ?_ GE125.out) | exact HB.out)⟩⟩
                                  · replace c22 := Bool.eq_false_iff.mpr c22
                                    subst c22
                                    have H1 : (some false) = some r := by rw [if_neg (show ¬ (false = true) by decide)] at H; exact H
                                    clear H
                                    have H := H1
                                    clear H1
                                    obtain rfl := Option.some.inj H
                                    have hcz33_0 : wc.cell? ⟨gb125, 0, none⟩ = some (.int .i64 ((rd_T74 ((rd_T72 l0 x3_1).f0) x4_2).f0)) := (blk_cell BK125.out 0).trans rfl
                                    have hcz33_1 : wc.cell? ⟨gb125, 1, none⟩ = some (.int .i64 ((rd_T74 ((rd_T72 l0 x3_1).f0) x4_2).f1)) := (blk_cell BK125.out 1).trans rfl
                                    have hcz33_2 : wc.cell? ⟨gb125, 2, none⟩ = some (.string ((rd_T74 ((rd_T72 l0 x3_1).f0) x4_2).f2)) := (blk_cell BK125.out 2).trans rfl
                                    have hfz33_0 := blk_frozen BK125.out 0
                                    have hfz33_1 := blk_frozen BK125.out 1
                                    have hfz33_2 := blk_frozen BK125.out 2
                                    go_wp2_with (first | ((with_reducible refine gate_callee (f := 54) rfl ?_); refine goesL_ (some 54) rfl rfl Try.func54 (by kernel_rfl) rfl #[.int .i64 ((rd_T74 ((rd_T72 l0 x3_1).f0) x4_2).f0), .int .i64 1, .int .i64 5] rfl (by (try simp only [List.map_toArray, List.map_cons, List.map_nil]); first | done | rfl | (simp only [List.length_drop, List.length_take]; rfl)) ?_; (with_reducible refine (spec_inRange.calls ((rd_T74 ((rd_T72 l0 x3_1).f0) x4_2).f0) 1 5 true _ A19.out).mono ?_); rintro e w' ⟨rfl, ⟨nd, rfl⟩⟩; refine ⟨_, rfl, ?_⟩) | (go_at_call 54; (with_reducible refine (spec_inRange.calls ((rd_T74 ((rd_T72 l0 x3_1).f0) x4_2).f1) 0 x7_12 false _ A21.out).mono ?_); rintro e w' ⟨rfl, ⟨nd, rfl⟩⟩))
                                    go_ret
                                    exact ⟨by first | rfl | (simp [errW_none, errW_some] <;> rfl) | (simp [*, errW_none, errW_some] <;> rfl), by repeat (first | (with_reducible first | exact HB.out | apply below_alloc | apply pw_below_drewN | apply below_drew1 | refine below_set ?_ GE125.out) | exact HB.out)⟩
                                · replace c20 := Bool.eq_false_iff.mpr c20
                                  subst c20
                                  have H1 : (some false) = some r := by rw [if_neg (show ¬ (false = true) by decide)] at H; exact H
                                  clear H
                                  have H := H1
                                  clear H1
                                  obtain rfl := Option.some.inj H
                                  have hcz34_0 : wc.cell? ⟨gb125, 0, none⟩ = some (.int .i64 ((rd_T74 ((rd_T72 l0 x3_1).f0) x4_2).f0)) := (blk_cell BK125.out 0).trans rfl
                                  have hcz34_1 : wc.cell? ⟨gb125, 1, none⟩ = some (.int .i64 ((rd_T74 ((rd_T72 l0 x3_1).f0) x4_2).f1)) := (blk_cell BK125.out 1).trans rfl
                                  have hcz34_2 : wc.cell? ⟨gb125, 2, none⟩ = some (.string ((rd_T74 ((rd_T72 l0 x3_1).f0) x4_2).f2)) := (blk_cell BK125.out 2).trans rfl
                                  have hfz34_0 := blk_frozen BK125.out 0
                                  have hfz34_1 := blk_frozen BK125.out 1
                                  have hfz34_2 := blk_frozen BK125.out 2
                                  go_wp2_with (first | ((with_reducible refine gate_callee (f := 54) rfl ?_); refine goesL_ (some 54) rfl rfl Try.func54 (by kernel_rfl) rfl #[.int .i64 ((rd_T74 ((rd_T72 l0 x3_1).f0) x4_2).f0), .int .i64 1, .int .i64 5] rfl (by (try simp only [List.map_toArray, List.map_cons, List.map_nil]); first | done | rfl | (simp only [List.length_drop, List.length_take]; rfl)) ?_; (with_reducible refine (spec_inRange.calls ((rd_T74 ((rd_T72 l0 x3_1).f0) x4_2).f0) 1 5 false _ A19.out).mono ?_); rintro e w' ⟨rfl, ⟨nd, rfl⟩⟩; refine ⟨_, rfl, ?_⟩))
                                  go_ret
                                  exact ⟨by first | rfl | (simp [errW_none, errW_some] <;> rfl) | (simp [*, errW_none, errW_some] <;> rfl), by repeat (first | (with_reducible first | exact HB.out | apply below_alloc | apply pw_below_drewN | apply below_drew1 | refine below_set ?_ GE125.out) | exact HB.out)⟩
                  · rw [if_neg c6] at H
                    exact absurd H (by simp)
                · rw [if_neg c5] at H
                  have c5b0 : decide (x4_2 < (((rd_T72 l0 x3_1).f0).length : Int)) = false := decide_eq_false c5
                  clear c5
                  by_cases c35 : (((rd_T72 l0 x3_1).f0).length : Int) > 8
                  · rw [if_pos c35] at H
                    have c35b0 : decide (8 < (((rd_T72 l0 x3_1).f0).length : Int)) = true := decide_eq_true c35
                    have c35b1 : decide (8 < ((rd_T72 l0 x3_1).f0).length) = true := decide_eq_true (by omega)
                    clear c35
                    obtain rfl := Option.some.inj H
                    have p121 : 0 ≤ (x3_1 : Int) := of_decide_eq_true (by first | (with_reducible assumption) | assumption)
                    have q121 : x3_1 < (l0.length : Int) := of_decide_eq_true (by first | (with_reducible assumption) | assumption)
                    obtain ⟨ad121, A121_0, c121_0, e121, hx121_0, hl121_0, hi121_0⟩ := at_T72 HR0.out x3_1 p121 q121
                    cases e121
                    replace hx121_0 := (HB.out.cell (World.block_lt_of_cell? w _ hx121_0)).trans hx121_0
                    have HR121_0 := Aside0.mk hi121_0
                    have HC121_0 := Aside0.mk hl121_0
                    clear hi121_0 hl121_0
                    replace p121 := eq_true p121
                    replace q121 := eq_true q121
                    have p122 : 0 ≤ (x3_1 : Int) := of_decide_eq_true (by first | (with_reducible assumption) | assumption)
                    have q122 : x3_1 < (l0.length : Int) := of_decide_eq_true (by first | (with_reducible assumption) | assumption)
                    obtain ⟨ad122, A122_0, c122_0, e122, hx122_0, hl122_0, hi122_0⟩ := at_T72 HR0.out x3_1 p122 q122
                    obtain rfl : ad121 = ad122 := (by injection e122)
                    replace hx122_0 := (HB.out.cell (World.block_lt_of_cell? w _ hx122_0)).trans hx122_0
                    have HR122_0 := Aside0.mk hi122_0
                    have HC122_0 := Aside0.mk hl122_0
                    clear hi122_0 hl122_0
                    replace p122 := eq_true p122
                    replace q122 := eq_true q122
                    have ea_ := Option.some.inj (hx121_0.symm.trans hx122_0)
                    injection ea_ with ea_ en_ ec_
                    subst ea_
                    subst ec_
                    clear en_
                    go_wp2
                    go_ret
                    exact ⟨by first | rfl | (simp [errW_none, errW_some] <;> rfl) | (simp [*, errW_none, errW_some] <;> rfl), by repeat (first | (with_reducible first | exact HB.out | apply below_alloc | apply pw_below_drewN | apply below_drew1) | exact HB.out)⟩
                  · rw [if_neg c35] at H
                    have c35b0 : decide (8 < (((rd_T72 l0 x3_1).f0).length : Int)) = false := decide_eq_false c35
                    have c35b1 : decide (8 < ((rd_T72 l0 x3_1).f0).length) = false := decide_eq_false (by omega)
                    clear c35
                    have H' := Aside0.mk H
                    clear H
                    have p121 : 0 ≤ (x3_1 : Int) := of_decide_eq_true (by first | (with_reducible assumption) | assumption)
                    have q121 : x3_1 < (l0.length : Int) := of_decide_eq_true (by first | (with_reducible assumption) | assumption)
                    obtain ⟨ad121, A121_0, c121_0, e121, hx121_0, hl121_0, hi121_0⟩ := at_T72 HR0.out x3_1 p121 q121
                    cases e121
                    replace hx121_0 := (HB.out.cell (World.block_lt_of_cell? w _ hx121_0)).trans hx121_0
                    have HR121_0 := Aside0.mk hi121_0
                    have HC121_0 := Aside0.mk hl121_0
                    clear hi121_0 hl121_0
                    replace p121 := eq_true p121
                    replace q121 := eq_true q121
                    have p122 : 0 ≤ (x3_1 : Int) := of_decide_eq_true (by first | (with_reducible assumption) | assumption)
                    have q122 : x3_1 < (l0.length : Int) := of_decide_eq_true (by first | (with_reducible assumption) | assumption)
                    obtain ⟨ad122, A122_0, c122_0, e122, hx122_0, hl122_0, hi122_0⟩ := at_T72 HR0.out x3_1 p122 q122
                    obtain rfl : ad121 = ad122 := (by injection e122)
                    replace hx122_0 := (HB.out.cell (World.block_lt_of_cell? w _ hx122_0)).trans hx122_0
                    have HR122_0 := Aside0.mk hi122_0
                    have HC122_0 := Aside0.mk hl122_0
                    clear hi122_0 hl122_0
                    replace p122 := eq_true p122
                    replace q122 := eq_true q122
                    have ea_ := Option.some.inj (hx121_0.symm.trans hx122_0)
                    injection ea_ with ea_ en_ ec_
                    subst ea_
                    subst ec_
                    clear en_
                    go_wp2
                    go_roundg k2
                    case measure => have := HK1.out; have := HK2.out; omega
                    case rel => exact ⟨(wrap64 (x3_1 + 1)), (by first | rfl | (simp; done) | (simp [*]; done)), H', ⟨by have := HK1.out; have := HK2.out; omega⟩, ⟨by repeat (first | (with_reducible first | exact HB.out | apply below_alloc | apply pw_below_drewN | apply below_drew1) | exact HB.out)⟩⟩
              · rw [if_neg c4] at H
                exact absurd H (by simp)
            · rw [if_neg c3] at H
              exact absurd H (by simp)
      · rw [if_neg c2] at H
        have c2b0 : decide (x3_1 < (l0.length : Int)) = false := decide_eq_false c2
        clear c2
        replace H := Option.bind_eq_some_iff.mp H
        obtain ⟨t120, A360, H⟩ := H
        replace H : (some t120) = some r := H
        have A36 := Aside0.mk A360
        clear A360
        obtain rfl := Option.some.inj H
        go_wp2_with (first | ((with_reducible refine gate_callee (f := 54) rfl ?_); refine goesL_ (some 89) rfl rfl Try.func54 (by kernel_rfl) rfl #[.int .i64 (l0.length : Int), .int .i64 1, .int .i64 6] rfl (by (try simp only [List.map_toArray, List.map_cons, List.map_nil]); first | done | rfl | (simp only [List.length_drop, List.length_take]; rfl)) ?_; (with_reducible refine (spec_inRange.calls (l0.length : Int) 1 6 t120 _ A36.out).mono ?_); rintro e w' ⟨rfl, ⟨nd, rfl⟩⟩; refine ⟨_, rfl, ?_⟩))
        go_ret
        exact ⟨by first | rfl | (simp [errW_none, errW_some] <;> rfl) | (simp [*, errW_none, errW_some] <;> rfl), by repeat (first | (with_reducible first | exact HB.out | apply below_alloc | apply pw_below_drewN | apply below_drew1) | exact HB.out)⟩

end Go.Proofs.Ytehhhlhedmfdiaa.PFnExactImportNeeds
