/- FnHeapNewShows: for every input in the statement's domain the law's walk ends with true Part 3 of 4: what the proof needs. -/
import Derived.Test.YtehhhlhedmfdiaaZzHeapNewShows2
set_option maxHeartbeats 8000000
set_option maxRecDepth 100000
section
namespace Go.Proofs.Ytehhhlhedmfdiaa.PFnHeapNewShows
open Go.RowKit Go.Proofs.Yz0.PrintWords Go.Proofs.Yz0.PrintLast Go.Proofs.Yz0.PrintMore
attribute [local go_sem] max2_int min2_int max_two min_two max_three min_three max_four min_four
set_option linter.unusedVariables false
set_option linter.unusedSimpArgs false
mutual
def spec_newHeap.l0 : Nat → List ByteArray → Int → List (S79) → Option ((List (S79)))
 | 0, _, _, _ => none
 | k + 1, x2, x3, x170000 => if x3 < (x2.length : Int) then (if 0 ≤ x3 then ((spec_refTo.f x3).bind fun bt174 => ((some (([(⟨bt174.1, bt174.2.1, bt174.2.2⟩ : S31)] : List (S31)) : List (S31))).bind fun y177 => (if x3 > 0 then ((spec_refTo.f 0).bind fun bt181 => ((spec_refTo.f 0).bind fun bt187 => (if y177.length < 4398046511104 then (if x170000.length < 1099511627776 then (spec_newHeap.l0 k x2 (wrap64 (x3 + 1)) (x170000 ++ [(⟨5, rdOf ByteArray.empty x2 x3, 0, (y177 ++ [(⟨bt187.1, bt187.2.1, bt187.2.2⟩ : S31)]), (([(⟨bt181.1, bt181.2.1, bt181.2.2⟩ : S31)] : List (S31))), ([] : List ByteArray), ([] : List (S31))⟩ : S79)])) else (none)) else (none)))) else (if x170000.length < 1099511627776 then (spec_newHeap.l0 k x2 (wrap64 (x3 + 1)) (x170000 ++ [(⟨5, rdOf ByteArray.empty x2 x3, 0, y177, ([] : List (S31)), ([] : List ByteArray), ([] : List (S31))⟩ : S79)])) else (none))))) else (none)) else ((spec_builtNames.f).bind fun t199 => (spec_newHeap.l1 k t199 0 x170000))
def spec_newHeap.l1 : Nat → List ByteArray → Int → List (S79) → Option ((List (S79)))
 | 0, _, _, _ => none
 | k + 1, x5, x6, x170000 => if x6 < (x5.length : Int) then (if 0 ≤ x6 then (if x170000.length < 1099511627776 then (spec_newHeap.l1 k x5 (wrap64 (x6 + 1)) (x170000 ++ [(⟨10, rdOf ByteArray.empty x5 x6, 0, ([] : List (S31)), ([] : List (S31)), ([] : List ByteArray), ([] : List (S31))⟩ : S79)])) else (none)) else (none)) else (some x170000)
end
def spec_newHeap.f (k : Nat)  : Option ((List (S79))) := (spec_errorNames.f).bind fun t170 => (spec_newHeap.l0 k t170 0 ([] : List (S79)))
def spec_newHeap.T6 : Bool × List (List Nat × List Nat) := (true, [([], []), ([], []), ([0, 1], [0, 1]), ([2], [2]), ([], []), ([4], [4]), ([5], [5]), ([3, 6], [3, 6]), ([], []), ([8, 7, 5, 0, 1, 2, 3, 4, 5, 6, 7, 8], [7, 8])])
def spec_newHeap.B6 : List Nat := [0, 0, 3, 7, 0, 16, 48, 127, 0, 511]
theorem spec_newHeap.tab6 : rtab .any (opsOf Try.f48 6) = spec_newHeap.T6 := by kernel_rfl
theorem spec_newHeap.bits6 : waitsOk spec_newHeap.T6.2 spec_newHeap.B6 = true := by kernel_rfl
def spec_newHeap.T15 : Bool × List (List Nat × List Nat) := (true, [([], []), ([0], [0]), ([], []), ([], []), ([2, 3], [2, 3]), ([4], [4]), ([5], [5]), ([6], [6]), ([1, 7], [1, 7]), ([0, 1, 2, 3, 4, 5, 6, 7, 8], []), ([9, 8, 8, 0, 1, 2, 3, 4, 5, 6, 7, 8], [8, 9])])
def spec_newHeap.B15 : List Nat := [0, 1, 0, 0, 12, 28, 60, 124, 255, 511, 1023]
theorem spec_newHeap.tab15 : rtab .any (opsOf Try.f48 15) = spec_newHeap.T15 := by kernel_rfl
theorem spec_newHeap.bits15 : waitsOk spec_newHeap.T15.2 spec_newHeap.B15 = true := by kernel_rfl
theorem spec_newHeap.calls (k : Nat)  (r : List (S79)) (w : World) (h : spec_newHeap.f k  = some r) :
  Calls Try.prog 48 #[] w fun e w' => ∃ v0_ : Value, e = .returned (.agg #[v0_]) ∧ Kd.S k79 79 w' w.heap.size (fun _ => True) v0_ r ∧ Below w.heap.size w w' := by
 have hu25 := Try.underlying25
 have hu79 := Try.underlying79
 have HB := Az.mk (Below.refl w.heap.size w)
 have H : ((spec_errorNames.f).bind fun t170 => (spec_newHeap.l0 k t170 0 ([] : List (S79)))) = some r := h
 clear h
 replace H := Option.bind_eq_some_iff.mp H
 obtain ⟨t170, A10, H⟩ := H
 replace H : (spec_newHeap.l0 k t170 0 ([] : List (S79))) = some r := H
 have A1 := Az.mk A10
 clear A10
 have H' := Az.mk H
 clear H
 go_enter Try.func48, Try.ntmps48
 go_wp2_with (first | ((with_reducible refine gate_dst (N := 0) rfl ?_); refine box_event ?hg (N := 0) ?hd (cs := #[.slice none 0 0]) (t := 25) ?hr ?_; (case hd => rfl); (case hg => rfl); (case hr => first | (go_simp; done) | (go_simp; rfl)); intro gb168 hg w2 hbox hb; have n0_ := Az.mk (below_step (by repeat (first | (with_reducible first | exact HB.out | apply bal | apply bdN | apply bdr) | exact HB.out)) hb); have n1_ := Az.mk (hbox); have n2_ := Az.mk ((by rw [hg]; exact (below_size (by repeat (first | (with_reducible first | exact HB.out | apply bal | apply bdN | apply bdr) | exact HB.out))) : w.heap.size ≤ gb168)); have n3_ := Az.mk ((by rw [hg]; exact (below_size (by repeat (first | (with_reducible first | exact HB.out | apply bal | apply bdN | apply bdr) | exact HB.out))) : w.heap.size ≤ gb168)); clear HB; have HB := n0_; have BK168 := n1_; have GW168 := n2_; have GE168 := n3_; clear n0_ n1_ n2_ n3_; clear hb hbox hg) | ((with_reducible refine gate_dst (N := 1) rfl ?_); refine box_event ?hg (N := 1) ?hd (cs := #[.slice none 0 0]) (t := 25) ?hr ?_; (case hd => rfl); (case hg => rfl); (case hr => first | (go_simp; done) | (go_simp; rfl)); intro gb169 hg w3 hbox hb; have n0_ := Az.mk (blk_below (g := gb168) (o := .cells #[.slice none 0 0] 25 (0, 0)) (by (with_reducible repeat (first | refine blk_drewN ?_ _ | refine blk_drew ?_ | refine blk_alloc ?_ _)); exact BK168.out) hb); have n1_ := Az.mk (below_step (by repeat (first | (with_reducible first | exact HB.out | apply bal | apply bdN | apply bdr | refine bS ?_ GE168.out) | exact HB.out)) hb); have n2_ := Az.mk (hbox); have n3_ := Az.mk ((by rw [hg]; exact (below_size (by repeat (first | (with_reducible first | exact HB.out | apply bal | apply bdN | apply bdr | refine bS ?_ GE168.out) | exact HB.out))) : w.heap.size ≤ gb169)); have n4_ := Az.mk ((by rw [hg]; exact (below_size (by repeat (first | (with_reducible first | exact HB.out | apply bal | apply bdN | apply bdr | refine bS ?_ GE168.out) | exact HB.out))) : w.heap.size ≤ gb169)); have n5_ := Az.mk ((by rw [hg]; exact Nat.ne_of_lt (blk_lt (g := gb168) (o := .cells #[.slice none 0 0] 25 (0, 0)) (by (with_reducible repeat (first | refine blk_drewN ?_ _ | refine blk_drew ?_ | refine blk_alloc ?_ _)); exact BK168.out)) : gb168 ≠ gb169)); have n6_ := Az.mk ((by rw [hg]; exact Nat.ne_of_gt (blk_lt (g := gb168) (o := .cells #[.slice none 0 0] 25 (0, 0)) (by (with_reducible repeat (first | refine blk_drewN ?_ _ | refine blk_drew ?_ | refine blk_alloc ?_ _)); exact BK168.out)) : gb169 ≠ gb168)); clear BK168; clear HB; have BK168 := n0_; have HB := n1_; have BK169 := n2_; have GW169 := n3_; have GE169 := n4_; have NB168_169 := n5_; have NB169_168 := n6_; clear n0_ n1_ n2_ n3_ n4_ n5_ n6_; clear hb hbox hg; have hnb4 := NB169_168.out; have hnc4 := NB168_169.out; have hcz5_0 : w3.cell? ⟨gb169, 0, none⟩ = some (.slice none 0 0) := (bC BK169.out 0).trans rfl; have hfz5_0 := bF BK169.out 0) | ((with_reducible refine gate_callee (f := 88) rfl ?_); refine goesL_ (some 8) rfl rfl Try.func88 (by kernel_rfl) rfl #[] rfl (by (try simp only [List.map_toArray, List.map_cons, List.map_nil]); first | done | rfl | (simp only [List.length_drop, List.length_take]; rfl)) ?_; (with_reducible refine (spec_errorNames.calls  t170 _ A1.out).mono ?_); rintro e w6 ⟨v171, rfl, ho0, hb⟩; refine ⟨_, rfl, ?_⟩; have n0_ := Az.mk (Kd.R_lower ho0 (below_size (by repeat (first | (with_reducible first | exact HB.out | apply bal | apply bdN | apply bdr | refine bS ?_ GE168.out | refine bS ?_ GE169.out) | exact HB.out)))); have n1_ := Az.mk (blk_below (g := gb168) (o := .cells #[.slice none 0 0] 25 (0, 0)) (by (with_reducible repeat (first | refine blk_drewN ?_ _ | refine blk_drew ?_ | refine blk_alloc ?_ _)); refine blk_far ?_ NB168_169.out _; (with_reducible repeat (first | refine blk_drewN ?_ _ | refine blk_drew ?_ | refine blk_alloc ?_ _)); exact BK168.out) hb); have n2_ := Az.mk (blk_below (g := gb169) (o := .cells #[.slice none 0 0] 25 (0, 0)) (by (with_reducible repeat (first | refine blk_drewN ?_ _ | refine blk_drew ?_ | refine blk_alloc ?_ _)); refine blk_put (cs := #[.slice none 0 0]) ?_ 0 _ rfl; (with_reducible repeat (first | refine blk_drewN ?_ _ | refine blk_drew ?_ | refine blk_alloc ?_ _)); exact BK169.out) hb); have n3_ := Az.mk (below_step (by repeat (first | (with_reducible first | exact HB.out | apply bal | apply bdN | apply bdr | refine bS ?_ GE168.out | refine bS ?_ GE169.out) | exact HB.out)) hb); clear BK168; clear BK169; clear HB; have HO172 := n0_; have BK168 := n1_; have BK169 := n2_; have HB := n3_; clear n0_ n1_ n2_ n3_; (try clear hb); (try clear hb2); (try clear hk); (try clear hi); (try clear ho0)))
 go_loopg [3] k (fun kq v3 w' => ∃ (x3_1 : Int) (x170000_1 : List (S79)) (u170000 : Value), v3 = .int .i64 x3_1 ∧ Az (spec_newHeap.l0 kq t170 x3_1 x170000_1 = some r) ∧ Az (kq ≤ k) ∧ Az (Kd.R Kd.string 9 w' w.heap.size (fun _ => True) v171 t170) ∧ Az (Kd.S k79 79 w' w.heap.size (fun k_ => some k_ ≠ (v171 : Value).ownBlock) u170000 x170000_1) ∧ Az (w'.heap[gb168]? = some (.cells #[(.slice none 0 0)] 25 (0, 0))) ∧ Az (w'.heap[gb169]? = some (.cells #[u170000] 25 (0, 0))) ∧ Az (Below w.heap.size w w'))
 case atStart => exact ⟨(0), (([] : List (S79))), (.slice none 0 0), (by first | rfl | (simp; done) | (simp [*]; done)), H', ⟨Nat.le_refl _⟩, ⟨by (with_reducible repeat (first | apply Kd.R_alloc | apply Kd.R_drewN | apply Kd.R_drew)); exact HO172.out⟩, ⟨by first | exact Kd.S_nil _ _ _ _ _ | exact Kd.N_nil _ _ _ _ _ | exact Kd.V_nil _ _ _ _ _ | exact Kd.Q_nil _ _ _ _ _ | exact Kd.R_nil _ _ _ _ _⟩, ⟨by (with_reducible repeat (first | refine blk_drewN ?_ _ | refine blk_drew ?_ | refine blk_alloc ?_ _)); exact BK168.out⟩, ⟨by (with_reducible repeat (first | refine blk_drewN ?_ _ | refine blk_drew ?_ | refine blk_alloc ?_ _)); exact BK169.out⟩, ⟨by repeat (first | (with_reducible first | exact HB.out | apply bal | apply bdN | apply bdr | refine bS ?_ GE168.out | refine bS ?_ GE169.out) | exact HB.out)⟩⟩
 case round =>
  clear H'
  try clear p2
  try clear c4
  try clear hcz5_0
  try clear hfz5_0
  obtain ⟨x3_1, x170000_1, u170000, rfl, HA, HK1, HO_2, HO_170000, BK168, BK169, HB⟩ := hrel
  cases gk with
  | zero => exact absurd HA.out (by simp [spec_newHeap.l0])
  | succ k1 =>
   have H := HA.out
   clear HA
   simp only [spec_newHeap.l0] at H
   by_cases c7 : x3_1 < (t170.length : Int)
   ·rw [if_pos c7] at H
    have c7b0 : decide (x3_1 < (t170.length : Int)) = true := decide_eq_true c7
    clear c7
    by_cases c8 : 0 ≤ x3_1
    ·rw [if_pos c8] at H
     have c8b0 : decide (0 ≤ x3_1) = true := decide_eq_true c8
     clear c8
     replace H := Option.bind_eq_some_iff.mp H
     obtain ⟨⟨t174, t175, t176⟩, A90, H⟩ := H
     replace H : ((some (([(⟨t174, t175, t176⟩ : S31)] : List (S31)) : List (S31))).bind fun y177 => (if x3_1 > 0 then ((spec_refTo.f 0).bind fun bt181 => ((spec_refTo.f 0).bind fun bt187 => (if y177.length < 4398046511104 then (if x170000_1.length < 1099511627776 then (spec_newHeap.l0 k1 t170 (wrap64 (x3_1 + 1)) (x170000_1 ++ [(⟨5, rdOf ByteArray.empty t170 x3_1, 0, (y177 ++ [(⟨bt187.1, bt187.2.1, bt187.2.2⟩ : S31)]), (([(⟨bt181.1, bt181.2.1, bt181.2.2⟩ : S31)] : List (S31))), ([] : List ByteArray), ([] : List (S31))⟩ : S79)])) else (none)) else (none)))) else (if x170000_1.length < 1099511627776 then (spec_newHeap.l0 k1 t170 (wrap64 (x3_1 + 1)) (x170000_1 ++ [(⟨5, rdOf ByteArray.empty t170 x3_1, 0, y177, ([] : List (S31)), ([] : List ByteArray), ([] : List (S31))⟩ : S79)])) else (none)))) = some r := H
     have A9 := Az.mk A90
     clear A90
     obtain ⟨y177, hy177⟩ : ∃ y_ : List (S31), y_ = (([(⟨t174, t175, t176⟩ : S31)] : List (S31))) := ⟨_, rfl⟩
     replace H : (if x3_1 > 0 then ((spec_refTo.f 0).bind fun bt181 => ((spec_refTo.f 0).bind fun bt187 => (if y177.length < 4398046511104 then (if x170000_1.length < 1099511627776 then (spec_newHeap.l0 k1 t170 (wrap64 (x3_1 + 1)) (x170000_1 ++ [(⟨5, rdOf ByteArray.empty t170 x3_1, 0, (y177 ++ [(⟨bt187.1, bt187.2.1, bt187.2.2⟩ : S31)]), (([(⟨bt181.1, bt181.2.1, bt181.2.2⟩ : S31)] : List (S31))), ([] : List ByteArray), ([] : List (S31))⟩ : S79)])) else (none)) else (none)))) else (if x170000_1.length < 1099511627776 then (spec_newHeap.l0 k1 t170 (wrap64 (x3_1 + 1)) (x170000_1 ++ [(⟨5, rdOf ByteArray.empty t170 x3_1, 0, y177, ([] : List (S31)), ([] : List ByteArray), ([] : List (S31))⟩ : S79)])) else (none))) = some r := by first | (rw [hy177]; with_reducible exact H) | (have H2_ := (Option.bind_some _ _).symm.trans H; rw [hy177]; with_reducible exact H2_) | (have H2_ := (Option.bind_some _ _).symm.trans H; with_reducible exact H2_) | with_reducible exact H | (rw [hy177]; exact H) | exact H
     have Ny177 := Az.mk hy177
     clear hy177
     by_cases c10 : x3_1 > 0
     ·rw [if_pos c10] at H
      have c10b0 : decide (0 < x3_1) = true := decide_eq_true c10
      clear c10
      replace H := Option.bind_eq_some_iff.mp H
      obtain ⟨⟨t181, t182, t183⟩, A110, H⟩ := H
      replace H : ((spec_refTo.f 0).bind fun bt187 => (if y177.length < 4398046511104 then (if x170000_1.length < 1099511627776 then (spec_newHeap.l0 k1 t170 (wrap64 (x3_1 + 1)) (x170000_1 ++ [(⟨5, rdOf ByteArray.empty t170 x3_1, 0, (y177 ++ [(⟨bt187.1, bt187.2.1, bt187.2.2⟩ : S31)]), (([(⟨t181, t182, t183⟩ : S31)] : List (S31))), ([] : List ByteArray), ([] : List (S31))⟩ : S79)])) else (none)) else (none))) = some r := H
      have A11 := Az.mk A110
      clear A110
      obtain ⟨y184, hy184⟩ : ∃ y_ : List (S31), y_ = (([(⟨t181, t182, t183⟩ : S31)] : List (S31))) := ⟨_, rfl⟩
      replace H : ((spec_refTo.f 0).bind fun bt187 => (if y177.length < 4398046511104 then (if x170000_1.length < 1099511627776 then (spec_newHeap.l0 k1 t170 (wrap64 (x3_1 + 1)) (x170000_1 ++ [(⟨5, rdOf ByteArray.empty t170 x3_1, 0, (y177 ++ [(⟨bt187.1, bt187.2.1, bt187.2.2⟩ : S31)]), y184, ([] : List ByteArray), ([] : List (S31))⟩ : S79)])) else (none)) else (none))) = some r := by first | (rw [hy184]; with_reducible exact H) | (have H2_ := (Option.bind_some _ _).symm.trans H; rw [hy184]; with_reducible exact H2_) | (have H2_ := (Option.bind_some _ _).symm.trans H; with_reducible exact H2_) | with_reducible exact H | (rw [hy184]; exact H) | exact H
      have Ny184 := Az.mk hy184
      clear hy184
      replace H := Option.bind_eq_some_iff.mp H
      obtain ⟨⟨t187, t188, t189⟩, A120, H⟩ := H
      replace H : (if y177.length < 4398046511104 then (if x170000_1.length < 1099511627776 then (spec_newHeap.l0 k1 t170 (wrap64 (x3_1 + 1)) (x170000_1 ++ [(⟨5, rdOf ByteArray.empty t170 x3_1, 0, (y177 ++ [(⟨t187, t188, t189⟩ : S31)]), y184, ([] : List ByteArray), ([] : List (S31))⟩ : S79)])) else (none)) else (none)) = some r := H
      have A12 := Az.mk A120
      clear A120
      by_cases c13 : y177.length < 4398046511104
      ·rw [if_pos c13] at H
       have LMc13 := Az.mk c13
       clear c13
       obtain ⟨y190, hy190⟩ : ∃ y_ : List (S31), y_ = (y177 ++ [(⟨t187, t188, t189⟩ : S31)]) := ⟨_, rfl⟩
       replace H : (if x170000_1.length < 1099511627776 then (spec_newHeap.l0 k1 t170 (wrap64 (x3_1 + 1)) (x170000_1 ++ [(⟨5, rdOf ByteArray.empty t170 x3_1, 0, y190, y184, ([] : List ByteArray), ([] : List (S31))⟩ : S79)])) else (none)) = some r := by first | (rw [hy190]; with_reducible exact H) | (have H2_ := (Option.bind_some _ _).symm.trans H; rw [hy190]; with_reducible exact H2_) | (have H2_ := (Option.bind_some _ _).symm.trans H; with_reducible exact H2_) | with_reducible exact H | (rw [hy190]; exact H) | exact H
       have Ny190 := Az.mk hy190
       clear hy190
       by_cases c14 : x170000_1.length < 1099511627776
       ·rw [if_pos c14] at H
        have LMc14 := Az.mk c14
        clear c14
        obtain ⟨y193, hy193⟩ : ∃ y_ : List (S79), y_ = (x170000_1 ++ [(⟨5, rdOf ByteArray.empty t170 x3_1, 0, y190, y184, ([] : List ByteArray), ([] : List (S31))⟩ : S79)]) := ⟨_, rfl⟩
        replace H : (spec_newHeap.l0 k1 t170 (wrap64 (x3_1 + 1)) y193) = some r := by first | (rw [hy193]; with_reducible exact H) | (have H2_ := (Option.bind_some _ _).symm.trans H; rw [hy193]; with_reducible exact H2_) | (have H2_ := (Option.bind_some _ _).symm.trans H; with_reducible exact H2_) | with_reducible exact H | (rw [hy193]; exact H) | exact H
        have Ny193 := Az.mk hy193
        clear hy193
        have H' := Az.mk H
        clear H
        obtain ⟨Ao15, co15, eo15⟩ := Kd.R_slice HO_2.out
        subst eo15
        try go_wp2
        have n0_ := Az.mk (Kd.R_drew HO_2.out)
        have n1_ := Az.mk (Kd.S_drew HO_170000.out)
        have n2_ := Az.mk (blk_drew BK168.out)
        have n3_ := Az.mk (blk_drew BK169.out)
        have n4_ := Az.mk (bdr HB.out)
        clear HO_2
        clear HO_170000
        clear BK168
        clear BK169
        clear HB
        have HO_2 := n0_
        have HO_170000 := n1_
        have BK168 := n2_
        have BK169 := n3_
        have HB := n4_
        clear n0_ n1_ n2_ n3_ n4_
        have p173 : 0 ≤ (x3_1 : Int) := of_decide_eq_true (by first | (with_reducible assumption) | assumption)
        have q173 : x3_1 < (t170.length : Int) := of_decide_eq_true (by first | (with_reducible assumption) | assumption)
        obtain ⟨ad173, e173, hx173_0⟩ := Kd.at_string (Kd.R_reads' HO_2.out).2.2 x3_1 p173 q173
        cases e173
        replace p173 := eq_true p173
        replace q173 := eq_true q173
        refine start_ (n := 10) (S := fun w' => w'.cell? (ad173.add (x3_1).toNat) = some (.string (rdOf ByteArray.empty t170 x3_1))) (ds := []) #[false, false, false, false, false, false, false, false, false, false] (by kernel_rfl) rfl rfl (hx173_0) (fun hHeld => ?_); refine with_tabW spec_newHeap.tab6 spec_newHeap.bits6 (fun HT_ HW_ => ?_)
        generalize wr.drew = w16 at HO_2 HO_170000 BK168 BK169 HB hx173_0 hHeld ⊢
        refine pure_ (i := 0) (N := some 15) (v := ?_) (a' := ?_) #[true, false, false, false, false, false, false, false, false, false] rfl rfl (any_of HT_.out (by kernel_rfl)) (fun _ _ _ h => h) (Or.inl ⟨by rfl, ?_⟩) ?_ ?_
        rotate_left
        ·intro w'
         go_simp
         with_reducible rfl
        rotate_left
        ·simp only [Act.put, List.setIfInBounds_toArray, List.set_cons_zero, List.set_cons_succ, i64_w, i32_w]
         rfl
        refine pure_ (i := 1) (N := some 16) (v := ?_) (a' := ?_) #[true, true, false, false, false, false, false, false, false, false] rfl rfl (any_of HT_.out (by kernel_rfl)) (fun _ _ _ h => h) (Or.inl ⟨by rfl, ?_⟩) ?_ ?_
        rotate_left
        ·intro w'
         go_simp
         with_reducible rfl
        rotate_left
        ·simp only [Act.put, List.setIfInBounds_toArray, List.set_cons_zero, List.set_cons_succ, i64_w, i32_w]
         rfl
        refine pure_ (i := 2) (N := some 17) (v := ?_) (a' := ?_) #[true, true, true, false, false, false, false, false, false, false] rfl rfl (any_of HT_.out (by kernel_rfl)) (fun _ _ _ h => h) (Or.inl ⟨by rfl, ?_⟩) ?_ ?_
        rotate_left
        ·intro w'
         go_simp
         with_reducible rfl
        rotate_left
        ·simp only [Act.put, List.setIfInBounds_toArray, List.set_cons_zero, List.set_cons_succ, i64_w, i32_w]
         rfl
        refine pure_ (i := 4) (N := some 19) (v := ?_) (a' := ?_) #[true, true, true, false, true, false, false, false, false, false] rfl rfl (any_of HT_.out (by kernel_rfl)) (fun _ _ _ h => h) (Or.inl ⟨by rfl, ?_⟩) ?_ ?_
        rotate_left
        ·intro w'
         go_simp
         with_reducible rfl
        rotate_left
        ·simp only [Act.put, List.setIfInBounds_toArray, List.set_cons_zero, List.set_cons_succ, i64_w, i32_w]
         rfl
        refine take_ (i := 3) (N := some 18) (v := ?_) (a' := ?_) #[true, true, true, true, true, false, false, false, false, false] rfl rfl (take_ofW HT_.out HW_.out (by kernel_rfl)) (fun _ _ _ h => h) (Or.inl ⟨by rfl, ?_⟩) hHeld ?_ ?_
        rotate_left
        ·intro w' s0
         go_simp
         with_reducible rfl
        rotate_left
        ·simp only [Act.put, List.setIfInBounds_toArray, List.set_cons_zero, List.set_cons_succ, i64_w, i32_w]
         rfl
        refine join_ (σ := Value × Nat) 1 #[true, true, true, true, true, true, true, true, true, false] (fun s_ => [(20, .agg #[.int .i64 t174, .string t175, .int .i64 t176]), (21, s_.1), (4, .pointer (some ⟨s_.2, 0, none⟩)), (22, .agg #[.int .i64 5, .string (rdOf ByteArray.empty t170 x3_1), .int .i64 0, s_.1, .slice none 0 0, .slice none 0 0, .slice none 0 0])]) (fun s_ w' => (w'.cell? (ad173.add (x3_1).toNat) = some (.string (rdOf ByteArray.empty t170 x3_1))) ∧ (Kd.R k31 31 w' w.heap.size (fun _ => True) s_.1 y177) ∧ (Kd.S k79 79 w' w.heap.size (fun k_ => some k_ ≠ (s_.1 : Value).ownBlock ∧ some k_ ≠ (.slice (some ad173) t170.length co15 : Value).ownBlock ∧ k_ ≠ s_.2) u170000 x170000_1) ∧ (Kd.R Kd.string 9 w' w.heap.size (fun _ => True) (.slice (some ad173) t170.length co15) t170) ∧ (w'.heap[gb168]? = some (.cells #[.slice none 0 0] 25 (0, 0))) ∧ (w'.heap[gb169]? = some (.cells #[u170000] 25 (0, 0))) ∧ (w'.heap[s_.2]? = some (.cells #[.int .i64 0, .string (⟨#[]⟩ : ByteArray), .int .i64 0, .slice none 0 0, .slice none 0 0, .slice none 0 0, .slice none 0 0] 79 (0, 0))) ∧ (w.heap.size ≤ s_.2) ∧ (w.heap.size ≤ s_.2) ∧ (gb168 ≠ s_.2) ∧ (s_.2 ≠ gb168) ∧ (gb169 ≠ s_.2) ∧ (s_.2 ≠ gb169) ∧ (Below w.heap.size w w')) ?_ ?_
        rotate_left
        ·intro hCont
         refine two_ (i := 5) (j := 8) (Ni := some 20) (Nj := some 4) #[true, true, true, true, true, true, false, false, false, false] #[true, true, true, true, true, false, false, false, true, false] rfl rfl rfl rfl (two_of HT_.out (by kernel_rfl)) (by decide) (by decide) (fun K hK => ?_) (fun K hK => ?_)
         ·skip
          refine goes_ Try.func89 (by kernel_rfl) rfl #[.int .i64 x3_1] (by rfl) rfl rfl (by (try simp only [List.map_toArray, List.map_cons, List.map_nil]); first | done | rfl | (simp only [List.length_drop, List.length_take]; rfl)) ?_
          with_reducible refine (spec_refTo.calls x3_1 t174 t175 t176 _ A9.out).mono ?_
          rintro e w17 ⟨rfl, hb⟩
          have HS0_ := (hb.cell (World.block_lt_of_cell? _ _ (hHeld))).trans (hHeld)
          refine ⟨_, rfl, ?_⟩
          have n0_ := Az.mk (Kd.R_below (by (with_reducible repeat (first | apply Kd.R_alloc | apply Kd.R_drewN | apply Kd.R_drew)); exact HO_2.out) hb)
          have n1_ := Az.mk (Kd.S_below (by (with_reducible repeat (first | apply Kd.S_alloc | apply Kd.S_drewN | apply Kd.S_drew)); exact HO_170000.out) hb)
          have n2_ := Az.mk (blk_below (g := gb168) (o := .cells #[.slice none 0 0] 25 (0, 0)) (by (with_reducible repeat (first | refine blk_drewN ?_ _ | refine blk_drew ?_ | refine blk_alloc ?_ _)); exact BK168.out) hb)
          have n3_ := Az.mk (blk_below (g := gb169) (o := .cells #[u170000] 25 (0, 0)) (by (with_reducible repeat (first | refine blk_drewN ?_ _ | refine blk_drew ?_ | refine blk_alloc ?_ _)); exact BK169.out) hb)
          have n4_ := Az.mk (below_step (by repeat (first | (with_reducible first | exact HB.out | apply bal | apply bdN | apply bdr | refine bS ?_ GE168.out | refine bS ?_ GE169.out) | exact HB.out)) hb)
          clear HO_2
          clear HO_170000
          clear BK168
          clear BK169
          clear HB
          have HO_2 := n0_
          have HO_170000 := n1_
          have BK168 := n2_
          have BK169 := n3_
          have HB := n4_
          clear n0_ n1_ n2_ n3_ n4_
          (try clear hb)
          (try clear hb2)
          (try clear hk)
          (try clear hi)
          refine hK.out _ _ (HS0_) (fun hHeld => ?_)
          clear hK K
          refine norm_ (a' := ?_) ?_ ?_
          rotate_left
          ·show Act.put _ (some 20) _ = _
           simp only [Act.put, List.setIfInBounds_toArray, List.set_cons_zero, List.set_cons_succ, i64_w, i32_w]
           rfl
          refine two_ (i := 6) (j := 8) (Ni := some 21) (Nj := some 4) #[true, true, true, true, true, true, true, false, false, false] #[true, true, true, true, true, true, false, false, true, false] rfl rfl rfl rfl (two_of HT_.out (by kernel_rfl)) (by decide) (by decide) (fun K hK => ?_) (fun K hK => ?_)
          ·skip
           refine Kd.R_lit_step k31 _ 31 ?hg (N := 21) ?hd (xs := ([(⟨t174, t175, t176⟩ : S31)] : List (S31))) (inner := [.int .i64 t174, .string t175, .int .i64 t176]) (ok := fun _ => True) (okp := fun _ => True) ?hr ?hp (fun _ hk => hk) trivial (Below.refl _ _) (Nat.le_refl _) (by simp) ?_; (case hd => rfl); (case hg => rfl); (case hr => first | (go_simp; done) | (go_simp; rfl)); (case hp => exact (Reps.c3 (show Kd.M k31 _ _ _ (⟨t174, t175, t176⟩ : S31) [.int .i64 t174, .string t175, .int .i64 t176] from (k31_mkM _ _ _ (⟨t174, t175, t176⟩ : S31) )) (Reps.none _ _)))
           intro v178 w18 ho19 hb hg_ hnew_
           have HS0_ := (hb.cell (World.block_lt_of_cell? _ _ (hHeld))).trans (hHeld)
           clear hg_ hnew_
           (first | rw [← Ny177.out] at ho19 | (simp only [Int.reduceToNat] at ho19; rw [← Ny177.out] at ho19))
           have n0_ := Az.mk (Kd.R_below (by (with_reducible repeat (first | apply Kd.R_alloc | apply Kd.R_drewN | apply Kd.R_drew)); exact HO_2.out) hb)
           have n1_ := Az.mk (Kd.S_elder' (by (with_reducible repeat (first | apply Kd.S_alloc | apply Kd.S_drewN | apply Kd.S_drew)); exact HO_170000.out) (Kd.R_base ho19) hb)
           have n2_ := Az.mk (Kd.R_lower ho19 (below_size (by repeat (first | (with_reducible first | exact HB.out | apply bal | apply bdN | apply bdr | refine bS ?_ GE168.out | refine bS ?_ GE169.out) | exact HB.out))))
           have n3_ := Az.mk (blk_below (g := gb168) (o := .cells #[.slice none 0 0] 25 (0, 0)) (by (with_reducible repeat (first | refine blk_drewN ?_ _ | refine blk_drew ?_ | refine blk_alloc ?_ _)); exact BK168.out) hb)
           have n4_ := Az.mk (blk_below (g := gb169) (o := .cells #[u170000] 25 (0, 0)) (by (with_reducible repeat (first | refine blk_drewN ?_ _ | refine blk_drew ?_ | refine blk_alloc ?_ _)); exact BK169.out) hb)
           have n5_ := Az.mk (below_step (by repeat (first | (with_reducible first | exact HB.out | apply bal | apply bdN | apply bdr | refine bS ?_ GE168.out | refine bS ?_ GE169.out) | exact HB.out)) hb)
           clear HO_2
           clear HO_170000
           clear BK168
           clear BK169
           clear HB
           have HO_2 := n0_
           have HO_170000 := n1_
           have HO179 := n2_
           have BK168 := n3_
           have BK169 := n4_
           have HB := n5_
           clear n0_ n1_ n2_ n3_ n4_ n5_
           clear hb ho19
           obtain ⟨Ao20, co20, eo20⟩ := Kd.R_slice HO179.out
           (first | subst eo20 | (injection eo20 with f1_ f2_ f3_; have f4_ := f1_.symm; have f5_ := f3_.symm; clear f1_ f2_ f3_; subst f4_; subst f5_))
           refine hK.out _ _ (HS0_) (fun hHeld => ?_)
           clear hK K
           refine norm_ (a' := ?_) ?_ ?_
           rotate_left
           ·show Act.put _ (some 21) _ = _
            simp only [Act.put, List.setIfInBounds_toArray, List.set_cons_zero, List.set_cons_succ, i64_w, i32_w]
            rfl
           refine pure_ (i := 7) (N := some 22) (v := ?_) (a' := ?_) #[true, true, true, true, true, true, true, true, false, false] rfl rfl (any_of HT_.out (by kernel_rfl)) (fun _ _ _ h => h) (Or.inl ⟨by rfl, ?_⟩) ?_ ?_
           rotate_left
           ·intro w'
            go_simp
            with_reducible rfl
           rotate_left
           ·simp only [Act.put, List.setIfInBounds_toArray, List.set_cons_zero, List.set_cons_succ, i64_w, i32_w]
            rfl
           refine one_ (i := 8) (N := some 4) #[true, true, true, true, true, true, true, true, true, false] rfl rfl (one_of HT_.out (by kernel_rfl)) (by decide) (fun K hK => ?_)
           refine box_step ?hg (N := 4) ?hd (cs := #[.int .i64 0, .string (⟨#[]⟩ : ByteArray), .int .i64 0, .slice none 0 0, .slice none 0 0, .slice none 0 0, .slice none 0 0]) (t := 79) ?hr ?_; (case hd => rfl); (case hg => rfl); (case hr => first | (go_simp; done) | (go_simp; rfl))
           intro gb180 hg w21 hbox hb
           have HS0_ := (hb.cell (World.block_lt_of_cell? _ _ (hHeld))).trans (hHeld)
           have n0_ := Az.mk (Kd.R_below (by (with_reducible repeat (first | apply Kd.R_alloc | apply Kd.R_drewN | apply Kd.R_drew)); exact HO_2.out) hb)
           have n1_ := Az.mk (Kd.S_below (Kd.S_elderB (by (with_reducible repeat (first | apply Kd.S_alloc | apply Kd.S_drewN | apply Kd.S_drew)); exact HO_170000.out) gb180 (Nat.le_of_eq hg.symm)) hb)
           have n2_ := Az.mk (Kd.R_below (by (with_reducible repeat (first | apply Kd.R_alloc | apply Kd.R_drewN | apply Kd.R_drew)); exact HO179.out) hb)
           have n3_ := Az.mk (blk_below (g := gb168) (o := .cells #[.slice none 0 0] 25 (0, 0)) (by (with_reducible repeat (first | refine blk_drewN ?_ _ | refine blk_drew ?_ | refine blk_alloc ?_ _)); exact BK168.out) hb)
           have n4_ := Az.mk (blk_below (g := gb169) (o := .cells #[u170000] 25 (0, 0)) (by (with_reducible repeat (first | refine blk_drewN ?_ _ | refine blk_drew ?_ | refine blk_alloc ?_ _)); exact BK169.out) hb)
           have n5_ := Az.mk (below_step (by repeat (first | (with_reducible first | exact HB.out | apply bal | apply bdN | apply bdr | refine bS ?_ GE168.out | refine bS ?_ GE169.out) | exact HB.out)) hb)
           have n6_ := Az.mk (hbox)
           have n7_ := Az.mk ((by rw [hg]; exact (below_size (by repeat (first | (with_reducible first | exact HB.out | apply bal | apply bdN | apply bdr | refine bS ?_ GE168.out | refine bS ?_ GE169.out) | exact HB.out))) : w.heap.size ≤ gb180))
           have n8_ := Az.mk ((by rw [hg]; exact (below_size (by repeat (first | (with_reducible first | exact HB.out | apply bal | apply bdN | apply bdr | refine bS ?_ GE168.out | refine bS ?_ GE169.out) | exact HB.out))) : w.heap.size ≤ gb180))
           have n9_ := Az.mk ((by rw [hg]; exact Nat.ne_of_lt (blk_lt (g := gb168) (o := .cells #[.slice none 0 0] 25 (0, 0)) (by (with_reducible repeat (first | refine blk_drewN ?_ _ | refine blk_drew ?_ | refine blk_alloc ?_ _)); exact BK168.out)) : gb168 ≠ gb180))
           have n10_ := Az.mk ((by rw [hg]; exact Nat.ne_of_gt (blk_lt (g := gb168) (o := .cells #[.slice none 0 0] 25 (0, 0)) (by (with_reducible repeat (first | refine blk_drewN ?_ _ | refine blk_drew ?_ | refine blk_alloc ?_ _)); exact BK168.out)) : gb180 ≠ gb168))
           have n11_ := Az.mk ((by rw [hg]; exact Nat.ne_of_lt (blk_lt (g := gb169) (o := .cells #[u170000] 25 (0, 0)) (by (with_reducible repeat (first | refine blk_drewN ?_ _ | refine blk_drew ?_ | refine blk_alloc ?_ _)); exact BK169.out)) : gb169 ≠ gb180))
           have n12_ := Az.mk ((by rw [hg]; exact Nat.ne_of_gt (blk_lt (g := gb169) (o := .cells #[u170000] 25 (0, 0)) (by (with_reducible repeat (first | refine blk_drewN ?_ _ | refine blk_drew ?_ | refine blk_alloc ?_ _)); exact BK169.out)) : gb180 ≠ gb169))
           clear HO_2
           clear HO_170000
           clear HO179
           clear BK168
           clear BK169
           clear HB
           have HO_2 := n0_
           have HO_170000 := n1_
           have HO179 := n2_
           have BK168 := n3_
           have BK169 := n4_
           have HB := n5_
           have BK180 := n6_
           have GW180 := n7_
           have GE180 := n8_
           have NB168_180 := n9_
           have NB180_168 := n10_
           have NB169_180 := n11_
           have NB180_169 := n12_
           clear n0_ n1_ n2_ n3_ n4_ n5_ n6_ n7_ n8_ n9_ n10_ n11_ n12_
           clear hb hbox hg
           refine hK.out _ _ (HS0_) (fun hHeld => ?_)
           clear hK K
           refine norm_ (a' := ?_) ?_ ?_
           rotate_left
           ·show Act.put _ (some 4) _ = _
            simp only [Act.put, List.setIfInBounds_toArray, List.set_cons_zero, List.set_cons_succ, i64_w, i32_w]
            rfl
           exact norm_ (by simp only [putAll, Act.put, List.setIfInBounds_toArray, List.set_cons_zero, List.set_cons_succ]) (hCont (.slice Ao20 y177.length co20, gb180) _ ⟨hHeld, (by (with_reducible repeat (first | apply Kd.R_alloc | apply Kd.R_drewN | apply Kd.R_drew)); exact HO179.out), (by (with_reducible repeat (first | apply Kd.S_alloc | apply Kd.S_drewN | apply Kd.S_drew)); exact Kd.S_mono HO_170000.out (fun _ hk => ⟨hk.1.2, ⟨hk.1.1, hk.2⟩⟩)), (by (with_reducible repeat (first | apply Kd.R_alloc | apply Kd.R_drewN | apply Kd.R_drew)); exact HO_2.out), (by (with_reducible repeat (first | refine blk_drewN ?_ _ | refine blk_drew ?_ | refine blk_alloc ?_ _)); exact BK168.out), (by (with_reducible repeat (first | refine blk_drewN ?_ _ | refine blk_drew ?_ | refine blk_alloc ?_ _)); exact BK169.out), (by (with_reducible repeat (first | refine blk_drewN ?_ _ | refine blk_drew ?_ | refine blk_alloc ?_ _)); exact BK180.out), GW180.out, GE180.out, NB168_180.out, NB180_168.out, NB169_180.out, NB180_169.out, (by repeat (first | (with_reducible first | exact HB.out | apply bal | apply bdN | apply bdr | refine bS ?_ GE168.out | refine bS ?_ GE169.out | refine bS ?_ GE180.out) | exact HB.out))⟩)
          ·skip
           refine box_step ?hg (N := 4) ?hd (cs := #[.int .i64 0, .string (⟨#[]⟩ : ByteArray), .int .i64 0, .slice none 0 0, .slice none 0 0, .slice none 0 0, .slice none 0 0]) (t := 79) ?hr ?_; (case hd => rfl); (case hg => rfl); (case hr => first | (go_simp; done) | (go_simp; rfl))
           intro gb180 hg w18 hbox hb
           have HS0_ := (hb.cell (World.block_lt_of_cell? _ _ (hHeld))).trans (hHeld)
           have n0_ := Az.mk (Kd.R_below (by (with_reducible repeat (first | apply Kd.R_alloc | apply Kd.R_drewN | apply Kd.R_drew)); exact HO_2.out) hb)
           have n1_ := Az.mk (Kd.S_below (Kd.S_elderB (by (with_reducible repeat (first | apply Kd.S_alloc | apply Kd.S_drewN | apply Kd.S_drew)); exact HO_170000.out) gb180 (Nat.le_of_eq hg.symm)) hb)
           have n2_ := Az.mk (blk_below (g := gb168) (o := .cells #[.slice none 0 0] 25 (0, 0)) (by (with_reducible repeat (first | refine blk_drewN ?_ _ | refine blk_drew ?_ | refine blk_alloc ?_ _)); exact BK168.out) hb)
           have n3_ := Az.mk (blk_below (g := gb169) (o := .cells #[u170000] 25 (0, 0)) (by (with_reducible repeat (first | refine blk_drewN ?_ _ | refine blk_drew ?_ | refine blk_alloc ?_ _)); exact BK169.out) hb)
           have n4_ := Az.mk (below_step (by repeat (first | (with_reducible first | exact HB.out | apply bal | apply bdN | apply bdr | refine bS ?_ GE168.out | refine bS ?_ GE169.out) | exact HB.out)) hb)
           have n5_ := Az.mk (hbox)
           have n6_ := Az.mk ((by rw [hg]; exact (below_size (by repeat (first | (with_reducible first | exact HB.out | apply bal | apply bdN | apply bdr | refine bS ?_ GE168.out | refine bS ?_ GE169.out) | exact HB.out))) : w.heap.size ≤ gb180))
           have n7_ := Az.mk ((by rw [hg]; exact (below_size (by repeat (first | (with_reducible first | exact HB.out | apply bal | apply bdN | apply bdr | refine bS ?_ GE168.out | refine bS ?_ GE169.out) | exact HB.out))) : w.heap.size ≤ gb180))
           have n8_ := Az.mk ((by rw [hg]; exact Nat.ne_of_lt (blk_lt (g := gb168) (o := .cells #[.slice none 0 0] 25 (0, 0)) (by (with_reducible repeat (first | refine blk_drewN ?_ _ | refine blk_drew ?_ | refine blk_alloc ?_ _)); exact BK168.out)) : gb168 ≠ gb180))
           have n9_ := Az.mk ((by rw [hg]; exact Nat.ne_of_gt (blk_lt (g := gb168) (o := .cells #[.slice none 0 0] 25 (0, 0)) (by (with_reducible repeat (first | refine blk_drewN ?_ _ | refine blk_drew ?_ | refine blk_alloc ?_ _)); exact BK168.out)) : gb180 ≠ gb168))
           have n10_ := Az.mk ((by rw [hg]; exact Nat.ne_of_lt (blk_lt (g := gb169) (o := .cells #[u170000] 25 (0, 0)) (by (with_reducible repeat (first | refine blk_drewN ?_ _ | refine blk_drew ?_ | refine blk_alloc ?_ _)); exact BK169.out)) : gb169 ≠ gb180))
           have n11_ := Az.mk ((by rw [hg]; exact Nat.ne_of_gt (blk_lt (g := gb169) (o := .cells #[u170000] 25 (0, 0)) (by (with_reducible repeat (first | refine blk_drewN ?_ _ | refine blk_drew ?_ | refine blk_alloc ?_ _)); exact BK169.out)) : gb180 ≠ gb169))
           clear HO_2
           clear HO_170000
           clear BK168
           clear BK169
           clear HB
           have HO_2 := n0_
           have HO_170000 := n1_
           have BK168 := n2_
           have BK169 := n3_
           have HB := n4_
           have BK180 := n5_
           have GW180 := n6_
           have GE180 := n7_
           have NB168_180 := n8_
           have NB180_168 := n9_
           have NB169_180 := n10_
           have NB180_169 := n11_
           clear n0_ n1_ n2_ n3_ n4_ n5_ n6_ n7_ n8_ n9_ n10_ n11_
           clear hb hbox hg
           refine hK.out _ _ (HS0_) (fun hHeld => ?_)
           clear hK K
           refine norm_ (a' := ?_) ?_ ?_
           rotate_left
           ·show Act.put _ (some 4) _ = _
            simp only [Act.put, List.setIfInBounds_toArray, List.set_cons_zero, List.set_cons_succ, i64_w, i32_w]
            rfl
           refine one_ (i := 6) (N := some 21) #[true, true, true, true, true, true, true, false, true, false] rfl rfl (one_of HT_.out (by kernel_rfl)) (by decide) (fun K hK => ?_)
           refine Kd.R_lit_step k31 _ 31 ?hg (N := 21) ?hd (xs := ([(⟨t174, t175, t176⟩ : S31)] : List (S31))) (inner := [.int .i64 t174, .string t175, .int .i64 t176]) (ok := fun _ => True) (okp := fun _ => True) ?hr ?hp (fun _ hk => hk) trivial (Below.refl _ _) (Nat.le_refl _) (by simp) ?_; (case hd => rfl); (case hg => rfl); (case hr => first | (go_simp; done) | (go_simp; rfl)); (case hp => exact (Reps.c3 (show Kd.M k31 _ _ _ (⟨t174, t175, t176⟩ : S31) [.int .i64 t174, .string t175, .int .i64 t176] from (k31_mkM _ _ _ (⟨t174, t175, t176⟩ : S31) )) (Reps.none _ _)))
           intro v178 w19 ho20 hb hg_ hnew_
           have HS0_ := (hb.cell (World.block_lt_of_cell? _ _ (hHeld))).trans (hHeld)
           clear hg_ hnew_
           (first | rw [← Ny177.out] at ho20 | (simp only [Int.reduceToNat] at ho20; rw [← Ny177.out] at ho20))
           have n0_ := Az.mk (Kd.R_below (by (with_reducible repeat (first | apply Kd.R_alloc | apply Kd.R_drewN | apply Kd.R_drew)); exact HO_2.out) hb)
           have n1_ := Az.mk (Kd.S_elder' (by (with_reducible repeat (first | apply Kd.S_alloc | apply Kd.S_drewN | apply Kd.S_drew)); exact HO_170000.out) (Kd.R_base ho20) hb)
           have n2_ := Az.mk (Kd.R_lower ho20 (below_size (by repeat (first | (with_reducible first | exact HB.out | apply bal | apply bdN | apply bdr | refine bS ?_ GE168.out | refine bS ?_ GE169.out | refine bS ?_ GE180.out) | exact HB.out))))
           have n3_ := Az.mk (blk_below (g := gb168) (o := .cells #[.slice none 0 0] 25 (0, 0)) (by (with_reducible repeat (first | refine blk_drewN ?_ _ | refine blk_drew ?_ | refine blk_alloc ?_ _)); exact BK168.out) hb)
           have n4_ := Az.mk (blk_below (g := gb169) (o := .cells #[u170000] 25 (0, 0)) (by (with_reducible repeat (first | refine blk_drewN ?_ _ | refine blk_drew ?_ | refine blk_alloc ?_ _)); exact BK169.out) hb)
           have n5_ := Az.mk (blk_below (g := gb180) (o := .cells #[.int .i64 0, .string (⟨#[]⟩ : ByteArray), .int .i64 0, .slice none 0 0, .slice none 0 0, .slice none 0 0, .slice none 0 0] 79 (0, 0)) (by (with_reducible repeat (first | refine blk_drewN ?_ _ | refine blk_drew ?_ | refine blk_alloc ?_ _)); exact BK180.out) hb)
           have n6_ := Az.mk (below_step (by repeat (first | (with_reducible first | exact HB.out | apply bal | apply bdN | apply bdr | refine bS ?_ GE168.out | refine bS ?_ GE169.out | refine bS ?_ GE180.out) | exact HB.out)) hb)
           clear HO_2
           clear HO_170000
           clear BK168
           clear BK169
           clear BK180
           clear HB
           have HO_2 := n0_
           have HO_170000 := n1_
           have HO179 := n2_
           have BK168 := n3_
           have BK169 := n4_
           have BK180 := n5_
           have HB := n6_
           clear n0_ n1_ n2_ n3_ n4_ n5_ n6_
           clear hb ho20
           obtain ⟨Ao21, co21, eo21⟩ := Kd.R_slice HO179.out
           (first | subst eo21 | (injection eo21 with f1_ f2_ f3_; have f4_ := f1_.symm; have f5_ := f3_.symm; clear f1_ f2_ f3_; subst f4_; subst f5_))
           refine hK.out _ _ (HS0_) (fun hHeld => ?_)
           clear hK K
           refine norm_ (a' := ?_) ?_ ?_
           rotate_left
           ·show Act.put _ (some 21) _ = _
            simp only [Act.put, List.setIfInBounds_toArray, List.set_cons_zero, List.set_cons_succ, i64_w, i32_w]
            rfl
           refine pure_ (i := 7) (N := some 22) (v := ?_) (a' := ?_) #[true, true, true, true, true, true, true, true, true, false] rfl rfl (any_of HT_.out (by kernel_rfl)) (fun _ _ _ h => h) (Or.inl ⟨by rfl, ?_⟩) ?_ ?_
           rotate_left
           ·intro w'
            go_simp
            with_reducible rfl
           rotate_left
           ·simp only [Act.put, List.setIfInBounds_toArray, List.set_cons_zero, List.set_cons_succ, i64_w, i32_w]
            rfl
           exact norm_ (by simp only [putAll, Act.put, List.setIfInBounds_toArray, List.set_cons_zero, List.set_cons_succ]) (hCont (.slice Ao21 y177.length co21, gb180) _ ⟨hHeld, (by (with_reducible repeat (first | apply Kd.R_alloc | apply Kd.R_drewN | apply Kd.R_drew)); exact HO179.out), (by (with_reducible repeat (first | apply Kd.S_alloc | apply Kd.S_drewN | apply Kd.S_drew)); exact Kd.S_mono HO_170000.out (fun _ hk => ⟨hk.2, ⟨hk.1.1, hk.1.2⟩⟩)), (by (with_reducible repeat (first | apply Kd.R_alloc | apply Kd.R_drewN | apply Kd.R_drew)); exact HO_2.out), (by (with_reducible repeat (first | refine blk_drewN ?_ _ | refine blk_drew ?_ | refine blk_alloc ?_ _)); exact BK168.out), (by (with_reducible repeat (first | refine blk_drewN ?_ _ | refine blk_drew ?_ | refine blk_alloc ?_ _)); exact BK169.out), (by (with_reducible repeat (first | refine blk_drewN ?_ _ | refine blk_drew ?_ | refine blk_alloc ?_ _)); exact BK180.out), GW180.out, GE180.out, NB168_180.out, NB180_168.out, NB169_180.out, NB180_169.out, (by repeat (first | (with_reducible first | exact HB.out | apply bal | apply bdN | apply bdr | refine bS ?_ GE168.out | refine bS ?_ GE169.out | refine bS ?_ GE180.out) | exact HB.out))⟩)
         ·skip
          refine box_step ?hg (N := 4) ?hd (cs := #[.int .i64 0, .string (⟨#[]⟩ : ByteArray), .int .i64 0, .slice none 0 0, .slice none 0 0, .slice none 0 0, .slice none 0 0]) (t := 79) ?hr ?_; (case hd => rfl); (case hg => rfl); (case hr => first | (go_simp; done) | (go_simp; rfl))
          intro gb180 hg w17 hbox hb
          have HS0_ := (hb.cell (World.block_lt_of_cell? _ _ (hHeld))).trans (hHeld)
          have n0_ := Az.mk (Kd.R_below (by (with_reducible repeat (first | apply Kd.R_alloc | apply Kd.R_drewN | apply Kd.R_drew)); exact HO_2.out) hb)
          have n1_ := Az.mk (Kd.S_below (Kd.S_elderB (by (with_reducible repeat (first | apply Kd.S_alloc | apply Kd.S_drewN | apply Kd.S_drew)); exact HO_170000.out) gb180 (Nat.le_of_eq hg.symm)) hb)
          have n2_ := Az.mk (blk_below (g := gb168) (o := .cells #[.slice none 0 0] 25 (0, 0)) (by (with_reducible repeat (first | refine blk_drewN ?_ _ | refine blk_drew ?_ | refine blk_alloc ?_ _)); exact BK168.out) hb)
          have n3_ := Az.mk (blk_below (g := gb169) (o := .cells #[u170000] 25 (0, 0)) (by (with_reducible repeat (first | refine blk_drewN ?_ _ | refine blk_drew ?_ | refine blk_alloc ?_ _)); exact BK169.out) hb)
          have n4_ := Az.mk (below_step (by repeat (first | (with_reducible first | exact HB.out | apply bal | apply bdN | apply bdr | refine bS ?_ GE168.out | refine bS ?_ GE169.out) | exact HB.out)) hb)
          have n5_ := Az.mk (hbox)
          have n6_ := Az.mk ((by rw [hg]; exact (below_size (by repeat (first | (with_reducible first | exact HB.out | apply bal | apply bdN | apply bdr | refine bS ?_ GE168.out | refine bS ?_ GE169.out) | exact HB.out))) : w.heap.size ≤ gb180))
          have n7_ := Az.mk ((by rw [hg]; exact (below_size (by repeat (first | (with_reducible first | exact HB.out | apply bal | apply bdN | apply bdr | refine bS ?_ GE168.out | refine bS ?_ GE169.out) | exact HB.out))) : w.heap.size ≤ gb180))
          have n8_ := Az.mk ((by rw [hg]; exact Nat.ne_of_lt (blk_lt (g := gb168) (o := .cells #[.slice none 0 0] 25 (0, 0)) (by (with_reducible repeat (first | refine blk_drewN ?_ _ | refine blk_drew ?_ | refine blk_alloc ?_ _)); exact BK168.out)) : gb168 ≠ gb180))
          have n9_ := Az.mk ((by rw [hg]; exact Nat.ne_of_gt (blk_lt (g := gb168) (o := .cells #[.slice none 0 0] 25 (0, 0)) (by (with_reducible repeat (first | refine blk_drewN ?_ _ | refine blk_drew ?_ | refine blk_alloc ?_ _)); exact BK168.out)) : gb180 ≠ gb168))
          have n10_ := Az.mk ((by rw [hg]; exact Nat.ne_of_lt (blk_lt (g := gb169) (o := .cells #[u170000] 25 (0, 0)) (by (with_reducible repeat (first | refine blk_drewN ?_ _ | refine blk_drew ?_ | refine blk_alloc ?_ _)); exact BK169.out)) : gb169 ≠ gb180))
          have n11_ := Az.mk ((by rw [hg]; exact Nat.ne_of_gt (blk_lt (g := gb169) (o := .cells #[u170000] 25 (0, 0)) (by (with_reducible repeat (first | refine blk_drewN ?_ _ | refine blk_drew ?_ | refine blk_alloc ?_ _)); exact BK169.out)) : gb180 ≠ gb169))
          clear HO_2
          clear HO_170000
          clear BK168
          clear BK169
          clear HB
          have HO_2 := n0_
          have HO_170000 := n1_
          have BK168 := n2_
          have BK169 := n3_
          have HB := n4_
          have BK180 := n5_
          have GW180 := n6_
          have GE180 := n7_
          have NB168_180 := n8_
          have NB180_168 := n9_
          have NB169_180 := n10_
          have NB180_169 := n11_
          clear n0_ n1_ n2_ n3_ n4_ n5_ n6_ n7_ n8_ n9_ n10_ n11_
          clear hb hbox hg
          refine hK.out _ _ (HS0_) (fun hHeld => ?_)
          clear hK K
          refine norm_ (a' := ?_) ?_ ?_
          rotate_left
          ·show Act.put _ (some 4) _ = _
           simp only [Act.put, List.setIfInBounds_toArray, List.set_cons_zero, List.set_cons_succ, i64_w, i32_w]
           rfl
          refine one_ (i := 5) (N := some 20) #[true, true, true, true, true, true, false, false, true, false] rfl rfl (one_of HT_.out (by kernel_rfl)) (by decide) (fun K hK => ?_)
          refine goes_ Try.func89 (by kernel_rfl) rfl #[.int .i64 x3_1] (by rfl) rfl rfl (by (try simp only [List.map_toArray, List.map_cons, List.map_nil]); first | done | rfl | (simp only [List.length_drop, List.length_take]; rfl)) ?_
          with_reducible refine (spec_refTo.calls x3_1 t174 t175 t176 _ A9.out).mono ?_
          rintro e w18 ⟨rfl, hb⟩
          have HS0_ := (hb.cell (World.block_lt_of_cell? _ _ (hHeld))).trans (hHeld)
          refine ⟨_, rfl, ?_⟩
          have n0_ := Az.mk (Kd.R_below (by (with_reducible repeat (first | apply Kd.R_alloc | apply Kd.R_drewN | apply Kd.R_drew)); exact HO_2.out) hb)
          have n1_ := Az.mk (Kd.S_below (by (with_reducible repeat (first | apply Kd.S_alloc | apply Kd.S_drewN | apply Kd.S_drew)); exact HO_170000.out) hb)
          have n2_ := Az.mk (blk_below (g := gb168) (o := .cells #[.slice none 0 0] 25 (0, 0)) (by (with_reducible repeat (first | refine blk_drewN ?_ _ | refine blk_drew ?_ | refine blk_alloc ?_ _)); exact BK168.out) hb)
          have n3_ := Az.mk (blk_below (g := gb169) (o := .cells #[u170000] 25 (0, 0)) (by (with_reducible repeat (first | refine blk_drewN ?_ _ | refine blk_drew ?_ | refine blk_alloc ?_ _)); exact BK169.out) hb)
          have n4_ := Az.mk (blk_below (g := gb180) (o := .cells #[.int .i64 0, .string (⟨#[]⟩ : ByteArray), .int .i64 0, .slice none 0 0, .slice none 0 0, .slice none 0 0, .slice none 0 0] 79 (0, 0)) (by (with_reducible repeat (first | refine blk_drewN ?_ _ | refine blk_drew ?_ | refine blk_alloc ?_ _)); exact BK180.out) hb)
          have n5_ := Az.mk (below_step (by repeat (first | (with_reducible first | exact HB.out | apply bal | apply bdN | apply bdr | refine bS ?_ GE168.out | refine bS ?_ GE169.out | refine bS ?_ GE180.out) | exact HB.out)) hb)
          clear HO_2
          clear HO_170000
          clear BK168
          clear BK169
          clear BK180
          clear HB
          have HO_2 := n0_
          have HO_170000 := n1_
          have BK168 := n2_
          have BK169 := n3_
          have BK180 := n4_
          have HB := n5_
          clear n0_ n1_ n2_ n3_ n4_ n5_
          (try clear hb)
          (try clear hb2)
          (try clear hk)
          (try clear hi)
          refine hK.out _ _ (HS0_) (fun hHeld => ?_)
          clear hK K
          refine norm_ (a' := ?_) ?_ ?_
          rotate_left
          ·show Act.put _ (some 20) _ = _
           simp only [Act.put, List.setIfInBounds_toArray, List.set_cons_zero, List.set_cons_succ, i64_w, i32_w]
           rfl
          refine one_ (i := 6) (N := some 21) #[true, true, true, true, true, true, true, false, true, false] rfl rfl (one_of HT_.out (by kernel_rfl)) (by decide) (fun K hK => ?_)
          refine Kd.R_lit_step k31 _ 31 ?hg (N := 21) ?hd (xs := ([(⟨t174, t175, t176⟩ : S31)] : List (S31))) (inner := [.int .i64 t174, .string t175, .int .i64 t176]) (ok := fun _ => True) (okp := fun _ => True) ?hr ?hp (fun _ hk => hk) trivial (Below.refl _ _) (Nat.le_refl _) (by simp) ?_; (case hd => rfl); (case hg => rfl); (case hr => first | (go_simp; done) | (go_simp; rfl)); (case hp => exact (Reps.c3 (show Kd.M k31 _ _ _ (⟨t174, t175, t176⟩ : S31) [.int .i64 t174, .string t175, .int .i64 t176] from (k31_mkM _ _ _ (⟨t174, t175, t176⟩ : S31) )) (Reps.none _ _)))
          intro v178 w19 ho20 hb hg_ hnew_
          have HS0_ := (hb.cell (World.block_lt_of_cell? _ _ (hHeld))).trans (hHeld)
          clear hg_ hnew_
          (first | rw [← Ny177.out] at ho20 | (simp only [Int.reduceToNat] at ho20; rw [← Ny177.out] at ho20))
          have n0_ := Az.mk (Kd.R_below (by (with_reducible repeat (first | apply Kd.R_alloc | apply Kd.R_drewN | apply Kd.R_drew)); exact HO_2.out) hb)
          have n1_ := Az.mk (Kd.S_elder' (by (with_reducible repeat (first | apply Kd.S_alloc | apply Kd.S_drewN | apply Kd.S_drew)); exact HO_170000.out) (Kd.R_base ho20) hb)
          have n2_ := Az.mk (Kd.R_lower ho20 (below_size (by repeat (first | (with_reducible first | exact HB.out | apply bal | apply bdN | apply bdr | refine bS ?_ GE168.out | refine bS ?_ GE169.out | refine bS ?_ GE180.out) | exact HB.out))))
          have n3_ := Az.mk (blk_below (g := gb168) (o := .cells #[.slice none 0 0] 25 (0, 0)) (by (with_reducible repeat (first | refine blk_drewN ?_ _ | refine blk_drew ?_ | refine blk_alloc ?_ _)); exact BK168.out) hb)
          have n4_ := Az.mk (blk_below (g := gb169) (o := .cells #[u170000] 25 (0, 0)) (by (with_reducible repeat (first | refine blk_drewN ?_ _ | refine blk_drew ?_ | refine blk_alloc ?_ _)); exact BK169.out) hb)
          have n5_ := Az.mk (blk_below (g := gb180) (o := .cells #[.int .i64 0, .string (⟨#[]⟩ : ByteArray), .int .i64 0, .slice none 0 0, .slice none 0 0, .slice none 0 0, .slice none 0 0] 79 (0, 0)) (by (with_reducible repeat (first | refine blk_drewN ?_ _ | refine blk_drew ?_ | refine blk_alloc ?_ _)); exact BK180.out) hb)
          have n6_ := Az.mk (below_step (by repeat (first | (with_reducible first | exact HB.out | apply bal | apply bdN | apply bdr | refine bS ?_ GE168.out | refine bS ?_ GE169.out | refine bS ?_ GE180.out) | exact HB.out)) hb)
          clear HO_2
          clear HO_170000
          clear BK168
          clear BK169
          clear BK180
          clear HB
          have HO_2 := n0_
          have HO_170000 := n1_
          have HO179 := n2_
          have BK168 := n3_
          have BK169 := n4_
          have BK180 := n5_
          have HB := n6_
          clear n0_ n1_ n2_ n3_ n4_ n5_ n6_
          clear hb ho20
          obtain ⟨Ao21, co21, eo21⟩ := Kd.R_slice HO179.out
          (first | subst eo21 | (injection eo21 with f1_ f2_ f3_; have f4_ := f1_.symm; have f5_ := f3_.symm; clear f1_ f2_ f3_; subst f4_; subst f5_))
          refine hK.out _ _ (HS0_) (fun hHeld => ?_)
          clear hK K
          refine norm_ (a' := ?_) ?_ ?_
          rotate_left
          ·show Act.put _ (some 21) _ = _
           simp only [Act.put, List.setIfInBounds_toArray, List.set_cons_zero, List.set_cons_succ, i64_w, i32_w]
           rfl
          refine pure_ (i := 7) (N := some 22) (v := ?_) (a' := ?_) #[true, true, true, true, true, true, true, true, true, false] rfl rfl (any_of HT_.out (by kernel_rfl)) (fun _ _ _ h => h) (Or.inl ⟨by rfl, ?_⟩) ?_ ?_
          rotate_left
          ·intro w'
           go_simp
           with_reducible rfl
          rotate_left
          ·simp only [Act.put, List.setIfInBounds_toArray, List.set_cons_zero, List.set_cons_succ, i64_w, i32_w]
           rfl
          exact norm_ (by simp only [putAll, Act.put, List.setIfInBounds_toArray, List.set_cons_zero, List.set_cons_succ]) (hCont (.slice Ao21 y177.length co21, gb180) _ ⟨hHeld, (by (with_reducible repeat (first | apply Kd.R_alloc | apply Kd.R_drewN | apply Kd.R_drew)); exact HO179.out), (by (with_reducible repeat (first | apply Kd.S_alloc | apply Kd.S_drewN | apply Kd.S_drew)); exact Kd.S_mono HO_170000.out (fun _ hk => ⟨hk.2, ⟨hk.1.1, hk.1.2⟩⟩)), (by (with_reducible repeat (first | apply Kd.R_alloc | apply Kd.R_drewN | apply Kd.R_drew)); exact HO_2.out), (by (with_reducible repeat (first | refine blk_drewN ?_ _ | refine blk_drew ?_ | refine blk_alloc ?_ _)); exact BK168.out), (by (with_reducible repeat (first | refine blk_drewN ?_ _ | refine blk_drew ?_ | refine blk_alloc ?_ _)); exact BK169.out), (by (with_reducible repeat (first | refine blk_drewN ?_ _ | refine blk_drew ?_ | refine blk_alloc ?_ _)); exact BK180.out), GW180.out, GE180.out, NB168_180.out, NB180_168.out, NB169_180.out, NB180_169.out, (by repeat (first | (with_reducible first | exact HB.out | apply bal | apply bdN | apply bdr | refine bS ?_ GE168.out | refine bS ?_ GE169.out | refine bS ?_ GE180.out) | exact HB.out))⟩)
        rintro ⟨v178, gb180⟩ w22 ⟨hS_, h0_, h1_, h2_, h3_, h4_, h5_, h6_, h7_, h8_, h9_, h10_, h11_, h12_⟩
        have n0_ : Az (Kd.R k31 31 w22 w.heap.size (fun _ => True) v178 y177) := ⟨h0_⟩
        have n1_ : Az (Kd.S k79 79 w22 w.heap.size (fun k_ => some k_ ≠ (v178 : Value).ownBlock ∧ some k_ ≠ (.slice (some ad173) t170.length co15 : Value).ownBlock ∧ k_ ≠ gb180) u170000 x170000_1) := ⟨h1_⟩
        have n2_ : Az (Kd.R Kd.string 9 w22 w.heap.size (fun _ => True) (.slice (some ad173) t170.length co15) t170) := ⟨h2_⟩
        have n3_ : Az (w22.heap[gb168]? = some (.cells #[.slice none 0 0] 25 (0, 0))) := ⟨h3_⟩
        have n4_ : Az (w22.heap[gb169]? = some (.cells #[u170000] 25 (0, 0))) := ⟨h4_⟩
        have n5_ : Az (w22.heap[gb180]? = some (.cells #[.int .i64 0, .string (⟨#[]⟩ : ByteArray), .int .i64 0, .slice none 0 0, .slice none 0 0, .slice none 0 0, .slice none 0 0] 79 (0, 0))) := ⟨h5_⟩
        have n6_ : Az (w.heap.size ≤ gb180) := ⟨h6_⟩
        have n7_ : Az (w.heap.size ≤ gb180) := ⟨h7_⟩
        have n8_ : Az (gb168 ≠ gb180) := ⟨h8_⟩
        have n9_ : Az (gb180 ≠ gb168) := ⟨h9_⟩
        have n10_ : Az (gb169 ≠ gb180) := ⟨h10_⟩
        have n11_ : Az (gb180 ≠ gb169) := ⟨h11_⟩
        have n12_ : Az (Below w.heap.size w w22) := ⟨h12_⟩
        clear HO_2
        clear HO_170000
        clear BK168
        clear BK169
        clear HB
        clear h0_ h1_ h2_ h3_ h4_ h5_ h6_ h7_ h8_ h9_ h10_ h11_ h12_
        have HO179 := n0_
        have HO_170000 := n1_
        have HO_2 := n2_
        have BK168 := n3_
        have BK169 := n4_
        have BK180 := n5_
        have GW180 := n6_
        have GE180 := n7_
        have NB168_180 := n8_
        have NB180_168 := n9_
        have NB169_180 := n10_
        have NB180_169 := n11_
        have HB := n12_
        clear n0_ n1_ n2_ n3_ n4_ n5_ n6_ n7_ n8_ n9_ n10_ n11_ n12_
        have hHeld : w22.cell? (ad173.add (x3_1).toNat) = some (.string (rdOf ByteArray.empty t170 x3_1)) := hS_
        obtain ⟨Ao23, co23, eo23⟩ := Kd.R_slice HO179.out
        (first | subst eo23 | (injection eo23 with f1_ f2_ f3_; have f4_ := f1_.symm; have f5_ := f3_.symm; clear f1_ f2_ f3_; subst f4_; subst f5_))
        refine norm_ (a' := ?_) ?_ ?_
        rotate_left
        ·simp only [putAll, Act.put, List.setIfInBounds_toArray, List.set_cons_zero, List.set_cons_succ]
         rfl
        refine one_ (i := 9) (N := none) #[true, true, true, true, true, true, true, true, true, true] rfl rfl (one_of HT_.out (by kernel_rfl)) (by decide) (fun K hK => ?_)
        have hs24 : w22.cell? ⟨gb180, 0, none⟩ = some (.int .i64 0) := (bC BK180.out 0).trans rfl
        have hfs24 := bF BK180.out 0
        have hns24_0 := NB168_180.out
        have hns24_1 := NB169_180.out
        have hms24_0 := NB180_168.out
        have hms24_1 := NB180_169.out
        have hs25 : w22.cell? ⟨gb180, 1, none⟩ = some (.string (⟨#[]⟩ : ByteArray)) := (bC BK180.out 1).trans rfl
        have hfs25 := bF BK180.out 1
        have hns25_0 := NB168_180.out
        have hns25_1 := NB169_180.out
        have hms25_0 := NB180_168.out
        have hms25_1 := NB180_169.out
        have hs26 : w22.cell? ⟨gb180, 2, none⟩ = some (.int .i64 0) := (bC BK180.out 2).trans rfl
        have hfs26 := bF BK180.out 2
        have hns26_0 := NB168_180.out
        have hns26_1 := NB169_180.out
        have hms26_0 := NB180_168.out
        have hms26_1 := NB180_169.out
        have hs27 : w22.cell? ⟨gb180, 3, none⟩ = some (.slice none 0 0) := (bC BK180.out 3).trans rfl
        have hfs27 := bF BK180.out 3
        have hns27_0 := NB168_180.out
        have hns27_1 := NB169_180.out
        have hms27_0 := NB180_168.out
        have hms27_1 := NB180_169.out
        have hs28 : w22.cell? ⟨gb180, 4, none⟩ = some (.slice none 0 0) := (bC BK180.out 4).trans rfl
        have hfs28 := bF BK180.out 4
        have hns28_0 := NB168_180.out
        have hns28_1 := NB169_180.out
        have hms28_0 := NB180_168.out
        have hms28_1 := NB180_169.out
        have hs29 : w22.cell? ⟨gb180, 5, none⟩ = some (.slice none 0 0) := (bC BK180.out 5).trans rfl
        have hfs29 := bF BK180.out 5
        have hns29_0 := NB168_180.out
        have hns29_1 := NB169_180.out
        have hms29_0 := NB180_168.out
        have hms29_1 := NB180_169.out
        have hs30 : w22.cell? ⟨gb180, 6, none⟩ = some (.slice none 0 0) := (bC BK180.out 6).trans rfl
        have hfs30 := bF BK180.out 6
        have hns30_0 := NB168_180.out
        have hns30_1 := NB169_180.out
        have hms30_0 := NB180_168.out
        have hms30_1 := NB180_169.out
        refine skip_ (w1 := ?_) (by rfl) rfl ?_ ?_
        rotate_left
        ·go_simp
         rfl
        refine hK.out _ _ (((cell_far (p := ⟨gb180, _, none⟩) (by first | exact Kd.own_blk (Kd.R_ne HO_2.out BK180.out (by decide)) | (rw [add_block]; exact Kd.own_blk (Kd.R_ne HO_2.out BK180.out (by decide))) | (show (Addr.add _ _).block ≠ _; rw [add_block]; exact Kd.own_blk (Kd.R_ne HO_2.out BK180.out (by decide))) | (dsimp only; exact Kd.own_blk (Kd.R_ne HO_2.out BK180.out (by decide)))) _).trans (((cell_far (p := ⟨gb180, _, none⟩) (by first | exact Kd.own_blk (Kd.R_ne HO_2.out BK180.out (by decide)) | (rw [add_block]; exact Kd.own_blk (Kd.R_ne HO_2.out BK180.out (by decide))) | (show (Addr.add _ _).block ≠ _; rw [add_block]; exact Kd.own_blk (Kd.R_ne HO_2.out BK180.out (by decide))) | (dsimp only; exact Kd.own_blk (Kd.R_ne HO_2.out BK180.out (by decide)))) _).trans (((cell_far (p := ⟨gb180, _, none⟩) (by first | exact Kd.own_blk (Kd.R_ne HO_2.out BK180.out (by decide)) | (rw [add_block]; exact Kd.own_blk (Kd.R_ne HO_2.out BK180.out (by decide))) | (show (Addr.add _ _).block ≠ _; rw [add_block]; exact Kd.own_blk (Kd.R_ne HO_2.out BK180.out (by decide))) | (dsimp only; exact Kd.own_blk (Kd.R_ne HO_2.out BK180.out (by decide)))) _).trans (((cell_far (p := ⟨gb180, _, none⟩) (by first | exact Kd.own_blk (Kd.R_ne HO_2.out BK180.out (by decide)) | (rw [add_block]; exact Kd.own_blk (Kd.R_ne HO_2.out BK180.out (by decide))) | (show (Addr.add _ _).block ≠ _; rw [add_block]; exact Kd.own_blk (Kd.R_ne HO_2.out BK180.out (by decide))) | (dsimp only; exact Kd.own_blk (Kd.R_ne HO_2.out BK180.out (by decide)))) _).trans (((cell_far (p := ⟨gb180, _, none⟩) (by first | exact Kd.own_blk (Kd.R_ne HO_2.out BK180.out (by decide)) | (rw [add_block]; exact Kd.own_blk (Kd.R_ne HO_2.out BK180.out (by decide))) | (show (Addr.add _ _).block ≠ _; rw [add_block]; exact Kd.own_blk (Kd.R_ne HO_2.out BK180.out (by decide))) | (dsimp only; exact Kd.own_blk (Kd.R_ne HO_2.out BK180.out (by decide)))) _).trans (((cell_far (p := ⟨gb180, _, none⟩) (by first | exact Kd.own_blk (Kd.R_ne HO_2.out BK180.out (by decide)) | (rw [add_block]; exact Kd.own_blk (Kd.R_ne HO_2.out BK180.out (by decide))) | (show (Addr.add _ _).block ≠ _; rw [add_block]; exact Kd.own_blk (Kd.R_ne HO_2.out BK180.out (by decide))) | (dsimp only; exact Kd.own_blk (Kd.R_ne HO_2.out BK180.out (by decide)))) _).trans (((cell_far (p := ⟨gb180, _, none⟩) (by first | exact Kd.own_blk (Kd.R_ne HO_2.out BK180.out (by decide)) | (rw [add_block]; exact Kd.own_blk (Kd.R_ne HO_2.out BK180.out (by decide))) | (show (Addr.add _ _).block ≠ _; rw [add_block]; exact Kd.own_blk (Kd.R_ne HO_2.out BK180.out (by decide))) | (dsimp only; exact Kd.own_blk (Kd.R_ne HO_2.out BK180.out (by decide)))) _).trans (hHeld))))))))))))))) (fun hHeld => ?_)
        clear hK K
        refine done_ (done_of HT_.out (by kernel_rfl)) ?_
        try go_wp2_with (first | ((with_reducible refine gate_callee (f := 89) rfl ?_); refine goesL_ (some 25) rfl rfl Try.func89 (by kernel_rfl) rfl #[.int .i64 0] rfl (by (try simp only [List.map_toArray, List.map_cons, List.map_nil]); first | done | rfl | (simp only [List.length_drop, List.length_take]; rfl)) ?_; (with_reducible refine (spec_refTo.calls 0 t181 t182 t183 _ A11.out).mono ?_); rintro e w31 ⟨rfl, hb⟩; refine ⟨_, rfl, ?_⟩; have n0_ := Az.mk (Kd.R_below (by (with_reducible repeat (first | apply Kd.R_alloc | apply Kd.R_drewN | apply Kd.R_drew)); exact (Kd.R_mono (Kd.R_far (p := ⟨gb180, 6, none⟩) (Kd.R_far (p := ⟨gb180, 5, none⟩) (Kd.R_far (p := ⟨gb180, 4, none⟩) (Kd.R_far (p := ⟨gb180, 3, none⟩) (Kd.R_far (p := ⟨gb180, 2, none⟩) (Kd.R_far (p := ⟨gb180, 1, none⟩) (Kd.R_far (p := ⟨gb180, 0, none⟩) (Kd.R_types HO_2.out BK180.out (by decide)) (fun _ hk => hk.2) (.int .i64 5)) (fun _ hk => hk.2) (.string (rdOf ByteArray.empty t170 x3_1))) (fun _ hk => hk.2) (.int .i64 0)) (fun _ hk => hk.2) (.slice Ao23 y177.length co23)) (fun _ hk => hk.2) (.slice none 0 0)) (fun _ hk => hk.2) (.slice none 0 0)) (fun _ hk => hk.2) (.slice none 0 0)) (fun _ h_ => h_.1))) hb); have n1_ := Az.mk (Kd.S_below (by (with_reducible repeat (first | apply Kd.S_alloc | apply Kd.S_drewN | apply Kd.S_drew)); exact (Kd.S_mono (Kd.S_far (p := ⟨gb180, 6, none⟩) (Kd.S_far (p := ⟨gb180, 5, none⟩) (Kd.S_far (p := ⟨gb180, 4, none⟩) (Kd.S_far (p := ⟨gb180, 3, none⟩) (Kd.S_far (p := ⟨gb180, 2, none⟩) (Kd.S_far (p := ⟨gb180, 1, none⟩) (Kd.S_far (p := ⟨gb180, 0, none⟩) (Kd.S_mono HO_170000.out (fun k_ hk => (⟨hk, hk.2.2⟩ : _ ∧ k_ ≠ gb180))) (fun _ hk => hk.2) (.int .i64 5)) (fun _ hk => hk.2) (.string (rdOf ByteArray.empty t170 x3_1))) (fun _ hk => hk.2) (.int .i64 0)) (fun _ hk => hk.2) (.slice Ao23 y177.length co23)) (fun _ hk => hk.2) (.slice none 0 0)) (fun _ hk => hk.2) (.slice none 0 0)) (fun _ hk => hk.2) (.slice none 0 0)) (fun _ h_ => h_.1))) hb); have n2_ := Az.mk (Kd.R_below (by (with_reducible repeat (first | apply Kd.R_alloc | apply Kd.R_drewN | apply Kd.R_drew)); exact (Kd.R_mono (Kd.R_far (p := ⟨gb180, 6, none⟩) (Kd.R_far (p := ⟨gb180, 5, none⟩) (Kd.R_far (p := ⟨gb180, 4, none⟩) (Kd.R_far (p := ⟨gb180, 3, none⟩) (Kd.R_far (p := ⟨gb180, 2, none⟩) (Kd.R_far (p := ⟨gb180, 1, none⟩) (Kd.R_far (p := ⟨gb180, 0, none⟩) (Kd.R_types HO179.out BK180.out (by decide)) (fun _ hk => hk.2) (.int .i64 5)) (fun _ hk => hk.2) (.string (rdOf ByteArray.empty t170 x3_1))) (fun _ hk => hk.2) (.int .i64 0)) (fun _ hk => hk.2) (.slice Ao23 y177.length co23)) (fun _ hk => hk.2) (.slice none 0 0)) (fun _ hk => hk.2) (.slice none 0 0)) (fun _ hk => hk.2) (.slice none 0 0)) (fun _ h_ => h_.1))) hb); have n3_ := Az.mk (blk_below (g := gb168) (o := .cells #[.slice none 0 0] 25 (0, 0)) (by (with_reducible repeat (first | refine blk_drewN ?_ _ | refine blk_drew ?_ | refine blk_alloc ?_ _)); refine blk_far ?_ NB168_180.out _; (with_reducible repeat (first | refine blk_drewN ?_ _ | refine blk_drew ?_ | refine blk_alloc ?_ _)); refine blk_far ?_ NB168_180.out _; (with_reducible repeat (first | refine blk_drewN ?_ _ | refine blk_drew ?_ | refine blk_alloc ?_ _)); refine blk_far ?_ NB168_180.out _; (with_reducible repeat (first | refine blk_drewN ?_ _ | refine blk_drew ?_ | refine blk_alloc ?_ _)); refine blk_far ?_ NB168_180.out _; (with_reducible repeat (first | refine blk_drewN ?_ _ | refine blk_drew ?_ | refine blk_alloc ?_ _)); refine blk_far ?_ NB168_180.out _; (with_reducible repeat (first | refine blk_drewN ?_ _ | refine blk_drew ?_ | refine blk_alloc ?_ _)); refine blk_far ?_ NB168_180.out _; (with_reducible repeat (first | refine blk_drewN ?_ _ | refine blk_drew ?_ | refine blk_alloc ?_ _)); refine blk_far ?_ NB168_180.out _; (with_reducible repeat (first | refine blk_drewN ?_ _ | refine blk_drew ?_ | refine blk_alloc ?_ _)); exact BK168.out) hb); have n4_ := Az.mk (blk_below (g := gb169) (o := .cells #[u170000] 25 (0, 0)) (by (with_reducible repeat (first | refine blk_drewN ?_ _ | refine blk_drew ?_ | refine blk_alloc ?_ _)); refine blk_far ?_ NB169_180.out _; (with_reducible repeat (first | refine blk_drewN ?_ _ | refine blk_drew ?_ | refine blk_alloc ?_ _)); refine blk_far ?_ NB169_180.out _; (with_reducible repeat (first | refine blk_drewN ?_ _ | refine blk_drew ?_ | refine blk_alloc ?_ _)); refine blk_far ?_ NB169_180.out _; (with_reducible repeat (first | refine blk_drewN ?_ _ | refine blk_drew ?_ | refine blk_alloc ?_ _)); refine blk_far ?_ NB169_180.out _; (with_reducible repeat (first | refine blk_drewN ?_ _ | refine blk_drew ?_ | refine blk_alloc ?_ _)); refine blk_far ?_ NB169_180.out _; (with_reducible repeat (first | refine blk_drewN ?_ _ | refine blk_drew ?_ | refine blk_alloc ?_ _)); refine blk_far ?_ NB169_180.out _; (with_reducible repeat (first | refine blk_drewN ?_ _ | refine blk_drew ?_ | refine blk_alloc ?_ _)); refine blk_far ?_ NB169_180.out _; (with_reducible repeat (first | refine blk_drewN ?_ _ | refine blk_drew ?_ | refine blk_alloc ?_ _)); exact BK169.out) hb); have n5_ := Az.mk (blk_below (g := gb180) (o := .cells #[.int .i64 5, .string (rdOf ByteArray.empty t170 x3_1), .int .i64 0, .slice Ao23 y177.length co23, .slice none 0 0, .slice none 0 0, .slice none 0 0] 79 (0, 0)) (by (with_reducible repeat (first | refine blk_drewN ?_ _ | refine blk_drew ?_ | refine blk_alloc ?_ _)); refine blk_put (cs := #[.int .i64 5, .string (rdOf ByteArray.empty t170 x3_1), .int .i64 0, .slice Ao23 y177.length co23, .slice none 0 0, .slice none 0 0, .slice none 0 0]) ?_ 6 _ rfl; (with_reducible repeat (first | refine blk_drewN ?_ _ | refine blk_drew ?_ | refine blk_alloc ?_ _)); refine blk_put (cs := #[.int .i64 5, .string (rdOf ByteArray.empty t170 x3_1), .int .i64 0, .slice Ao23 y177.length co23, .slice none 0 0, .slice none 0 0, .slice none 0 0]) ?_ 5 _ rfl; (with_reducible repeat (first | refine blk_drewN ?_ _ | refine blk_drew ?_ | refine blk_alloc ?_ _)); refine blk_put (cs := #[.int .i64 5, .string (rdOf ByteArray.empty t170 x3_1), .int .i64 0, .slice Ao23 y177.length co23, .slice none 0 0, .slice none 0 0, .slice none 0 0]) ?_ 4 _ rfl; (with_reducible repeat (first | refine blk_drewN ?_ _ | refine blk_drew ?_ | refine blk_alloc ?_ _)); refine blk_put (cs := #[.int .i64 5, .string (rdOf ByteArray.empty t170 x3_1), .int .i64 0, .slice none 0 0, .slice none 0 0, .slice none 0 0, .slice none 0 0]) ?_ 3 _ rfl; (with_reducible repeat (first | refine blk_drewN ?_ _ | refine blk_drew ?_ | refine blk_alloc ?_ _)); refine blk_put (cs := #[.int .i64 5, .string (rdOf ByteArray.empty t170 x3_1), .int .i64 0, .slice none 0 0, .slice none 0 0, .slice none 0 0, .slice none 0 0]) ?_ 2 _ rfl; (with_reducible repeat (first | refine blk_drewN ?_ _ | refine blk_drew ?_ | refine blk_alloc ?_ _)); refine blk_put (cs := #[.int .i64 5, .string (⟨#[]⟩ : ByteArray), .int .i64 0, .slice none 0 0, .slice none 0 0, .slice none 0 0, .slice none 0 0]) ?_ 1 _ rfl; (with_reducible repeat (first | refine blk_drewN ?_ _ | refine blk_drew ?_ | refine blk_alloc ?_ _)); refine blk_put (cs := #[.int .i64 0, .string (⟨#[]⟩ : ByteArray), .int .i64 0, .slice none 0 0, .slice none 0 0, .slice none 0 0, .slice none 0 0]) ?_ 0 _ rfl; (with_reducible repeat (first | refine blk_drewN ?_ _ | refine blk_drew ?_ | refine blk_alloc ?_ _)); exact BK180.out) hb); have n6_ := Az.mk (below_step (by repeat (first | (with_reducible first | exact HB.out | apply bal | apply bdN | apply bdr | refine bS ?_ GE168.out | refine bS ?_ GE169.out | refine bS ?_ GE180.out) | exact HB.out)) hb); clear HO_2; clear HO_170000; clear HO179; clear BK168; clear BK169; clear BK180; clear HB; have HO_2 := n0_; have HO_170000 := n1_; have HO179 := n2_; have BK168 := n3_; have BK169 := n4_; have BK180 := n5_; have HB := n6_; clear n0_ n1_ n2_ n3_ n4_ n5_ n6_; (try clear hb); (try clear hb2); (try clear hk); (try clear hi)) | ((with_reducible refine gate_dst (N := 26) rfl ?_); refine Kd.R_lit k31 _ 31 ?hg (N := 26) ?hd (xs := ([(⟨t181, t182, t183⟩ : S31)] : List (S31))) (inner := [.int .i64 t181, .string t182, .int .i64 t183]) (ok := fun _ => True) (okp := fun _ => True) ?hr ?hp (fun _ hk => hk) trivial (Below.refl _ _) (Nat.le_refl _) (by simp) ?_; (case hd => rfl); (case hg => rfl); (case hr => first | (go_simp; done) | (go_simp; rfl)); (case hp => exact (Reps.c3 (show Kd.M k31 _ _ _ (⟨t181, t182, t183⟩ : S31) [.int .i64 t181, .string t182, .int .i64 t183] from (k31_mkM _ _ _ (⟨t181, t182, t183⟩ : S31) )) (Reps.none _ _))); intro v185 w32 ho33 hb hg_ hnew_; clear hg_ hnew_; (first | rw [← Ny184.out] at ho33 | (simp only [Int.reduceToNat] at ho33; rw [← Ny184.out] at ho33)); have n0_ := Az.mk (Kd.R_below (by (with_reducible repeat (first | apply Kd.R_alloc | apply Kd.R_drewN | apply Kd.R_drew)); exact HO_2.out) hb); have n1_ := Az.mk (Kd.S_elder' (by (with_reducible repeat (first | apply Kd.S_alloc | apply Kd.S_drewN | apply Kd.S_drew)); exact HO_170000.out) (Kd.R_base ho33) hb); have n2_ := Az.mk (Kd.R_elder' (by (with_reducible repeat (first | apply Kd.R_alloc | apply Kd.R_drewN | apply Kd.R_drew)); exact HO179.out) (Kd.R_base ho33) hb); have n3_ := Az.mk (Kd.R_lower (Kd.R_new' ho33 (Kd.R_lt (by (with_reducible repeat (first | apply Kd.R_alloc | apply Kd.R_drewN | apply Kd.R_drew)); exact HO179.out))) (below_size (by repeat (first | (with_reducible first | exact HB.out | apply bal | apply bdN | apply bdr | refine bS ?_ GE168.out | refine bS ?_ GE169.out | refine bS ?_ GE180.out) | exact HB.out)))); have n4_ := Az.mk (blk_below (g := gb168) (o := .cells #[.slice none 0 0] 25 (0, 0)) (by (with_reducible repeat (first | refine blk_drewN ?_ _ | refine blk_drew ?_ | refine blk_alloc ?_ _)); exact BK168.out) hb); have n5_ := Az.mk (blk_below (g := gb169) (o := .cells #[u170000] 25 (0, 0)) (by (with_reducible repeat (first | refine blk_drewN ?_ _ | refine blk_drew ?_ | refine blk_alloc ?_ _)); exact BK169.out) hb); have n6_ := Az.mk (blk_below (g := gb180) (o := .cells #[.int .i64 5, .string (rdOf ByteArray.empty t170 x3_1), .int .i64 0, .slice Ao23 y177.length co23, .slice none 0 0, .slice none 0 0, .slice none 0 0] 79 (0, 0)) (by (with_reducible repeat (first | refine blk_drewN ?_ _ | refine blk_drew ?_ | refine blk_alloc ?_ _)); exact BK180.out) hb); have n7_ := Az.mk (below_step (by repeat (first | (with_reducible first | exact HB.out | apply bal | apply bdN | apply bdr | refine bS ?_ GE168.out | refine bS ?_ GE169.out | refine bS ?_ GE180.out) | exact HB.out)) hb); clear HO_2; clear HO_170000; clear HO179; clear BK168; clear BK169; clear BK180; clear HB; have HO_2 := n0_; have HO_170000 := n1_; have HO179 := n2_; have HO186 := n3_; have BK168 := n4_; have BK169 := n5_; have BK180 := n6_; have HB := n7_; clear n0_ n1_ n2_ n3_ n4_ n5_ n6_ n7_; clear hb ho33; obtain ⟨Ao34, co34, eo34⟩ := Kd.R_slice HO186.out; subst eo34; have hnb35 := NB180_168.out; have hnc35 := NB168_180.out; have hnb36 := NB180_169.out; have hnc36 := NB169_180.out; have hcz37_0 : w32.cell? ⟨gb180, 0, none⟩ = some (.int .i64 5) := (bC BK180.out 0).trans rfl; have hcz37_1 : w32.cell? ⟨gb180, 1, none⟩ = some (.string (rdOf ByteArray.empty t170 x3_1)) := (bC BK180.out 1).trans rfl; have hcz37_2 : w32.cell? ⟨gb180, 2, none⟩ = some (.int .i64 0) := (bC BK180.out 2).trans rfl; have hcz37_3 : w32.cell? ⟨gb180, 3, none⟩ = some (.slice Ao23 y177.length co23) := (bC BK180.out 3).trans rfl; have hcz37_4 : w32.cell? ⟨gb180, 4, none⟩ = some (.slice none 0 0) := (bC BK180.out 4).trans rfl; have hcz37_5 : w32.cell? ⟨gb180, 5, none⟩ = some (.slice none 0 0) := (bC BK180.out 5).trans rfl; have hcz37_6 : w32.cell? ⟨gb180, 6, none⟩ = some (.slice none 0 0) := (bC BK180.out 6).trans rfl; have hfz37_0 := bF BK180.out 0; have hfz37_1 := bF BK180.out 1; have hfz37_2 := bF BK180.out 2; have hfz37_3 := bF BK180.out 3; have hfz37_4 := bF BK180.out 4; have hfz37_5 := bF BK180.out 5; have hfz37_6 := bF BK180.out 6))
        have n0_ : Az (Kd.R Kd.string 9 (w32.setCell ⟨gb180, 4, none⟩ (.slice Ao34 y184.length co34)) w.heap.size (fun _ => True) (.slice (some ad173) t170.length co15) t170) := ⟨by (with_reducible repeat (first | apply Kd.R_alloc | apply Kd.R_drewN | apply Kd.R_drew)); exact Kd.R_mono (Kd.R_far (p := ⟨gb180, 4, none⟩) (Kd.R_types HO_2.out BK180.out (by decide)) (fun _ hk => hk.2) (.slice Ao34 y184.length co34)) (fun _ hk => trivial)⟩
        have n1_ : Az (Kd.S k79 79 (w32.setCell ⟨gb180, 4, none⟩ (.slice Ao34 y184.length co34)) w.heap.size (fun k_ => some k_ ≠ (.slice (some ad173) t170.length co15 : Value).ownBlock ∧ some k_ ≠ (.slice Ao23 y177.length co23 : Value).ownBlock ∧ some k_ ≠ (.slice Ao34 y184.length co34 : Value).ownBlock ∧ k_ ≠ gb180) u170000 x170000_1) := ⟨by (with_reducible repeat (first | apply Kd.S_alloc | apply Kd.S_drewN | apply Kd.S_drew)); exact Kd.S_mono (Kd.S_far (p := ⟨gb180, 4, none⟩) (Kd.S_mono HO_170000.out (fun k_ hk => (⟨hk, hk.1.2.2⟩ : _ ∧ k_ ≠ gb180))) (fun _ hk => hk.2) (.slice Ao34 y184.length co34)) (fun _ hk => ⟨hk.1.1.2.1, ⟨hk.1.1.1, ⟨hk.1.2, hk.1.1.2.2⟩⟩⟩)⟩
        have n2_ : Az (Kd.R k31 31 (w32.setCell ⟨gb180, 4, none⟩ (.slice Ao34 y184.length co34)) w.heap.size (fun k_ => some k_ ≠ (.slice Ao34 y184.length co34 : Value).ownBlock) (.slice Ao23 y177.length co23) y177) := ⟨by (with_reducible repeat (first | apply Kd.R_alloc | apply Kd.R_drewN | apply Kd.R_drew)); exact Kd.R_mono (Kd.R_far (p := ⟨gb180, 4, none⟩) (Kd.R_types HO179.out BK180.out (by decide)) (fun _ hk => hk.2) (.slice Ao34 y184.length co34)) (fun _ hk => hk.1.2)⟩
        have n3_ : Az (Kd.R k31 31 (w32.setCell ⟨gb180, 4, none⟩ (.slice Ao34 y184.length co34)) w.heap.size (fun k_ => some k_ ≠ (.slice Ao23 y177.length co23 : Value).ownBlock) (.slice Ao34 y184.length co34) y184) := ⟨by (with_reducible repeat (first | apply Kd.R_alloc | apply Kd.R_drewN | apply Kd.R_drew)); exact Kd.R_mono (Kd.R_far (p := ⟨gb180, 4, none⟩) (Kd.R_types HO186.out BK180.out (by decide)) (fun _ hk => hk.2) (.slice Ao34 y184.length co34)) (fun _ hk => hk.1.2)⟩
        have n4_ : Az ((w32.setCell ⟨gb180, 4, none⟩ (.slice Ao34 y184.length co34)).heap[gb168]? = some (.cells #[.slice none 0 0] 25 (0, 0))) := ⟨by (with_reducible repeat (first | refine blk_drewN ?_ _ | refine blk_drew ?_ | refine blk_alloc ?_ _)); refine blk_far ?_ NB168_180.out _; (with_reducible repeat (first | refine blk_drewN ?_ _ | refine blk_drew ?_ | refine blk_alloc ?_ _)); exact BK168.out⟩
        have n5_ : Az ((w32.setCell ⟨gb180, 4, none⟩ (.slice Ao34 y184.length co34)).heap[gb169]? = some (.cells #[u170000] 25 (0, 0))) := ⟨by (with_reducible repeat (first | refine blk_drewN ?_ _ | refine blk_drew ?_ | refine blk_alloc ?_ _)); refine blk_far ?_ NB169_180.out _; (with_reducible repeat (first | refine blk_drewN ?_ _ | refine blk_drew ?_ | refine blk_alloc ?_ _)); exact BK169.out⟩
        have n6_ : Az ((w32.setCell ⟨gb180, 4, none⟩ (.slice Ao34 y184.length co34)).heap[gb180]? = some (.cells #[.int .i64 5, .string (rdOf ByteArray.empty t170 x3_1), .int .i64 0, .slice Ao23 y177.length co23, .slice Ao34 y184.length co34, .slice none 0 0, .slice none 0 0] 79 (0, 0))) := ⟨by (with_reducible repeat (first | refine blk_drewN ?_ _ | refine blk_drew ?_ | refine blk_alloc ?_ _)); refine blk_put (cs := #[.int .i64 5, .string (rdOf ByteArray.empty t170 x3_1), .int .i64 0, .slice Ao23 y177.length co23, .slice none 0 0, .slice none 0 0, .slice none 0 0]) ?_ 4 _ rfl; (with_reducible repeat (first | refine blk_drewN ?_ _ | refine blk_drew ?_ | refine blk_alloc ?_ _)); exact BK180.out⟩
        have n7_ : Az (Below w.heap.size w (w32.setCell ⟨gb180, 4, none⟩ (.slice Ao34 y184.length co34))) := ⟨by repeat (first | (with_reducible first | exact HB.out | apply bal | apply bdN | apply bdr | refine bS ?_ GE168.out | refine bS ?_ GE169.out | refine bS ?_ GE180.out) | exact HB.out)⟩
        (try clear HO_2)
        (try clear HO_170000)
        (try clear HO179)
        (try clear HO186)
        (try clear BK168)
        (try clear BK169)
        (try clear BK180)
        (try clear HB)
        generalize (w32.setCell ⟨gb180, 4, none⟩ (.slice Ao34 y184.length co34)) = w38 at n0_ n1_ n2_ n3_ n4_ n5_ n6_ n7_ ⊢
        have HO_2 := n0_
        have HO_170000 := n1_
        have HO179 := n2_
        have HO186 := n3_
        have BK168 := n4_
        have BK169 := n5_
        have BK180 := n6_
        have HB := n7_
        clear n0_ n1_ n2_ n3_ n4_ n5_ n6_ n7_
        have n0_ := Az.mk (Kd.R_drew HO_2.out)
        have n1_ := Az.mk (Kd.S_drew HO_170000.out)
        have n2_ := Az.mk (Kd.R_drew HO179.out)
        have n3_ := Az.mk (Kd.R_drew HO186.out)
        have n4_ := Az.mk (blk_drew BK168.out)
        have n5_ := Az.mk (blk_drew BK169.out)
        have n6_ := Az.mk (blk_drew BK180.out)
        have n7_ := Az.mk (bdr HB.out)
        clear HO_2
        clear HO_170000
        clear HO179
        clear HO186
        clear BK168
        clear BK169
        clear BK180
        clear HB
        have HO_2 := n0_
        have HO_170000 := n1_
        have HO179 := n2_
        have HO186 := n3_
        have BK168 := n4_
        have BK169 := n5_
        have BK180 := n6_
        have HB := n7_
        clear n0_ n1_ n2_ n3_ n4_ n5_ n6_ n7_
        refine start_ (n := 7) (S := fun w' => w'.cell? ⟨gb180, 0, none⟩ = some (.int .i64 5) ∧ w'.cell? ⟨gb180, 1, none⟩ = some (.string (rdOf ByteArray.empty t170 x3_1)) ∧ w'.cell? ⟨gb180, 2, none⟩ = some (.int .i64 0) ∧ w'.cell? ⟨gb180, 3, none⟩ = some (.slice Ao23 y177.length co23) ∧ w'.cell? ⟨gb180, 4, none⟩ = some (.slice Ao34 y184.length co34) ∧ w'.cell? ⟨gb180, 5, none⟩ = some (.slice none 0 0) ∧ w'.cell? ⟨gb180, 6, none⟩ = some (.slice none 0 0)) (ds := [6]) #[false, false, false, false, false, false, false] (by kernel_rfl) rfl rfl ⟨(bC BK180.out 0).trans rfl, (bC BK180.out 1).trans rfl, (bC BK180.out 2).trans rfl, (bC BK180.out 3).trans rfl, (bC BK180.out 4).trans rfl, (bC BK180.out 5).trans rfl, (bC BK180.out 6).trans rfl⟩ (fun hHeld => ?_)
        generalize w38.drew = w39 at HO_2 HO_170000 HO179 HO186 BK168 BK169 BK180 HB hHeld ⊢
        refine pure_ (i := 0) (N := some 28) (v := ?_) (a' := ?_) #[true, false, false, false, false, false, false] rfl rfl (by kernel_rfl) (fun _ _ _ h => h) (Or.inl ⟨by rfl, ?_⟩) ?_ ?_
        rotate_left
        ·intro w'
         go_simp
         with_reducible rfl
        rotate_left
        ·simp only [Act.put, List.setIfInBounds_toArray, List.set_cons_zero, List.set_cons_succ, i64_w, i32_w]
         rfl
        refine take_ (i := 1) (N := some 29) (v := ?_) (a' := ?_) #[true, true, false, false, false, false, false] rfl rfl (by kernel_rfl) (fun _ _ _ h => h) (Or.inl ⟨by rfl, ?_⟩) hHeld ?_ ?_
        rotate_left
        ·rintro w' ⟨s0, s1, s2, s3, s4, s5, s6⟩
         go_simp
         with_reducible rfl
        rotate_left
        ·simp only [Act.put, List.setIfInBounds_toArray, List.set_cons_zero, List.set_cons_succ, i64_w, i32_w]
         rfl
        refine one_ (i := 2) (N := some 30) #[true, true, true, false, false, false, false] rfl rfl (by kernel_rfl) (by decide) (fun K hK => ?_)
        refine goes_ Try.func89 (by kernel_rfl) rfl #[.int .i64 0] (by rfl) rfl rfl (by (try simp only [List.map_toArray, List.map_cons, List.map_nil]); first | done | rfl | (simp only [List.length_drop, List.length_take]; rfl)) ?_
        with_reducible refine (spec_refTo.calls 0 t187 t188 t189 _ A12.out).mono ?_
        rintro e w40 ⟨rfl, hb⟩
        refine ⟨_, rfl, ?_⟩
        have n0_ := Az.mk (Kd.R_below (by (with_reducible repeat (first | apply Kd.R_alloc | apply Kd.R_drewN | apply Kd.R_drew)); exact HO_2.out) hb)
        have n1_ := Az.mk (Kd.S_below (by (with_reducible repeat (first | apply Kd.S_alloc | apply Kd.S_drewN | apply Kd.S_drew)); exact HO_170000.out) hb)
        have n2_ := Az.mk (Kd.R_below (by (with_reducible repeat (first | apply Kd.R_alloc | apply Kd.R_drewN | apply Kd.R_drew)); exact HO179.out) hb)
        have n3_ := Az.mk (Kd.R_below (by (with_reducible repeat (first | apply Kd.R_alloc | apply Kd.R_drewN | apply Kd.R_drew)); exact HO186.out) hb)
        have n4_ := Az.mk (blk_below (g := gb168) (o := .cells #[.slice none 0 0] 25 (0, 0)) (by (with_reducible repeat (first | refine blk_drewN ?_ _ | refine blk_drew ?_ | refine blk_alloc ?_ _)); exact BK168.out) hb)
        have n5_ := Az.mk (blk_below (g := gb169) (o := .cells #[u170000] 25 (0, 0)) (by (with_reducible repeat (first | refine blk_drewN ?_ _ | refine blk_drew ?_ | refine blk_alloc ?_ _)); exact BK169.out) hb)
        have n6_ := Az.mk (blk_below (g := gb180) (o := .cells #[.int .i64 5, .string (rdOf ByteArray.empty t170 x3_1), .int .i64 0, .slice Ao23 y177.length co23, .slice Ao34 y184.length co34, .slice none 0 0, .slice none 0 0] 79 (0, 0)) (by (with_reducible repeat (first | refine blk_drewN ?_ _ | refine blk_drew ?_ | refine blk_alloc ?_ _)); exact BK180.out) hb)
        have n7_ := Az.mk (below_step (by repeat (first | (with_reducible first | exact HB.out | apply bal | apply bdN | apply bdr | refine bS ?_ GE168.out | refine bS ?_ GE169.out | refine bS ?_ GE180.out) | exact HB.out)) hb)
        clear HO_2
        clear HO_170000
        clear HO179
        clear HO186
        clear BK168
        clear BK169
        clear BK180
        clear HB
        have HO_2 := n0_
        have HO_170000 := n1_
        have HO179 := n2_
        have HO186 := n3_
        have BK168 := n4_
        have BK169 := n5_
        have BK180 := n6_
        have HB := n7_
        clear n0_ n1_ n2_ n3_ n4_ n5_ n6_ n7_
        (try clear hb)
        (try clear hb2)
        (try clear hk)
        (try clear hi)
        refine hK.out _ _ ⟨(bC BK180.out 0).trans rfl, (bC BK180.out 1).trans rfl, (bC BK180.out 2).trans rfl, (bC BK180.out 3).trans rfl, (bC BK180.out 4).trans rfl, (bC BK180.out 5).trans rfl, (bC BK180.out 6).trans rfl⟩ (fun hHeld => ?_)
        clear hK K
        refine norm_ (a' := ?_) ?_ ?_
        rotate_left
        ·show Act.put _ (some 30) _ = _
         simp only [Act.put, List.setIfInBounds_toArray, List.set_cons_zero, List.set_cons_succ, i64_w, i32_w]
         rfl
        refine one_ (i := 3) (N := some 31) #[true, true, true, true, false, false, false] rfl rfl (by kernel_rfl) (by decide) (fun K hK => ?_)
        refine value_ (w1 := ?_) (v := ?_) (by rfl) rfl ?_ ?_
        rotate_left 2
        ·go_simp
         constructor
         ·rfl
         ·rfl
        refine hK.out _ _ ⟨(bC (blk_alloc BK180.out _) 0).trans rfl, (bC (blk_alloc BK180.out _) 1).trans rfl, (bC (blk_alloc BK180.out _) 2).trans rfl, (bC (blk_alloc BK180.out _) 3).trans rfl, (bC (blk_alloc BK180.out _) 4).trans rfl, (bC (blk_alloc BK180.out _) 5).trans rfl, (bC (blk_alloc BK180.out _) 6).trans rfl⟩ (fun hHeld => ?_)
        clear hK K
        refine norm_ (a' := ?_) ?_ ?_
        rotate_left
        ·show Act.put _ (some 31) _ = _
         simp only [Act.put, List.setIfInBounds_toArray, List.set_cons_zero, List.set_cons_succ, i64_w, i32_w]
         rfl
        refine one_ (i := 4) (N := some 32) #[true, true, true, true, true, false, false] rfl rfl (by kernel_rfl) (by decide) (fun K hK => ?_)
        refine Kd.R_append_step k31 (w0 := w) w.heap.size (by rfl) (.tmp 29) (.tmp 31) 77 31 (.agg #[(.int .i64 0), (.string ⟨#[]⟩), (.int .i64 0)]) 32 rfl Try.underlying77 info31 rfl (by decide) (by omega) (.slice Ao23 y177.length co23) y177 (⟨t187, t188, t189⟩ : S31) [.int .i64 t187, .string t188, .int .i64 t189] (fun k_ => some k_ ≠ (.slice Ao34 y184.length co34 : Value).ownBlock) (fun _ => False) rfl rfl ?aP (fun _ hk => hk.elim) ?aF ?aO ?aB ?aS ?aL ?_
        (case aP => exact k31_mkM _ _ _ (⟨t187, t188, t189⟩ : S31))
        (case aB => exact (by repeat (first | (with_reducible first | exact HB.out | apply bal | apply bdN | apply bdr | refine bS ?_ GE168.out | refine bS ?_ GE169.out | refine bS ?_ GE180.out) | exact HB.out)))
        (case aF => exact (fun k_ hk => Kd.fresh' (Kd.R_lt (by (with_reducible repeat (first | apply Kd.R_alloc | apply Kd.R_drewN | apply Kd.R_drew)); exact HO186.out)) k_ hk))
        (case aO => exact (by (with_reducible repeat (first | apply Kd.R_alloc | apply Kd.R_drewN | apply Kd.R_drew)); exact HO179.out))
        (case aS => exact (below_size (by repeat (first | (with_reducible first | exact HB.out | apply bal | apply bdN | apply bdr | refine bS ?_ GE168.out | refine bS ?_ GE169.out | refine bS ?_ GE180.out) | exact HB.out))))
        (case aL => have := LMc13.out; omega)
        intro v191 w41 ho hb hg hat
        rw [← Ny190.out] at ho
        have n0_ := Az.mk (Kd.R_over' (by (with_reducible repeat (first | apply Kd.R_alloc | apply Kd.R_drewN | apply Kd.R_drew)); exact HO_2.out) (Kd.R_typed (by (with_reducible repeat (first | apply Kd.R_alloc | apply Kd.R_drewN | apply Kd.R_drew)); exact HO179.out)) (by decide) hg)
        have n1_ := Az.mk (Kd.S_after (ok := (fun k_ => some k_ ≠ (.slice (some ad173) t170.length co15 : Value).ownBlock ∧ some k_ ≠ (.slice Ao34 y184.length co34 : Value).ownBlock ∧ k_ ≠ gb180)) (by (with_reducible repeat (first | apply Kd.S_alloc | apply Kd.S_drewN | apply Kd.S_drew)); exact Kd.S_mono HO_170000.out (fun _ hk => ⟨⟨hk.1, ⟨hk.2.2.1, hk.2.2.2⟩⟩, hk.2.1⟩)) hg hat)
        have n2_ := Az.mk (blk_grown (g := gb168) (o := .cells #[.slice none 0 0] 25 (0, 0)) (by (with_reducible repeat (first | refine blk_drewN ?_ _ | refine blk_drew ?_ | refine blk_alloc ?_ _)); exact BK168.out) hg (Kd.R_ne HO179.out BK168.out (by decide)))
        have n3_ := Az.mk (blk_grown (g := gb169) (o := .cells #[u170000] 25 (0, 0)) (by (with_reducible repeat (first | refine blk_drewN ?_ _ | refine blk_drew ?_ | refine blk_alloc ?_ _)); exact BK169.out) hg (Kd.R_ne HO179.out BK169.out (by decide)))
        have n4_ := Az.mk (blk_grown (g := gb180) (o := .cells #[.int .i64 5, .string (rdOf ByteArray.empty t170 x3_1), .int .i64 0, .slice Ao23 y177.length co23, .slice Ao34 y184.length co34, .slice none 0 0, .slice none 0 0] 79 (0, 0)) (by (with_reducible repeat (first | refine blk_drewN ?_ _ | refine blk_drew ?_ | refine blk_alloc ?_ _)); exact BK180.out) hg (Kd.R_ne HO179.out BK180.out (by decide)))
        have n5_ := Az.mk (Kd.R_after (ok := (fun _ => True)) (by (with_reducible repeat (first | apply Kd.R_alloc | apply Kd.R_drewN | apply Kd.R_drew)); exact Kd.R_mono HO186.out (fun _ hk => ⟨trivial, hk⟩)) hg hat)
        have n6_ := Az.mk (hb)
        have n7_ := Az.mk (ho)
        clear HO_2
        clear HO_170000
        clear BK168
        clear BK169
        clear BK180
        clear HO186
        clear HB
        clear HO179
        have HO_2 := n0_
        have HO_170000 := n1_
        have BK168 := n2_
        have BK169 := n3_
        have BK180 := n4_
        have HO186 := n5_
        have HB := n6_
        have HO192 := n7_
        clear n0_ n1_ n2_ n3_ n4_ n5_ n6_ n7_
        clear ho hb hg hat
        obtain ⟨Ao42, co42, eo42⟩ := Kd.R_slice HO192.out
        (first | subst eo42 | (injection eo42 with f1_ f2_ f3_; have f4_ := f1_.symm; have f5_ := f3_.symm; clear f1_ f2_ f3_; subst f4_; subst f5_))
        refine hK.out _ _ ⟨(bC BK180.out 0).trans rfl, (bC BK180.out 1).trans rfl, (bC BK180.out 2).trans rfl, (bC BK180.out 3).trans rfl, (bC BK180.out 4).trans rfl, (bC BK180.out 5).trans rfl, (bC BK180.out 6).trans rfl⟩ (fun hHeld => ?_)
        clear hK K
        refine norm_ (a' := ?_) ?_ ?_
        rotate_left
        ·show Act.put _ (some 32) _ = _
         simp only [Act.put, List.setIfInBounds_toArray, List.set_cons_zero, List.set_cons_succ, i64_w, i32_w]
         rfl
        refine pure_ (i := 5) (N := some 33) (v := ?_) (a' := ?_) #[true, true, true, true, true, true, false] rfl rfl (by kernel_rfl) (fun _ _ _ h => h) (Or.inl ⟨by rfl, ?_⟩) ?_ ?_
        rotate_left
        ·intro w'
         go_simp
         with_reducible rfl
        rotate_left
        ·simp only [Act.put, List.setIfInBounds_toArray, List.set_cons_zero, List.set_cons_succ, i64_w, i32_w]
         rfl
        refine last_ (i := 6) (N := none) #[true, true, true, true, true, true, true] rfl rfl (by kernel_rfl) (by decide) (fun K hK => ?_)
        have hs43 : w41.cell? ⟨gb180, 3, none⟩ = some (.slice Ao23 y177.length co23) := (bC BK180.out 3).trans rfl
        have hfs43 := bF BK180.out 3
        have hns43_0 := NB168_180.out
        have hns43_1 := NB169_180.out
        have hms43_0 := NB180_168.out
        have hms43_1 := NB180_169.out
        refine skip_ (w1 := ?_) (by rfl) rfl ?_ ?_
        rotate_left
        ·go_simp
         rfl
        refine hK.out _ _ ?_
        clear hK K
        refine done_ (by kernel_rfl) ?_
        have n0_ : Az (Kd.R Kd.string 9 (w41.setCell ⟨gb180, 3, none⟩ (.slice Ao42 y190.length co42)) w.heap.size (fun _ => True) (.slice (some ad173) t170.length co15) t170) := ⟨by (with_reducible repeat (first | apply Kd.R_alloc | apply Kd.R_drewN | apply Kd.R_drew)); exact Kd.R_mono (Kd.R_far (p := ⟨gb180, 3, none⟩) (Kd.R_types HO_2.out BK180.out (by decide)) (fun _ hk => hk.2) (.slice Ao42 y190.length co42)) (fun _ hk => trivial)⟩
        have n1_ : Az (Kd.S k79 79 (w41.setCell ⟨gb180, 3, none⟩ (.slice Ao42 y190.length co42)) w.heap.size (fun k_ => some k_ ≠ (.slice (some ad173) t170.length co15 : Value).ownBlock ∧ some k_ ≠ (.slice Ao34 y184.length co34 : Value).ownBlock ∧ some k_ ≠ (.slice Ao42 y190.length co42 : Value).ownBlock ∧ k_ ≠ gb180) u170000 x170000_1) := ⟨by (with_reducible repeat (first | apply Kd.S_alloc | apply Kd.S_drewN | apply Kd.S_drew)); exact Kd.S_mono (Kd.S_far (p := ⟨gb180, 3, none⟩) (Kd.S_mono HO_170000.out (fun k_ hk => (⟨hk, hk.1.2.2⟩ : _ ∧ k_ ≠ gb180))) (fun _ hk => hk.2) (.slice Ao42 y190.length co42)) (fun _ hk => ⟨hk.1.1.1, ⟨hk.1.1.2.1, ⟨hk.1.2, hk.1.1.2.2⟩⟩⟩)⟩
        have n2_ : Az (Kd.R k31 31 (w41.setCell ⟨gb180, 3, none⟩ (.slice Ao42 y190.length co42)) w.heap.size (fun k_ => some k_ ≠ (.slice Ao42 y190.length co42 : Value).ownBlock) (.slice Ao34 y184.length co34) y184) := ⟨by (with_reducible repeat (first | apply Kd.R_alloc | apply Kd.R_drewN | apply Kd.R_drew)); exact Kd.R_mono (Kd.R_far (p := ⟨gb180, 3, none⟩) (Kd.R_types HO186.out BK180.out (by decide)) (fun _ hk => hk.2) (.slice Ao42 y190.length co42)) (fun _ hk => hk.1.2)⟩
        have n3_ : Az (Kd.R k31 31 (w41.setCell ⟨gb180, 3, none⟩ (.slice Ao42 y190.length co42)) w.heap.size (fun k_ => some k_ ≠ (.slice Ao34 y184.length co34 : Value).ownBlock) (.slice Ao42 y190.length co42) y190) := ⟨by (with_reducible repeat (first | apply Kd.R_alloc | apply Kd.R_drewN | apply Kd.R_drew)); exact Kd.R_mono (Kd.R_far (p := ⟨gb180, 3, none⟩) (Kd.R_types HO192.out BK180.out (by decide)) (fun _ hk => hk.2) (.slice Ao42 y190.length co42)) (fun _ hk => hk.1)⟩
        have n4_ : Az ((w41.setCell ⟨gb180, 3, none⟩ (.slice Ao42 y190.length co42)).heap[gb168]? = some (.cells #[.slice none 0 0] 25 (0, 0))) := ⟨by (with_reducible repeat (first | refine blk_drewN ?_ _ | refine blk_drew ?_ | refine blk_alloc ?_ _)); refine blk_far ?_ NB168_180.out _; (with_reducible repeat (first | refine blk_drewN ?_ _ | refine blk_drew ?_ | refine blk_alloc ?_ _)); exact BK168.out⟩
        have n5_ : Az ((w41.setCell ⟨gb180, 3, none⟩ (.slice Ao42 y190.length co42)).heap[gb169]? = some (.cells #[u170000] 25 (0, 0))) := ⟨by (with_reducible repeat (first | refine blk_drewN ?_ _ | refine blk_drew ?_ | refine blk_alloc ?_ _)); refine blk_far ?_ NB169_180.out _; (with_reducible repeat (first | refine blk_drewN ?_ _ | refine blk_drew ?_ | refine blk_alloc ?_ _)); exact BK169.out⟩
        have n6_ : Az ((w41.setCell ⟨gb180, 3, none⟩ (.slice Ao42 y190.length co42)).heap[gb180]? = some (.cells #[.int .i64 5, .string (rdOf ByteArray.empty t170 x3_1), .int .i64 0, .slice Ao42 y190.length co42, .slice Ao34 y184.length co34, .slice none 0 0, .slice none 0 0] 79 (0, 0))) := ⟨by (with_reducible repeat (first | refine blk_drewN ?_ _ | refine blk_drew ?_ | refine blk_alloc ?_ _)); refine blk_put (cs := #[.int .i64 5, .string (rdOf ByteArray.empty t170 x3_1), .int .i64 0, .slice Ao23 y177.length co23, .slice Ao34 y184.length co34, .slice none 0 0, .slice none 0 0]) ?_ 3 _ rfl; (with_reducible repeat (first | refine blk_drewN ?_ _ | refine blk_drew ?_ | refine blk_alloc ?_ _)); exact BK180.out⟩
        have n7_ : Az (Below w.heap.size w (w41.setCell ⟨gb180, 3, none⟩ (.slice Ao42 y190.length co42))) := ⟨by repeat (first | (with_reducible first | exact HB.out | apply bal | apply bdN | apply bdr | refine bS ?_ GE168.out | refine bS ?_ GE169.out | refine bS ?_ GE180.out) | exact HB.out)⟩
        (try clear HO_2)
        (try clear HO_170000)
        (try clear HO186)
        (try clear HO192)
        (try clear BK168)
        (try clear BK169)
        (try clear BK180)
        (try clear HB)
        generalize (w41.setCell ⟨gb180, 3, none⟩ (.slice Ao42 y190.length co42)) = w44 at n0_ n1_ n2_ n3_ n4_ n5_ n6_ n7_ ⊢
        have HO_2 := n0_
        have HO_170000 := n1_
        have HO186 := n2_
        have HO192 := n3_
        have BK168 := n4_
        have BK169 := n5_
        have BK180 := n6_
        have HB := n7_
        clear n0_ n1_ n2_ n3_ n4_ n5_ n6_ n7_
        have hnb45 := NB169_168.out
        have hnc45 := NB168_169.out
        have hcz46_0 : w44.cell? ⟨gb169, 0, none⟩ = some (u170000) := (bC BK169.out 0).trans rfl
        have hfz46_0 := bF BK169.out 0
        have hcz47_0 : w44.cell? ⟨gb180, 0, none⟩ = some (.int .i64 5) := (bC BK180.out 0).trans rfl
        have hcz47_1 : w44.cell? ⟨gb180, 1, none⟩ = some (.string (rdOf ByteArray.empty t170 x3_1)) := (bC BK180.out 1).trans rfl
        have hcz47_2 : w44.cell? ⟨gb180, 2, none⟩ = some (.int .i64 0) := (bC BK180.out 2).trans rfl
        have hcz47_3 : w44.cell? ⟨gb180, 3, none⟩ = some (.slice Ao42 y190.length co42) := (bC BK180.out 3).trans rfl
        have hcz47_4 : w44.cell? ⟨gb180, 4, none⟩ = some (.slice Ao34 y184.length co34) := (bC BK180.out 4).trans rfl
        have hcz47_5 : w44.cell? ⟨gb180, 5, none⟩ = some (.slice none 0 0) := (bC BK180.out 5).trans rfl
        have hcz47_6 : w44.cell? ⟨gb180, 6, none⟩ = some (.slice none 0 0) := (bC BK180.out 6).trans rfl
        have hfz47_0 := bF BK180.out 0
        have hfz47_1 := bF BK180.out 1
        have hfz47_2 := bF BK180.out 2
        have hfz47_3 := bF BK180.out 3
        have hfz47_4 := bF BK180.out 4
        have hfz47_5 := bF BK180.out 5
        have hfz47_6 := bF BK180.out 6
        try go_wp2_with (first | ((with_reducible refine gate_builtin (b := .append) (xs := #[.tmp 35, .tmp 37]) rfl ?_); at_builtin; refine Kd.S_append k79 (w0 := w) w.heap.size rfl (.tmp 35) (.tmp 37) 23 79 (.agg #[(.int .i64 0), (.string ⟨#[]⟩), (.int .i64 0), (.slice none 0 0), (.slice none 0 0), (.slice none 0 0), (.slice none 0 0)]) 128 rfl Try.underlying23 info79 rfl (by decide) (by omega) u170000 x170000_1 (⟨5, rdOf ByteArray.empty t170 x3_1, 0, y190, y184, ([] : List ByteArray), ([] : List (S31))⟩ : S79) [.int .i64 5, .string (rdOf ByteArray.empty t170 x3_1), .int .i64 0, .slice Ao42 y190.length co42, .slice Ao34 y184.length co34, .slice none 0 0, .slice none 0 0] (fun k_ => some k_ ≠ (.slice (some ad173) t170.length co15 : Value).ownBlock ∧ k_ ≠ gb180) (fun k_ => some k_ = (.slice Ao42 y190.length co42 : Value).ownBlock ∨ some k_ = (.slice Ao34 y184.length co34 : Value).ownBlock) rfl rfl ?aP (fun k_ hk_ => hk_.elim (fun h_ => ((Kd.R_mono (ok' := fun k_ => ((fun k_ => some k_ ≠ (.slice (some ad173) t170.length co15 : Value).ownBlock ∧ k_ ≠ gb180)) k_ ∧ some k_ ≠ (u170000 : Value).ownBlock) (Kd.R_types (Kd.R_apart' (Kd.R_apart' (HO192.out) (Kd.R_typed HO_2.out) (by decide)) (Kd.S_typed HO_170000.out) (by decide)) BK180.out (by decide)) (fun k_ hk => ⟨⟨hk.1.1.2, hk.2⟩, hk.1.2⟩))).1 k_ h_.symm) (fun h_ => ((Kd.R_mono (ok' := fun k_ => ((fun k_ => some k_ ≠ (.slice (some ad173) t170.length co15 : Value).ownBlock ∧ k_ ≠ gb180)) k_ ∧ some k_ ≠ (u170000 : Value).ownBlock) (Kd.R_types (Kd.R_apart' (Kd.R_apart' (HO186.out) (Kd.R_typed HO_2.out) (by decide)) (Kd.S_typed HO_170000.out) (by decide)) BK180.out (by decide)) (fun k_ hk => ⟨⟨hk.1.1.2, hk.2⟩, hk.1.2⟩))).1 k_ h_.symm)) ?aF ?aO ?aB ?aS ?aL ?_; (case aP => exact k79_mkM _ _ _ (⟨5, rdOf ByteArray.empty t170 x3_1, 0, y190, y184, ([] : List ByteArray), ([] : List (S31))⟩ : S79) (Kd.R_mono (Kd.R_tight rfl (Kd.R_mono (ok' := fun k_ => ((fun k_ => some k_ ≠ (.slice (some ad173) t170.length co15 : Value).ownBlock ∧ k_ ≠ gb180)) k_ ∧ some k_ ≠ (u170000 : Value).ownBlock) (Kd.R_types (Kd.R_apart' (Kd.R_apart' (HO192.out) (Kd.R_typed HO_2.out) (by decide)) (Kd.S_typed HO_170000.out) (by decide)) BK180.out (by decide)) (fun k_ hk => ⟨⟨hk.1.1.2, hk.2⟩, hk.1.2⟩))) (fun _ h_ => Or.inl h_)) (Kd.R_mono (Kd.R_tight rfl (Kd.R_mono (ok' := fun k_ => ((fun k_ => some k_ ≠ (.slice (some ad173) t170.length co15 : Value).ownBlock ∧ k_ ≠ gb180)) k_ ∧ some k_ ≠ (u170000 : Value).ownBlock) (Kd.R_types (Kd.R_apart' (Kd.R_apart' (HO186.out) (Kd.R_typed HO_2.out) (by decide)) (Kd.S_typed HO_170000.out) (by decide)) BK180.out (by decide)) (fun k_ hk => ⟨⟨hk.1.1.2, hk.2⟩, hk.1.2⟩))) (fun _ h_ => Or.inr (h_))) (Kd.R_nil _ _ _ _ _) (Kd.R_nil _ _ _ _ _)); (case aB => exact (by repeat (first | (with_reducible first | exact HB.out | apply bal | apply bdN | apply bdr | refine bS ?_ GE168.out | refine bS ?_ GE169.out | refine bS ?_ GE180.out) | exact HB.out))); (case aF => exact (fun k_ hk => ⟨Kd.fresh' (Kd.R_lt (by (with_reducible repeat (first | apply Kd.R_alloc | apply Kd.R_drewN | apply Kd.R_drew)); exact HO_2.out)) k_ hk, Kd.freshB (g := gb180) (o := .cells #[.int .i64 5, .string (rdOf ByteArray.empty t170 x3_1), .int .i64 0, .slice Ao42 y190.length co42, .slice Ao34 y184.length co34, .slice none 0 0, .slice none 0 0] 79 (0, 0)) (by (with_reducible repeat (first | refine blk_drewN ?_ _ | refine blk_drew ?_ | refine blk_alloc ?_ _)); exact BK180.out) k_ hk⟩)); (case aO => exact (by (with_reducible repeat (first | apply Kd.S_alloc | apply Kd.S_drewN | apply Kd.S_drew)); exact Kd.S_mono HO_170000.out (fun k_ hk => ⟨⟨hk.1, hk.2.2.2⟩, fun e_ => e_.elim (fun h_ => hk.2.2.1 h_) (fun h_ => hk.2.1 h_)⟩))); (case aS => exact (below_size (by repeat (first | (with_reducible first | exact HB.out | apply bal | apply bdN | apply bdr | refine bS ?_ GE168.out | refine bS ?_ GE169.out | refine bS ?_ GE180.out) | exact HB.out)))); (case aL => have := LMc14.out; omega); intro v194 w48 ho hb hg hat; rw [← Ny193.out] at ho; have n0_ := Az.mk (Kd.R_over' (by (with_reducible repeat (first | apply Kd.R_alloc | apply Kd.R_drewN | apply Kd.R_drew)); exact HO_2.out) (Kd.S_typed (by (with_reducible repeat (first | apply Kd.S_alloc | apply Kd.S_drewN | apply Kd.S_drew)); exact HO_170000.out)) (by decide) hg); have n1_ := Az.mk (blk_grown (g := gb168) (o := .cells #[.slice none 0 0] 25 (0, 0)) (by (with_reducible repeat (first | refine blk_drewN ?_ _ | refine blk_drew ?_ | refine blk_alloc ?_ _)); exact BK168.out) hg (Kd.S_ne HO_170000.out BK168.out (by decide))); have n2_ := Az.mk (blk_grown (g := gb169) (o := .cells #[u170000] 25 (0, 0)) (by (with_reducible repeat (first | refine blk_drewN ?_ _ | refine blk_drew ?_ | refine blk_alloc ?_ _)); exact BK169.out) hg (Kd.S_ne HO_170000.out BK169.out (by decide))); have n3_ := Az.mk (blk_grown (g := gb180) (o := .cells #[.int .i64 5, .string (rdOf ByteArray.empty t170 x3_1), .int .i64 0, .slice Ao42 y190.length co42, .slice Ao34 y184.length co34, .slice none 0 0, .slice none 0 0] 79 (0, 0)) (by (with_reducible repeat (first | refine blk_drewN ?_ _ | refine blk_drew ?_ | refine blk_alloc ?_ _)); exact BK180.out) hg (Kd.S_away HO_170000.out (fun _ hk => hk.2.2.2))); have n4_ := Az.mk (hb); have n5_ := Az.mk (ho); clear HO_2; clear BK168; clear BK169; clear BK180; clear HB; clear HO_170000; clear HO186; clear HO192; have HO_2 := n0_; have BK168 := n1_; have BK169 := n2_; have BK180 := n3_; have HB := n4_; have HO195 := n5_; clear n0_ n1_ n2_ n3_ n4_ n5_; clear ho hb hg hat; obtain ⟨Ao49, co49, eo49⟩ := Kd.S_slice HO195.out; subst eo49; have hcz50_0 : w48.cell? ⟨gb169, 0, none⟩ = some (u170000) := (bC BK169.out 0).trans rfl; have hfz50_0 := bF BK169.out 0))
        go_roundg k1
        case measure => have := HK1.out; omega
        case rel => exact ⟨(wrap64 (x3_1 + 1)), (y193), (.slice Ao49 y193.length co49), (by first | rfl | (simp; done) | (simp [*]; done)), H', ⟨by have := HK1.out; omega⟩, ⟨by (with_reducible repeat (first | apply Kd.R_alloc | apply Kd.R_drewN | apply Kd.R_drew)); exact Kd.R_mono (Kd.R_far (p := ⟨gb169, 0, none⟩) (Kd.R_types HO_2.out BK169.out (by decide)) (fun _ hk => hk.2) (.slice Ao49 y193.length co49)) (fun _ hk => trivial)⟩, ⟨by (with_reducible repeat (first | apply Kd.S_alloc | apply Kd.S_drewN | apply Kd.S_drew)); exact Kd.S_mono (Kd.S_far (p := ⟨gb169, 0, none⟩) (Kd.S_types HO195.out BK169.out (by decide)) (fun _ hk => hk.2) (.slice Ao49 y193.length co49)) (fun _ hk => hk.1.1)⟩, ⟨by (with_reducible repeat (first | refine blk_drewN ?_ _ | refine blk_drew ?_ | refine blk_alloc ?_ _)); refine blk_far ?_ NB168_169.out _; (with_reducible repeat (first | refine blk_drewN ?_ _ | refine blk_drew ?_ | refine blk_alloc ?_ _)); exact BK168.out⟩, ⟨by (with_reducible repeat (first | refine blk_drewN ?_ _ | refine blk_drew ?_ | refine blk_alloc ?_ _)); refine blk_put (cs := #[u170000]) ?_ 0 _ rfl; (with_reducible repeat (first | refine blk_drewN ?_ _ | refine blk_drew ?_ | refine blk_alloc ?_ _)); exact BK169.out⟩, ⟨by repeat (first | (with_reducible first | exact HB.out | apply bal | apply bdN | apply bdr | refine bS ?_ GE168.out | refine bS ?_ GE169.out | refine bS ?_ GE180.out) | exact HB.out)⟩⟩
       ·rw [if_neg c14] at H
        exact absurd H (by simp)
      ·rw [if_neg c13] at H
       exact absurd H (by simp)
     ·rw [if_neg c10] at H
      have c10b0 : decide (0 < x3_1) = false := decide_eq_false c10
      clear c10
      by_cases c51 : x170000_1.length < 1099511627776
      ·rw [if_pos c51] at H
       have LMc51 := Az.mk c51
       clear c51
       obtain ⟨y196, hy196⟩ : ∃ y_ : List (S79), y_ = (x170000_1 ++ [(⟨5, rdOf ByteArray.empty t170 x3_1, 0, y177, ([] : List (S31)), ([] : List ByteArray), ([] : List (S31))⟩ : S79)]) := ⟨_, rfl⟩
       replace H : (spec_newHeap.l0 k1 t170 (wrap64 (x3_1 + 1)) y196) = some r := by first | (rw [hy196]; with_reducible exact H) | (have H2_ := (Option.bind_some _ _).symm.trans H; rw [hy196]; with_reducible exact H2_) | (have H2_ := (Option.bind_some _ _).symm.trans H; with_reducible exact H2_) | with_reducible exact H | (rw [hy196]; exact H) | exact H
       have Ny196 := Az.mk hy196
       clear hy196
       have H' := Az.mk H
       clear H
       obtain ⟨Ao52, co52, eo52⟩ := Kd.R_slice HO_2.out
       subst eo52
       try go_wp2
       have n0_ := Az.mk (Kd.R_drew HO_2.out)
       have n1_ := Az.mk (Kd.S_drew HO_170000.out)
       have n2_ := Az.mk (blk_drew BK168.out)
       have n3_ := Az.mk (blk_drew BK169.out)
       have n4_ := Az.mk (bdr HB.out)
       clear HO_2
       clear HO_170000
       clear BK168
       clear BK169
       clear HB
       have HO_2 := n0_
       have HO_170000 := n1_
       have BK168 := n2_
       have BK169 := n3_
       have HB := n4_
       clear n0_ n1_ n2_ n3_ n4_
       have p173 : 0 ≤ (x3_1 : Int) := of_decide_eq_true (by first | (with_reducible assumption) | assumption)
       have q173 : x3_1 < (t170.length : Int) := of_decide_eq_true (by first | (with_reducible assumption) | assumption)
       obtain ⟨ad173, e173, hx173_0⟩ := Kd.at_string (Kd.R_reads' HO_2.out).2.2 x3_1 p173 q173
       cases e173
       replace p173 := eq_true p173
       replace q173 := eq_true q173
       refine start_ (n := 10) (S := fun w' => w'.cell? (ad173.add (x3_1).toNat) = some (.string (rdOf ByteArray.empty t170 x3_1))) (ds := []) #[false, false, false, false, false, false, false, false, false, false] (by kernel_rfl) rfl rfl (hx173_0) (fun hHeld => ?_); refine with_tabW spec_newHeap.tab6 spec_newHeap.bits6 (fun HT_ HW_ => ?_)
       generalize wr.drew = w53 at HO_2 HO_170000 BK168 BK169 HB hx173_0 hHeld ⊢
       refine pure_ (i := 0) (N := some 15) (v := ?_) (a' := ?_) #[true, false, false, false, false, false, false, false, false, false] rfl rfl (any_of HT_.out (by kernel_rfl)) (fun _ _ _ h => h) (Or.inl ⟨by rfl, ?_⟩) ?_ ?_
       rotate_left
       ·intro w'
        go_simp
        with_reducible rfl
       rotate_left
       ·simp only [Act.put, List.setIfInBounds_toArray, List.set_cons_zero, List.set_cons_succ, i64_w, i32_w]
        rfl
       refine pure_ (i := 1) (N := some 16) (v := ?_) (a' := ?_) #[true, true, false, false, false, false, false, false, false, false] rfl rfl (any_of HT_.out (by kernel_rfl)) (fun _ _ _ h => h) (Or.inl ⟨by rfl, ?_⟩) ?_ ?_
       rotate_left
       ·intro w'
        go_simp
        with_reducible rfl
       rotate_left
       ·simp only [Act.put, List.setIfInBounds_toArray, List.set_cons_zero, List.set_cons_succ, i64_w, i32_w]
        rfl
       refine pure_ (i := 2) (N := some 17) (v := ?_) (a' := ?_) #[true, true, true, false, false, false, false, false, false, false] rfl rfl (any_of HT_.out (by kernel_rfl)) (fun _ _ _ h => h) (Or.inl ⟨by rfl, ?_⟩) ?_ ?_
       rotate_left
       ·intro w'
        go_simp
        with_reducible rfl
       rotate_left
       ·simp only [Act.put, List.setIfInBounds_toArray, List.set_cons_zero, List.set_cons_succ, i64_w, i32_w]
        rfl
       refine pure_ (i := 4) (N := some 19) (v := ?_) (a' := ?_) #[true, true, true, false, true, false, false, false, false, false] rfl rfl (any_of HT_.out (by kernel_rfl)) (fun _ _ _ h => h) (Or.inl ⟨by rfl, ?_⟩) ?_ ?_
       rotate_left
       ·intro w'
        go_simp
        with_reducible rfl
       rotate_left
       ·simp only [Act.put, List.setIfInBounds_toArray, List.set_cons_zero, List.set_cons_succ, i64_w, i32_w]
        rfl
       refine take_ (i := 3) (N := some 18) (v := ?_) (a' := ?_) #[true, true, true, true, true, false, false, false, false, false] rfl rfl (take_ofW HT_.out HW_.out (by kernel_rfl)) (fun _ _ _ h => h) (Or.inl ⟨by rfl, ?_⟩) hHeld ?_ ?_
       rotate_left
       ·intro w' s0
        go_simp
        with_reducible rfl
       rotate_left
       ·simp only [Act.put, List.setIfInBounds_toArray, List.set_cons_zero, List.set_cons_succ, i64_w, i32_w]
        rfl
       refine join_ (σ := Value × Nat) 1 #[true, true, true, true, true, true, true, true, true, false] (fun s_ => [(20, .agg #[.int .i64 t174, .string t175, .int .i64 t176]), (21, s_.1), (4, .pointer (some ⟨s_.2, 0, none⟩)), (22, .agg #[.int .i64 5, .string (rdOf ByteArray.empty t170 x3_1), .int .i64 0, s_.1, .slice none 0 0, .slice none 0 0, .slice none 0 0])]) (fun s_ w' => (w'.cell? (ad173.add (x3_1).toNat) = some (.string (rdOf ByteArray.empty t170 x3_1))) ∧ (Kd.R k31 31 w' w.heap.size (fun _ => True) s_.1 y177) ∧ (Kd.S k79 79 w' w.heap.size (fun k_ => some k_ ≠ (s_.1 : Value).ownBlock ∧ some k_ ≠ (.slice (some ad173) t170.length co52 : Value).ownBlock ∧ k_ ≠ s_.2) u170000 x170000_1) ∧ (Kd.R Kd.string 9 w' w.heap.size (fun _ => True) (.slice (some ad173) t170.length co52) t170) ∧ (w'.heap[gb168]? = some (.cells #[.slice none 0 0] 25 (0, 0))) ∧ (w'.heap[gb169]? = some (.cells #[u170000] 25 (0, 0))) ∧ (w'.heap[s_.2]? = some (.cells #[.int .i64 0, .string (⟨#[]⟩ : ByteArray), .int .i64 0, .slice none 0 0, .slice none 0 0, .slice none 0 0, .slice none 0 0] 79 (0, 0))) ∧ (w.heap.size ≤ s_.2) ∧ (w.heap.size ≤ s_.2) ∧ (gb168 ≠ s_.2) ∧ (s_.2 ≠ gb168) ∧ (gb169 ≠ s_.2) ∧ (s_.2 ≠ gb169) ∧ (Below w.heap.size w w')) ?_ ?_
       rotate_left
       ·intro hCont
        refine two_ (i := 5) (j := 8) (Ni := some 20) (Nj := some 4) #[true, true, true, true, true, true, false, false, false, false] #[true, true, true, true, true, false, false, false, true, false] rfl rfl rfl rfl (two_of HT_.out (by kernel_rfl)) (by decide) (by decide) (fun K hK => ?_) (fun K hK => ?_)
        ·skip
         refine goes_ Try.func89 (by kernel_rfl) rfl #[.int .i64 x3_1] (by rfl) rfl rfl (by (try simp only [List.map_toArray, List.map_cons, List.map_nil]); first | done | rfl | (simp only [List.length_drop, List.length_take]; rfl)) ?_
         with_reducible refine (spec_refTo.calls x3_1 t174 t175 t176 _ A9.out).mono ?_
         rintro e w54 ⟨rfl, hb⟩
         have HS0_ := (hb.cell (World.block_lt_of_cell? _ _ (hHeld))).trans (hHeld)
         refine ⟨_, rfl, ?_⟩
         have n0_ := Az.mk (Kd.R_below (by (with_reducible repeat (first | apply Kd.R_alloc | apply Kd.R_drewN | apply Kd.R_drew)); exact HO_2.out) hb)
         have n1_ := Az.mk (Kd.S_below (by (with_reducible repeat (first | apply Kd.S_alloc | apply Kd.S_drewN | apply Kd.S_drew)); exact HO_170000.out) hb)
         have n2_ := Az.mk (blk_below (g := gb168) (o := .cells #[.slice none 0 0] 25 (0, 0)) (by (with_reducible repeat (first | refine blk_drewN ?_ _ | refine blk_drew ?_ | refine blk_alloc ?_ _)); exact BK168.out) hb)
         have n3_ := Az.mk (blk_below (g := gb169) (o := .cells #[u170000] 25 (0, 0)) (by (with_reducible repeat (first | refine blk_drewN ?_ _ | refine blk_drew ?_ | refine blk_alloc ?_ _)); exact BK169.out) hb)
         have n4_ := Az.mk (below_step (by repeat (first | (with_reducible first | exact HB.out | apply bal | apply bdN | apply bdr | refine bS ?_ GE168.out | refine bS ?_ GE169.out) | exact HB.out)) hb)
         clear HO_2
         clear HO_170000
         clear BK168
         clear BK169
         clear HB
         have HO_2 := n0_
         have HO_170000 := n1_
         have BK168 := n2_
         have BK169 := n3_
         have HB := n4_
         clear n0_ n1_ n2_ n3_ n4_
         (try clear hb)
         (try clear hb2)
         (try clear hk)
         (try clear hi)
         refine hK.out _ _ (HS0_) (fun hHeld => ?_)
         clear hK K
         refine norm_ (a' := ?_) ?_ ?_
         rotate_left
         ·show Act.put _ (some 20) _ = _
          simp only [Act.put, List.setIfInBounds_toArray, List.set_cons_zero, List.set_cons_succ, i64_w, i32_w]
          rfl
         refine two_ (i := 6) (j := 8) (Ni := some 21) (Nj := some 4) #[true, true, true, true, true, true, true, false, false, false] #[true, true, true, true, true, true, false, false, true, false] rfl rfl rfl rfl (two_of HT_.out (by kernel_rfl)) (by decide) (by decide) (fun K hK => ?_) (fun K hK => ?_)
         ·skip
          refine Kd.R_lit_step k31 _ 31 ?hg (N := 21) ?hd (xs := ([(⟨t174, t175, t176⟩ : S31)] : List (S31))) (inner := [.int .i64 t174, .string t175, .int .i64 t176]) (ok := fun _ => True) (okp := fun _ => True) ?hr ?hp (fun _ hk => hk) trivial (Below.refl _ _) (Nat.le_refl _) (by simp) ?_; (case hd => rfl); (case hg => rfl); (case hr => first | (go_simp; done) | (go_simp; rfl)); (case hp => exact (Reps.c3 (show Kd.M k31 _ _ _ (⟨t174, t175, t176⟩ : S31) [.int .i64 t174, .string t175, .int .i64 t176] from (k31_mkM _ _ _ (⟨t174, t175, t176⟩ : S31) )) (Reps.none _ _)))
          intro v178 w55 ho56 hb hg_ hnew_
          have HS0_ := (hb.cell (World.block_lt_of_cell? _ _ (hHeld))).trans (hHeld)
          clear hg_ hnew_
          (first | rw [← Ny177.out] at ho56 | (simp only [Int.reduceToNat] at ho56; rw [← Ny177.out] at ho56))
          have n0_ := Az.mk (Kd.R_below (by (with_reducible repeat (first | apply Kd.R_alloc | apply Kd.R_drewN | apply Kd.R_drew)); exact HO_2.out) hb)
          have n1_ := Az.mk (Kd.S_elder' (by (with_reducible repeat (first | apply Kd.S_alloc | apply Kd.S_drewN | apply Kd.S_drew)); exact HO_170000.out) (Kd.R_base ho56) hb)
          have n2_ := Az.mk (Kd.R_lower ho56 (below_size (by repeat (first | (with_reducible first | exact HB.out | apply bal | apply bdN | apply bdr | refine bS ?_ GE168.out | refine bS ?_ GE169.out) | exact HB.out))))
          have n3_ := Az.mk (blk_below (g := gb168) (o := .cells #[.slice none 0 0] 25 (0, 0)) (by (with_reducible repeat (first | refine blk_drewN ?_ _ | refine blk_drew ?_ | refine blk_alloc ?_ _)); exact BK168.out) hb)
          have n4_ := Az.mk (blk_below (g := gb169) (o := .cells #[u170000] 25 (0, 0)) (by (with_reducible repeat (first | refine blk_drewN ?_ _ | refine blk_drew ?_ | refine blk_alloc ?_ _)); exact BK169.out) hb)
          have n5_ := Az.mk (below_step (by repeat (first | (with_reducible first | exact HB.out | apply bal | apply bdN | apply bdr | refine bS ?_ GE168.out | refine bS ?_ GE169.out) | exact HB.out)) hb)
          clear HO_2
          clear HO_170000
          clear BK168
          clear BK169
          clear HB
          have HO_2 := n0_
          have HO_170000 := n1_
          have HO179 := n2_
          have BK168 := n3_
          have BK169 := n4_
          have HB := n5_
          clear n0_ n1_ n2_ n3_ n4_ n5_
          clear hb ho56
          obtain ⟨Ao57, co57, eo57⟩ := Kd.R_slice HO179.out
          (first | subst eo57 | (injection eo57 with f1_ f2_ f3_; have f4_ := f1_.symm; have f5_ := f3_.symm; clear f1_ f2_ f3_; subst f4_; subst f5_))
          refine hK.out _ _ (HS0_) (fun hHeld => ?_)
          clear hK K
          refine norm_ (a' := ?_) ?_ ?_
          rotate_left
          ·show Act.put _ (some 21) _ = _
           simp only [Act.put, List.setIfInBounds_toArray, List.set_cons_zero, List.set_cons_succ, i64_w, i32_w]
           rfl
          refine pure_ (i := 7) (N := some 22) (v := ?_) (a' := ?_) #[true, true, true, true, true, true, true, true, false, false] rfl rfl (any_of HT_.out (by kernel_rfl)) (fun _ _ _ h => h) (Or.inl ⟨by rfl, ?_⟩) ?_ ?_
          rotate_left
          ·intro w'
           go_simp
           with_reducible rfl
          rotate_left
          ·simp only [Act.put, List.setIfInBounds_toArray, List.set_cons_zero, List.set_cons_succ, i64_w, i32_w]
           rfl
          refine one_ (i := 8) (N := some 4) #[true, true, true, true, true, true, true, true, true, false] rfl rfl (one_of HT_.out (by kernel_rfl)) (by decide) (fun K hK => ?_)
          refine box_step ?hg (N := 4) ?hd (cs := #[.int .i64 0, .string (⟨#[]⟩ : ByteArray), .int .i64 0, .slice none 0 0, .slice none 0 0, .slice none 0 0, .slice none 0 0]) (t := 79) ?hr ?_; (case hd => rfl); (case hg => rfl); (case hr => first | (go_simp; done) | (go_simp; rfl))
          intro gb180 hg w58 hbox hb
          have HS0_ := (hb.cell (World.block_lt_of_cell? _ _ (hHeld))).trans (hHeld)
          have n0_ := Az.mk (Kd.R_below (by (with_reducible repeat (first | apply Kd.R_alloc | apply Kd.R_drewN | apply Kd.R_drew)); exact HO_2.out) hb)
          have n1_ := Az.mk (Kd.S_below (Kd.S_elderB (by (with_reducible repeat (first | apply Kd.S_alloc | apply Kd.S_drewN | apply Kd.S_drew)); exact HO_170000.out) gb180 (Nat.le_of_eq hg.symm)) hb)
          have n2_ := Az.mk (Kd.R_below (by (with_reducible repeat (first | apply Kd.R_alloc | apply Kd.R_drewN | apply Kd.R_drew)); exact HO179.out) hb)
          have n3_ := Az.mk (blk_below (g := gb168) (o := .cells #[.slice none 0 0] 25 (0, 0)) (by (with_reducible repeat (first | refine blk_drewN ?_ _ | refine blk_drew ?_ | refine blk_alloc ?_ _)); exact BK168.out) hb)
          have n4_ := Az.mk (blk_below (g := gb169) (o := .cells #[u170000] 25 (0, 0)) (by (with_reducible repeat (first | refine blk_drewN ?_ _ | refine blk_drew ?_ | refine blk_alloc ?_ _)); exact BK169.out) hb)
          have n5_ := Az.mk (below_step (by repeat (first | (with_reducible first | exact HB.out | apply bal | apply bdN | apply bdr | refine bS ?_ GE168.out | refine bS ?_ GE169.out) | exact HB.out)) hb)
          have n6_ := Az.mk (hbox)
          have n7_ := Az.mk ((by rw [hg]; exact (below_size (by repeat (first | (with_reducible first | exact HB.out | apply bal | apply bdN | apply bdr | refine bS ?_ GE168.out | refine bS ?_ GE169.out) | exact HB.out))) : w.heap.size ≤ gb180))
          have n8_ := Az.mk ((by rw [hg]; exact (below_size (by repeat (first | (with_reducible first | exact HB.out | apply bal | apply bdN | apply bdr | refine bS ?_ GE168.out | refine bS ?_ GE169.out) | exact HB.out))) : w.heap.size ≤ gb180))
          have n9_ := Az.mk ((by rw [hg]; exact Nat.ne_of_lt (blk_lt (g := gb168) (o := .cells #[.slice none 0 0] 25 (0, 0)) (by (with_reducible repeat (first | refine blk_drewN ?_ _ | refine blk_drew ?_ | refine blk_alloc ?_ _)); exact BK168.out)) : gb168 ≠ gb180))
          have n10_ := Az.mk ((by rw [hg]; exact Nat.ne_of_gt (blk_lt (g := gb168) (o := .cells #[.slice none 0 0] 25 (0, 0)) (by (with_reducible repeat (first | refine blk_drewN ?_ _ | refine blk_drew ?_ | refine blk_alloc ?_ _)); exact BK168.out)) : gb180 ≠ gb168))
          have n11_ := Az.mk ((by rw [hg]; exact Nat.ne_of_lt (blk_lt (g := gb169) (o := .cells #[u170000] 25 (0, 0)) (by (with_reducible repeat (first | refine blk_drewN ?_ _ | refine blk_drew ?_ | refine blk_alloc ?_ _)); exact BK169.out)) : gb169 ≠ gb180))
          have n12_ := Az.mk ((by rw [hg]; exact Nat.ne_of_gt (blk_lt (g := gb169) (o := .cells #[u170000] 25 (0, 0)) (by (with_reducible repeat (first | refine blk_drewN ?_ _ | refine blk_drew ?_ | refine blk_alloc ?_ _)); exact BK169.out)) : gb180 ≠ gb169))
          clear HO_2
          clear HO_170000
          clear HO179
          clear BK168
          clear BK169
          clear HB
          have HO_2 := n0_
          have HO_170000 := n1_
          have HO179 := n2_
          have BK168 := n3_
          have BK169 := n4_
          have HB := n5_
          have BK180 := n6_
          have GW180 := n7_
          have GE180 := n8_
          have NB168_180 := n9_
          have NB180_168 := n10_
          have NB169_180 := n11_
          have NB180_169 := n12_
          clear n0_ n1_ n2_ n3_ n4_ n5_ n6_ n7_ n8_ n9_ n10_ n11_ n12_
          clear hb hbox hg
          refine hK.out _ _ (HS0_) (fun hHeld => ?_)
          clear hK K
          refine norm_ (a' := ?_) ?_ ?_
          rotate_left
          ·show Act.put _ (some 4) _ = _
           simp only [Act.put, List.setIfInBounds_toArray, List.set_cons_zero, List.set_cons_succ, i64_w, i32_w]
           rfl
          exact norm_ (by simp only [putAll, Act.put, List.setIfInBounds_toArray, List.set_cons_zero, List.set_cons_succ]) (hCont (.slice Ao57 y177.length co57, gb180) _ ⟨hHeld, (by (with_reducible repeat (first | apply Kd.R_alloc | apply Kd.R_drewN | apply Kd.R_drew)); exact HO179.out), (by (with_reducible repeat (first | apply Kd.S_alloc | apply Kd.S_drewN | apply Kd.S_drew)); exact Kd.S_mono HO_170000.out (fun _ hk => ⟨hk.1.2, ⟨hk.1.1, hk.2⟩⟩)), (by (with_reducible repeat (first | apply Kd.R_alloc | apply Kd.R_drewN | apply Kd.R_drew)); exact HO_2.out), (by (with_reducible repeat (first | refine blk_drewN ?_ _ | refine blk_drew ?_ | refine blk_alloc ?_ _)); exact BK168.out), (by (with_reducible repeat (first | refine blk_drewN ?_ _ | refine blk_drew ?_ | refine blk_alloc ?_ _)); exact BK169.out), (by (with_reducible repeat (first | refine blk_drewN ?_ _ | refine blk_drew ?_ | refine blk_alloc ?_ _)); exact BK180.out), GW180.out, GE180.out, NB168_180.out, NB180_168.out, NB169_180.out, NB180_169.out, (by repeat (first | (with_reducible first | exact HB.out | apply bal | apply bdN | apply bdr | refine bS ?_ GE168.out | refine bS ?_ GE169.out | refine bS ?_ GE180.out) | exact HB.out))⟩)
         ·skip
          refine box_step ?hg (N := 4) ?hd (cs := #[.int .i64 0, .string (⟨#[]⟩ : ByteArray), .int .i64 0, .slice none 0 0, .slice none 0 0, .slice none 0 0, .slice none 0 0]) (t := 79) ?hr ?_; (case hd => rfl); (case hg => rfl); (case hr => first | (go_simp; done) | (go_simp; rfl))
          intro gb180 hg w55 hbox hb
          have HS0_ := (hb.cell (World.block_lt_of_cell? _ _ (hHeld))).trans (hHeld)
          have n0_ := Az.mk (Kd.R_below (by (with_reducible repeat (first | apply Kd.R_alloc | apply Kd.R_drewN | apply Kd.R_drew)); exact HO_2.out) hb)
          have n1_ := Az.mk (Kd.S_below (Kd.S_elderB (by (with_reducible repeat (first | apply Kd.S_alloc | apply Kd.S_drewN | apply Kd.S_drew)); exact HO_170000.out) gb180 (Nat.le_of_eq hg.symm)) hb)
          have n2_ := Az.mk (blk_below (g := gb168) (o := .cells #[.slice none 0 0] 25 (0, 0)) (by (with_reducible repeat (first | refine blk_drewN ?_ _ | refine blk_drew ?_ | refine blk_alloc ?_ _)); exact BK168.out) hb)
          have n3_ := Az.mk (blk_below (g := gb169) (o := .cells #[u170000] 25 (0, 0)) (by (with_reducible repeat (first | refine blk_drewN ?_ _ | refine blk_drew ?_ | refine blk_alloc ?_ _)); exact BK169.out) hb)
          have n4_ := Az.mk (below_step (by repeat (first | (with_reducible first | exact HB.out | apply bal | apply bdN | apply bdr | refine bS ?_ GE168.out | refine bS ?_ GE169.out) | exact HB.out)) hb)
          have n5_ := Az.mk (hbox)
          have n6_ := Az.mk ((by rw [hg]; exact (below_size (by repeat (first | (with_reducible first | exact HB.out | apply bal | apply bdN | apply bdr | refine bS ?_ GE168.out | refine bS ?_ GE169.out) | exact HB.out))) : w.heap.size ≤ gb180))
          have n7_ := Az.mk ((by rw [hg]; exact (below_size (by repeat (first | (with_reducible first | exact HB.out | apply bal | apply bdN | apply bdr | refine bS ?_ GE168.out | refine bS ?_ GE169.out) | exact HB.out))) : w.heap.size ≤ gb180))
          have n8_ := Az.mk ((by rw [hg]; exact Nat.ne_of_lt (blk_lt (g := gb168) (o := .cells #[.slice none 0 0] 25 (0, 0)) (by (with_reducible repeat (first | refine blk_drewN ?_ _ | refine blk_drew ?_ | refine blk_alloc ?_ _)); exact BK168.out)) : gb168 ≠ gb180))
          have n9_ := Az.mk ((by rw [hg]; exact Nat.ne_of_gt (blk_lt (g := gb168) (o := .cells #[.slice none 0 0] 25 (0, 0)) (by (with_reducible repeat (first | refine blk_drewN ?_ _ | refine blk_drew ?_ | refine blk_alloc ?_ _)); exact BK168.out)) : gb180 ≠ gb168))
          have n10_ := Az.mk ((by rw [hg]; exact Nat.ne_of_lt (blk_lt (g := gb169) (o := .cells #[u170000] 25 (0, 0)) (by (with_reducible repeat (first | refine blk_drewN ?_ _ | refine blk_drew ?_ | refine blk_alloc ?_ _)); exact BK169.out)) : gb169 ≠ gb180))
          have n11_ := Az.mk ((by rw [hg]; exact Nat.ne_of_gt (blk_lt (g := gb169) (o := .cells #[u170000] 25 (0, 0)) (by (with_reducible repeat (first | refine blk_drewN ?_ _ | refine blk_drew ?_ | refine blk_alloc ?_ _)); exact BK169.out)) : gb180 ≠ gb169))
          clear HO_2
          clear HO_170000
          clear BK168
          clear BK169
          clear HB
          have HO_2 := n0_
          have HO_170000 := n1_
          have BK168 := n2_
          have BK169 := n3_
          have HB := n4_
          have BK180 := n5_
          have GW180 := n6_
          have GE180 := n7_
          have NB168_180 := n8_
          have NB180_168 := n9_
          have NB169_180 := n10_
          have NB180_169 := n11_
          clear n0_ n1_ n2_ n3_ n4_ n5_ n6_ n7_ n8_ n9_ n10_ n11_
          clear hb hbox hg
          refine hK.out _ _ (HS0_) (fun hHeld => ?_)
          clear hK K
          refine norm_ (a' := ?_) ?_ ?_
          rotate_left
          ·show Act.put _ (some 4) _ = _
           simp only [Act.put, List.setIfInBounds_toArray, List.set_cons_zero, List.set_cons_succ, i64_w, i32_w]
           rfl
          refine one_ (i := 6) (N := some 21) #[true, true, true, true, true, true, true, false, true, false] rfl rfl (one_of HT_.out (by kernel_rfl)) (by decide) (fun K hK => ?_)
          refine Kd.R_lit_step k31 _ 31 ?hg (N := 21) ?hd (xs := ([(⟨t174, t175, t176⟩ : S31)] : List (S31))) (inner := [.int .i64 t174, .string t175, .int .i64 t176]) (ok := fun _ => True) (okp := fun _ => True) ?hr ?hp (fun _ hk => hk) trivial (Below.refl _ _) (Nat.le_refl _) (by simp) ?_; (case hd => rfl); (case hg => rfl); (case hr => first | (go_simp; done) | (go_simp; rfl)); (case hp => exact (Reps.c3 (show Kd.M k31 _ _ _ (⟨t174, t175, t176⟩ : S31) [.int .i64 t174, .string t175, .int .i64 t176] from (k31_mkM _ _ _ (⟨t174, t175, t176⟩ : S31) )) (Reps.none _ _)))
          intro v178 w56 ho57 hb hg_ hnew_
          have HS0_ := (hb.cell (World.block_lt_of_cell? _ _ (hHeld))).trans (hHeld)
          clear hg_ hnew_
          (first | rw [← Ny177.out] at ho57 | (simp only [Int.reduceToNat] at ho57; rw [← Ny177.out] at ho57))
          have n0_ := Az.mk (Kd.R_below (by (with_reducible repeat (first | apply Kd.R_alloc | apply Kd.R_drewN | apply Kd.R_drew)); exact HO_2.out) hb)
          have n1_ := Az.mk (Kd.S_elder' (by (with_reducible repeat (first | apply Kd.S_alloc | apply Kd.S_drewN | apply Kd.S_drew)); exact HO_170000.out) (Kd.R_base ho57) hb)
          have n2_ := Az.mk (Kd.R_lower ho57 (below_size (by repeat (first | (with_reducible first | exact HB.out | apply bal | apply bdN | apply bdr | refine bS ?_ GE168.out | refine bS ?_ GE169.out | refine bS ?_ GE180.out) | exact HB.out))))
          have n3_ := Az.mk (blk_below (g := gb168) (o := .cells #[.slice none 0 0] 25 (0, 0)) (by (with_reducible repeat (first | refine blk_drewN ?_ _ | refine blk_drew ?_ | refine blk_alloc ?_ _)); exact BK168.out) hb)
          have n4_ := Az.mk (blk_below (g := gb169) (o := .cells #[u170000] 25 (0, 0)) (by (with_reducible repeat (first | refine blk_drewN ?_ _ | refine blk_drew ?_ | refine blk_alloc ?_ _)); exact BK169.out) hb)
          have n5_ := Az.mk (blk_below (g := gb180) (o := .cells #[.int .i64 0, .string (⟨#[]⟩ : ByteArray), .int .i64 0, .slice none 0 0, .slice none 0 0, .slice none 0 0, .slice none 0 0] 79 (0, 0)) (by (with_reducible repeat (first | refine blk_drewN ?_ _ | refine blk_drew ?_ | refine blk_alloc ?_ _)); exact BK180.out) hb)
          have n6_ := Az.mk (below_step (by repeat (first | (with_reducible first | exact HB.out | apply bal | apply bdN | apply bdr | refine bS ?_ GE168.out | refine bS ?_ GE169.out | refine bS ?_ GE180.out) | exact HB.out)) hb)
          clear HO_2
          clear HO_170000
          clear BK168
          clear BK169
          clear BK180
          clear HB
          have HO_2 := n0_
          have HO_170000 := n1_
          have HO179 := n2_
          have BK168 := n3_
          have BK169 := n4_
          have BK180 := n5_
          have HB := n6_
          clear n0_ n1_ n2_ n3_ n4_ n5_ n6_
          clear hb ho57
          obtain ⟨Ao58, co58, eo58⟩ := Kd.R_slice HO179.out
          (first | subst eo58 | (injection eo58 with f1_ f2_ f3_; have f4_ := f1_.symm; have f5_ := f3_.symm; clear f1_ f2_ f3_; subst f4_; subst f5_))
          refine hK.out _ _ (HS0_) (fun hHeld => ?_)
          clear hK K
          refine norm_ (a' := ?_) ?_ ?_
          rotate_left
          ·show Act.put _ (some 21) _ = _
           simp only [Act.put, List.setIfInBounds_toArray, List.set_cons_zero, List.set_cons_succ, i64_w, i32_w]
           rfl
          refine pure_ (i := 7) (N := some 22) (v := ?_) (a' := ?_) #[true, true, true, true, true, true, true, true, true, false] rfl rfl (any_of HT_.out (by kernel_rfl)) (fun _ _ _ h => h) (Or.inl ⟨by rfl, ?_⟩) ?_ ?_
          rotate_left
          ·intro w'
           go_simp
           with_reducible rfl
          rotate_left
          ·simp only [Act.put, List.setIfInBounds_toArray, List.set_cons_zero, List.set_cons_succ, i64_w, i32_w]
           rfl
          exact norm_ (by simp only [putAll, Act.put, List.setIfInBounds_toArray, List.set_cons_zero, List.set_cons_succ]) (hCont (.slice Ao58 y177.length co58, gb180) _ ⟨hHeld, (by (with_reducible repeat (first | apply Kd.R_alloc | apply Kd.R_drewN | apply Kd.R_drew)); exact HO179.out), (by (with_reducible repeat (first | apply Kd.S_alloc | apply Kd.S_drewN | apply Kd.S_drew)); exact Kd.S_mono HO_170000.out (fun _ hk => ⟨hk.2, ⟨hk.1.1, hk.1.2⟩⟩)), (by (with_reducible repeat (first | apply Kd.R_alloc | apply Kd.R_drewN | apply Kd.R_drew)); exact HO_2.out), (by (with_reducible repeat (first | refine blk_drewN ?_ _ | refine blk_drew ?_ | refine blk_alloc ?_ _)); exact BK168.out), (by (with_reducible repeat (first | refine blk_drewN ?_ _ | refine blk_drew ?_ | refine blk_alloc ?_ _)); exact BK169.out), (by (with_reducible repeat (first | refine blk_drewN ?_ _ | refine blk_drew ?_ | refine blk_alloc ?_ _)); exact BK180.out), GW180.out, GE180.out, NB168_180.out, NB180_168.out, NB169_180.out, NB180_169.out, (by repeat (first | (with_reducible first | exact HB.out | apply bal | apply bdN | apply bdr | refine bS ?_ GE168.out | refine bS ?_ GE169.out | refine bS ?_ GE180.out) | exact HB.out))⟩)
        ·skip
         refine box_step ?hg (N := 4) ?hd (cs := #[.int .i64 0, .string (⟨#[]⟩ : ByteArray), .int .i64 0, .slice none 0 0, .slice none 0 0, .slice none 0 0, .slice none 0 0]) (t := 79) ?hr ?_; (case hd => rfl); (case hg => rfl); (case hr => first | (go_simp; done) | (go_simp; rfl))
         intro gb180 hg w54 hbox hb
         have HS0_ := (hb.cell (World.block_lt_of_cell? _ _ (hHeld))).trans (hHeld)
         have n0_ := Az.mk (Kd.R_below (by (with_reducible repeat (first | apply Kd.R_alloc | apply Kd.R_drewN | apply Kd.R_drew)); exact HO_2.out) hb)
         have n1_ := Az.mk (Kd.S_below (Kd.S_elderB (by (with_reducible repeat (first | apply Kd.S_alloc | apply Kd.S_drewN | apply Kd.S_drew)); exact HO_170000.out) gb180 (Nat.le_of_eq hg.symm)) hb)
         have n2_ := Az.mk (blk_below (g := gb168) (o := .cells #[.slice none 0 0] 25 (0, 0)) (by (with_reducible repeat (first | refine blk_drewN ?_ _ | refine blk_drew ?_ | refine blk_alloc ?_ _)); exact BK168.out) hb)
         have n3_ := Az.mk (blk_below (g := gb169) (o := .cells #[u170000] 25 (0, 0)) (by (with_reducible repeat (first | refine blk_drewN ?_ _ | refine blk_drew ?_ | refine blk_alloc ?_ _)); exact BK169.out) hb)
         have n4_ := Az.mk (below_step (by repeat (first | (with_reducible first | exact HB.out | apply bal | apply bdN | apply bdr | refine bS ?_ GE168.out | refine bS ?_ GE169.out) | exact HB.out)) hb)
         have n5_ := Az.mk (hbox)
         have n6_ := Az.mk ((by rw [hg]; exact (below_size (by repeat (first | (with_reducible first | exact HB.out | apply bal | apply bdN | apply bdr | refine bS ?_ GE168.out | refine bS ?_ GE169.out) | exact HB.out))) : w.heap.size ≤ gb180))
         have n7_ := Az.mk ((by rw [hg]; exact (below_size (by repeat (first | (with_reducible first | exact HB.out | apply bal | apply bdN | apply bdr | refine bS ?_ GE168.out | refine bS ?_ GE169.out) | exact HB.out))) : w.heap.size ≤ gb180))
         have n8_ := Az.mk ((by rw [hg]; exact Nat.ne_of_lt (blk_lt (g := gb168) (o := .cells #[.slice none 0 0] 25 (0, 0)) (by (with_reducible repeat (first | refine blk_drewN ?_ _ | refine blk_drew ?_ | refine blk_alloc ?_ _)); exact BK168.out)) : gb168 ≠ gb180))
         have n9_ := Az.mk ((by rw [hg]; exact Nat.ne_of_gt (blk_lt (g := gb168) (o := .cells #[.slice none 0 0] 25 (0, 0)) (by (with_reducible repeat (first | refine blk_drewN ?_ _ | refine blk_drew ?_ | refine blk_alloc ?_ _)); exact BK168.out)) : gb180 ≠ gb168))
         have n10_ := Az.mk ((by rw [hg]; exact Nat.ne_of_lt (blk_lt (g := gb169) (o := .cells #[u170000] 25 (0, 0)) (by (with_reducible repeat (first | refine blk_drewN ?_ _ | refine blk_drew ?_ | refine blk_alloc ?_ _)); exact BK169.out)) : gb169 ≠ gb180))
         have n11_ := Az.mk ((by rw [hg]; exact Nat.ne_of_gt (blk_lt (g := gb169) (o := .cells #[u170000] 25 (0, 0)) (by (with_reducible repeat (first | refine blk_drewN ?_ _ | refine blk_drew ?_ | refine blk_alloc ?_ _)); exact BK169.out)) : gb180 ≠ gb169))
         clear HO_2
         clear HO_170000
         clear BK168
         clear BK169
         clear HB
         have HO_2 := n0_
         have HO_170000 := n1_
         have BK168 := n2_
         have BK169 := n3_
         have HB := n4_
         have BK180 := n5_
         have GW180 := n6_
         have GE180 := n7_
         have NB168_180 := n8_
         have NB180_168 := n9_
         have NB169_180 := n10_
         have NB180_169 := n11_
         clear n0_ n1_ n2_ n3_ n4_ n5_ n6_ n7_ n8_ n9_ n10_ n11_
         clear hb hbox hg
         refine hK.out _ _ (HS0_) (fun hHeld => ?_)
         clear hK K
         refine norm_ (a' := ?_) ?_ ?_
         rotate_left
         ·show Act.put _ (some 4) _ = _
          simp only [Act.put, List.setIfInBounds_toArray, List.set_cons_zero, List.set_cons_succ, i64_w, i32_w]
          rfl
         refine one_ (i := 5) (N := some 20) #[true, true, true, true, true, true, false, false, true, false] rfl rfl (one_of HT_.out (by kernel_rfl)) (by decide) (fun K hK => ?_)
         refine goes_ Try.func89 (by kernel_rfl) rfl #[.int .i64 x3_1] (by rfl) rfl rfl (by (try simp only [List.map_toArray, List.map_cons, List.map_nil]); first | done | rfl | (simp only [List.length_drop, List.length_take]; rfl)) ?_
         with_reducible refine (spec_refTo.calls x3_1 t174 t175 t176 _ A9.out).mono ?_
         rintro e w55 ⟨rfl, hb⟩
         have HS0_ := (hb.cell (World.block_lt_of_cell? _ _ (hHeld))).trans (hHeld)
         refine ⟨_, rfl, ?_⟩
         have n0_ := Az.mk (Kd.R_below (by (with_reducible repeat (first | apply Kd.R_alloc | apply Kd.R_drewN | apply Kd.R_drew)); exact HO_2.out) hb)
         have n1_ := Az.mk (Kd.S_below (by (with_reducible repeat (first | apply Kd.S_alloc | apply Kd.S_drewN | apply Kd.S_drew)); exact HO_170000.out) hb)
         have n2_ := Az.mk (blk_below (g := gb168) (o := .cells #[.slice none 0 0] 25 (0, 0)) (by (with_reducible repeat (first | refine blk_drewN ?_ _ | refine blk_drew ?_ | refine blk_alloc ?_ _)); exact BK168.out) hb)
         have n3_ := Az.mk (blk_below (g := gb169) (o := .cells #[u170000] 25 (0, 0)) (by (with_reducible repeat (first | refine blk_drewN ?_ _ | refine blk_drew ?_ | refine blk_alloc ?_ _)); exact BK169.out) hb)
         have n4_ := Az.mk (blk_below (g := gb180) (o := .cells #[.int .i64 0, .string (⟨#[]⟩ : ByteArray), .int .i64 0, .slice none 0 0, .slice none 0 0, .slice none 0 0, .slice none 0 0] 79 (0, 0)) (by (with_reducible repeat (first | refine blk_drewN ?_ _ | refine blk_drew ?_ | refine blk_alloc ?_ _)); exact BK180.out) hb)
         have n5_ := Az.mk (below_step (by repeat (first | (with_reducible first | exact HB.out | apply bal | apply bdN | apply bdr | refine bS ?_ GE168.out | refine bS ?_ GE169.out | refine bS ?_ GE180.out) | exact HB.out)) hb)
         clear HO_2
         clear HO_170000
         clear BK168
         clear BK169
         clear BK180
         clear HB
         have HO_2 := n0_
         have HO_170000 := n1_
         have BK168 := n2_
         have BK169 := n3_
         have BK180 := n4_
         have HB := n5_
         clear n0_ n1_ n2_ n3_ n4_ n5_
         (try clear hb)
         (try clear hb2)
         (try clear hk)
         (try clear hi)
         refine hK.out _ _ (HS0_) (fun hHeld => ?_)
         clear hK K
         refine norm_ (a' := ?_) ?_ ?_
         rotate_left
         ·show Act.put _ (some 20) _ = _
          simp only [Act.put, List.setIfInBounds_toArray, List.set_cons_zero, List.set_cons_succ, i64_w, i32_w]
          rfl
         refine one_ (i := 6) (N := some 21) #[true, true, true, true, true, true, true, false, true, false] rfl rfl (one_of HT_.out (by kernel_rfl)) (by decide) (fun K hK => ?_)
         refine Kd.R_lit_step k31 _ 31 ?hg (N := 21) ?hd (xs := ([(⟨t174, t175, t176⟩ : S31)] : List (S31))) (inner := [.int .i64 t174, .string t175, .int .i64 t176]) (ok := fun _ => True) (okp := fun _ => True) ?hr ?hp (fun _ hk => hk) trivial (Below.refl _ _) (Nat.le_refl _) (by simp) ?_; (case hd => rfl); (case hg => rfl); (case hr => first | (go_simp; done) | (go_simp; rfl)); (case hp => exact (Reps.c3 (show Kd.M k31 _ _ _ (⟨t174, t175, t176⟩ : S31) [.int .i64 t174, .string t175, .int .i64 t176] from (k31_mkM _ _ _ (⟨t174, t175, t176⟩ : S31) )) (Reps.none _ _)))
         intro v178 w56 ho57 hb hg_ hnew_
         have HS0_ := (hb.cell (World.block_lt_of_cell? _ _ (hHeld))).trans (hHeld)
         clear hg_ hnew_
         (first | rw [← Ny177.out] at ho57 | (simp only [Int.reduceToNat] at ho57; rw [← Ny177.out] at ho57))
         have n0_ := Az.mk (Kd.R_below (by (with_reducible repeat (first | apply Kd.R_alloc | apply Kd.R_drewN | apply Kd.R_drew)); exact HO_2.out) hb)
         have n1_ := Az.mk (Kd.S_elder' (by (with_reducible repeat (first | apply Kd.S_alloc | apply Kd.S_drewN | apply Kd.S_drew)); exact HO_170000.out) (Kd.R_base ho57) hb)
         have n2_ := Az.mk (Kd.R_lower ho57 (below_size (by repeat (first | (with_reducible first | exact HB.out | apply bal | apply bdN | apply bdr | refine bS ?_ GE168.out | refine bS ?_ GE169.out | refine bS ?_ GE180.out) | exact HB.out))))
         have n3_ := Az.mk (blk_below (g := gb168) (o := .cells #[.slice none 0 0] 25 (0, 0)) (by (with_reducible repeat (first | refine blk_drewN ?_ _ | refine blk_drew ?_ | refine blk_alloc ?_ _)); exact BK168.out) hb)
         have n4_ := Az.mk (blk_below (g := gb169) (o := .cells #[u170000] 25 (0, 0)) (by (with_reducible repeat (first | refine blk_drewN ?_ _ | refine blk_drew ?_ | refine blk_alloc ?_ _)); exact BK169.out) hb)
         have n5_ := Az.mk (blk_below (g := gb180) (o := .cells #[.int .i64 0, .string (⟨#[]⟩ : ByteArray), .int .i64 0, .slice none 0 0, .slice none 0 0, .slice none 0 0, .slice none 0 0] 79 (0, 0)) (by (with_reducible repeat (first | refine blk_drewN ?_ _ | refine blk_drew ?_ | refine blk_alloc ?_ _)); exact BK180.out) hb)
         have n6_ := Az.mk (below_step (by repeat (first | (with_reducible first | exact HB.out | apply bal | apply bdN | apply bdr | refine bS ?_ GE168.out | refine bS ?_ GE169.out | refine bS ?_ GE180.out) | exact HB.out)) hb)
         clear HO_2
         clear HO_170000
         clear BK168
         clear BK169
         clear BK180
         clear HB
         have HO_2 := n0_
         have HO_170000 := n1_
         have HO179 := n2_
         have BK168 := n3_
         have BK169 := n4_
         have BK180 := n5_
         have HB := n6_
         clear n0_ n1_ n2_ n3_ n4_ n5_ n6_
         clear hb ho57
         obtain ⟨Ao58, co58, eo58⟩ := Kd.R_slice HO179.out
         (first | subst eo58 | (injection eo58 with f1_ f2_ f3_; have f4_ := f1_.symm; have f5_ := f3_.symm; clear f1_ f2_ f3_; subst f4_; subst f5_))
         refine hK.out _ _ (HS0_) (fun hHeld => ?_)
         clear hK K
         refine norm_ (a' := ?_) ?_ ?_
         rotate_left
         ·show Act.put _ (some 21) _ = _
          simp only [Act.put, List.setIfInBounds_toArray, List.set_cons_zero, List.set_cons_succ, i64_w, i32_w]
          rfl
         refine pure_ (i := 7) (N := some 22) (v := ?_) (a' := ?_) #[true, true, true, true, true, true, true, true, true, false] rfl rfl (any_of HT_.out (by kernel_rfl)) (fun _ _ _ h => h) (Or.inl ⟨by rfl, ?_⟩) ?_ ?_
         rotate_left
         ·intro w'
          go_simp
          with_reducible rfl
         rotate_left
         ·simp only [Act.put, List.setIfInBounds_toArray, List.set_cons_zero, List.set_cons_succ, i64_w, i32_w]
          rfl
         exact norm_ (by simp only [putAll, Act.put, List.setIfInBounds_toArray, List.set_cons_zero, List.set_cons_succ]) (hCont (.slice Ao58 y177.length co58, gb180) _ ⟨hHeld, (by (with_reducible repeat (first | apply Kd.R_alloc | apply Kd.R_drewN | apply Kd.R_drew)); exact HO179.out), (by (with_reducible repeat (first | apply Kd.S_alloc | apply Kd.S_drewN | apply Kd.S_drew)); exact Kd.S_mono HO_170000.out (fun _ hk => ⟨hk.2, ⟨hk.1.1, hk.1.2⟩⟩)), (by (with_reducible repeat (first | apply Kd.R_alloc | apply Kd.R_drewN | apply Kd.R_drew)); exact HO_2.out), (by (with_reducible repeat (first | refine blk_drewN ?_ _ | refine blk_drew ?_ | refine blk_alloc ?_ _)); exact BK168.out), (by (with_reducible repeat (first | refine blk_drewN ?_ _ | refine blk_drew ?_ | refine blk_alloc ?_ _)); exact BK169.out), (by (with_reducible repeat (first | refine blk_drewN ?_ _ | refine blk_drew ?_ | refine blk_alloc ?_ _)); exact BK180.out), GW180.out, GE180.out, NB168_180.out, NB180_168.out, NB169_180.out, NB180_169.out, (by repeat (first | (with_reducible first | exact HB.out | apply bal | apply bdN | apply bdr | refine bS ?_ GE168.out | refine bS ?_ GE169.out | refine bS ?_ GE180.out) | exact HB.out))⟩)
       rintro ⟨v178, gb180⟩ w59 ⟨hS_, h0_, h1_, h2_, h3_, h4_, h5_, h6_, h7_, h8_, h9_, h10_, h11_, h12_⟩
       have n0_ : Az (Kd.R k31 31 w59 w.heap.size (fun _ => True) v178 y177) := ⟨h0_⟩
       have n1_ : Az (Kd.S k79 79 w59 w.heap.size (fun k_ => some k_ ≠ (v178 : Value).ownBlock ∧ some k_ ≠ (.slice (some ad173) t170.length co52 : Value).ownBlock ∧ k_ ≠ gb180) u170000 x170000_1) := ⟨h1_⟩
       have n2_ : Az (Kd.R Kd.string 9 w59 w.heap.size (fun _ => True) (.slice (some ad173) t170.length co52) t170) := ⟨h2_⟩
       have n3_ : Az (w59.heap[gb168]? = some (.cells #[.slice none 0 0] 25 (0, 0))) := ⟨h3_⟩
       have n4_ : Az (w59.heap[gb169]? = some (.cells #[u170000] 25 (0, 0))) := ⟨h4_⟩
       have n5_ : Az (w59.heap[gb180]? = some (.cells #[.int .i64 0, .string (⟨#[]⟩ : ByteArray), .int .i64 0, .slice none 0 0, .slice none 0 0, .slice none 0 0, .slice none 0 0] 79 (0, 0))) := ⟨h5_⟩
       have n6_ : Az (w.heap.size ≤ gb180) := ⟨h6_⟩
       have n7_ : Az (w.heap.size ≤ gb180) := ⟨h7_⟩
       have n8_ : Az (gb168 ≠ gb180) := ⟨h8_⟩
       have n9_ : Az (gb180 ≠ gb168) := ⟨h9_⟩
       have n10_ : Az (gb169 ≠ gb180) := ⟨h10_⟩
       have n11_ : Az (gb180 ≠ gb169) := ⟨h11_⟩
       have n12_ : Az (Below w.heap.size w w59) := ⟨h12_⟩
       clear HO_2
       clear HO_170000
       clear BK168
       clear BK169
       clear HB
       clear h0_ h1_ h2_ h3_ h4_ h5_ h6_ h7_ h8_ h9_ h10_ h11_ h12_
       have HO179 := n0_
       have HO_170000 := n1_
       have HO_2 := n2_
       have BK168 := n3_
       have BK169 := n4_
       have BK180 := n5_
       have GW180 := n6_
       have GE180 := n7_
       have NB168_180 := n8_
       have NB180_168 := n9_
       have NB169_180 := n10_
       have NB180_169 := n11_
       have HB := n12_
       clear n0_ n1_ n2_ n3_ n4_ n5_ n6_ n7_ n8_ n9_ n10_ n11_ n12_
       have hHeld : w59.cell? (ad173.add (x3_1).toNat) = some (.string (rdOf ByteArray.empty t170 x3_1)) := hS_
       obtain ⟨Ao60, co60, eo60⟩ := Kd.R_slice HO179.out
       (first | subst eo60 | (injection eo60 with f1_ f2_ f3_; have f4_ := f1_.symm; have f5_ := f3_.symm; clear f1_ f2_ f3_; subst f4_; subst f5_))
       refine norm_ (a' := ?_) ?_ ?_
       rotate_left
       ·simp only [putAll, Act.put, List.setIfInBounds_toArray, List.set_cons_zero, List.set_cons_succ]
        rfl
       refine one_ (i := 9) (N := none) #[true, true, true, true, true, true, true, true, true, true] rfl rfl (one_of HT_.out (by kernel_rfl)) (by decide) (fun K hK => ?_)
       have hs61 : w59.cell? ⟨gb180, 0, none⟩ = some (.int .i64 0) := (bC BK180.out 0).trans rfl
       have hfs61 := bF BK180.out 0
       have hns61_0 := NB168_180.out
       have hns61_1 := NB169_180.out
       have hms61_0 := NB180_168.out
       have hms61_1 := NB180_169.out
       have hs62 : w59.cell? ⟨gb180, 1, none⟩ = some (.string (⟨#[]⟩ : ByteArray)) := (bC BK180.out 1).trans rfl
       have hfs62 := bF BK180.out 1
       have hns62_0 := NB168_180.out
       have hns62_1 := NB169_180.out
       have hms62_0 := NB180_168.out
       have hms62_1 := NB180_169.out
       have hs63 : w59.cell? ⟨gb180, 2, none⟩ = some (.int .i64 0) := (bC BK180.out 2).trans rfl
       have hfs63 := bF BK180.out 2
       have hns63_0 := NB168_180.out
       have hns63_1 := NB169_180.out
       have hms63_0 := NB180_168.out
       have hms63_1 := NB180_169.out
       have hs64 : w59.cell? ⟨gb180, 3, none⟩ = some (.slice none 0 0) := (bC BK180.out 3).trans rfl
       have hfs64 := bF BK180.out 3
       have hns64_0 := NB168_180.out
       have hns64_1 := NB169_180.out
       have hms64_0 := NB180_168.out
       have hms64_1 := NB180_169.out
       have hs65 : w59.cell? ⟨gb180, 4, none⟩ = some (.slice none 0 0) := (bC BK180.out 4).trans rfl
       have hfs65 := bF BK180.out 4
       have hns65_0 := NB168_180.out
       have hns65_1 := NB169_180.out
       have hms65_0 := NB180_168.out
       have hms65_1 := NB180_169.out
       have hs66 : w59.cell? ⟨gb180, 5, none⟩ = some (.slice none 0 0) := (bC BK180.out 5).trans rfl
       have hfs66 := bF BK180.out 5
       have hns66_0 := NB168_180.out
       have hns66_1 := NB169_180.out
       have hms66_0 := NB180_168.out
       have hms66_1 := NB180_169.out
       have hs67 : w59.cell? ⟨gb180, 6, none⟩ = some (.slice none 0 0) := (bC BK180.out 6).trans rfl
       have hfs67 := bF BK180.out 6
       have hns67_0 := NB168_180.out
       have hns67_1 := NB169_180.out
       have hms67_0 := NB180_168.out
       have hms67_1 := NB180_169.out
       refine skip_ (w1 := ?_) (by rfl) rfl ?_ ?_
       rotate_left
       ·go_simp
        rfl
       refine hK.out _ _ (((cell_far (p := ⟨gb180, _, none⟩) (by first | exact Kd.own_blk (Kd.R_ne HO_2.out BK180.out (by decide)) | (rw [add_block]; exact Kd.own_blk (Kd.R_ne HO_2.out BK180.out (by decide))) | (show (Addr.add _ _).block ≠ _; rw [add_block]; exact Kd.own_blk (Kd.R_ne HO_2.out BK180.out (by decide))) | (dsimp only; exact Kd.own_blk (Kd.R_ne HO_2.out BK180.out (by decide)))) _).trans (((cell_far (p := ⟨gb180, _, none⟩) (by first | exact Kd.own_blk (Kd.R_ne HO_2.out BK180.out (by decide)) | (rw [add_block]; exact Kd.own_blk (Kd.R_ne HO_2.out BK180.out (by decide))) | (show (Addr.add _ _).block ≠ _; rw [add_block]; exact Kd.own_blk (Kd.R_ne HO_2.out BK180.out (by decide))) | (dsimp only; exact Kd.own_blk (Kd.R_ne HO_2.out BK180.out (by decide)))) _).trans (((cell_far (p := ⟨gb180, _, none⟩) (by first | exact Kd.own_blk (Kd.R_ne HO_2.out BK180.out (by decide)) | (rw [add_block]; exact Kd.own_blk (Kd.R_ne HO_2.out BK180.out (by decide))) | (show (Addr.add _ _).block ≠ _; rw [add_block]; exact Kd.own_blk (Kd.R_ne HO_2.out BK180.out (by decide))) | (dsimp only; exact Kd.own_blk (Kd.R_ne HO_2.out BK180.out (by decide)))) _).trans (((cell_far (p := ⟨gb180, _, none⟩) (by first | exact Kd.own_blk (Kd.R_ne HO_2.out BK180.out (by decide)) | (rw [add_block]; exact Kd.own_blk (Kd.R_ne HO_2.out BK180.out (by decide))) | (show (Addr.add _ _).block ≠ _; rw [add_block]; exact Kd.own_blk (Kd.R_ne HO_2.out BK180.out (by decide))) | (dsimp only; exact Kd.own_blk (Kd.R_ne HO_2.out BK180.out (by decide)))) _).trans (((cell_far (p := ⟨gb180, _, none⟩) (by first | exact Kd.own_blk (Kd.R_ne HO_2.out BK180.out (by decide)) | (rw [add_block]; exact Kd.own_blk (Kd.R_ne HO_2.out BK180.out (by decide))) | (show (Addr.add _ _).block ≠ _; rw [add_block]; exact Kd.own_blk (Kd.R_ne HO_2.out BK180.out (by decide))) | (dsimp only; exact Kd.own_blk (Kd.R_ne HO_2.out BK180.out (by decide)))) _).trans (((cell_far (p := ⟨gb180, _, none⟩) (by first | exact Kd.own_blk (Kd.R_ne HO_2.out BK180.out (by decide)) | (rw [add_block]; exact Kd.own_blk (Kd.R_ne HO_2.out BK180.out (by decide))) | (show (Addr.add _ _).block ≠ _; rw [add_block]; exact Kd.own_blk (Kd.R_ne HO_2.out BK180.out (by decide))) | (dsimp only; exact Kd.own_blk (Kd.R_ne HO_2.out BK180.out (by decide)))) _).trans (((cell_far (p := ⟨gb180, _, none⟩) (by first | exact Kd.own_blk (Kd.R_ne HO_2.out BK180.out (by decide)) | (rw [add_block]; exact Kd.own_blk (Kd.R_ne HO_2.out BK180.out (by decide))) | (show (Addr.add _ _).block ≠ _; rw [add_block]; exact Kd.own_blk (Kd.R_ne HO_2.out BK180.out (by decide))) | (dsimp only; exact Kd.own_blk (Kd.R_ne HO_2.out BK180.out (by decide)))) _).trans (hHeld))))))))))))))) (fun hHeld => ?_)
       clear hK K
       refine done_ (done_of HT_.out (by kernel_rfl)) ?_
       have n0_ : Az (Kd.R Kd.string 9 (((((((w59.setCell ⟨gb180, 0, none⟩ (.int .i64 5)).setCell ⟨gb180, 1, none⟩ (.string (rdOf ByteArray.empty t170 x3_1))).setCell ⟨gb180, 2, none⟩ (.int .i64 0)).setCell ⟨gb180, 3, none⟩ (.slice Ao60 y177.length co60)).setCell ⟨gb180, 4, none⟩ (.slice none 0 0)).setCell ⟨gb180, 5, none⟩ (.slice none 0 0)).setCell ⟨gb180, 6, none⟩ (.slice none 0 0)) w.heap.size (fun _ => True) (.slice (some ad173) t170.length co52) t170) := ⟨by (with_reducible repeat (first | apply Kd.R_alloc | apply Kd.R_drewN | apply Kd.R_drew)); exact Kd.R_mono (Kd.R_far (p := ⟨gb180, 6, none⟩) (Kd.R_far (p := ⟨gb180, 5, none⟩) (Kd.R_far (p := ⟨gb180, 4, none⟩) (Kd.R_far (p := ⟨gb180, 3, none⟩) (Kd.R_far (p := ⟨gb180, 2, none⟩) (Kd.R_far (p := ⟨gb180, 1, none⟩) (Kd.R_far (p := ⟨gb180, 0, none⟩) (Kd.R_types HO_2.out BK180.out (by decide)) (fun _ hk => hk.2) (.int .i64 5)) (fun _ hk => hk.2) (.string (rdOf ByteArray.empty t170 x3_1))) (fun _ hk => hk.2) (.int .i64 0)) (fun _ hk => hk.2) (.slice Ao60 y177.length co60)) (fun _ hk => hk.2) (.slice none 0 0)) (fun _ hk => hk.2) (.slice none 0 0)) (fun _ hk => hk.2) (.slice none 0 0)) (fun _ hk => trivial)⟩
       have n1_ : Az (Kd.S k79 79 (((((((w59.setCell ⟨gb180, 0, none⟩ (.int .i64 5)).setCell ⟨gb180, 1, none⟩ (.string (rdOf ByteArray.empty t170 x3_1))).setCell ⟨gb180, 2, none⟩ (.int .i64 0)).setCell ⟨gb180, 3, none⟩ (.slice Ao60 y177.length co60)).setCell ⟨gb180, 4, none⟩ (.slice none 0 0)).setCell ⟨gb180, 5, none⟩ (.slice none 0 0)).setCell ⟨gb180, 6, none⟩ (.slice none 0 0)) w.heap.size (fun k_ => some k_ ≠ (.slice (some ad173) t170.length co52 : Value).ownBlock ∧ some k_ ≠ (.slice Ao60 y177.length co60 : Value).ownBlock ∧ k_ ≠ gb180) u170000 x170000_1) := ⟨by (with_reducible repeat (first | apply Kd.S_alloc | apply Kd.S_drewN | apply Kd.S_drew)); exact Kd.S_mono (Kd.S_far (p := ⟨gb180, 6, none⟩) (Kd.S_far (p := ⟨gb180, 5, none⟩) (Kd.S_far (p := ⟨gb180, 4, none⟩) (Kd.S_far (p := ⟨gb180, 3, none⟩) (Kd.S_far (p := ⟨gb180, 2, none⟩) (Kd.S_far (p := ⟨gb180, 1, none⟩) (Kd.S_far (p := ⟨gb180, 0, none⟩) (Kd.S_mono HO_170000.out (fun k_ hk => (⟨hk, hk.2.2⟩ : _ ∧ k_ ≠ gb180))) (fun _ hk => hk.2) (.int .i64 5)) (fun _ hk => hk.2) (.string (rdOf ByteArray.empty t170 x3_1))) (fun _ hk => hk.2) (.int .i64 0)) (fun _ hk => hk.2) (.slice Ao60 y177.length co60)) (fun _ hk => hk.2) (.slice none 0 0)) (fun _ hk => hk.2) (.slice none 0 0)) (fun _ hk => hk.2) (.slice none 0 0)) (fun _ hk => ⟨hk.1.2.1, ⟨hk.1.1, hk.1.2.2⟩⟩)⟩
       have n2_ : Az (Kd.R k31 31 (((((((w59.setCell ⟨gb180, 0, none⟩ (.int .i64 5)).setCell ⟨gb180, 1, none⟩ (.string (rdOf ByteArray.empty t170 x3_1))).setCell ⟨gb180, 2, none⟩ (.int .i64 0)).setCell ⟨gb180, 3, none⟩ (.slice Ao60 y177.length co60)).setCell ⟨gb180, 4, none⟩ (.slice none 0 0)).setCell ⟨gb180, 5, none⟩ (.slice none 0 0)).setCell ⟨gb180, 6, none⟩ (.slice none 0 0)) w.heap.size (fun _ => True) (.slice Ao60 y177.length co60) y177) := ⟨by (with_reducible repeat (first | apply Kd.R_alloc | apply Kd.R_drewN | apply Kd.R_drew)); exact Kd.R_mono (Kd.R_far (p := ⟨gb180, 6, none⟩) (Kd.R_far (p := ⟨gb180, 5, none⟩) (Kd.R_far (p := ⟨gb180, 4, none⟩) (Kd.R_far (p := ⟨gb180, 3, none⟩) (Kd.R_far (p := ⟨gb180, 2, none⟩) (Kd.R_far (p := ⟨gb180, 1, none⟩) (Kd.R_far (p := ⟨gb180, 0, none⟩) (Kd.R_types HO179.out BK180.out (by decide)) (fun _ hk => hk.2) (.int .i64 5)) (fun _ hk => hk.2) (.string (rdOf ByteArray.empty t170 x3_1))) (fun _ hk => hk.2) (.int .i64 0)) (fun _ hk => hk.2) (.slice Ao60 y177.length co60)) (fun _ hk => hk.2) (.slice none 0 0)) (fun _ hk => hk.2) (.slice none 0 0)) (fun _ hk => hk.2) (.slice none 0 0)) (fun _ hk => trivial)⟩
       have n3_ : Az ((((((((w59.setCell ⟨gb180, 0, none⟩ (.int .i64 5)).setCell ⟨gb180, 1, none⟩ (.string (rdOf ByteArray.empty t170 x3_1))).setCell ⟨gb180, 2, none⟩ (.int .i64 0)).setCell ⟨gb180, 3, none⟩ (.slice Ao60 y177.length co60)).setCell ⟨gb180, 4, none⟩ (.slice none 0 0)).setCell ⟨gb180, 5, none⟩ (.slice none 0 0)).setCell ⟨gb180, 6, none⟩ (.slice none 0 0)).heap[gb168]? = some (.cells #[.slice none 0 0] 25 (0, 0))) := ⟨by (with_reducible repeat (first | refine blk_drewN ?_ _ | refine blk_drew ?_ | refine blk_alloc ?_ _)); refine blk_far ?_ NB168_180.out _; (with_reducible repeat (first | refine blk_drewN ?_ _ | refine blk_drew ?_ | refine blk_alloc ?_ _)); refine blk_far ?_ NB168_180.out _; (with_reducible repeat (first | refine blk_drewN ?_ _ | refine blk_drew ?_ | refine blk_alloc ?_ _)); refine blk_far ?_ NB168_180.out _; (with_reducible repeat (first | refine blk_drewN ?_ _ | refine blk_drew ?_ | refine blk_alloc ?_ _)); refine blk_far ?_ NB168_180.out _; (with_reducible repeat (first | refine blk_drewN ?_ _ | refine blk_drew ?_ | refine blk_alloc ?_ _)); refine blk_far ?_ NB168_180.out _; (with_reducible repeat (first | refine blk_drewN ?_ _ | refine blk_drew ?_ | refine blk_alloc ?_ _)); refine blk_far ?_ NB168_180.out _; (with_reducible repeat (first | refine blk_drewN ?_ _ | refine blk_drew ?_ | refine blk_alloc ?_ _)); refine blk_far ?_ NB168_180.out _; (with_reducible repeat (first | refine blk_drewN ?_ _ | refine blk_drew ?_ | refine blk_alloc ?_ _)); exact BK168.out⟩
       have n4_ : Az ((((((((w59.setCell ⟨gb180, 0, none⟩ (.int .i64 5)).setCell ⟨gb180, 1, none⟩ (.string (rdOf ByteArray.empty t170 x3_1))).setCell ⟨gb180, 2, none⟩ (.int .i64 0)).setCell ⟨gb180, 3, none⟩ (.slice Ao60 y177.length co60)).setCell ⟨gb180, 4, none⟩ (.slice none 0 0)).setCell ⟨gb180, 5, none⟩ (.slice none 0 0)).setCell ⟨gb180, 6, none⟩ (.slice none 0 0)).heap[gb169]? = some (.cells #[u170000] 25 (0, 0))) := ⟨by (with_reducible repeat (first | refine blk_drewN ?_ _ | refine blk_drew ?_ | refine blk_alloc ?_ _)); refine blk_far ?_ NB169_180.out _; (with_reducible repeat (first | refine blk_drewN ?_ _ | refine blk_drew ?_ | refine blk_alloc ?_ _)); refine blk_far ?_ NB169_180.out _; (with_reducible repeat (first | refine blk_drewN ?_ _ | refine blk_drew ?_ | refine blk_alloc ?_ _)); refine blk_far ?_ NB169_180.out _; (with_reducible repeat (first | refine blk_drewN ?_ _ | refine blk_drew ?_ | refine blk_alloc ?_ _)); refine blk_far ?_ NB169_180.out _; (with_reducible repeat (first | refine blk_drewN ?_ _ | refine blk_drew ?_ | refine blk_alloc ?_ _)); refine blk_far ?_ NB169_180.out _; (with_reducible repeat (first | refine blk_drewN ?_ _ | refine blk_drew ?_ | refine blk_alloc ?_ _)); refine blk_far ?_ NB169_180.out _; (with_reducible repeat (first | refine blk_drewN ?_ _ | refine blk_drew ?_ | refine blk_alloc ?_ _)); refine blk_far ?_ NB169_180.out _; (with_reducible repeat (first | refine blk_drewN ?_ _ | refine blk_drew ?_ | refine blk_alloc ?_ _)); exact BK169.out⟩
       have n5_ : Az ((((((((w59.setCell ⟨gb180, 0, none⟩ (.int .i64 5)).setCell ⟨gb180, 1, none⟩ (.string (rdOf ByteArray.empty t170 x3_1))).setCell ⟨gb180, 2, none⟩ (.int .i64 0)).setCell ⟨gb180, 3, none⟩ (.slice Ao60 y177.length co60)).setCell ⟨gb180, 4, none⟩ (.slice none 0 0)).setCell ⟨gb180, 5, none⟩ (.slice none 0 0)).setCell ⟨gb180, 6, none⟩ (.slice none 0 0)).heap[gb180]? = some (.cells #[.int .i64 5, .string (rdOf ByteArray.empty t170 x3_1), .int .i64 0, .slice Ao60 y177.length co60, .slice none 0 0, .slice none 0 0, .slice none 0 0] 79 (0, 0))) := ⟨by (with_reducible repeat (first | refine blk_drewN ?_ _ | refine blk_drew ?_ | refine blk_alloc ?_ _)); refine blk_put (cs := #[.int .i64 5, .string (rdOf ByteArray.empty t170 x3_1), .int .i64 0, .slice Ao60 y177.length co60, .slice none 0 0, .slice none 0 0, .slice none 0 0]) ?_ 6 _ rfl; (with_reducible repeat (first | refine blk_drewN ?_ _ | refine blk_drew ?_ | refine blk_alloc ?_ _)); refine blk_put (cs := #[.int .i64 5, .string (rdOf ByteArray.empty t170 x3_1), .int .i64 0, .slice Ao60 y177.length co60, .slice none 0 0, .slice none 0 0, .slice none 0 0]) ?_ 5 _ rfl; (with_reducible repeat (first | refine blk_drewN ?_ _ | refine blk_drew ?_ | refine blk_alloc ?_ _)); refine blk_put (cs := #[.int .i64 5, .string (rdOf ByteArray.empty t170 x3_1), .int .i64 0, .slice Ao60 y177.length co60, .slice none 0 0, .slice none 0 0, .slice none 0 0]) ?_ 4 _ rfl; (with_reducible repeat (first | refine blk_drewN ?_ _ | refine blk_drew ?_ | refine blk_alloc ?_ _)); refine blk_put (cs := #[.int .i64 5, .string (rdOf ByteArray.empty t170 x3_1), .int .i64 0, .slice none 0 0, .slice none 0 0, .slice none 0 0, .slice none 0 0]) ?_ 3 _ rfl; (with_reducible repeat (first | refine blk_drewN ?_ _ | refine blk_drew ?_ | refine blk_alloc ?_ _)); refine blk_put (cs := #[.int .i64 5, .string (rdOf ByteArray.empty t170 x3_1), .int .i64 0, .slice none 0 0, .slice none 0 0, .slice none 0 0, .slice none 0 0]) ?_ 2 _ rfl; (with_reducible repeat (first | refine blk_drewN ?_ _ | refine blk_drew ?_ | refine blk_alloc ?_ _)); refine blk_put (cs := #[.int .i64 5, .string (⟨#[]⟩ : ByteArray), .int .i64 0, .slice none 0 0, .slice none 0 0, .slice none 0 0, .slice none 0 0]) ?_ 1 _ rfl; (with_reducible repeat (first | refine blk_drewN ?_ _ | refine blk_drew ?_ | refine blk_alloc ?_ _)); refine blk_put (cs := #[.int .i64 0, .string (⟨#[]⟩ : ByteArray), .int .i64 0, .slice none 0 0, .slice none 0 0, .slice none 0 0, .slice none 0 0]) ?_ 0 _ rfl; (with_reducible repeat (first | refine blk_drewN ?_ _ | refine blk_drew ?_ | refine blk_alloc ?_ _)); exact BK180.out⟩
       have n6_ : Az (Below w.heap.size w (((((((w59.setCell ⟨gb180, 0, none⟩ (.int .i64 5)).setCell ⟨gb180, 1, none⟩ (.string (rdOf ByteArray.empty t170 x3_1))).setCell ⟨gb180, 2, none⟩ (.int .i64 0)).setCell ⟨gb180, 3, none⟩ (.slice Ao60 y177.length co60)).setCell ⟨gb180, 4, none⟩ (.slice none 0 0)).setCell ⟨gb180, 5, none⟩ (.slice none 0 0)).setCell ⟨gb180, 6, none⟩ (.slice none 0 0))) := ⟨by repeat (first | (with_reducible first | exact HB.out | apply bal | apply bdN | apply bdr | refine bS ?_ GE168.out | refine bS ?_ GE169.out | refine bS ?_ GE180.out) | exact HB.out)⟩
       (try clear HO_2)
       (try clear HO_170000)
       (try clear HO179)
       (try clear BK168)
       (try clear BK169)
       (try clear BK180)
       (try clear HB)
       generalize (((((((w59.setCell ⟨gb180, 0, none⟩ (.int .i64 5)).setCell ⟨gb180, 1, none⟩ (.string (rdOf ByteArray.empty t170 x3_1))).setCell ⟨gb180, 2, none⟩ (.int .i64 0)).setCell ⟨gb180, 3, none⟩ (.slice Ao60 y177.length co60)).setCell ⟨gb180, 4, none⟩ (.slice none 0 0)).setCell ⟨gb180, 5, none⟩ (.slice none 0 0)).setCell ⟨gb180, 6, none⟩ (.slice none 0 0)) = w68 at n0_ n1_ n2_ n3_ n4_ n5_ n6_ ⊢
       have HO_2 := n0_
       have HO_170000 := n1_
       have HO179 := n2_
       have BK168 := n3_
       have BK169 := n4_
       have BK180 := n5_
       have HB := n6_
       clear n0_ n1_ n2_ n3_ n4_ n5_ n6_
       have hnb69 := NB169_168.out
       have hnc69 := NB168_169.out
       have hnb70 := NB169_180.out
       have hnc70 := NB180_169.out
       have hcz71_0 : w68.cell? ⟨gb169, 0, none⟩ = some (u170000) := (bC BK169.out 0).trans rfl
       have hfz71_0 := bF BK169.out 0
       have hnb72 := NB180_168.out
       have hnc72 := NB168_180.out
       have hcz73_0 : w68.cell? ⟨gb180, 0, none⟩ = some (.int .i64 5) := (bC BK180.out 0).trans rfl
       have hcz73_1 : w68.cell? ⟨gb180, 1, none⟩ = some (.string (rdOf ByteArray.empty t170 x3_1)) := (bC BK180.out 1).trans rfl
       have hcz73_2 : w68.cell? ⟨gb180, 2, none⟩ = some (.int .i64 0) := (bC BK180.out 2).trans rfl
       have hcz73_3 : w68.cell? ⟨gb180, 3, none⟩ = some (.slice Ao60 y177.length co60) := (bC BK180.out 3).trans rfl
       have hcz73_4 : w68.cell? ⟨gb180, 4, none⟩ = some (.slice none 0 0) := (bC BK180.out 4).trans rfl
       have hcz73_5 : w68.cell? ⟨gb180, 5, none⟩ = some (.slice none 0 0) := (bC BK180.out 5).trans rfl
       have hcz73_6 : w68.cell? ⟨gb180, 6, none⟩ = some (.slice none 0 0) := (bC BK180.out 6).trans rfl
       have hfz73_0 := bF BK180.out 0
       have hfz73_1 := bF BK180.out 1
       have hfz73_2 := bF BK180.out 2
       have hfz73_3 := bF BK180.out 3
       have hfz73_4 := bF BK180.out 4
       have hfz73_5 := bF BK180.out 5
       have hfz73_6 := bF BK180.out 6
       try go_wp2_with (first | ((with_reducible refine gate_builtin (b := .append) (xs := #[.tmp 35, .tmp 37]) rfl ?_); at_builtin; refine Kd.S_append k79 (w0 := w) w.heap.size rfl (.tmp 35) (.tmp 37) 23 79 (.agg #[(.int .i64 0), (.string ⟨#[]⟩), (.int .i64 0), (.slice none 0 0), (.slice none 0 0), (.slice none 0 0), (.slice none 0 0)]) 128 rfl Try.underlying23 info79 rfl (by decide) (by omega) u170000 x170000_1 (⟨5, rdOf ByteArray.empty t170 x3_1, 0, y177, ([] : List (S31)), ([] : List ByteArray), ([] : List (S31))⟩ : S79) [.int .i64 5, .string (rdOf ByteArray.empty t170 x3_1), .int .i64 0, .slice Ao60 y177.length co60, .slice none 0 0, .slice none 0 0, .slice none 0 0] (fun k_ => some k_ ≠ (.slice (some ad173) t170.length co52 : Value).ownBlock ∧ k_ ≠ gb180) (fun k_ => some k_ = (.slice Ao60 y177.length co60 : Value).ownBlock) rfl rfl ?aP (fun k_ hk_ => ((Kd.R_mono (ok' := fun k_ => ((fun k_ => some k_ ≠ (.slice (some ad173) t170.length co52 : Value).ownBlock ∧ k_ ≠ gb180)) k_ ∧ some k_ ≠ (u170000 : Value).ownBlock) (Kd.R_types (Kd.R_apart' (Kd.R_apart' (HO179.out) (Kd.R_typed HO_2.out) (by decide)) (Kd.S_typed HO_170000.out) (by decide)) BK180.out (by decide)) (fun k_ hk => ⟨⟨hk.1.1.2, hk.2⟩, hk.1.2⟩))).1 k_ hk_.symm) ?aF ?aO ?aB ?aS ?aL ?_; (case aP => exact k79_mkM _ _ _ (⟨5, rdOf ByteArray.empty t170 x3_1, 0, y177, ([] : List (S31)), ([] : List ByteArray), ([] : List (S31))⟩ : S79) (Kd.R_mono (Kd.R_tight rfl (Kd.R_mono (ok' := fun k_ => ((fun k_ => some k_ ≠ (.slice (some ad173) t170.length co52 : Value).ownBlock ∧ k_ ≠ gb180)) k_ ∧ some k_ ≠ (u170000 : Value).ownBlock) (Kd.R_types (Kd.R_apart' (Kd.R_apart' (HO179.out) (Kd.R_typed HO_2.out) (by decide)) (Kd.S_typed HO_170000.out) (by decide)) BK180.out (by decide)) (fun k_ hk => ⟨⟨hk.1.1.2, hk.2⟩, hk.1.2⟩))) (fun _ h_ => h_)) (Kd.R_nil _ _ _ _ _) (Kd.R_nil _ _ _ _ _) (Kd.R_nil _ _ _ _ _)); (case aB => exact (by repeat (first | (with_reducible first | exact HB.out | apply bal | apply bdN | apply bdr | refine bS ?_ GE168.out | refine bS ?_ GE169.out | refine bS ?_ GE180.out) | exact HB.out))); (case aF => exact (fun k_ hk => ⟨Kd.fresh' (Kd.R_lt (by (with_reducible repeat (first | apply Kd.R_alloc | apply Kd.R_drewN | apply Kd.R_drew)); exact HO_2.out)) k_ hk, Kd.freshB (g := gb180) (o := .cells #[.int .i64 5, .string (rdOf ByteArray.empty t170 x3_1), .int .i64 0, .slice Ao60 y177.length co60, .slice none 0 0, .slice none 0 0, .slice none 0 0] 79 (0, 0)) (by (with_reducible repeat (first | refine blk_drewN ?_ _ | refine blk_drew ?_ | refine blk_alloc ?_ _)); exact BK180.out) k_ hk⟩)); (case aO => exact (by (with_reducible repeat (first | apply Kd.S_alloc | apply Kd.S_drewN | apply Kd.S_drew)); exact Kd.S_mono HO_170000.out (fun k_ hk => ⟨⟨hk.1, hk.2.2⟩, fun e_ => hk.2.1 e_⟩))); (case aS => exact (below_size (by repeat (first | (with_reducible first | exact HB.out | apply bal | apply bdN | apply bdr | refine bS ?_ GE168.out | refine bS ?_ GE169.out | refine bS ?_ GE180.out) | exact HB.out)))); (case aL => have := LMc51.out; omega); intro v197 w74 ho hb hg hat; rw [← Ny196.out] at ho; have n0_ := Az.mk (Kd.R_over' (by (with_reducible repeat (first | apply Kd.R_alloc | apply Kd.R_drewN | apply Kd.R_drew)); exact HO_2.out) (Kd.S_typed (by (with_reducible repeat (first | apply Kd.S_alloc | apply Kd.S_drewN | apply Kd.S_drew)); exact HO_170000.out)) (by decide) hg); have n1_ := Az.mk (blk_grown (g := gb168) (o := .cells #[.slice none 0 0] 25 (0, 0)) (by (with_reducible repeat (first | refine blk_drewN ?_ _ | refine blk_drew ?_ | refine blk_alloc ?_ _)); exact BK168.out) hg (Kd.S_ne HO_170000.out BK168.out (by decide))); have n2_ := Az.mk (blk_grown (g := gb169) (o := .cells #[u170000] 25 (0, 0)) (by (with_reducible repeat (first | refine blk_drewN ?_ _ | refine blk_drew ?_ | refine blk_alloc ?_ _)); exact BK169.out) hg (Kd.S_ne HO_170000.out BK169.out (by decide))); have n3_ := Az.mk (blk_grown (g := gb180) (o := .cells #[.int .i64 5, .string (rdOf ByteArray.empty t170 x3_1), .int .i64 0, .slice Ao60 y177.length co60, .slice none 0 0, .slice none 0 0, .slice none 0 0] 79 (0, 0)) (by (with_reducible repeat (first | refine blk_drewN ?_ _ | refine blk_drew ?_ | refine blk_alloc ?_ _)); exact BK180.out) hg (Kd.S_away HO_170000.out (fun _ hk => hk.2.2))); have n4_ := Az.mk (hb); have n5_ := Az.mk (ho); clear HO_2; clear BK168; clear BK169; clear BK180; clear HB; clear HO_170000; clear HO179; have HO_2 := n0_; have BK168 := n1_; have BK169 := n2_; have BK180 := n3_; have HB := n4_; have HO198 := n5_; clear n0_ n1_ n2_ n3_ n4_ n5_; clear ho hb hg hat; obtain ⟨Ao75, co75, eo75⟩ := Kd.S_slice HO198.out; subst eo75; have hcz76_0 : w74.cell? ⟨gb169, 0, none⟩ = some (u170000) := (bC BK169.out 0).trans rfl; have hfz76_0 := bF BK169.out 0))
       go_roundg k1
       case measure => have := HK1.out; omega
       case rel => exact ⟨(wrap64 (x3_1 + 1)), (y196), (.slice Ao75 y196.length co75), (by first | rfl | (simp; done) | (simp [*]; done)), H', ⟨by have := HK1.out; omega⟩, ⟨by (with_reducible repeat (first | apply Kd.R_alloc | apply Kd.R_drewN | apply Kd.R_drew)); exact Kd.R_mono (Kd.R_far (p := ⟨gb169, 0, none⟩) (Kd.R_types HO_2.out BK169.out (by decide)) (fun _ hk => hk.2) (.slice Ao75 y196.length co75)) (fun _ hk => trivial)⟩, ⟨by (with_reducible repeat (first | apply Kd.S_alloc | apply Kd.S_drewN | apply Kd.S_drew)); exact Kd.S_mono (Kd.S_far (p := ⟨gb169, 0, none⟩) (Kd.S_types HO198.out BK169.out (by decide)) (fun _ hk => hk.2) (.slice Ao75 y196.length co75)) (fun _ hk => hk.1.1)⟩, ⟨by (with_reducible repeat (first | refine blk_drewN ?_ _ | refine blk_drew ?_ | refine blk_alloc ?_ _)); refine blk_far ?_ NB168_169.out _; (with_reducible repeat (first | refine blk_drewN ?_ _ | refine blk_drew ?_ | refine blk_alloc ?_ _)); exact BK168.out⟩, ⟨by (with_reducible repeat (first | refine blk_drewN ?_ _ | refine blk_drew ?_ | refine blk_alloc ?_ _)); refine blk_put (cs := #[u170000]) ?_ 0 _ rfl; (with_reducible repeat (first | refine blk_drewN ?_ _ | refine blk_drew ?_ | refine blk_alloc ?_ _)); exact BK169.out⟩, ⟨by repeat (first | (with_reducible first | exact HB.out | apply bal | apply bdN | apply bdr | refine bS ?_ GE168.out | refine bS ?_ GE169.out | refine bS ?_ GE180.out) | exact HB.out)⟩⟩
      ·rw [if_neg c51] at H
       exact absurd H (by simp)
    ·rw [if_neg c8] at H
     exact absurd H (by simp)
   ·rw [if_neg c7] at H
    have c7b0 : decide (x3_1 < (t170.length : Int)) = false := decide_eq_false c7
    clear c7
    replace H := Option.bind_eq_some_iff.mp H
    obtain ⟨t199, A770, H⟩ := H
    replace H : (spec_newHeap.l1 k1 t199 0 x170000_1) = some r := H
    have A77 := Az.mk A770
    clear A770
    have H' := Az.mk H
    clear H
    obtain ⟨Ao78, co78, eo78⟩ := Kd.R_slice HO_2.out
    subst eo78
    go_wp2_with (first | ((with_reducible refine gate_callee (f := 90) rfl ?_); refine goesL_ (some 40) rfl rfl Try.func90 (by kernel_rfl) rfl #[] rfl (by (try simp only [List.map_toArray, List.map_cons, List.map_nil]); first | done | rfl | (simp only [List.length_drop, List.length_take]; rfl)) ?_; (with_reducible refine (spec_builtNames.calls  t199 _ A77.out).mono ?_); rintro e w79 ⟨v200, rfl, ho0, hb⟩; refine ⟨_, rfl, ?_⟩; have n0_ := Az.mk (Kd.R_elder' (by (with_reducible repeat (first | apply Kd.R_alloc | apply Kd.R_drewN | apply Kd.R_drew)); exact HO_2.out) (Kd.R_base ho0) hb); have n1_ := Az.mk (Kd.S_elder' (by (with_reducible repeat (first | apply Kd.S_alloc | apply Kd.S_drewN | apply Kd.S_drew)); exact HO_170000.out) (Kd.R_base ho0) hb); have n2_ := Az.mk (Kd.R_lower (Kd.R_new' ho0 (Kd.R_lt (by (with_reducible repeat (first | apply Kd.R_alloc | apply Kd.R_drewN | apply Kd.R_drew)); exact HO_2.out))) (below_size (by repeat (first | (with_reducible first | exact HB.out | apply bal | apply bdN | apply bdr | refine bS ?_ GE168.out | refine bS ?_ GE169.out) | exact HB.out)))); have n3_ := Az.mk (blk_below (g := gb168) (o := .cells #[.slice none 0 0] 25 (0, 0)) (by (with_reducible repeat (first | refine blk_drewN ?_ _ | refine blk_drew ?_ | refine blk_alloc ?_ _)); exact BK168.out) hb); have n4_ := Az.mk (blk_below (g := gb169) (o := .cells #[u170000] 25 (0, 0)) (by (with_reducible repeat (first | refine blk_drewN ?_ _ | refine blk_drew ?_ | refine blk_alloc ?_ _)); exact BK169.out) hb); have n5_ := Az.mk (below_step (by repeat (first | (with_reducible first | exact HB.out | apply bal | apply bdN | apply bdr | refine bS ?_ GE168.out | refine bS ?_ GE169.out) | exact HB.out)) hb); clear HO_2; clear HO_170000; clear BK168; clear BK169; clear HB; have HO_2 := n0_; have HO_170000 := n1_; have HO201 := n2_; have BK168 := n3_; have BK169 := n4_; have HB := n5_; clear n0_ n1_ n2_ n3_ n4_ n5_; (try clear hb); (try clear hb2); (try clear hk); (try clear hi); (try clear ho0)))
    go_loopg [6] k1 (fun kq v6 w' => ∃ (x6_2 : Int) (x170000_2 : List (S79)) (u170000 : Value), v6 = .int .i64 x6_2 ∧ Az (spec_newHeap.l1 kq t199 x6_2 x170000_2 = some r) ∧ Az (kq ≤ k1) ∧ Az (Kd.R Kd.string 9 w' w.heap.size (fun _ => True) v200 t199) ∧ Az (Kd.S k79 79 w' w.heap.size (fun k_ => some k_ ≠ (v200 : Value).ownBlock) u170000 x170000_2) ∧ Az (w'.heap[gb168]? = some (.cells #[(.slice none 0 0)] 25 (0, 0))) ∧ Az (w'.heap[gb169]? = some (.cells #[u170000] 25 (0, 0))) ∧ Az (Below w.heap.size w w'))
    case atStart => exact ⟨(0), (x170000_1), (u170000), (by first | rfl | (simp; done) | (simp [*]; done)), H', ⟨Nat.le_refl _⟩, ⟨by (with_reducible repeat (first | apply Kd.R_alloc | apply Kd.R_drewN | apply Kd.R_drew)); exact Kd.R_mono HO201.out (fun _ hk => trivial)⟩, ⟨by (with_reducible repeat (first | apply Kd.S_alloc | apply Kd.S_drewN | apply Kd.S_drew)); exact Kd.S_mono HO_170000.out (fun _ hk => hk.2)⟩, ⟨by (with_reducible repeat (first | refine blk_drewN ?_ _ | refine blk_drew ?_ | refine blk_alloc ?_ _)); exact BK168.out⟩, ⟨by (with_reducible repeat (first | refine blk_drewN ?_ _ | refine blk_drew ?_ | refine blk_alloc ?_ _)); exact BK169.out⟩, ⟨by repeat (first | (with_reducible first | exact HB.out | apply bal | apply bdN | apply bdr | refine bS ?_ GE168.out | refine bS ?_ GE169.out) | exact HB.out)⟩⟩
    case round =>
     clear H'
     try clear c1
     try clear p1
     try clear q1
     try clear hx1
     try clear p2
     try clear c3
     try clear c5
     try clear c6
     try clear p6
     try clear c7
     try clear c7b0
     try clear c8
     try clear c9
     try clear c10
     try clear c10b0
     try clear c13
     try clear c14
     try clear p17
     try clear q17
     try clear hx17
     try clear c51
     try clear p64
     try clear c69
     try clear c70
     try clear c72
     try clear hcz47_1
     try clear hcz47_2
     try clear hcz47_3
     try clear hcz47_4
     try clear hcz47_5
     try clear hcz47_6
     try clear hcz50_0
     try clear hcz71_0
     try clear hcz73_0
     try clear hcz73_1
     try clear hcz73_2
     try clear hcz73_3
     try clear hcz73_4
     try clear hcz73_5
     try clear hcz73_6
     try clear hcz76_0
     try clear hfz47_0
     try clear hfz47_1
     try clear hfz47_2
     try clear hfz47_3
     try clear hfz47_4
     try clear hfz47_5
     try clear hfz47_6
     try clear hfz50_0
     try clear hfz71_0
     try clear hfz73_0
     try clear hfz73_1
     try clear hfz73_2
     try clear hfz73_3
     try clear hfz73_4
     try clear hfz73_5
     try clear hfz73_6
     try clear hfz76_0
     try clear hx173_0
     try clear p173
     try clear q173
     obtain ⟨x6_2, x170000_2, u170000, rfl, HA, HK2, HO_5, HO_170000, BK168, BK169, HB⟩ := hrel
     cases gk with
     | zero => exact absurd HA.out (by simp [spec_newHeap.l1])
     | succ k2 =>
      have H := HA.out
      clear HA
      simp only [spec_newHeap.l1] at H
      by_cases c80 : x6_2 < (t199.length : Int)
      ·rw [if_pos c80] at H
       have c80b0 : decide (x6_2 < (t199.length : Int)) = true := decide_eq_true c80
       clear c80
       by_cases c81 : 0 ≤ x6_2
       ·rw [if_pos c81] at H
        have c81b0 : decide (0 ≤ x6_2) = true := decide_eq_true c81
        clear c81
        by_cases c82 : x170000_2.length < 1099511627776
        ·rw [if_pos c82] at H
         have LMc82 := Az.mk c82
         clear c82
         obtain ⟨y203, hy203⟩ : ∃ y_ : List (S79), y_ = (x170000_2 ++ [(⟨10, rdOf ByteArray.empty t199 x6_2, 0, ([] : List (S31)), ([] : List (S31)), ([] : List ByteArray), ([] : List (S31))⟩ : S79)]) := ⟨_, rfl⟩
         replace H : (spec_newHeap.l1 k2 t199 (wrap64 (x6_2 + 1)) y203) = some r := by first | (rw [hy203]; with_reducible exact H) | (have H2_ := (Option.bind_some _ _).symm.trans H; rw [hy203]; with_reducible exact H2_) | (have H2_ := (Option.bind_some _ _).symm.trans H; with_reducible exact H2_) | with_reducible exact H | (rw [hy203]; exact H) | exact H
         have Ny203 := Az.mk hy203
         clear hy203
         have H' := Az.mk H
         clear H
         obtain ⟨Ao83, co83, eo83⟩ := Kd.R_slice HO_5.out
         subst eo83
         try go_wp2
         have n0_ := Az.mk (Kd.R_drew HO_5.out)
         have n1_ := Az.mk (Kd.S_drew HO_170000.out)
         have n2_ := Az.mk (blk_drew BK168.out)
         have n3_ := Az.mk (blk_drew BK169.out)
         have n4_ := Az.mk (bdr HB.out)
         clear HO_5
         clear HO_170000
         clear BK168
         clear BK169
         clear HB
         have HO_5 := n0_
         have HO_170000 := n1_
         have BK168 := n2_
         have BK169 := n3_
         have HB := n4_
         clear n0_ n1_ n2_ n3_ n4_
         have p202 : 0 ≤ (x6_2 : Int) := of_decide_eq_true (by first | (with_reducible assumption) | assumption)
         have q202 : x6_2 < (t199.length : Int) := of_decide_eq_true (by first | (with_reducible assumption) | assumption)
         obtain ⟨ad202, e202, hx202_0⟩ := Kd.at_string (Kd.R_reads' HO_5.out).2.2 x6_2 p202 q202
         cases e202
         replace p202 := eq_true p202
         replace q202 := eq_true q202
         refine start_ (n := 11) (S := fun w' => w'.cell? ⟨gb169, 0, none⟩ = some (u170000) ∧ w'.cell? (ad202.add (x6_2).toNat) = some (.string (rdOf ByteArray.empty t199 x6_2))) (ds := [8, 10]) #[false, false, false, false, false, false, false, false, false, false, false] (by kernel_rfl) rfl rfl ⟨(bC BK169.out 0).trans rfl, hx202_0⟩ (fun hHeld => ?_); refine with_tabW spec_newHeap.tab15 spec_newHeap.bits15 (fun HT_ HW_ => ?_)
         generalize wr.drew = w84 at HO_5 HO_170000 BK168 BK169 HB hx202_0 hHeld ⊢
         refine pure_ (i := 0) (N := some 47) (v := ?_) (a' := ?_) #[true, false, false, false, false, false, false, false, false, false, false] rfl rfl (any_of HT_.out (by kernel_rfl)) (fun _ _ _ h => h) (Or.inl ⟨by rfl, ?_⟩) ?_ ?_
         rotate_left
         ·intro w'
          go_simp
          with_reducible rfl
         rotate_left
         ·simp only [Act.put, List.setIfInBounds_toArray, List.set_cons_zero, List.set_cons_succ, i64_w, i32_w]
          rfl
         refine pure_ (i := 2) (N := some 49) (v := ?_) (a' := ?_) #[true, false, true, false, false, false, false, false, false, false, false] rfl rfl (any_of HT_.out (by kernel_rfl)) (fun _ _ _ h => h) (Or.inl ⟨by rfl, ?_⟩) ?_ ?_
         rotate_left
         ·intro w'
          go_simp
          with_reducible rfl
         rotate_left
         ·simp only [Act.put, List.setIfInBounds_toArray, List.set_cons_zero, List.set_cons_succ, i64_w, i32_w]
          rfl
         refine pure_ (i := 3) (N := some 50) (v := ?_) (a' := ?_) #[true, false, true, true, false, false, false, false, false, false, false] rfl rfl (any_of HT_.out (by kernel_rfl)) (fun _ _ _ h => h) (Or.inl ⟨by rfl, ?_⟩) ?_ ?_
         rotate_left
         ·intro w'
          go_simp
          with_reducible rfl
         rotate_left
         ·simp only [Act.put, List.setIfInBounds_toArray, List.set_cons_zero, List.set_cons_succ, i64_w, i32_w]
          rfl
         refine pure_ (i := 4) (N := some 51) (v := ?_) (a' := ?_) #[true, false, true, true, true, false, false, false, false, false, false] rfl rfl (any_of HT_.out (by kernel_rfl)) (fun _ _ _ h => h) (Or.inl ⟨by rfl, ?_⟩) ?_ ?_
         rotate_left
         ·intro w'
          go_simp
          with_reducible rfl
         rotate_left
         ·simp only [Act.put, List.setIfInBounds_toArray, List.set_cons_zero, List.set_cons_succ, i64_w, i32_w]
          rfl
         refine take_ (i := 1) (N := some 48) (v := ?_) (a' := ?_) #[true, true, true, true, true, false, false, false, false, false, false] rfl rfl (take_ofW HT_.out HW_.out (by kernel_rfl)) (fun _ _ _ h => h) (Or.inl ⟨by rfl, ?_⟩) hHeld ?_ ?_
         rotate_left
         ·rintro w' ⟨s0, s1⟩
          go_simp
          with_reducible rfl
         rotate_left
         ·simp only [Act.put, List.setIfInBounds_toArray, List.set_cons_zero, List.set_cons_succ, i64_w, i32_w]
          rfl
         refine take_ (i := 5) (N := some 52) (v := ?_) (a' := ?_) #[true, true, true, true, true, true, false, false, false, false, false] rfl rfl (take_ofW HT_.out HW_.out (by kernel_rfl)) (fun _ _ _ h => h) (Or.inl ⟨by rfl, ?_⟩) hHeld ?_ ?_
         rotate_left
         ·rintro w' ⟨s0, s1⟩
          go_simp
          with_reducible rfl
         rotate_left
         ·simp only [Act.put, List.setIfInBounds_toArray, List.set_cons_zero, List.set_cons_succ, i64_w, i32_w]
          rfl
         refine pure_ (i := 6) (N := some 53) (v := ?_) (a' := ?_) #[true, true, true, true, true, true, true, false, false, false, false] rfl rfl (any_of HT_.out (by kernel_rfl)) (fun _ _ _ h => h) (Or.inl ⟨by rfl, ?_⟩) ?_ ?_
         rotate_left
         ·intro w'
          go_simp
          with_reducible rfl
         rotate_left
         ·simp only [Act.put, List.setIfInBounds_toArray, List.set_cons_zero, List.set_cons_succ, i64_w, i32_w]
          rfl
         refine one_ (i := 7) (N := some 54) #[true, true, true, true, true, true, true, true, false, false, false] rfl rfl (one_of HT_.out (by kernel_rfl)) (by decide) (fun K hK => ?_)
         refine value_ (w1 := ?_) (v := ?_) (by rfl) rfl ?_ ?_
         rotate_left 2
         ·go_simp
          constructor
          ·rfl
          ·rfl
         refine hK.out _ _ ⟨(bC (blk_alloc BK169.out _) 0).trans rfl, (World.cell?_alloc_lt _ _ _ (World.block_lt_of_cell? _ _ (hHeld.2))).trans (hHeld.2)⟩ (fun hHeld => ?_)
         clear hK K
         refine norm_ (a' := ?_) ?_ ?_
         rotate_left
         ·show Act.put _ (some 54) _ = _
          simp only [Act.put, List.setIfInBounds_toArray, List.set_cons_zero, List.set_cons_succ, i64_w, i32_w]
          rfl
         refine last_ (i := 8) (N := some 55) #[true, true, true, true, true, true, true, true, true, false, false] rfl rfl (one_of HT_.out (by kernel_rfl)) (by decide) (fun K hK => ?_)
         refine Kd.S_append_step k79 (w0 := w) w.heap.size (by rfl) (.tmp 48) (.tmp 54) 23 79 (.agg #[(.int .i64 0), (.string ⟨#[]⟩), (.int .i64 0), (.slice none 0 0), (.slice none 0 0), (.slice none 0 0), (.slice none 0 0)]) 128 rfl Try.underlying23 info79 rfl (by decide) (by omega) u170000 x170000_2 (⟨10, rdOf ByteArray.empty t199 x6_2, 0, ([] : List (S31)), ([] : List (S31)), ([] : List ByteArray), ([] : List (S31))⟩ : S79) [.int .i64 10, .string (rdOf ByteArray.empty t199 x6_2), .int .i64 0, .slice none 0 0, .slice none 0 0, .slice none 0 0, .slice none 0 0] (fun k_ => some k_ ≠ (.slice (some ad202) t199.length co83 : Value).ownBlock) (fun _ => False) rfl rfl ?aP (fun k_ hk_ => hk_.elim) ?aF ?aO ?aB ?aS ?aL ?_
         (case aP => exact k79_mkM _ _ _ (⟨10, rdOf ByteArray.empty t199 x6_2, 0, ([] : List (S31)), ([] : List (S31)), ([] : List ByteArray), ([] : List (S31))⟩ : S79) (Kd.R_nil _ _ _ _ _) (Kd.R_nil _ _ _ _ _) (Kd.R_nil _ _ _ _ _) (Kd.R_nil _ _ _ _ _))
         (case aB => exact (by repeat (first | (with_reducible first | exact HB.out | apply bal | apply bdN | apply bdr | refine bS ?_ GE168.out | refine bS ?_ GE169.out) | exact HB.out)))
         (case aF => exact (fun k_ hk => Kd.fresh' (Kd.R_lt (by (with_reducible repeat (first | apply Kd.R_alloc | apply Kd.R_drewN | apply Kd.R_drew)); exact HO_5.out)) k_ hk))
         (case aO => exact (by (with_reducible repeat (first | apply Kd.S_alloc | apply Kd.S_drewN | apply Kd.S_drew)); exact Kd.S_mono HO_170000.out (fun k_ hk => ⟨hk, fun e_ => e_⟩)))
         (case aS => exact (below_size (by repeat (first | (with_reducible first | exact HB.out | apply bal | apply bdN | apply bdr | refine bS ?_ GE168.out | refine bS ?_ GE169.out) | exact HB.out))))
         (case aL => have := LMc82.out; omega)
         intro v204 w85 ho hb hg hat
         rw [← Ny203.out] at ho
         have n0_ := Az.mk (Kd.R_over' (by (with_reducible repeat (first | apply Kd.R_alloc | apply Kd.R_drewN | apply Kd.R_drew)); exact HO_5.out) (Kd.S_typed (by (with_reducible repeat (first | apply Kd.S_alloc | apply Kd.S_drewN | apply Kd.S_drew)); exact HO_170000.out)) (by decide) hg)
         have n1_ := Az.mk (blk_grown (g := gb168) (o := .cells #[.slice none 0 0] 25 (0, 0)) (by (with_reducible repeat (first | refine blk_drewN ?_ _ | refine blk_drew ?_ | refine blk_alloc ?_ _)); exact BK168.out) hg (Kd.S_ne HO_170000.out BK168.out (by decide)))
         have n2_ := Az.mk (blk_grown (g := gb169) (o := .cells #[u170000] 25 (0, 0)) (by (with_reducible repeat (first | refine blk_drewN ?_ _ | refine blk_drew ?_ | refine blk_alloc ?_ _)); exact BK169.out) hg (Kd.S_ne HO_170000.out BK169.out (by decide)))
         have n3_ := Az.mk (hb)
         have n4_ := Az.mk (ho)
         clear HO_5
         clear BK168
         clear BK169
         clear HB
         clear HO_170000
         have HO_5 := n0_
         have BK168 := n1_
         have BK169 := n2_
         have HB := n3_
         have HO205 := n4_
         clear n0_ n1_ n2_ n3_ n4_
         clear ho hb hg hat
         obtain ⟨Ao86, co86, eo86⟩ := Kd.S_slice HO205.out
         (first | subst eo86 | (injection eo86 with f1_ f2_ f3_; have f4_ := f1_.symm; have f5_ := f3_.symm; clear f1_ f2_ f3_; subst f4_; subst f5_))
         refine hK.out _ _ ?_
         clear hK K
         refine norm_ (a' := ?_) ?_ ?_
         rotate_left
         ·show Act.put _ (some 55) _ = _
          simp only [Act.put, List.setIfInBounds_toArray, List.set_cons_zero, List.set_cons_succ, i64_w, i32_w]
          rfl
         refine pure_ (i := 9) (N := some 56) (v := ?_) (a' := ?_) #[true, true, true, true, true, true, true, true, true, true, false] rfl rfl (any_of HT_.out (by kernel_rfl)) (fun _ _ _ h => h) (Or.inl ⟨by rfl, ?_⟩) ?_ ?_
         rotate_left
         ·intro w'
          go_simp
          with_reducible rfl
         rotate_left
         ·simp only [Act.put, List.setIfInBounds_toArray, List.set_cons_zero, List.set_cons_succ, i64_w, i32_w]
          rfl
         refine last_ (i := 10) (N := none) #[true, true, true, true, true, true, true, true, true, true, true] rfl rfl (one_of HT_.out (by kernel_rfl)) (by decide) (fun K hK => ?_)
         have hs87 : w85.cell? ⟨gb169, 0, none⟩ = some (u170000) := (bC BK169.out 0).trans rfl
         have hfs87 := bF BK169.out 0
         have hns87_0 := NB168_169.out
         have hms87_0 := NB169_168.out
         refine skip_ (w1 := ?_) (by rfl) rfl ?_ ?_
         rotate_left
         ·go_simp
          rfl
         refine hK.out _ _ ?_
         clear hK K
         refine done_ (done_of HT_.out (by kernel_rfl)) ?_
         try go_wp2
         go_roundg k2
         case measure => have := HK1.out; have := HK2.out; omega
         case rel => exact ⟨(wrap64 (x6_2 + 1)), (y203), (.slice Ao86 y203.length co86), (by first | rfl | (simp; done) | (simp [*]; done)), H', ⟨by have := HK1.out; have := HK2.out; omega⟩, ⟨by (with_reducible repeat (first | apply Kd.R_alloc | apply Kd.R_drewN | apply Kd.R_drew)); exact Kd.R_mono (Kd.R_far (p := ⟨gb169, 0, none⟩) (Kd.R_types HO_5.out BK169.out (by decide)) (fun _ hk => hk.2) (.slice Ao86 y203.length co86)) (fun _ hk => trivial)⟩, ⟨by (with_reducible repeat (first | apply Kd.S_alloc | apply Kd.S_drewN | apply Kd.S_drew)); exact Kd.S_mono (Kd.S_far (p := ⟨gb169, 0, none⟩) (Kd.S_types HO205.out BK169.out (by decide)) (fun _ hk => hk.2) (.slice Ao86 y203.length co86)) (fun _ hk => hk.1)⟩, ⟨by (with_reducible repeat (first | refine blk_drewN ?_ _ | refine blk_drew ?_ | refine blk_alloc ?_ _)); refine blk_far ?_ NB168_169.out _; (with_reducible repeat (first | refine blk_drewN ?_ _ | refine blk_drew ?_ | refine blk_alloc ?_ _)); exact BK168.out⟩, ⟨by (with_reducible repeat (first | refine blk_drewN ?_ _ | refine blk_drew ?_ | refine blk_alloc ?_ _)); refine blk_put (cs := #[u170000]) ?_ 0 _ rfl; (with_reducible repeat (first | refine blk_drewN ?_ _ | refine blk_drew ?_ | refine blk_alloc ?_ _)); exact BK169.out⟩, ⟨by repeat (first | (with_reducible first | exact HB.out | apply bal | apply bdN | apply bdr | refine bS ?_ GE168.out | refine bS ?_ GE169.out) | exact HB.out)⟩⟩
        ·rw [if_neg c82] at H
         exact absurd H (by simp)
       ·rw [if_neg c81] at H
        exact absurd H (by simp)
      ·rw [if_neg c80] at H
       have c80b0 : decide (x6_2 < (t199.length : Int)) = false := decide_eq_false c80
       clear c80
       obtain rfl := Option.some.inj H
       obtain ⟨Ao88, co88, eo88⟩ := Kd.R_slice HO_5.out
       subst eo88
       have hnb89 := NB169_168.out
       have hnc89 := NB168_169.out
       have hcz90_0 : wr.cell? ⟨gb169, 0, none⟩ = some (u170000) := (bC BK169.out 0).trans rfl
       have hfz90_0 := bF BK169.out 0
       obtain ⟨Ao91, co91, eo91⟩ := Kd.S_slice HO_170000.out
       subst eo91
       have hcz92_0 : wr.cell? ⟨gb168, 0, none⟩ = some (.slice none 0 0) := (bC BK168.out 0).trans rfl
       have hfz92_0 := bF BK168.out 0
       go_wp2
       refine bodyPost_ret (results_cell_row rfl _ _ gb168 25 #[.slice Ao91 x170000_2.length co91] (0, 0) _ rfl (by (with_reducible repeat (first | refine blk_drewN ?_ _ | refine blk_drew ?_ | refine blk_alloc ?_ _)); refine blk_put (cs := #[.slice none 0 0]) ?_ 0 _ rfl; (with_reducible repeat (first | refine blk_drewN ?_ _ | refine blk_drew ?_ | refine blk_alloc ?_ _)); exact BK168.out) Try.underlying25 rfl (by kernel_rfl)) rfl ?_
       exact ⟨_, by first | rfl | (simp [errW_none, errW_some] <;> rfl) | (simp [*, errW_none, errW_some] <;> rfl), by (with_reducible repeat (first | apply Kd.S_alloc | apply Kd.S_drewN | apply Kd.S_drew)); exact Kd.S_mono (Kd.S_far (p := ⟨gb168, 0, none⟩) (Kd.S_types HO_170000.out BK168.out (by decide)) (fun _ hk => hk.2) (.slice Ao91 x170000_2.length co91)) (fun _ hk => trivial), by repeat (first | (with_reducible first | exact HB.out | apply bal | apply bdN | apply bdr | refine bS ?_ GE168.out | refine bS ?_ GE169.out) | exact HB.out)⟩
end Go.Proofs.Ytehhhlhedmfdiaa.PFnHeapNewShows
end
section
namespace Go.Proofs.Ytehhhlhedmfdiaa.PFnHeapNewShows
open Go.RowKit Go.Proofs.Yz0.PrintWords Go.Proofs.Yz0.PrintLast Go.Proofs.Yz0.PrintMore
set_option linter.unusedVariables false
def impl_IntOk.f (k : Nat) (a0 : ByteArray) : Option (Bool) := none
theorem impl_IntOk.calls (k : Nat) (a0 : ByteArray) (r : Bool) (w : World) (h : impl_IntOk.f k a0 = some r) :
  Calls Try.prog 96 #[.string a0] w fun e w' => e = .returned (.bool r) ∧ Below w.heap.size w w' := by
 unfold impl_IntOk.f at h
 exact absurd h (by simp)
end Go.Proofs.Ytehhhlhedmfdiaa.PFnHeapNewShows
end
section
namespace Go.Proofs.Ytehhhlhedmfdiaa.PFnHeapNewShows
open Go.RowKit Go.Proofs.Yz0.PrintWords Go.Proofs.Yz0.PrintLast Go.Proofs.Yz0.PrintMore
attribute [local go_sem] max2_int min2_int max_two min_two max_three min_three max_four min_four
set_option linter.unusedVariables false
set_option linter.unusedSimpArgs false
attribute [local go_sem high] eqA31
def spec_HeapNew.f (k : Nat)  : Option ((List (S79))) := (spec_newHeap.f k).bind fun t207 => (some t207)
theorem spec_HeapNew.calls (k : Nat)  (r : List (S79)) (w : World) (h : spec_HeapNew.f k  = some r) :
  Calls Try.prog 11 #[] w fun e w' => ∃ v0_ : Value, e = .returned (.agg #[v0_]) ∧ Kd.S k79 79 w' w.heap.size (fun _ => True) v0_ r ∧ Below w.heap.size w w' := by
 have hu25 := Try.underlying25
 have HB := Az.mk (Below.refl w.heap.size w)
 have H : ((spec_newHeap.f k).bind fun t207 => (some t207)) = some r := h
 clear h
 replace H := Option.bind_eq_some_iff.mp H
 obtain ⟨t207, A10, H⟩ := H
 replace H : (some t207) = some r := H
 have A1 := Az.mk A10
 clear A10
 obtain rfl := Option.some.inj H
 go_enter Try.func11, Try.ntmps11
 go_wp2_with (first | ((with_reducible refine gate_dst (N := 0) rfl ?_); refine box_event ?hg (N := 0) ?hd (cs := #[.slice none 0 0]) (t := 25) ?hr ?_; (case hd => rfl); (case hg => rfl); (case hr => first | (go_simp; done) | (go_simp; rfl)); intro gb206 hg w2 hbox hb; have n0_ := Az.mk (below_step (by repeat (first | (with_reducible first | exact HB.out | apply bal | apply bdN | apply bdr) | exact HB.out)) hb); have n1_ := Az.mk (hbox); have n2_ := Az.mk ((by rw [hg]; exact (below_size (by repeat (first | (with_reducible first | exact HB.out | apply bal | apply bdN | apply bdr) | exact HB.out))) : w.heap.size ≤ gb206)); have n3_ := Az.mk ((by rw [hg]; exact (below_size (by repeat (first | (with_reducible first | exact HB.out | apply bal | apply bdN | apply bdr) | exact HB.out))) : w.heap.size ≤ gb206)); clear HB; have HB := n0_; have BK206 := n1_; have GW206 := n2_; have GE206 := n3_; clear n0_ n1_ n2_ n3_; clear hb hbox hg) | ((with_reducible refine gate_callee (f := 48) rfl ?_); refine goesL_ (some 1) rfl rfl Try.func48 (by kernel_rfl) rfl #[] rfl (by (try simp only [List.map_toArray, List.map_cons, List.map_nil]); first | done | rfl | (simp only [List.length_drop, List.length_take]; rfl)) ?_; (with_reducible refine (spec_newHeap.calls k  t207 _ A1.out).mono ?_); rintro e w3 ⟨v208, rfl, ho0, hb⟩; refine ⟨_, rfl, ?_⟩; have n0_ := Az.mk (Kd.S_lower ho0 (below_size (by repeat (first | (with_reducible first | exact HB.out | apply bal | apply bdN | apply bdr | refine bS ?_ GE206.out) | exact HB.out)))); have n1_ := Az.mk (blk_below (g := gb206) (o := .cells #[.slice none 0 0] 25 (0, 0)) (by (with_reducible repeat (first | refine blk_drewN ?_ _ | refine blk_drew ?_ | refine blk_alloc ?_ _)); exact BK206.out) hb); have n2_ := Az.mk (below_step (by repeat (first | (with_reducible first | exact HB.out | apply bal | apply bdN | apply bdr | refine bS ?_ GE206.out) | exact HB.out)) hb); clear BK206; clear HB; have HO209 := n0_; have BK206 := n1_; have HB := n2_; clear n0_ n1_ n2_; (try clear hb); (try clear hb2); (try clear hk); (try clear hi); (try clear ho0); obtain ⟨Ao4, co4, eo4⟩ := Kd.S_slice HO209.out; subst eo4; have hcz5_0 : w3.cell? ⟨gb206, 0, none⟩ = some (.slice none 0 0) := (bC BK206.out 0).trans rfl; have hfz5_0 := bF BK206.out 0))
 refine bodyPost_ret (results_cell_row rfl _ _ gb206 25 #[.slice Ao4 t207.length co4] (0, 0) _ rfl (by (with_reducible repeat (first | refine blk_drewN ?_ _ | refine blk_drew ?_ | refine blk_alloc ?_ _)); refine blk_put (cs := #[.slice none 0 0]) ?_ 0 _ rfl; (with_reducible repeat (first | refine blk_drewN ?_ _ | refine blk_drew ?_ | refine blk_alloc ?_ _)); exact BK206.out) Try.underlying25 rfl (by kernel_rfl)) rfl ?_
 exact ⟨_, by first | rfl | (simp [errW_none, errW_some] <;> rfl) | (simp [*, errW_none, errW_some] <;> rfl), by (with_reducible repeat (first | apply Kd.S_alloc | apply Kd.S_drewN | apply Kd.S_drew)); exact Kd.S_mono (Kd.S_far (p := ⟨gb206, 0, none⟩) (Kd.S_types HO209.out BK206.out (by decide)) (fun _ hk => hk.2) (.slice Ao4 t207.length co4)) (fun _ hk => trivial), by repeat (first | (with_reducible first | exact HB.out | apply bal | apply bdN | apply bdr | refine bS ?_ GE206.out) | exact HB.out)⟩
def impl_within.f (a0 : Int) (a1 : Int) (a2 : Int) : Option (Bool) := if a0 ≥ a1 then (some (decide (a0 ≤ a2))) else (some false)
theorem impl_within.calls (a0 : Int) (a1 : Int) (a2 : Int) (r : Bool) (w : World) (h : impl_within.f a0 a1 a2 = some r) :
  Calls Try.prog 91 #[.int .i64 a0, .int .i64 a1, .int .i64 a2] w fun e w' => e = .returned (.bool r) ∧ Drawn0 w w' := by
 have H : (if a0 ≥ a1 then (some (decide (a0 ≤ a2))) else (some false)) = some r := h
 clear h
 by_cases c4 : a0 ≥ a1
 ·rw [if_pos c4] at H
  have c4b0 : decide (a1 ≤ a0) = true := decide_eq_true c4
  clear c4
  obtain rfl := Option.some.inj H
  go_enter Try.func91, Try.ntmps91
  go_wp2
  go_ret
  exact ⟨by first | rfl | (simp; done) | (simp [*]; done), by repeat (first | exact Drawn0.refl _ | apply Drawn0.step)⟩
 ·rw [if_neg c4] at H
  have c4b0 : decide (a1 ≤ a0) = false := decide_eq_false c4
  clear c4
  obtain rfl := Option.some.inj H
  go_enter Try.func91, Try.ntmps91
  go_wp2
  go_ret
  exact ⟨by first | rfl | (simp; done) | (simp [*]; done), by repeat (first | exact Drawn0.refl _ | apply Drawn0.step)⟩
def impl_Heap_valueOk.f (k : Nat) (l0_0 : List (S79)) (a1_0 : Int) (a1_1 : ByteArray) (a1_2 : Int) : Option (Bool) := if a1_0 = 0 then (some (a1_0 == 0 && (a1_1.toList == ([] : List UInt8) && (a1_2 == 0)))) else (if a1_0 = 1 then (if a1_1.toList = ([] : List UInt8) then ((impl_within.f a1_2 0 1).bind fun t221 => (some t221)) else (some false)) else (if a1_0 = 2 then ((impl_IntOk.f k a1_1).bind fun t222 => (if t222 = true then (some (a1_2 == 0)) else (some false))) else (if a1_0 = 3 then (if (a1_1.size : Int) ≤ 400 then (some (a1_2 == 0)) else (some false)) else (if a1_0 = 4 then (if a1_1.toList = ([] : List UInt8) then ((impl_within.f a1_2 0 (wrap64 ((l0_0.length : Int) - 1))).bind fun t223 => (some t223)) else (some false)) else (some false)))))
theorem impl_Heap_valueOk.calls (k : Nat) (A0_0 : Option Addr) (c0_0 : Nat) (l0_0 : List (S79)) (a1_0 : Int) (a1_1 : ByteArray) (a1_2 : Int) (r : Bool) (w : World) (hr0_0 : Kd.C k79 w A0_0 l0_0.length l0_0) (hc0_0 : l0_0.length ≤ c0_0) (h : impl_Heap_valueOk.f k l0_0 a1_0 a1_1 a1_2 = some r) :
  Calls Try.prog 50 #[.agg #[.slice A0_0 l0_0.length c0_0], .agg #[.int .i64 a1_0, .string a1_1, .int .i64 a1_2]] w fun e w' => e = .returned (.bool r) ∧ Below w.heap.size w w' := by
 have hu25 := Try.underlying25
 have hu31 := Try.underlying31
 have HR0_0 := Az.mk hr0_0
 have HC0_0 := Az.mk hc0_0
 clear hr0_0 hc0_0
 have HB := Az.mk (Below.refl w.heap.size w)
 have H : (if a1_0 = 0 then (some (a1_0 == 0 && (a1_1.toList == ([] : List UInt8) && (a1_2 == 0)))) else (if a1_0 = 1 then (if a1_1.toList = ([] : List UInt8) then ((impl_within.f a1_2 0 1).bind fun t221 => (some t221)) else (some false)) else (if a1_0 = 2 then ((impl_IntOk.f k a1_1).bind fun t222 => (if t222 = true then (some (a1_2 == 0)) else (some false))) else (if a1_0 = 3 then (if (a1_1.size : Int) ≤ 400 then (some (a1_2 == 0)) else (some false)) else (if a1_0 = 4 then (if a1_1.toList = ([] : List UInt8) then ((impl_within.f a1_2 0 (wrap64 ((l0_0.length : Int) - 1))).bind fun t223 => (some t223)) else (some false)) else (some false)))))) = some r := h
 clear h
 by_cases c3 : a1_0 = 0
 ·rw [if_pos c3] at H
  have c3b0 : (a1_0 == 0) = true := beq_iff_eq.mpr c3
  have c3b1 : (a1_0 != 0) = false := bne_eq_false_iff_eq.mpr c3
  clear c3
  obtain rfl := Option.some.inj H
  go_enter Try.func50, Try.ntmps50
  go_wp2_with (first | ((with_reducible refine gate_dst (N := 2) rfl ?_); (try (refine gate_guard (by rfl) ?_; dsimp only)); refine box_event ?hg (N := 2) ?hd (cs := #[.slice A0_0 l0_0.length c0_0]) (t := 25) ?hr ?_; (case hd => rfl); (case hg => rfl); (case hr => first | (go_simp; done) | (go_simp; rfl)); intro gb219 hg w4 hbox hb; have n0_ := Az.mk (below_step (by repeat (first | (with_reducible first | exact HB.out | apply bal | apply bdN | apply bdr) | exact HB.out)) hb); have n1_ := Az.mk (hbox); have n2_ := Az.mk ((by rw [hg]; exact (below_size (by repeat (first | (with_reducible first | exact HB.out | apply bal | apply bdN | apply bdr) | exact HB.out))) : w.heap.size ≤ gb219)); have n3_ := Az.mk ((by rw [hg]; exact (below_size (by repeat (first | (with_reducible first | exact HB.out | apply bal | apply bdN | apply bdr) | exact HB.out))) : w.heap.size ≤ gb219)); clear HB; have HB := n0_; have BK219 := n1_; have GW219 := n2_; have GE219 := n3_; clear n0_ n1_ n2_ n3_; clear hb hbox hg) | ((with_reducible refine gate_dst (N := 3) rfl ?_); (try (refine gate_guard (by rfl) ?_; dsimp only)); refine box_event ?hg (N := 3) ?hd (cs := #[.int .i64 a1_0, .string a1_1, .int .i64 a1_2]) (t := 31) ?hr ?_; (case hd => rfl); (case hg => rfl); (case hr => first | (go_simp; done) | (go_simp; rfl)); intro gb220 hg w5 hbox hb; have n0_ := Az.mk (blk_below (g := gb219) (o := .cells #[.slice A0_0 l0_0.length c0_0] 25 (0, 0)) (by (with_reducible repeat (first | refine blk_drewN ?_ _ | refine blk_drew ?_ | refine blk_alloc ?_ _)); exact BK219.out) hb); have n1_ := Az.mk (below_step (by repeat (first | (with_reducible first | exact HB.out | apply bal | apply bdN | apply bdr | refine bS ?_ GE219.out) | exact HB.out)) hb); have n2_ := Az.mk (hbox); have n3_ := Az.mk ((by rw [hg]; exact (below_size (by repeat (first | (with_reducible first | exact HB.out | apply bal | apply bdN | apply bdr | refine bS ?_ GE219.out) | exact HB.out))) : w.heap.size ≤ gb220)); have n4_ := Az.mk ((by rw [hg]; exact (below_size (by repeat (first | (with_reducible first | exact HB.out | apply bal | apply bdN | apply bdr | refine bS ?_ GE219.out) | exact HB.out))) : w.heap.size ≤ gb220)); have n5_ := Az.mk ((by rw [hg]; exact Nat.ne_of_lt (blk_lt (g := gb219) (o := .cells #[.slice A0_0 l0_0.length c0_0] 25 (0, 0)) (by (with_reducible repeat (first | refine blk_drewN ?_ _ | refine blk_drew ?_ | refine blk_alloc ?_ _)); exact BK219.out)) : gb219 ≠ gb220)); have n6_ := Az.mk ((by rw [hg]; exact Nat.ne_of_gt (blk_lt (g := gb219) (o := .cells #[.slice A0_0 l0_0.length c0_0] 25 (0, 0)) (by (with_reducible repeat (first | refine blk_drewN ?_ _ | refine blk_drew ?_ | refine blk_alloc ?_ _)); exact BK219.out)) : gb220 ≠ gb219)); clear BK219; clear HB; have BK219 := n0_; have HB := n1_; have BK220 := n2_; have GW220 := n3_; have GE220 := n4_; have NB219_220 := n5_; have NB220_219 := n6_; clear n0_ n1_ n2_ n3_ n4_ n5_ n6_; clear hb hbox hg; have hnb6 := NB220_219.out; have hnc6 := NB219_220.out; have hcz7_0 : w5.cell? ⟨gb220, 0, none⟩ = some (.int .i64 a1_0) := (bC BK220.out 0).trans rfl; have hcz7_1 : w5.cell? ⟨gb220, 1, none⟩ = some (.string a1_1) := (bC BK220.out 1).trans rfl; have hcz7_2 : w5.cell? ⟨gb220, 2, none⟩ = some (.int .i64 a1_2) := (bC BK220.out 2).trans rfl; have hfz7_0 := bF BK220.out 0; have hfz7_1 := bF BK220.out 1; have hfz7_2 := bF BK220.out 2))
  go_ret
  exact ⟨by first | rfl | (simp [errW_none, errW_some] <;> rfl) | (simp [*, errW_none, errW_some] <;> rfl), by repeat (first | (with_reducible first | exact HB.out | apply bal | apply bdN | apply bdr | refine bS ?_ GE219.out | refine bS ?_ GE220.out) | exact HB.out)⟩
 ·rw [if_neg c3] at H
  have c3b0 : (a1_0 == 0) = false := beq_eq_false_iff_ne.mpr c3
  have c3b1 : (a1_0 != 0) = true := bne_iff_ne.mpr c3
  by_cases c8 : a1_0 = 1
  ·rw [if_pos c8] at H
   have c8b0 : (a1_0 == 1) = true := beq_iff_eq.mpr c8
   have c8b1 : (a1_0 != 1) = false := bne_eq_false_iff_eq.mpr c8
   clear c8
   by_cases c9 : a1_1.toList = ([] : List UInt8)
   ·rw [if_pos c9] at H
    have c9b0 : (a1_1.toList == ([] : List UInt8)) = true := beq_iff_eq.mpr c9
    have c9b1 : (a1_1.toList != ([] : List UInt8)) = false := bne_eq_false_iff_eq.mpr c9
    clear c9
    replace H := Option.bind_eq_some_iff.mp H
    obtain ⟨t221, A100, H⟩ := H
    replace H : (some t221) = some r := H
    have A10 := Az.mk A100
    clear A100
    obtain rfl := Option.some.inj H
    go_enter Try.func50, Try.ntmps50
    go_wp2_with (first | ((with_reducible refine gate_dst (N := 2) rfl ?_); (try (refine gate_guard (by rfl) ?_; dsimp only)); refine box_event ?hg (N := 2) ?hd (cs := #[.slice A0_0 l0_0.length c0_0]) (t := 25) ?hr ?_; (case hd => rfl); (case hg => rfl); (case hr => first | (go_simp; done) | (go_simp; rfl)); intro gb219 hg w11 hbox hb; have n0_ := Az.mk (below_step (by repeat (first | (with_reducible first | exact HB.out | apply bal | apply bdN | apply bdr) | exact HB.out)) hb); have n1_ := Az.mk (hbox); have n2_ := Az.mk ((by rw [hg]; exact (below_size (by repeat (first | (with_reducible first | exact HB.out | apply bal | apply bdN | apply bdr) | exact HB.out))) : w.heap.size ≤ gb219)); have n3_ := Az.mk ((by rw [hg]; exact (below_size (by repeat (first | (with_reducible first | exact HB.out | apply bal | apply bdN | apply bdr) | exact HB.out))) : w.heap.size ≤ gb219)); clear HB; have HB := n0_; have BK219 := n1_; have GW219 := n2_; have GE219 := n3_; clear n0_ n1_ n2_ n3_; clear hb hbox hg) | ((with_reducible refine gate_dst (N := 3) rfl ?_); (try (refine gate_guard (by rfl) ?_; dsimp only)); refine box_event ?hg (N := 3) ?hd (cs := #[.int .i64 a1_0, .string a1_1, .int .i64 a1_2]) (t := 31) ?hr ?_; (case hd => rfl); (case hg => rfl); (case hr => first | (go_simp; done) | (go_simp; rfl)); intro gb220 hg w12 hbox hb; have n0_ := Az.mk (blk_below (g := gb219) (o := .cells #[.slice A0_0 l0_0.length c0_0] 25 (0, 0)) (by (with_reducible repeat (first | refine blk_drewN ?_ _ | refine blk_drew ?_ | refine blk_alloc ?_ _)); exact BK219.out) hb); have n1_ := Az.mk (below_step (by repeat (first | (with_reducible first | exact HB.out | apply bal | apply bdN | apply bdr | refine bS ?_ GE219.out) | exact HB.out)) hb); have n2_ := Az.mk (hbox); have n3_ := Az.mk ((by rw [hg]; exact (below_size (by repeat (first | (with_reducible first | exact HB.out | apply bal | apply bdN | apply bdr | refine bS ?_ GE219.out) | exact HB.out))) : w.heap.size ≤ gb220)); have n4_ := Az.mk ((by rw [hg]; exact (below_size (by repeat (first | (with_reducible first | exact HB.out | apply bal | apply bdN | apply bdr | refine bS ?_ GE219.out) | exact HB.out))) : w.heap.size ≤ gb220)); have n5_ := Az.mk ((by rw [hg]; exact Nat.ne_of_lt (blk_lt (g := gb219) (o := .cells #[.slice A0_0 l0_0.length c0_0] 25 (0, 0)) (by (with_reducible repeat (first | refine blk_drewN ?_ _ | refine blk_drew ?_ | refine blk_alloc ?_ _)); exact BK219.out)) : gb219 ≠ gb220)); have n6_ := Az.mk ((by rw [hg]; exact Nat.ne_of_gt (blk_lt (g := gb219) (o := .cells #[.slice A0_0 l0_0.length c0_0] 25 (0, 0)) (by (with_reducible repeat (first | refine blk_drewN ?_ _ | refine blk_drew ?_ | refine blk_alloc ?_ _)); exact BK219.out)) : gb220 ≠ gb219)); clear BK219; clear HB; have BK219 := n0_; have HB := n1_; have BK220 := n2_; have GW220 := n3_; have GE220 := n4_; have NB219_220 := n5_; have NB220_219 := n6_; clear n0_ n1_ n2_ n3_ n4_ n5_ n6_; clear hb hbox hg; have hnb13 := NB220_219.out; have hnc13 := NB219_220.out; have hcz14_0 : w12.cell? ⟨gb220, 0, none⟩ = some (.int .i64 a1_0) := (bC BK220.out 0).trans rfl; have hcz14_1 : w12.cell? ⟨gb220, 1, none⟩ = some (.string a1_1) := (bC BK220.out 1).trans rfl; have hcz14_2 : w12.cell? ⟨gb220, 2, none⟩ = some (.int .i64 a1_2) := (bC BK220.out 2).trans rfl; have hfz14_0 := bF BK220.out 0; have hfz14_1 := bF BK220.out 1; have hfz14_2 := bF BK220.out 2) | (go_at_call 91; (with_reducible refine (impl_within.calls a1_2 0 1 t221 _ A10.out).mono ?_); rintro e w' ⟨rfl, ⟨nd, rfl⟩⟩))
    go_ret
    exact ⟨by first | rfl | (simp [errW_none, errW_some] <;> rfl) | (simp [*, errW_none, errW_some] <;> rfl), by repeat (first | (with_reducible first | exact HB.out | apply bal | apply bdN | apply bdr | refine bS ?_ GE219.out | refine bS ?_ GE220.out) | exact HB.out)⟩
   ·rw [if_neg c9] at H
    have c9b0 : (a1_1.toList == ([] : List UInt8)) = false := beq_eq_false_iff_ne.mpr c9
    have c9b1 : (a1_1.toList != ([] : List UInt8)) = true := bne_iff_ne.mpr c9
    obtain rfl := Option.some.inj H
    go_enter Try.func50, Try.ntmps50
    go_wp2_with (first | ((with_reducible refine gate_dst (N := 2) rfl ?_); (try (refine gate_guard (by rfl) ?_; dsimp only)); refine box_event ?hg (N := 2) ?hd (cs := #[.slice A0_0 l0_0.length c0_0]) (t := 25) ?hr ?_; (case hd => rfl); (case hg => rfl); (case hr => first | (go_simp; done) | (go_simp; rfl)); intro gb219 hg w15 hbox hb; have n0_ := Az.mk (below_step (by repeat (first | (with_reducible first | exact HB.out | apply bal | apply bdN | apply bdr) | exact HB.out)) hb); have n1_ := Az.mk (hbox); have n2_ := Az.mk ((by rw [hg]; exact (below_size (by repeat (first | (with_reducible first | exact HB.out | apply bal | apply bdN | apply bdr) | exact HB.out))) : w.heap.size ≤ gb219)); have n3_ := Az.mk ((by rw [hg]; exact (below_size (by repeat (first | (with_reducible first | exact HB.out | apply bal | apply bdN | apply bdr) | exact HB.out))) : w.heap.size ≤ gb219)); clear HB; have HB := n0_; have BK219 := n1_; have GW219 := n2_; have GE219 := n3_; clear n0_ n1_ n2_ n3_; clear hb hbox hg) | ((with_reducible refine gate_dst (N := 3) rfl ?_); (try (refine gate_guard (by rfl) ?_; dsimp only)); refine box_event ?hg (N := 3) ?hd (cs := #[.int .i64 a1_0, .string a1_1, .int .i64 a1_2]) (t := 31) ?hr ?_; (case hd => rfl); (case hg => rfl); (case hr => first | (go_simp; done) | (go_simp; rfl)); intro gb220 hg w16 hbox hb; have n0_ := Az.mk (blk_below (g := gb219) (o := .cells #[.slice A0_0 l0_0.length c0_0] 25 (0, 0)) (by (with_reducible repeat (first | refine blk_drewN ?_ _ | refine blk_drew ?_ | refine blk_alloc ?_ _)); exact BK219.out) hb); have n1_ := Az.mk (below_step (by repeat (first | (with_reducible first | exact HB.out | apply bal | apply bdN | apply bdr | refine bS ?_ GE219.out) | exact HB.out)) hb); have n2_ := Az.mk (hbox); have n3_ := Az.mk ((by rw [hg]; exact (below_size (by repeat (first | (with_reducible first | exact HB.out | apply bal | apply bdN | apply bdr | refine bS ?_ GE219.out) | exact HB.out))) : w.heap.size ≤ gb220)); have n4_ := Az.mk ((by rw [hg]; exact (below_size (by repeat (first | (with_reducible first | exact HB.out | apply bal | apply bdN | apply bdr | refine bS ?_ GE219.out) | exact HB.out))) : w.heap.size ≤ gb220)); have n5_ := Az.mk ((by rw [hg]; exact Nat.ne_of_lt (blk_lt (g := gb219) (o := .cells #[.slice A0_0 l0_0.length c0_0] 25 (0, 0)) (by (with_reducible repeat (first | refine blk_drewN ?_ _ | refine blk_drew ?_ | refine blk_alloc ?_ _)); exact BK219.out)) : gb219 ≠ gb220)); have n6_ := Az.mk ((by rw [hg]; exact Nat.ne_of_gt (blk_lt (g := gb219) (o := .cells #[.slice A0_0 l0_0.length c0_0] 25 (0, 0)) (by (with_reducible repeat (first | refine blk_drewN ?_ _ | refine blk_drew ?_ | refine blk_alloc ?_ _)); exact BK219.out)) : gb220 ≠ gb219)); clear BK219; clear HB; have BK219 := n0_; have HB := n1_; have BK220 := n2_; have GW220 := n3_; have GE220 := n4_; have NB219_220 := n5_; have NB220_219 := n6_; clear n0_ n1_ n2_ n3_ n4_ n5_ n6_; clear hb hbox hg; have hnb17 := NB220_219.out; have hnc17 := NB219_220.out; have hcz18_0 : w16.cell? ⟨gb220, 0, none⟩ = some (.int .i64 a1_0) := (bC BK220.out 0).trans rfl; have hcz18_1 : w16.cell? ⟨gb220, 1, none⟩ = some (.string a1_1) := (bC BK220.out 1).trans rfl; have hcz18_2 : w16.cell? ⟨gb220, 2, none⟩ = some (.int .i64 a1_2) := (bC BK220.out 2).trans rfl; have hfz18_0 := bF BK220.out 0; have hfz18_1 := bF BK220.out 1; have hfz18_2 := bF BK220.out 2))
    go_ret
    exact ⟨by first | rfl | (simp [errW_none, errW_some] <;> rfl) | (simp [*, errW_none, errW_some] <;> rfl), by repeat (first | (with_reducible first | exact HB.out | apply bal | apply bdN | apply bdr | refine bS ?_ GE219.out | refine bS ?_ GE220.out) | exact HB.out)⟩
  ·rw [if_neg c8] at H
   have c8b0 : (a1_0 == 1) = false := beq_eq_false_iff_ne.mpr c8
   have c8b1 : (a1_0 != 1) = true := bne_iff_ne.mpr c8
   by_cases c19 : a1_0 = 2
   ·rw [if_pos c19] at H
    have c19b0 : (a1_0 == 2) = true := beq_iff_eq.mpr c19
    have c19b1 : (a1_0 != 2) = false := bne_eq_false_iff_eq.mpr c19
    clear c19
    replace H := Option.bind_eq_some_iff.mp H
    obtain ⟨t222, A200, H⟩ := H
    replace H : (if t222 = true then (some (a1_2 == 0)) else (some false)) = some r := H
    have A20 := Az.mk A200
    clear A200
    by_cases c21 : t222 = true
    ·subst c21
     have H1 : (some (a1_2 == 0)) = some r := by rw [if_pos rfl] at H; exact H
     clear H
     have H := H1
     clear H1
     obtain rfl := Option.some.inj H
     go_enter Try.func50, Try.ntmps50
     go_wp2_with (first | ((with_reducible refine gate_dst (N := 2) rfl ?_); (try (refine gate_guard (by rfl) ?_; dsimp only)); refine box_event ?hg (N := 2) ?hd (cs := #[.slice A0_0 l0_0.length c0_0]) (t := 25) ?hr ?_; (case hd => rfl); (case hg => rfl); (case hr => first | (go_simp; done) | (go_simp; rfl)); intro gb219 hg w22 hbox hb; have n0_ := Az.mk (below_step (by repeat (first | (with_reducible first | exact HB.out | apply bal | apply bdN | apply bdr) | exact HB.out)) hb); have n1_ := Az.mk (hbox); have n2_ := Az.mk ((by rw [hg]; exact (below_size (by repeat (first | (with_reducible first | exact HB.out | apply bal | apply bdN | apply bdr) | exact HB.out))) : w.heap.size ≤ gb219)); have n3_ := Az.mk ((by rw [hg]; exact (below_size (by repeat (first | (with_reducible first | exact HB.out | apply bal | apply bdN | apply bdr) | exact HB.out))) : w.heap.size ≤ gb219)); clear HB; have HB := n0_; have BK219 := n1_; have GW219 := n2_; have GE219 := n3_; clear n0_ n1_ n2_ n3_; clear hb hbox hg) | ((with_reducible refine gate_dst (N := 3) rfl ?_); (try (refine gate_guard (by rfl) ?_; dsimp only)); refine box_event ?hg (N := 3) ?hd (cs := #[.int .i64 a1_0, .string a1_1, .int .i64 a1_2]) (t := 31) ?hr ?_; (case hd => rfl); (case hg => rfl); (case hr => first | (go_simp; done) | (go_simp; rfl)); intro gb220 hg w23 hbox hb; have n0_ := Az.mk (blk_below (g := gb219) (o := .cells #[.slice A0_0 l0_0.length c0_0] 25 (0, 0)) (by (with_reducible repeat (first | refine blk_drewN ?_ _ | refine blk_drew ?_ | refine blk_alloc ?_ _)); exact BK219.out) hb); have n1_ := Az.mk (below_step (by repeat (first | (with_reducible first | exact HB.out | apply bal | apply bdN | apply bdr | refine bS ?_ GE219.out) | exact HB.out)) hb); have n2_ := Az.mk (hbox); have n3_ := Az.mk ((by rw [hg]; exact (below_size (by repeat (first | (with_reducible first | exact HB.out | apply bal | apply bdN | apply bdr | refine bS ?_ GE219.out) | exact HB.out))) : w.heap.size ≤ gb220)); have n4_ := Az.mk ((by rw [hg]; exact (below_size (by repeat (first | (with_reducible first | exact HB.out | apply bal | apply bdN | apply bdr | refine bS ?_ GE219.out) | exact HB.out))) : w.heap.size ≤ gb220)); have n5_ := Az.mk ((by rw [hg]; exact Nat.ne_of_lt (blk_lt (g := gb219) (o := .cells #[.slice A0_0 l0_0.length c0_0] 25 (0, 0)) (by (with_reducible repeat (first | refine blk_drewN ?_ _ | refine blk_drew ?_ | refine blk_alloc ?_ _)); exact BK219.out)) : gb219 ≠ gb220)); have n6_ := Az.mk ((by rw [hg]; exact Nat.ne_of_gt (blk_lt (g := gb219) (o := .cells #[.slice A0_0 l0_0.length c0_0] 25 (0, 0)) (by (with_reducible repeat (first | refine blk_drewN ?_ _ | refine blk_drew ?_ | refine blk_alloc ?_ _)); exact BK219.out)) : gb220 ≠ gb219)); clear BK219; clear HB; have BK219 := n0_; have HB := n1_; have BK220 := n2_; have GW220 := n3_; have GE220 := n4_; have NB219_220 := n5_; have NB220_219 := n6_; clear n0_ n1_ n2_ n3_ n4_ n5_ n6_; clear hb hbox hg; have hnb24 := NB220_219.out; have hnc24 := NB219_220.out; have hcz25_0 : w23.cell? ⟨gb220, 0, none⟩ = some (.int .i64 a1_0) := (bC BK220.out 0).trans rfl; have hcz25_1 : w23.cell? ⟨gb220, 1, none⟩ = some (.string a1_1) := (bC BK220.out 1).trans rfl; have hcz25_2 : w23.cell? ⟨gb220, 2, none⟩ = some (.int .i64 a1_2) := (bC BK220.out 2).trans rfl; have hfz25_0 := bF BK220.out 0; have hfz25_1 := bF BK220.out 1; have hfz25_2 := bF BK220.out 2) | ((with_reducible refine gate_callee (f := 96) rfl ?_); refine goesL_ (some 26) rfl rfl Try.func96 (by kernel_rfl) rfl #[.string a1_1] rfl (by (try simp only [List.map_toArray, List.map_cons, List.map_nil]); first | done | rfl | (simp only [List.length_drop, List.length_take]; rfl)) ?_; (with_reducible refine (impl_IntOk.calls k a1_1 true _ A20.out).mono ?_); rintro e w26 ⟨rfl, hb⟩; refine ⟨_, rfl, ?_⟩; have n0_ := Az.mk (blk_below (g := gb219) (o := .cells #[.slice A0_0 l0_0.length c0_0] 25 (0, 0)) (by (with_reducible repeat (first | refine blk_drewN ?_ _ | refine blk_drew ?_ | refine blk_alloc ?_ _)); exact BK219.out) hb); have n1_ := Az.mk (blk_below (g := gb220) (o := .cells #[.int .i64 a1_0, .string a1_1, .int .i64 a1_2] 31 (0, 0)) (by (with_reducible repeat (first | refine blk_drewN ?_ _ | refine blk_drew ?_ | refine blk_alloc ?_ _)); exact BK220.out) hb); have n2_ := Az.mk (below_step (by repeat (first | (with_reducible first | exact HB.out | apply bal | apply bdN | apply bdr | refine bS ?_ GE219.out | refine bS ?_ GE220.out) | exact HB.out)) hb); clear BK219; clear BK220; clear HB; have BK219 := n0_; have BK220 := n1_; have HB := n2_; clear n0_ n1_ n2_; (try clear hb); (try clear hb2); (try clear hk); (try clear hi); have hcz27_0 : w26.cell? ⟨gb220, 0, none⟩ = some (.int .i64 a1_0) := (bC BK220.out 0).trans rfl; have hcz27_1 : w26.cell? ⟨gb220, 1, none⟩ = some (.string a1_1) := (bC BK220.out 1).trans rfl; have hcz27_2 : w26.cell? ⟨gb220, 2, none⟩ = some (.int .i64 a1_2) := (bC BK220.out 2).trans rfl; have hfz27_0 := bF BK220.out 0; have hfz27_1 := bF BK220.out 1; have hfz27_2 := bF BK220.out 2))
     go_ret
     exact ⟨by first | rfl | (simp [errW_none, errW_some] <;> rfl) | (simp [*, errW_none, errW_some] <;> rfl), by repeat (first | (with_reducible first | exact HB.out | apply bal | apply bdN | apply bdr | refine bS ?_ GE219.out | refine bS ?_ GE220.out) | exact HB.out)⟩
    ·replace c21 := Bool.eq_false_iff.mpr c21
     subst c21
     have H1 : (some false) = some r := by rw [if_neg (show ¬ (false = true) by decide)] at H; exact H
     clear H
     have H := H1
     clear H1
     obtain rfl := Option.some.inj H
     go_enter Try.func50, Try.ntmps50
     go_wp2_with (first | ((with_reducible refine gate_dst (N := 2) rfl ?_); (try (refine gate_guard (by rfl) ?_; dsimp only)); refine box_event ?hg (N := 2) ?hd (cs := #[.slice A0_0 l0_0.length c0_0]) (t := 25) ?hr ?_; (case hd => rfl); (case hg => rfl); (case hr => first | (go_simp; done) | (go_simp; rfl)); intro gb219 hg w28 hbox hb; have n0_ := Az.mk (below_step (by repeat (first | (with_reducible first | exact HB.out | apply bal | apply bdN | apply bdr) | exact HB.out)) hb); have n1_ := Az.mk (hbox); have n2_ := Az.mk ((by rw [hg]; exact (below_size (by repeat (first | (with_reducible first | exact HB.out | apply bal | apply bdN | apply bdr) | exact HB.out))) : w.heap.size ≤ gb219)); have n3_ := Az.mk ((by rw [hg]; exact (below_size (by repeat (first | (with_reducible first | exact HB.out | apply bal | apply bdN | apply bdr) | exact HB.out))) : w.heap.size ≤ gb219)); clear HB; have HB := n0_; have BK219 := n1_; have GW219 := n2_; have GE219 := n3_; clear n0_ n1_ n2_ n3_; clear hb hbox hg) | ((with_reducible refine gate_dst (N := 3) rfl ?_); (try (refine gate_guard (by rfl) ?_; dsimp only)); refine box_event ?hg (N := 3) ?hd (cs := #[.int .i64 a1_0, .string a1_1, .int .i64 a1_2]) (t := 31) ?hr ?_; (case hd => rfl); (case hg => rfl); (case hr => first | (go_simp; done) | (go_simp; rfl)); intro gb220 hg w29 hbox hb; have n0_ := Az.mk (blk_below (g := gb219) (o := .cells #[.slice A0_0 l0_0.length c0_0] 25 (0, 0)) (by (with_reducible repeat (first | refine blk_drewN ?_ _ | refine blk_drew ?_ | refine blk_alloc ?_ _)); exact BK219.out) hb); have n1_ := Az.mk (below_step (by repeat (first | (with_reducible first | exact HB.out | apply bal | apply bdN | apply bdr | refine bS ?_ GE219.out) | exact HB.out)) hb); have n2_ := Az.mk (hbox); have n3_ := Az.mk ((by rw [hg]; exact (below_size (by repeat (first | (with_reducible first | exact HB.out | apply bal | apply bdN | apply bdr | refine bS ?_ GE219.out) | exact HB.out))) : w.heap.size ≤ gb220)); have n4_ := Az.mk ((by rw [hg]; exact (below_size (by repeat (first | (with_reducible first | exact HB.out | apply bal | apply bdN | apply bdr | refine bS ?_ GE219.out) | exact HB.out))) : w.heap.size ≤ gb220)); have n5_ := Az.mk ((by rw [hg]; exact Nat.ne_of_lt (blk_lt (g := gb219) (o := .cells #[.slice A0_0 l0_0.length c0_0] 25 (0, 0)) (by (with_reducible repeat (first | refine blk_drewN ?_ _ | refine blk_drew ?_ | refine blk_alloc ?_ _)); exact BK219.out)) : gb219 ≠ gb220)); have n6_ := Az.mk ((by rw [hg]; exact Nat.ne_of_gt (blk_lt (g := gb219) (o := .cells #[.slice A0_0 l0_0.length c0_0] 25 (0, 0)) (by (with_reducible repeat (first | refine blk_drewN ?_ _ | refine blk_drew ?_ | refine blk_alloc ?_ _)); exact BK219.out)) : gb220 ≠ gb219)); clear BK219; clear HB; have BK219 := n0_; have HB := n1_; have BK220 := n2_; have GW220 := n3_; have GE220 := n4_; have NB219_220 := n5_; have NB220_219 := n6_; clear n0_ n1_ n2_ n3_ n4_ n5_ n6_; clear hb hbox hg; have hnb30 := NB220_219.out; have hnc30 := NB219_220.out; have hcz31_0 : w29.cell? ⟨gb220, 0, none⟩ = some (.int .i64 a1_0) := (bC BK220.out 0).trans rfl; have hcz31_1 : w29.cell? ⟨gb220, 1, none⟩ = some (.string a1_1) := (bC BK220.out 1).trans rfl; have hcz31_2 : w29.cell? ⟨gb220, 2, none⟩ = some (.int .i64 a1_2) := (bC BK220.out 2).trans rfl; have hfz31_0 := bF BK220.out 0; have hfz31_1 := bF BK220.out 1; have hfz31_2 := bF BK220.out 2) | ((with_reducible refine gate_callee (f := 96) rfl ?_); refine goesL_ (some 26) rfl rfl Try.func96 (by kernel_rfl) rfl #[.string a1_1] rfl (by (try simp only [List.map_toArray, List.map_cons, List.map_nil]); first | done | rfl | (simp only [List.length_drop, List.length_take]; rfl)) ?_; (with_reducible refine (impl_IntOk.calls k a1_1 false _ A20.out).mono ?_); rintro e w32 ⟨rfl, hb⟩; refine ⟨_, rfl, ?_⟩; have n0_ := Az.mk (blk_below (g := gb219) (o := .cells #[.slice A0_0 l0_0.length c0_0] 25 (0, 0)) (by (with_reducible repeat (first | refine blk_drewN ?_ _ | refine blk_drew ?_ | refine blk_alloc ?_ _)); exact BK219.out) hb); have n1_ := Az.mk (blk_below (g := gb220) (o := .cells #[.int .i64 a1_0, .string a1_1, .int .i64 a1_2] 31 (0, 0)) (by (with_reducible repeat (first | refine blk_drewN ?_ _ | refine blk_drew ?_ | refine blk_alloc ?_ _)); exact BK220.out) hb); have n2_ := Az.mk (below_step (by repeat (first | (with_reducible first | exact HB.out | apply bal | apply bdN | apply bdr | refine bS ?_ GE219.out | refine bS ?_ GE220.out) | exact HB.out)) hb); clear BK219; clear BK220; clear HB; have BK219 := n0_; have BK220 := n1_; have HB := n2_; clear n0_ n1_ n2_; (try clear hb); (try clear hb2); (try clear hk); (try clear hi)))
     go_ret
     exact ⟨by first | rfl | (simp [errW_none, errW_some] <;> rfl) | (simp [*, errW_none, errW_some] <;> rfl), by repeat (first | (with_reducible first | exact HB.out | apply bal | apply bdN | apply bdr | refine bS ?_ GE219.out | refine bS ?_ GE220.out) | exact HB.out)⟩
   ·rw [if_neg c19] at H
    have c19b0 : (a1_0 == 2) = false := beq_eq_false_iff_ne.mpr c19
    have c19b1 : (a1_0 != 2) = true := bne_iff_ne.mpr c19
    by_cases c33 : a1_0 = 3
    ·rw [if_pos c33] at H
     have c33b0 : (a1_0 == 3) = true := beq_iff_eq.mpr c33
     have c33b1 : (a1_0 != 3) = false := bne_eq_false_iff_eq.mpr c33
     clear c33
     by_cases c34 : (a1_1.size : Int) ≤ 400
     ·rw [if_pos c34] at H
      have c34b0 : decide ((a1_1.size : Int) ≤ 400) = true := decide_eq_true c34
      have c34b1 : decide (a1_1.size ≤ 400) = true := decide_eq_true (by omega)
      clear c34
      obtain rfl := Option.some.inj H
      go_enter Try.func50, Try.ntmps50
      go_wp2_with (first | ((with_reducible refine gate_dst (N := 2) rfl ?_); (try (refine gate_guard (by rfl) ?_; dsimp only)); refine box_event ?hg (N := 2) ?hd (cs := #[.slice A0_0 l0_0.length c0_0]) (t := 25) ?hr ?_; (case hd => rfl); (case hg => rfl); (case hr => first | (go_simp; done) | (go_simp; rfl)); intro gb219 hg w35 hbox hb; have n0_ := Az.mk (below_step (by repeat (first | (with_reducible first | exact HB.out | apply bal | apply bdN | apply bdr) | exact HB.out)) hb); have n1_ := Az.mk (hbox); have n2_ := Az.mk ((by rw [hg]; exact (below_size (by repeat (first | (with_reducible first | exact HB.out | apply bal | apply bdN | apply bdr) | exact HB.out))) : w.heap.size ≤ gb219)); have n3_ := Az.mk ((by rw [hg]; exact (below_size (by repeat (first | (with_reducible first | exact HB.out | apply bal | apply bdN | apply bdr) | exact HB.out))) : w.heap.size ≤ gb219)); clear HB; have HB := n0_; have BK219 := n1_; have GW219 := n2_; have GE219 := n3_; clear n0_ n1_ n2_ n3_; clear hb hbox hg) | ((with_reducible refine gate_dst (N := 3) rfl ?_); (try (refine gate_guard (by rfl) ?_; dsimp only)); refine box_event ?hg (N := 3) ?hd (cs := #[.int .i64 a1_0, .string a1_1, .int .i64 a1_2]) (t := 31) ?hr ?_; (case hd => rfl); (case hg => rfl); (case hr => first | (go_simp; done) | (go_simp; rfl)); intro gb220 hg w36 hbox hb; have n0_ := Az.mk (blk_below (g := gb219) (o := .cells #[.slice A0_0 l0_0.length c0_0] 25 (0, 0)) (by (with_reducible repeat (first | refine blk_drewN ?_ _ | refine blk_drew ?_ | refine blk_alloc ?_ _)); exact BK219.out) hb); have n1_ := Az.mk (below_step (by repeat (first | (with_reducible first | exact HB.out | apply bal | apply bdN | apply bdr | refine bS ?_ GE219.out) | exact HB.out)) hb); have n2_ := Az.mk (hbox); have n3_ := Az.mk ((by rw [hg]; exact (below_size (by repeat (first | (with_reducible first | exact HB.out | apply bal | apply bdN | apply bdr | refine bS ?_ GE219.out) | exact HB.out))) : w.heap.size ≤ gb220)); have n4_ := Az.mk ((by rw [hg]; exact (below_size (by repeat (first | (with_reducible first | exact HB.out | apply bal | apply bdN | apply bdr | refine bS ?_ GE219.out) | exact HB.out))) : w.heap.size ≤ gb220)); have n5_ := Az.mk ((by rw [hg]; exact Nat.ne_of_lt (blk_lt (g := gb219) (o := .cells #[.slice A0_0 l0_0.length c0_0] 25 (0, 0)) (by (with_reducible repeat (first | refine blk_drewN ?_ _ | refine blk_drew ?_ | refine blk_alloc ?_ _)); exact BK219.out)) : gb219 ≠ gb220)); have n6_ := Az.mk ((by rw [hg]; exact Nat.ne_of_gt (blk_lt (g := gb219) (o := .cells #[.slice A0_0 l0_0.length c0_0] 25 (0, 0)) (by (with_reducible repeat (first | refine blk_drewN ?_ _ | refine blk_drew ?_ | refine blk_alloc ?_ _)); exact BK219.out)) : gb220 ≠ gb219)); clear BK219; clear HB; have BK219 := n0_; have HB := n1_; have BK220 := n2_; have GW220 := n3_; have GE220 := n4_; have NB219_220 := n5_; have NB220_219 := n6_; clear n0_ n1_ n2_ n3_ n4_ n5_ n6_; clear hb hbox hg; have hnb37 := NB220_219.out; have hnc37 := NB219_220.out; have hcz38_0 : w36.cell? ⟨gb220, 0, none⟩ = some (.int .i64 a1_0) := (bC BK220.out 0).trans rfl; have hcz38_1 : w36.cell? ⟨gb220, 1, none⟩ = some (.string a1_1) := (bC BK220.out 1).trans rfl; have hcz38_2 : w36.cell? ⟨gb220, 2, none⟩ = some (.int .i64 a1_2) := (bC BK220.out 2).trans rfl; have hfz38_0 := bF BK220.out 0; have hfz38_1 := bF BK220.out 1; have hfz38_2 := bF BK220.out 2))
      go_ret
      exact ⟨by first | rfl | (simp [errW_none, errW_some] <;> rfl) | (simp [*, errW_none, errW_some] <;> rfl), by repeat (first | (with_reducible first | exact HB.out | apply bal | apply bdN | apply bdr | refine bS ?_ GE219.out | refine bS ?_ GE220.out) | exact HB.out)⟩
     ·rw [if_neg c34] at H
      have c34b0 : decide ((a1_1.size : Int) ≤ 400) = false := decide_eq_false c34
      have c34b1 : decide (a1_1.size ≤ 400) = false := decide_eq_false (by omega)
      clear c34
      obtain rfl := Option.some.inj H
      go_enter Try.func50, Try.ntmps50
      go_wp2_with (first | ((with_reducible refine gate_dst (N := 2) rfl ?_); (try (refine gate_guard (by rfl) ?_; dsimp only)); refine box_event ?hg (N := 2) ?hd (cs := #[.slice A0_0 l0_0.length c0_0]) (t := 25) ?hr ?_; (case hd => rfl); (case hg => rfl); (case hr => first | (go_simp; done) | (go_simp; rfl)); intro gb219 hg w39 hbox hb; have n0_ := Az.mk (below_step (by repeat (first | (with_reducible first | exact HB.out | apply bal | apply bdN | apply bdr) | exact HB.out)) hb); have n1_ := Az.mk (hbox); have n2_ := Az.mk ((by rw [hg]; exact (below_size (by repeat (first | (with_reducible first | exact HB.out | apply bal | apply bdN | apply bdr) | exact HB.out))) : w.heap.size ≤ gb219)); have n3_ := Az.mk ((by rw [hg]; exact (below_size (by repeat (first | (with_reducible first | exact HB.out | apply bal | apply bdN | apply bdr) | exact HB.out))) : w.heap.size ≤ gb219)); clear HB; have HB := n0_; have BK219 := n1_; have GW219 := n2_; have GE219 := n3_; clear n0_ n1_ n2_ n3_; clear hb hbox hg) | ((with_reducible refine gate_dst (N := 3) rfl ?_); (try (refine gate_guard (by rfl) ?_; dsimp only)); refine box_event ?hg (N := 3) ?hd (cs := #[.int .i64 a1_0, .string a1_1, .int .i64 a1_2]) (t := 31) ?hr ?_; (case hd => rfl); (case hg => rfl); (case hr => first | (go_simp; done) | (go_simp; rfl)); intro gb220 hg w40 hbox hb; have n0_ := Az.mk (blk_below (g := gb219) (o := .cells #[.slice A0_0 l0_0.length c0_0] 25 (0, 0)) (by (with_reducible repeat (first | refine blk_drewN ?_ _ | refine blk_drew ?_ | refine blk_alloc ?_ _)); exact BK219.out) hb); have n1_ := Az.mk (below_step (by repeat (first | (with_reducible first | exact HB.out | apply bal | apply bdN | apply bdr | refine bS ?_ GE219.out) | exact HB.out)) hb); have n2_ := Az.mk (hbox); have n3_ := Az.mk ((by rw [hg]; exact (below_size (by repeat (first | (with_reducible first | exact HB.out | apply bal | apply bdN | apply bdr | refine bS ?_ GE219.out) | exact HB.out))) : w.heap.size ≤ gb220)); have n4_ := Az.mk ((by rw [hg]; exact (below_size (by repeat (first | (with_reducible first | exact HB.out | apply bal | apply bdN | apply bdr | refine bS ?_ GE219.out) | exact HB.out))) : w.heap.size ≤ gb220)); have n5_ := Az.mk ((by rw [hg]; exact Nat.ne_of_lt (blk_lt (g := gb219) (o := .cells #[.slice A0_0 l0_0.length c0_0] 25 (0, 0)) (by (with_reducible repeat (first | refine blk_drewN ?_ _ | refine blk_drew ?_ | refine blk_alloc ?_ _)); exact BK219.out)) : gb219 ≠ gb220)); have n6_ := Az.mk ((by rw [hg]; exact Nat.ne_of_gt (blk_lt (g := gb219) (o := .cells #[.slice A0_0 l0_0.length c0_0] 25 (0, 0)) (by (with_reducible repeat (first | refine blk_drewN ?_ _ | refine blk_drew ?_ | refine blk_alloc ?_ _)); exact BK219.out)) : gb220 ≠ gb219)); clear BK219; clear HB; have BK219 := n0_; have HB := n1_; have BK220 := n2_; have GW220 := n3_; have GE220 := n4_; have NB219_220 := n5_; have NB220_219 := n6_; clear n0_ n1_ n2_ n3_ n4_ n5_ n6_; clear hb hbox hg; have hnb41 := NB220_219.out; have hnc41 := NB219_220.out; have hcz42_0 : w40.cell? ⟨gb220, 0, none⟩ = some (.int .i64 a1_0) := (bC BK220.out 0).trans rfl; have hcz42_1 : w40.cell? ⟨gb220, 1, none⟩ = some (.string a1_1) := (bC BK220.out 1).trans rfl; have hcz42_2 : w40.cell? ⟨gb220, 2, none⟩ = some (.int .i64 a1_2) := (bC BK220.out 2).trans rfl; have hfz42_0 := bF BK220.out 0; have hfz42_1 := bF BK220.out 1; have hfz42_2 := bF BK220.out 2))
      go_ret
      exact ⟨by first | rfl | (simp [errW_none, errW_some] <;> rfl) | (simp [*, errW_none, errW_some] <;> rfl), by repeat (first | (with_reducible first | exact HB.out | apply bal | apply bdN | apply bdr | refine bS ?_ GE219.out | refine bS ?_ GE220.out) | exact HB.out)⟩
    ·rw [if_neg c33] at H
     have c33b0 : (a1_0 == 3) = false := beq_eq_false_iff_ne.mpr c33
     have c33b1 : (a1_0 != 3) = true := bne_iff_ne.mpr c33
     by_cases c43 : a1_0 = 4
     ·rw [if_pos c43] at H
      have c43b0 : (a1_0 == 4) = true := beq_iff_eq.mpr c43
      have c43b1 : (a1_0 != 4) = false := bne_eq_false_iff_eq.mpr c43
      clear c43
      by_cases c44 : a1_1.toList = ([] : List UInt8)
      ·rw [if_pos c44] at H
       have c44b0 : (a1_1.toList == ([] : List UInt8)) = true := beq_iff_eq.mpr c44
       have c44b1 : (a1_1.toList != ([] : List UInt8)) = false := bne_eq_false_iff_eq.mpr c44
       clear c44
       replace H := Option.bind_eq_some_iff.mp H
       obtain ⟨t223, A450, H⟩ := H
       replace H : (some t223) = some r := H
       have A45 := Az.mk A450
       clear A450
       obtain rfl := Option.some.inj H
       go_enter Try.func50, Try.ntmps50
       go_wp2_with (first | ((with_reducible refine gate_dst (N := 2) rfl ?_); (try (refine gate_guard (by rfl) ?_; dsimp only)); refine box_event ?hg (N := 2) ?hd (cs := #[.slice A0_0 l0_0.length c0_0]) (t := 25) ?hr ?_; (case hd => rfl); (case hg => rfl); (case hr => first | (go_simp; done) | (go_simp; rfl)); intro gb219 hg w46 hbox hb; have n0_ := Az.mk (below_step (by repeat (first | (with_reducible first | exact HB.out | apply bal | apply bdN | apply bdr) | exact HB.out)) hb); have n1_ := Az.mk (hbox); have n2_ := Az.mk ((by rw [hg]; exact (below_size (by repeat (first | (with_reducible first | exact HB.out | apply bal | apply bdN | apply bdr) | exact HB.out))) : w.heap.size ≤ gb219)); have n3_ := Az.mk ((by rw [hg]; exact (below_size (by repeat (first | (with_reducible first | exact HB.out | apply bal | apply bdN | apply bdr) | exact HB.out))) : w.heap.size ≤ gb219)); clear HB; have HB := n0_; have BK219 := n1_; have GW219 := n2_; have GE219 := n3_; clear n0_ n1_ n2_ n3_; clear hb hbox hg) | ((with_reducible refine gate_dst (N := 3) rfl ?_); (try (refine gate_guard (by rfl) ?_; dsimp only)); refine box_event ?hg (N := 3) ?hd (cs := #[.int .i64 a1_0, .string a1_1, .int .i64 a1_2]) (t := 31) ?hr ?_; (case hd => rfl); (case hg => rfl); (case hr => first | (go_simp; done) | (go_simp; rfl)); intro gb220 hg w47 hbox hb; have n0_ := Az.mk (blk_below (g := gb219) (o := .cells #[.slice A0_0 l0_0.length c0_0] 25 (0, 0)) (by (with_reducible repeat (first | refine blk_drewN ?_ _ | refine blk_drew ?_ | refine blk_alloc ?_ _)); exact BK219.out) hb); have n1_ := Az.mk (below_step (by repeat (first | (with_reducible first | exact HB.out | apply bal | apply bdN | apply bdr | refine bS ?_ GE219.out) | exact HB.out)) hb); have n2_ := Az.mk (hbox); have n3_ := Az.mk ((by rw [hg]; exact (below_size (by repeat (first | (with_reducible first | exact HB.out | apply bal | apply bdN | apply bdr | refine bS ?_ GE219.out) | exact HB.out))) : w.heap.size ≤ gb220)); have n4_ := Az.mk ((by rw [hg]; exact (below_size (by repeat (first | (with_reducible first | exact HB.out | apply bal | apply bdN | apply bdr | refine bS ?_ GE219.out) | exact HB.out))) : w.heap.size ≤ gb220)); have n5_ := Az.mk ((by rw [hg]; exact Nat.ne_of_lt (blk_lt (g := gb219) (o := .cells #[.slice A0_0 l0_0.length c0_0] 25 (0, 0)) (by (with_reducible repeat (first | refine blk_drewN ?_ _ | refine blk_drew ?_ | refine blk_alloc ?_ _)); exact BK219.out)) : gb219 ≠ gb220)); have n6_ := Az.mk ((by rw [hg]; exact Nat.ne_of_gt (blk_lt (g := gb219) (o := .cells #[.slice A0_0 l0_0.length c0_0] 25 (0, 0)) (by (with_reducible repeat (first | refine blk_drewN ?_ _ | refine blk_drew ?_ | refine blk_alloc ?_ _)); exact BK219.out)) : gb220 ≠ gb219)); clear BK219; clear HB; have BK219 := n0_; have HB := n1_; have BK220 := n2_; have GW220 := n3_; have GE220 := n4_; have NB219_220 := n5_; have NB220_219 := n6_; clear n0_ n1_ n2_ n3_ n4_ n5_ n6_; clear hb hbox hg; have hnb48 := NB220_219.out; have hnc48 := NB219_220.out; have hcz49_0 : w47.cell? ⟨gb220, 0, none⟩ = some (.int .i64 a1_0) := (bC BK220.out 0).trans rfl; have hcz49_1 : w47.cell? ⟨gb220, 1, none⟩ = some (.string a1_1) := (bC BK220.out 1).trans rfl; have hcz49_2 : w47.cell? ⟨gb220, 2, none⟩ = some (.int .i64 a1_2) := (bC BK220.out 2).trans rfl; have hfz49_0 := bF BK220.out 0; have hfz49_1 := bF BK220.out 1; have hfz49_2 := bF BK220.out 2; have hcz50_0 : w47.cell? ⟨gb219, 0, none⟩ = some (.slice A0_0 l0_0.length c0_0) := (bC BK219.out 0).trans rfl; have hfz50_0 := bF BK219.out 0) | (go_at_call 91; (with_reducible refine (impl_within.calls a1_2 0 (wrap64 ((l0_0.length : Int) - 1)) t223 _ A45.out).mono ?_); rintro e w' ⟨rfl, ⟨nd, rfl⟩⟩))
       go_ret
       exact ⟨by first | rfl | (simp [errW_none, errW_some] <;> rfl) | (simp [*, errW_none, errW_some] <;> rfl), by repeat (first | (with_reducible first | exact HB.out | apply bal | apply bdN | apply bdr | refine bS ?_ GE219.out | refine bS ?_ GE220.out) | exact HB.out)⟩
      ·rw [if_neg c44] at H
       have c44b0 : (a1_1.toList == ([] : List UInt8)) = false := beq_eq_false_iff_ne.mpr c44
       have c44b1 : (a1_1.toList != ([] : List UInt8)) = true := bne_iff_ne.mpr c44
       obtain rfl := Option.some.inj H
       go_enter Try.func50, Try.ntmps50
       go_wp2_with (first | ((with_reducible refine gate_dst (N := 2) rfl ?_); (try (refine gate_guard (by rfl) ?_; dsimp only)); refine box_event ?hg (N := 2) ?hd (cs := #[.slice A0_0 l0_0.length c0_0]) (t := 25) ?hr ?_; (case hd => rfl); (case hg => rfl); (case hr => first | (go_simp; done) | (go_simp; rfl)); intro gb219 hg w51 hbox hb; have n0_ := Az.mk (below_step (by repeat (first | (with_reducible first | exact HB.out | apply bal | apply bdN | apply bdr) | exact HB.out)) hb); have n1_ := Az.mk (hbox); have n2_ := Az.mk ((by rw [hg]; exact (below_size (by repeat (first | (with_reducible first | exact HB.out | apply bal | apply bdN | apply bdr) | exact HB.out))) : w.heap.size ≤ gb219)); have n3_ := Az.mk ((by rw [hg]; exact (below_size (by repeat (first | (with_reducible first | exact HB.out | apply bal | apply bdN | apply bdr) | exact HB.out))) : w.heap.size ≤ gb219)); clear HB; have HB := n0_; have BK219 := n1_; have GW219 := n2_; have GE219 := n3_; clear n0_ n1_ n2_ n3_; clear hb hbox hg) | ((with_reducible refine gate_dst (N := 3) rfl ?_); (try (refine gate_guard (by rfl) ?_; dsimp only)); refine box_event ?hg (N := 3) ?hd (cs := #[.int .i64 a1_0, .string a1_1, .int .i64 a1_2]) (t := 31) ?hr ?_; (case hd => rfl); (case hg => rfl); (case hr => first | (go_simp; done) | (go_simp; rfl)); intro gb220 hg w52 hbox hb; have n0_ := Az.mk (blk_below (g := gb219) (o := .cells #[.slice A0_0 l0_0.length c0_0] 25 (0, 0)) (by (with_reducible repeat (first | refine blk_drewN ?_ _ | refine blk_drew ?_ | refine blk_alloc ?_ _)); exact BK219.out) hb); have n1_ := Az.mk (below_step (by repeat (first | (with_reducible first | exact HB.out | apply bal | apply bdN | apply bdr | refine bS ?_ GE219.out) | exact HB.out)) hb); have n2_ := Az.mk (hbox); have n3_ := Az.mk ((by rw [hg]; exact (below_size (by repeat (first | (with_reducible first | exact HB.out | apply bal | apply bdN | apply bdr | refine bS ?_ GE219.out) | exact HB.out))) : w.heap.size ≤ gb220)); have n4_ := Az.mk ((by rw [hg]; exact (below_size (by repeat (first | (with_reducible first | exact HB.out | apply bal | apply bdN | apply bdr | refine bS ?_ GE219.out) | exact HB.out))) : w.heap.size ≤ gb220)); have n5_ := Az.mk ((by rw [hg]; exact Nat.ne_of_lt (blk_lt (g := gb219) (o := .cells #[.slice A0_0 l0_0.length c0_0] 25 (0, 0)) (by (with_reducible repeat (first | refine blk_drewN ?_ _ | refine blk_drew ?_ | refine blk_alloc ?_ _)); exact BK219.out)) : gb219 ≠ gb220)); have n6_ := Az.mk ((by rw [hg]; exact Nat.ne_of_gt (blk_lt (g := gb219) (o := .cells #[.slice A0_0 l0_0.length c0_0] 25 (0, 0)) (by (with_reducible repeat (first | refine blk_drewN ?_ _ | refine blk_drew ?_ | refine blk_alloc ?_ _)); exact BK219.out)) : gb220 ≠ gb219)); clear BK219; clear HB; have BK219 := n0_; have HB := n1_; have BK220 := n2_; have GW220 := n3_; have GE220 := n4_; have NB219_220 := n5_; have NB220_219 := n6_; clear n0_ n1_ n2_ n3_ n4_ n5_ n6_; clear hb hbox hg; have hnb53 := NB220_219.out; have hnc53 := NB219_220.out; have hcz54_0 : w52.cell? ⟨gb220, 0, none⟩ = some (.int .i64 a1_0) := (bC BK220.out 0).trans rfl; have hcz54_1 : w52.cell? ⟨gb220, 1, none⟩ = some (.string a1_1) := (bC BK220.out 1).trans rfl; have hcz54_2 : w52.cell? ⟨gb220, 2, none⟩ = some (.int .i64 a1_2) := (bC BK220.out 2).trans rfl; have hfz54_0 := bF BK220.out 0; have hfz54_1 := bF BK220.out 1; have hfz54_2 := bF BK220.out 2))
       go_ret
       exact ⟨by first | rfl | (simp [errW_none, errW_some] <;> rfl) | (simp [*, errW_none, errW_some] <;> rfl), by repeat (first | (with_reducible first | exact HB.out | apply bal | apply bdN | apply bdr | refine bS ?_ GE219.out | refine bS ?_ GE220.out) | exact HB.out)⟩
     ·rw [if_neg c43] at H
      have c43b0 : (a1_0 == 4) = false := beq_eq_false_iff_ne.mpr c43
      have c43b1 : (a1_0 != 4) = true := bne_iff_ne.mpr c43
      obtain rfl := Option.some.inj H
      go_enter Try.func50, Try.ntmps50
      go_wp2_with (first | ((with_reducible refine gate_dst (N := 2) rfl ?_); (try (refine gate_guard (by rfl) ?_; dsimp only)); refine box_event ?hg (N := 2) ?hd (cs := #[.slice A0_0 l0_0.length c0_0]) (t := 25) ?hr ?_; (case hd => rfl); (case hg => rfl); (case hr => first | (go_simp; done) | (go_simp; rfl)); intro gb219 hg w55 hbox hb; have n0_ := Az.mk (below_step (by repeat (first | (with_reducible first | exact HB.out | apply bal | apply bdN | apply bdr) | exact HB.out)) hb); have n1_ := Az.mk (hbox); have n2_ := Az.mk ((by rw [hg]; exact (below_size (by repeat (first | (with_reducible first | exact HB.out | apply bal | apply bdN | apply bdr) | exact HB.out))) : w.heap.size ≤ gb219)); have n3_ := Az.mk ((by rw [hg]; exact (below_size (by repeat (first | (with_reducible first | exact HB.out | apply bal | apply bdN | apply bdr) | exact HB.out))) : w.heap.size ≤ gb219)); clear HB; have HB := n0_; have BK219 := n1_; have GW219 := n2_; have GE219 := n3_; clear n0_ n1_ n2_ n3_; clear hb hbox hg) | ((with_reducible refine gate_dst (N := 3) rfl ?_); (try (refine gate_guard (by rfl) ?_; dsimp only)); refine box_event ?hg (N := 3) ?hd (cs := #[.int .i64 a1_0, .string a1_1, .int .i64 a1_2]) (t := 31) ?hr ?_; (case hd => rfl); (case hg => rfl); (case hr => first | (go_simp; done) | (go_simp; rfl)); intro gb220 hg w56 hbox hb; have n0_ := Az.mk (blk_below (g := gb219) (o := .cells #[.slice A0_0 l0_0.length c0_0] 25 (0, 0)) (by (with_reducible repeat (first | refine blk_drewN ?_ _ | refine blk_drew ?_ | refine blk_alloc ?_ _)); exact BK219.out) hb); have n1_ := Az.mk (below_step (by repeat (first | (with_reducible first | exact HB.out | apply bal | apply bdN | apply bdr | refine bS ?_ GE219.out) | exact HB.out)) hb); have n2_ := Az.mk (hbox); have n3_ := Az.mk ((by rw [hg]; exact (below_size (by repeat (first | (with_reducible first | exact HB.out | apply bal | apply bdN | apply bdr | refine bS ?_ GE219.out) | exact HB.out))) : w.heap.size ≤ gb220)); have n4_ := Az.mk ((by rw [hg]; exact (below_size (by repeat (first | (with_reducible first | exact HB.out | apply bal | apply bdN | apply bdr | refine bS ?_ GE219.out) | exact HB.out))) : w.heap.size ≤ gb220)); have n5_ := Az.mk ((by rw [hg]; exact Nat.ne_of_lt (blk_lt (g := gb219) (o := .cells #[.slice A0_0 l0_0.length c0_0] 25 (0, 0)) (by (with_reducible repeat (first | refine blk_drewN ?_ _ | refine blk_drew ?_ | refine blk_alloc ?_ _)); exact BK219.out)) : gb219 ≠ gb220)); have n6_ := Az.mk ((by rw [hg]; exact Nat.ne_of_gt (blk_lt (g := gb219) (o := .cells #[.slice A0_0 l0_0.length c0_0] 25 (0, 0)) (by (with_reducible repeat (first | refine blk_drewN ?_ _ | refine blk_drew ?_ | refine blk_alloc ?_ _)); exact BK219.out)) : gb220 ≠ gb219)); clear BK219; clear HB; have BK219 := n0_; have HB := n1_; have BK220 := n2_; have GW220 := n3_; have GE220 := n4_; have NB219_220 := n5_; have NB220_219 := n6_; clear n0_ n1_ n2_ n3_ n4_ n5_ n6_; clear hb hbox hg; have hnb57 := NB220_219.out; have hnc57 := NB219_220.out; have hcz58_0 : w56.cell? ⟨gb220, 0, none⟩ = some (.int .i64 a1_0) := (bC BK220.out 0).trans rfl; have hcz58_1 : w56.cell? ⟨gb220, 1, none⟩ = some (.string a1_1) := (bC BK220.out 1).trans rfl; have hcz58_2 : w56.cell? ⟨gb220, 2, none⟩ = some (.int .i64 a1_2) := (bC BK220.out 2).trans rfl; have hfz58_0 := bF BK220.out 0; have hfz58_1 := bF BK220.out 1; have hfz58_2 := bF BK220.out 2))
      go_ret
      exact ⟨by first | rfl | (simp [errW_none, errW_some] <;> rfl) | (simp [*, errW_none, errW_some] <;> rfl), by repeat (first | (with_reducible first | exact HB.out | apply bal | apply bdN | apply bdr | refine bS ?_ GE219.out | refine bS ?_ GE220.out) | exact HB.out)⟩
def impl_Heap_valuesOk.l0 : Nat → List (S31) → Int → Int → List (S79) → Option (Bool)
 | 0, _, _, _, _ => none
 | k + 1, x7, x8, x9, x225000 => if x9 < x8 then (if 0 ≤ x9 then (if x9 < (x7.length : Int) then ((impl_Heap_valueOk.f k x225000 ((rd_T31 x7 x9).f0) ((rd_T31 x7 x9).f1) ((rd_T31 x7 x9).f2)).bind fun t227 => (if t227 = true then (impl_Heap_valuesOk.l0 k x7 x8 (wrap64 (x9 + 1)) x225000) else (some false))) else (none)) else (none)) else (some true)
def impl_Heap_valuesOk.f (k : Nat) (l0_0 : List (S79)) (l1 : List (S31)) : Option (Bool) := impl_Heap_valuesOk.l0 k l1 (l1.length : Int) 0 l0_0
theorem impl_Heap_valuesOk.calls (k : Nat) (A0_0 : Option Addr) (c0_0 : Nat) (l0_0 : List (S79)) (A1 : Option Addr) (c1 : Nat) (l1 : List (S31)) (r : Bool) (w : World) (hr0_0 : Kd.C k79 w A0_0 l0_0.length l0_0) (hc0_0 : l0_0.length ≤ c0_0) (hr1 : Kd.C k31 w A1 l1.length l1) (hc1 : l1.length ≤ c1) (h : impl_Heap_valuesOk.f k l0_0 l1 = some r) :
  Calls Try.prog 92 #[.agg #[.slice A0_0 l0_0.length c0_0], .slice A1 l1.length c1] w fun e w' => e = .returned (.bool r) ∧ Below w.heap.size w w' := by
 have hu25 := Try.underlying25
 have hu31 := Try.underlying31
 have HR0_0 := Az.mk hr0_0
 have HC0_0 := Az.mk hc0_0
 clear hr0_0 hc0_0
 have HR1 := Az.mk hr1
 have HC1 := Az.mk hc1
 clear hr1 hc1
 have HB := Az.mk (Below.refl w.heap.size w)
 have H : (impl_Heap_valuesOk.l0 k l1 (l1.length : Int) 0 l0_0) = some r := h
 clear h
 have H' := Az.mk H
 clear H
 go_enter Try.func92, Try.ntmps92
 go_wp2_with (first | ((with_reducible refine gate_dst (N := 2) rfl ?_); refine box_event ?hg (N := 2) ?hd (cs := #[.slice A0_0 l0_0.length c0_0]) (t := 25) ?hr ?_; (case hd => rfl); (case hg => rfl); (case hr => first | (go_simp; done) | (go_simp; rfl)); intro gb224 hg w3 hbox hb; have n0_ := Az.mk (below_step (by repeat (first | (with_reducible first | exact HB.out | apply bal | apply bdN | apply bdr) | exact HB.out)) hb); have n1_ := Az.mk (hbox); have n2_ := Az.mk ((by rw [hg]; exact (below_size (by repeat (first | (with_reducible first | exact HB.out | apply bal | apply bdN | apply bdr) | exact HB.out))) : w.heap.size ≤ gb224)); have n3_ := Az.mk ((by rw [hg]; exact (below_size (by repeat (first | (with_reducible first | exact HB.out | apply bal | apply bdN | apply bdr) | exact HB.out))) : w.heap.size ≤ gb224)); clear HB; have HB := n0_; have BK224 := n1_; have GW224 := n2_; have GE224 := n3_; clear n0_ n1_ n2_ n3_; clear hb hbox hg))
 go_loopg [9] k (fun kq v9 w' => ∃ (x9_1 : Int), v9 = .int .i64 x9_1 ∧ Az (impl_Heap_valuesOk.l0 kq l1 (l1.length : Int) x9_1 l0_0 = some r) ∧ Az (kq ≤ k) ∧ Az (w'.heap[gb224]? = some (.cells #[(.slice A0_0 l0_0.length c0_0)] 25 (0, 0))) ∧ Az (Below w.heap.size w w'))
 case atStart => exact ⟨(0), (by first | rfl | (simp; done) | (simp [*]; done)), H', ⟨Nat.le_refl _⟩, ⟨by (with_reducible repeat (first | refine blk_drewN ?_ _ | refine blk_drew ?_ | refine blk_alloc ?_ _)); exact BK224.out⟩, ⟨by repeat (first | (with_reducible first | exact HB.out | apply bal | apply bdN | apply bdr | refine bS ?_ GE224.out) | exact HB.out)⟩⟩
 case round =>
  clear H'
  try clear c1
  try clear p2
  obtain ⟨x9_1, rfl, HA, HK1, BK224, HB⟩ := hrel
  cases gk with
  | zero => exact absurd HA.out (by simp [impl_Heap_valuesOk.l0])
  | succ k1 =>
   have H := HA.out
   clear HA
   simp only [impl_Heap_valuesOk.l0] at H
   by_cases c4 : x9_1 < (l1.length : Int)
   ·rw [if_pos c4] at H
    have c4b0 : decide (x9_1 < (l1.length : Int)) = true := decide_eq_true c4
    clear c4
    by_cases c5 : 0 ≤ x9_1
    ·rw [if_pos c5] at H
     have c5b0 : decide (0 ≤ x9_1) = true := decide_eq_true c5
     clear c5
     by_cases c6 : x9_1 < (l1.length : Int)
     ·rw [if_pos c6] at H
      have c6b0 : decide (x9_1 < (l1.length : Int)) = true := decide_eq_true c6
      clear c6
      replace H := Option.bind_eq_some_iff.mp H
      obtain ⟨t227, A70, H⟩ := H
      replace H : (if t227 = true then (impl_Heap_valuesOk.l0 k1 l1 (l1.length : Int) (wrap64 (x9_1 + 1)) l0_0) else (some false)) = some r := H
      have A7 := Az.mk A70
      clear A70
      by_cases c8 : t227 = true
      ·subst c8
       have H1 : (impl_Heap_valuesOk.l0 k1 l1 (l1.length : Int) (wrap64 (x9_1 + 1)) l0_0) = some r := by rw [if_pos rfl] at H; exact H
       clear H
       have H := H1
       clear H1
       have H' := Az.mk H
       clear H
       have p225 : 0 ≤ (x9_1 : Int) := of_decide_eq_true (by first | (with_reducible assumption) | assumption)
       have q225 : x9_1 < (l1.length : Int) := of_decide_eq_true (by first | (with_reducible assumption) | assumption)
       obtain ⟨ad225, e225, hx225_0, hx225_1, hx225_2⟩ := at_T31 HR1.out x9_1 p225 q225
       cases e225
       replace hx225_0 := (HB.out.cell (World.block_lt_of_cell? w _ hx225_0)).trans hx225_0
       replace hx225_1 := (HB.out.cell (World.block_lt_of_cell? w _ hx225_1)).trans hx225_1
       replace hx225_2 := (HB.out.cell (World.block_lt_of_cell? w _ hx225_2)).trans hx225_2
       replace p225 := eq_true p225
       replace q225 := eq_true q225
       go_wp2_with (first | ((with_reducible refine gate_dst (N := 6) rfl ?_); refine box_event ?hg (N := 6) ?hd (cs := #[.int .i64 0, .string (⟨#[]⟩ : ByteArray), .int .i64 0]) (t := 31) ?hr ?_; (case hd => rfl); (case hg => rfl); (case hr => first | (go_simp; done) | (go_simp; rfl)); intro gb226 hg w9 hbox hb; have n0_ := Az.mk (blk_below (g := gb224) (o := .cells #[.slice A0_0 l0_0.length c0_0] 25 (0, 0)) (by (with_reducible repeat (first | refine blk_drewN ?_ _ | refine blk_drew ?_ | refine blk_alloc ?_ _)); exact BK224.out) hb); have n1_ := Az.mk (below_step (by repeat (first | (with_reducible first | exact HB.out | apply bal | apply bdN | apply bdr | refine bS ?_ GE224.out) | exact HB.out)) hb); have n2_ := Az.mk (hbox); have n3_ := Az.mk ((by rw [hg]; exact (below_size (by repeat (first | (with_reducible first | exact HB.out | apply bal | apply bdN | apply bdr | refine bS ?_ GE224.out) | exact HB.out))) : w.heap.size ≤ gb226)); have n4_ := Az.mk ((by rw [hg]; exact (below_size (by repeat (first | (with_reducible first | exact HB.out | apply bal | apply bdN | apply bdr | refine bS ?_ GE224.out) | exact HB.out))) : w.heap.size ≤ gb226)); have n5_ := Az.mk ((by rw [hg]; exact Nat.ne_of_lt (blk_lt (g := gb224) (o := .cells #[.slice A0_0 l0_0.length c0_0] 25 (0, 0)) (by (with_reducible repeat (first | refine blk_drewN ?_ _ | refine blk_drew ?_ | refine blk_alloc ?_ _)); exact BK224.out)) : gb224 ≠ gb226)); have n6_ := Az.mk ((by rw [hg]; exact Nat.ne_of_gt (blk_lt (g := gb224) (o := .cells #[.slice A0_0 l0_0.length c0_0] 25 (0, 0)) (by (with_reducible repeat (first | refine blk_drewN ?_ _ | refine blk_drew ?_ | refine blk_alloc ?_ _)); exact BK224.out)) : gb226 ≠ gb224)); clear BK224; clear HB; have BK224 := n0_; have HB := n1_; have BK226 := n2_; have GW226 := n3_; have GE226 := n4_; have NB224_226 := n5_; have NB226_224 := n6_; clear n0_ n1_ n2_ n3_ n4_ n5_ n6_; clear hb hbox hg; have hnb10 := NB226_224.out; have hnc10 := NB224_226.out; have hcz11_0 : w9.cell? ⟨gb226, 0, none⟩ = some (.int .i64 0) := (bC BK226.out 0).trans rfl; have hcz11_1 : w9.cell? ⟨gb226, 1, none⟩ = some (.string (⟨#[]⟩ : ByteArray)) := (bC BK226.out 1).trans rfl; have hcz11_2 : w9.cell? ⟨gb226, 2, none⟩ = some (.int .i64 0) := (bC BK226.out 2).trans rfl; have hfz11_0 := bF BK226.out 0; have hfz11_1 := bF BK226.out 1; have hfz11_2 := bF BK226.out 2; have hcz12_0 : w9.cell? ⟨gb224, 0, none⟩ = some (.slice A0_0 l0_0.length c0_0) := (bC BK224.out 0).trans rfl; have hfz12_0 := bF BK224.out 0) | ((with_reducible refine gate_callee (f := 50) rfl ?_); refine goesL_ (some 15) rfl rfl Try.func50 (by kernel_rfl) rfl #[.agg #[.slice A0_0 l0_0.length c0_0], .agg #[.int .i64 ((rd_T31 l1 x9_1).f0), .string ((rd_T31 l1 x9_1).f1), .int .i64 ((rd_T31 l1 x9_1).f2)]] rfl (by (try simp only [List.map_toArray, List.map_cons, List.map_nil]); first | done | rfl | (simp only [List.length_drop, List.length_take]; rfl)) ?_; (with_reducible refine (impl_Heap_valueOk.calls k1 _ _ l0_0 ((rd_T31 l1 x9_1).f0) ((rd_T31 l1 x9_1).f1) ((rd_T31 l1 x9_1).f2) true _ ?side1 ?side2 A7.out).mono ?_); (case side1 => exact Kd.C_below HR0_0.out (by repeat (first | (with_reducible first | exact HB.out | apply bal | apply bdN | apply bdr | refine bS ?_ GE224.out | refine bS ?_ GE226.out) | exact HB.out))); (case side2 => exact HC0_0.out); rintro e w13 ⟨rfl, hb⟩; refine ⟨_, rfl, ?_⟩; have n0_ := Az.mk (blk_below (g := gb224) (o := .cells #[.slice A0_0 l0_0.length c0_0] 25 (0, 0)) (by (with_reducible repeat (first | refine blk_drewN ?_ _ | refine blk_drew ?_ | refine blk_alloc ?_ _)); refine blk_far ?_ NB224_226.out _; (with_reducible repeat (first | refine blk_drewN ?_ _ | refine blk_drew ?_ | refine blk_alloc ?_ _)); refine blk_far ?_ NB224_226.out _; (with_reducible repeat (first | refine blk_drewN ?_ _ | refine blk_drew ?_ | refine blk_alloc ?_ _)); refine blk_far ?_ NB224_226.out _; (with_reducible repeat (first | refine blk_drewN ?_ _ | refine blk_drew ?_ | refine blk_alloc ?_ _)); exact BK224.out) hb); have n1_ := Az.mk (blk_below (g := gb226) (o := .cells #[.int .i64 ((rd_T31 l1 x9_1).f0), .string ((rd_T31 l1 x9_1).f1), .int .i64 ((rd_T31 l1 x9_1).f2)] 31 (0, 0)) (by (with_reducible repeat (first | refine blk_drewN ?_ _ | refine blk_drew ?_ | refine blk_alloc ?_ _)); refine blk_put (cs := #[.int .i64 ((rd_T31 l1 x9_1).f0), .string ((rd_T31 l1 x9_1).f1), .int .i64 0]) ?_ 2 _ rfl; (with_reducible repeat (first | refine blk_drewN ?_ _ | refine blk_drew ?_ | refine blk_alloc ?_ _)); refine blk_put (cs := #[.int .i64 ((rd_T31 l1 x9_1).f0), .string (⟨#[]⟩ : ByteArray), .int .i64 0]) ?_ 1 _ rfl; (with_reducible repeat (first | refine blk_drewN ?_ _ | refine blk_drew ?_ | refine blk_alloc ?_ _)); refine blk_put (cs := #[.int .i64 0, .string (⟨#[]⟩ : ByteArray), .int .i64 0]) ?_ 0 _ rfl; (with_reducible repeat (first | refine blk_drewN ?_ _ | refine blk_drew ?_ | refine blk_alloc ?_ _)); exact BK226.out) hb); have n2_ := Az.mk (below_step (by repeat (first | (with_reducible first | exact HB.out | apply bal | apply bdN | apply bdr | refine bS ?_ GE224.out | refine bS ?_ GE226.out) | exact HB.out)) hb); clear BK224; clear BK226; clear HB; have BK224 := n0_; have BK226 := n1_; have HB := n2_; clear n0_ n1_ n2_; (try clear hb); (try clear hb2); (try clear hk); (try clear hi)))
       go_roundg k1
       case measure => have := HK1.out; omega
       case rel => exact ⟨(wrap64 (x9_1 + 1)), (by first | rfl | (simp; done) | (simp [*]; done)), H', ⟨by have := HK1.out; omega⟩, ⟨by (with_reducible repeat (first | refine blk_drewN ?_ _ | refine blk_drew ?_ | refine blk_alloc ?_ _)); exact BK224.out⟩, ⟨by repeat (first | (with_reducible first | exact HB.out | apply bal | apply bdN | apply bdr | refine bS ?_ GE224.out | refine bS ?_ GE226.out) | exact HB.out)⟩⟩
      ·replace c8 := Bool.eq_false_iff.mpr c8
       subst c8
       have H1 : (some false) = some r := by rw [if_neg (show ¬ (false = true) by decide)] at H; exact H
       clear H
       have H := H1
       clear H1
       obtain rfl := Option.some.inj H
       have p225 : 0 ≤ (x9_1 : Int) := of_decide_eq_true (by first | (with_reducible assumption) | assumption)
       have q225 : x9_1 < (l1.length : Int) := of_decide_eq_true (by first | (with_reducible assumption) | assumption)
       obtain ⟨ad225, e225, hx225_0, hx225_1, hx225_2⟩ := at_T31 HR1.out x9_1 p225 q225
       cases e225
       replace hx225_0 := (HB.out.cell (World.block_lt_of_cell? w _ hx225_0)).trans hx225_0
       replace hx225_1 := (HB.out.cell (World.block_lt_of_cell? w _ hx225_1)).trans hx225_1
       replace hx225_2 := (HB.out.cell (World.block_lt_of_cell? w _ hx225_2)).trans hx225_2
       replace p225 := eq_true p225
       replace q225 := eq_true q225
       go_wp2_with (first | ((with_reducible refine gate_dst (N := 6) rfl ?_); refine box_event ?hg (N := 6) ?hd (cs := #[.int .i64 0, .string (⟨#[]⟩ : ByteArray), .int .i64 0]) (t := 31) ?hr ?_; (case hd => rfl); (case hg => rfl); (case hr => first | (go_simp; done) | (go_simp; rfl)); intro gb226 hg w14 hbox hb; have n0_ := Az.mk (blk_below (g := gb224) (o := .cells #[.slice A0_0 l0_0.length c0_0] 25 (0, 0)) (by (with_reducible repeat (first | refine blk_drewN ?_ _ | refine blk_drew ?_ | refine blk_alloc ?_ _)); exact BK224.out) hb); have n1_ := Az.mk (below_step (by repeat (first | (with_reducible first | exact HB.out | apply bal | apply bdN | apply bdr | refine bS ?_ GE224.out) | exact HB.out)) hb); have n2_ := Az.mk (hbox); have n3_ := Az.mk ((by rw [hg]; exact (below_size (by repeat (first | (with_reducible first | exact HB.out | apply bal | apply bdN | apply bdr | refine bS ?_ GE224.out) | exact HB.out))) : w.heap.size ≤ gb226)); have n4_ := Az.mk ((by rw [hg]; exact (below_size (by repeat (first | (with_reducible first | exact HB.out | apply bal | apply bdN | apply bdr | refine bS ?_ GE224.out) | exact HB.out))) : w.heap.size ≤ gb226)); have n5_ := Az.mk ((by rw [hg]; exact Nat.ne_of_lt (blk_lt (g := gb224) (o := .cells #[.slice A0_0 l0_0.length c0_0] 25 (0, 0)) (by (with_reducible repeat (first | refine blk_drewN ?_ _ | refine blk_drew ?_ | refine blk_alloc ?_ _)); exact BK224.out)) : gb224 ≠ gb226)); have n6_ := Az.mk ((by rw [hg]; exact Nat.ne_of_gt (blk_lt (g := gb224) (o := .cells #[.slice A0_0 l0_0.length c0_0] 25 (0, 0)) (by (with_reducible repeat (first | refine blk_drewN ?_ _ | refine blk_drew ?_ | refine blk_alloc ?_ _)); exact BK224.out)) : gb226 ≠ gb224)); clear BK224; clear HB; have BK224 := n0_; have HB := n1_; have BK226 := n2_; have GW226 := n3_; have GE226 := n4_; have NB224_226 := n5_; have NB226_224 := n6_; clear n0_ n1_ n2_ n3_ n4_ n5_ n6_; clear hb hbox hg; have hnb15 := NB226_224.out; have hnc15 := NB224_226.out; have hcz16_0 : w14.cell? ⟨gb226, 0, none⟩ = some (.int .i64 0) := (bC BK226.out 0).trans rfl; have hcz16_1 : w14.cell? ⟨gb226, 1, none⟩ = some (.string (⟨#[]⟩ : ByteArray)) := (bC BK226.out 1).trans rfl; have hcz16_2 : w14.cell? ⟨gb226, 2, none⟩ = some (.int .i64 0) := (bC BK226.out 2).trans rfl; have hfz16_0 := bF BK226.out 0; have hfz16_1 := bF BK226.out 1; have hfz16_2 := bF BK226.out 2; have hcz17_0 : w14.cell? ⟨gb224, 0, none⟩ = some (.slice A0_0 l0_0.length c0_0) := (bC BK224.out 0).trans rfl; have hfz17_0 := bF BK224.out 0) | ((with_reducible refine gate_callee (f := 50) rfl ?_); refine goesL_ (some 15) rfl rfl Try.func50 (by kernel_rfl) rfl #[.agg #[.slice A0_0 l0_0.length c0_0], .agg #[.int .i64 ((rd_T31 l1 x9_1).f0), .string ((rd_T31 l1 x9_1).f1), .int .i64 ((rd_T31 l1 x9_1).f2)]] rfl (by (try simp only [List.map_toArray, List.map_cons, List.map_nil]); first | done | rfl | (simp only [List.length_drop, List.length_take]; rfl)) ?_; (with_reducible refine (impl_Heap_valueOk.calls k1 _ _ l0_0 ((rd_T31 l1 x9_1).f0) ((rd_T31 l1 x9_1).f1) ((rd_T31 l1 x9_1).f2) false _ ?side1 ?side2 A7.out).mono ?_); (case side1 => exact Kd.C_below HR0_0.out (by repeat (first | (with_reducible first | exact HB.out | apply bal | apply bdN | apply bdr | refine bS ?_ GE224.out | refine bS ?_ GE226.out) | exact HB.out))); (case side2 => exact HC0_0.out); rintro e w18 ⟨rfl, hb⟩; refine ⟨_, rfl, ?_⟩; have n0_ := Az.mk (blk_below (g := gb224) (o := .cells #[.slice A0_0 l0_0.length c0_0] 25 (0, 0)) (by (with_reducible repeat (first | refine blk_drewN ?_ _ | refine blk_drew ?_ | refine blk_alloc ?_ _)); refine blk_far ?_ NB224_226.out _; (with_reducible repeat (first | refine blk_drewN ?_ _ | refine blk_drew ?_ | refine blk_alloc ?_ _)); refine blk_far ?_ NB224_226.out _; (with_reducible repeat (first | refine blk_drewN ?_ _ | refine blk_drew ?_ | refine blk_alloc ?_ _)); refine blk_far ?_ NB224_226.out _; (with_reducible repeat (first | refine blk_drewN ?_ _ | refine blk_drew ?_ | refine blk_alloc ?_ _)); exact BK224.out) hb); have n1_ := Az.mk (blk_below (g := gb226) (o := .cells #[.int .i64 ((rd_T31 l1 x9_1).f0), .string ((rd_T31 l1 x9_1).f1), .int .i64 ((rd_T31 l1 x9_1).f2)] 31 (0, 0)) (by (with_reducible repeat (first | refine blk_drewN ?_ _ | refine blk_drew ?_ | refine blk_alloc ?_ _)); refine blk_put (cs := #[.int .i64 ((rd_T31 l1 x9_1).f0), .string ((rd_T31 l1 x9_1).f1), .int .i64 0]) ?_ 2 _ rfl; (with_reducible repeat (first | refine blk_drewN ?_ _ | refine blk_drew ?_ | refine blk_alloc ?_ _)); refine blk_put (cs := #[.int .i64 ((rd_T31 l1 x9_1).f0), .string (⟨#[]⟩ : ByteArray), .int .i64 0]) ?_ 1 _ rfl; (with_reducible repeat (first | refine blk_drewN ?_ _ | refine blk_drew ?_ | refine blk_alloc ?_ _)); refine blk_put (cs := #[.int .i64 0, .string (⟨#[]⟩ : ByteArray), .int .i64 0]) ?_ 0 _ rfl; (with_reducible repeat (first | refine blk_drewN ?_ _ | refine blk_drew ?_ | refine blk_alloc ?_ _)); exact BK226.out) hb); have n2_ := Az.mk (below_step (by repeat (first | (with_reducible first | exact HB.out | apply bal | apply bdN | apply bdr | refine bS ?_ GE224.out | refine bS ?_ GE226.out) | exact HB.out)) hb); clear BK224; clear BK226; clear HB; have BK224 := n0_; have BK226 := n1_; have HB := n2_; clear n0_ n1_ n2_; (try clear hb); (try clear hb2); (try clear hk); (try clear hi)))
       go_ret
       exact ⟨by first | rfl | (simp [errW_none, errW_some] <;> rfl) | (simp [*, errW_none, errW_some] <;> rfl), by repeat (first | (with_reducible first | exact HB.out | apply bal | apply bdN | apply bdr | refine bS ?_ GE224.out | refine bS ?_ GE226.out) | exact HB.out)⟩
     ·rw [if_neg c6] at H
      exact absurd H (by simp)
    ·rw [if_neg c5] at H
     exact absurd H (by simp)
   ·rw [if_neg c4] at H
    have c4b0 : decide (x9_1 < (l1.length : Int)) = false := decide_eq_false c4
    clear c4
    obtain rfl := Option.some.inj H
    go_wp2
    go_ret
    exact ⟨by first | rfl | (simp [errW_none, errW_some] <;> rfl) | (simp [*, errW_none, errW_some] <;> rfl), by repeat (first | (with_reducible first | exact HB.out | apply bal | apply bdN | apply bdr | refine bS ?_ GE224.out) | exact HB.out)⟩
def slices_Index_string_string.l0 : Nat → List ByteArray → ByteArray → Int → Int → Option (Int)
 | 0, _, _, _, _ => none
 | k + 1, x0, x1, x7, x8 => if x8 < x7 then (if 0 ≤ x8 then (if x8 < (x0.length : Int) then (if x1.toList = (rdOf ByteArray.empty x0 x8).toList then (some x8) else (slices_Index_string_string.l0 k x0 x1 x7 (wrap64 (x8 + 1)))) else (none)) else (none)) else (some (-1))
def slices_Index_string_string.f (k : Nat) (l0 : List ByteArray) (a1 : ByteArray) : Option (Int) := slices_Index_string_string.l0 k l0 a1 (l0.length : Int) 0
theorem slices_Index_string_string.calls (k : Nat) (A0 : Option Addr) (c0 : Nat) (l0 : List ByteArray) (a1 : ByteArray) (r : Int) (w : World) (hr0 : Kd.C Kd.string w A0 l0.length l0) (hc0 : l0.length ≤ c0) (h : slices_Index_string_string.f k l0 a1 = some r) :
  Calls Try.prog 113 #[.slice A0 l0.length c0, .string a1] w fun e w' => e = .returned (.int .i64 r) ∧ Drawn0 w w' := by
 have HR0 := Az.mk hr0
 have HC0 := Az.mk hc0
 clear hr0 hc0
 have H : (slices_Index_string_string.l0 k l0 a1 (l0.length : Int) 0) = some r := h
 clear h
 have H' := Az.mk H
 clear H
 go_enter Try.func113, Try.ntmps113
 go_wp2
 go_loopg [8] k (fun kq v8 w' => ∃ (x8_1 : Int), v8 = .int .i64 x8_1 ∧ Az (slices_Index_string_string.l0 kq l0 a1 (l0.length : Int) x8_1 = some r) ∧ Az (kq ≤ k) ∧ Drawn0 w w')
 case atStart => exact ⟨(0), (by first | rfl | (simp; done) | (simp [*]; done)), H', ⟨Nat.le_refl _⟩, by repeat (first | exact Drawn0.refl _ | apply Drawn0.step)⟩
 case round =>
  clear H'
  try clear c1
  try clear p2
  obtain ⟨x8_1, rfl, HA, HK1, ⟨m1, rfl⟩⟩ := hrel
  cases gk with
  | zero => exact absurd HA.out (by simp [slices_Index_string_string.l0])
  | succ k1 =>
   have H := HA.out
   clear HA
   simp only [slices_Index_string_string.l0] at H
   by_cases c3 : x8_1 < (l0.length : Int)
   ·rw [if_pos c3] at H
    have c3b0 : decide (x8_1 < (l0.length : Int)) = true := decide_eq_true c3
    clear c3
    by_cases c4 : 0 ≤ x8_1
    ·rw [if_pos c4] at H
     have c4b0 : decide (0 ≤ x8_1) = true := decide_eq_true c4
     clear c4
     by_cases c5 : x8_1 < (l0.length : Int)
     ·rw [if_pos c5] at H
      have c5b0 : decide (x8_1 < (l0.length : Int)) = true := decide_eq_true c5
      clear c5
      by_cases c6 : a1.toList = (rdOf ByteArray.empty l0 x8_1).toList
      ·rw [if_pos c6] at H
       have c6b0 : (a1.toList == (rdOf ByteArray.empty l0 x8_1).toList) = true := beq_iff_eq.mpr c6
       have c6b1 : (a1.toList != (rdOf ByteArray.empty l0 x8_1).toList) = false := bne_eq_false_iff_eq.mpr c6
       clear c6
       obtain rfl := Option.some.inj H
       have p228 : 0 ≤ (x8_1 : Int) := of_decide_eq_true (by first | (with_reducible assumption) | assumption)
       have q228 : x8_1 < (l0.length : Int) := of_decide_eq_true (by first | (with_reducible assumption) | assumption)
       obtain ⟨ad228, e228, hx228_0⟩ := Kd.at_string HR0.out x8_1 p228 q228
       cases e228
       replace p228 := eq_true p228
       replace q228 := eq_true q228
       go_wp2
       go_ret
       exact ⟨by first | rfl | (simp; done) | (simp [*]; done), by repeat (first | exact Drawn0.refl _ | apply Drawn0.step)⟩
      ·rw [if_neg c6] at H
       have c6b0 : (a1.toList == (rdOf ByteArray.empty l0 x8_1).toList) = false := beq_eq_false_iff_ne.mpr c6
       have c6b1 : (a1.toList != (rdOf ByteArray.empty l0 x8_1).toList) = true := bne_iff_ne.mpr c6
       have H' := Az.mk H
       clear H
       have p228 : 0 ≤ (x8_1 : Int) := of_decide_eq_true (by first | (with_reducible assumption) | assumption)
       have q228 : x8_1 < (l0.length : Int) := of_decide_eq_true (by first | (with_reducible assumption) | assumption)
       obtain ⟨ad228, e228, hx228_0⟩ := Kd.at_string HR0.out x8_1 p228 q228
       cases e228
       replace p228 := eq_true p228
       replace q228 := eq_true q228
       go_wp2
       go_roundg k1
       case measure => have := HK1.out; omega
       case rel => exact ⟨(wrap64 (x8_1 + 1)), (by first | rfl | (simp; done) | (simp [*]; done)), H', ⟨by have := HK1.out; omega⟩, by repeat (first | exact Drawn0.refl _ | apply Drawn0.step)⟩
     ·rw [if_neg c5] at H
      exact absurd H (by simp)
    ·rw [if_neg c4] at H
     exact absurd H (by simp)
   ·rw [if_neg c3] at H
    have c3b0 : decide (x8_1 < (l0.length : Int)) = false := decide_eq_false c3
    clear c3
    obtain rfl := Option.some.inj H
    go_wp2
    go_ret
    exact ⟨by first | rfl | (simp; done) | (simp [*]; done), by repeat (first | exact Drawn0.refl _ | apply Drawn0.step)⟩
def slices_Contains_string_string.f (k : Nat) (l0 : List ByteArray) (a1 : ByteArray) : Option (Bool) := (slices_Index_string_string.f k l0 a1).bind fun t229 => (some (decide (t229 ≥ 0)))
theorem slices_Contains_string_string.calls (k : Nat) (A0 : Option Addr) (c0 : Nat) (l0 : List ByteArray) (a1 : ByteArray) (r : Bool) (w : World) (hr0 : Kd.C Kd.string w A0 l0.length l0) (hc0 : l0.length ≤ c0) (h : slices_Contains_string_string.f k l0 a1 = some r) :
  Calls Try.prog 93 #[.slice A0 l0.length c0, .string a1] w fun e w' => e = .returned (.bool r) ∧ Drawn0 w w' := by
 have HR0 := Az.mk hr0
 have HC0 := Az.mk hc0
 clear hr0 hc0
 have H : ((slices_Index_string_string.f k l0 a1).bind fun t229 => (some (decide (t229 ≥ 0)))) = some r := h
 clear h
 replace H := Option.bind_eq_some_iff.mp H
 obtain ⟨t229, A30, H⟩ := H
 replace H : (some (decide (t229 ≥ 0))) = some r := H
 have A3 := Az.mk A30
 clear A30
 obtain rfl := Option.some.inj H
 go_enter Try.func93, Try.ntmps93
 go_wp2_with (first | ((with_reducible refine gate_callee (f := 113) rfl ?_); refine goesL_ (some 7) rfl rfl Try.func113 (by kernel_rfl) rfl #[.slice A0 l0.length c0, .string a1] rfl (by (try simp only [List.map_toArray, List.map_cons, List.map_nil]); first | done | rfl | (simp only [List.length_drop, List.length_take]; rfl)) ?_; (with_reducible refine (slices_Index_string_string.calls k _ _ l0 a1 t229 _ ?side1 ?side2 A3.out).mono ?_); (case side1 => repeat (first | exact HR0.out | (with_reducible refine Kd.C_alloc ?_ _) | (with_reducible refine Kd.C_drewN ?_ _) | (with_reducible refine Kd.C_drew ?_))); (case side2 => exact HC0.out); rintro e w' ⟨rfl, ⟨nd, rfl⟩⟩; refine ⟨_, rfl, ?_⟩))
 go_ret
 exact ⟨by first | rfl | (simp; done) | (simp [*]; done), by repeat (first | exact Drawn0.refl _ | apply Drawn0.step)⟩
def impl_isDigit.f (a0 : Int) : Option (Bool) := if a0 ≥ 48 then (some (decide (a0 ≤ 57))) else (some false)
theorem impl_isDigit.calls (a0 : Int) (r : Bool) (w : World) (h : impl_isDigit.f a0 = some r) :
  Calls Try.prog 114 #[.int .u8 a0] w fun e w' => e = .returned (.bool r) ∧ Drawn0 w w' := by
 have H : (if a0 ≥ 48 then (some (decide (a0 ≤ 57))) else (some false)) = some r := h
 clear h
 by_cases c2 : a0 ≥ 48
 ·rw [if_pos c2] at H
  have c2b0 : decide (48 ≤ a0) = true := decide_eq_true c2
  clear c2
  obtain rfl := Option.some.inj H
  go_enter Try.func114, Try.ntmps114
  go_wp2
  go_ret
  exact ⟨by first | rfl | (simp; done) | (simp [*]; done), by repeat (first | exact Drawn0.refl _ | apply Drawn0.step)⟩
 ·rw [if_neg c2] at H
  have c2b0 : decide (48 ≤ a0) = false := decide_eq_false c2
  clear c2
  obtain rfl := Option.some.inj H
  go_enter Try.func114, Try.ntmps114
  go_wp2
  go_ret
  exact ⟨by first | rfl | (simp; done) | (simp [*]; done), by repeat (first | exact Drawn0.refl _ | apply Drawn0.step)⟩
def impl_keywords.f  : Option (List ByteArray) := some (([(⟨#[78, 111, 110, 101]⟩ : ByteArray), (⟨#[84, 114, 117, 101]⟩ : ByteArray), (⟨#[70, 97, 108, 115, 101]⟩ : ByteArray), (⟨#[97, 110, 100]⟩ : ByteArray), (⟨#[111, 114]⟩ : ByteArray), (⟨#[110, 111, 116]⟩ : ByteArray), (⟨#[105, 110]⟩ : ByteArray), (⟨#[105, 115]⟩ : ByteArray), (⟨#[105, 102]⟩ : ByteArray), (⟨#[101, 108, 105, 102]⟩ : ByteArray), (⟨#[101, 108, 115, 101]⟩ : ByteArray), (⟨#[119, 104, 105, 108, 101]⟩ : ByteArray), (⟨#[102, 111, 114]⟩ : ByteArray), (⟨#[98, 114, 101, 97, 107]⟩ : ByteArray), (⟨#[99, 111, 110, 116, 105, 110, 117, 101]⟩ : ByteArray), (⟨#[112, 97, 115, 115]⟩ : ByteArray), (⟨#[100, 101, 102]⟩ : ByteArray), (⟨#[114, 101, 116, 117, 114, 110]⟩ : ByteArray), (⟨#[108, 97, 109, 98, 100, 97]⟩ : ByteArray), (⟨#[99, 108, 97, 115, 115]⟩ : ByteArray), (⟨#[116, 114, 121]⟩ : ByteArray), (⟨#[101, 120, 99, 101, 112, 116]⟩ : ByteArray), (⟨#[102, 105, 110, 97, 108, 108, 121]⟩ : ByteArray), (⟨#[114, 97, 105, 115, 101]⟩ : ByteArray), (⟨#[97, 115]⟩ : ByteArray), (⟨#[103, 108, 111, 98, 97, 108]⟩ : ByteArray), (⟨#[110, 111, 110, 108, 111, 99, 97, 108]⟩ : ByteArray), (⟨#[121, 105, 101, 108, 100]⟩ : ByteArray), (⟨#[105, 109, 112, 111, 114, 116]⟩ : ByteArray), (⟨#[100, 101, 108]⟩ : ByteArray), (⟨#[97, 115, 115, 101, 114, 116]⟩ : ByteArray)] : List ByteArray))
theorem impl_keywords.calls  (r : List ByteArray) (w : World) (h : impl_keywords.f  = some r) :
  Calls Try.prog 133 #[] w fun e w' => ∃ v0_ : Value, e = .returned (v0_) ∧ Kd.R Kd.string 9 w' w.heap.size (fun _ => True) v0_ r ∧ Below w.heap.size w w' := by
 have HB := Az.mk (Below.refl w.heap.size w)
 have H : (some (([(⟨#[78, 111, 110, 101]⟩ : ByteArray), (⟨#[84, 114, 117, 101]⟩ : ByteArray), (⟨#[70, 97, 108, 115, 101]⟩ : ByteArray), (⟨#[97, 110, 100]⟩ : ByteArray), (⟨#[111, 114]⟩ : ByteArray), (⟨#[110, 111, 116]⟩ : ByteArray), (⟨#[105, 110]⟩ : ByteArray), (⟨#[105, 115]⟩ : ByteArray), (⟨#[105, 102]⟩ : ByteArray), (⟨#[101, 108, 105, 102]⟩ : ByteArray), (⟨#[101, 108, 115, 101]⟩ : ByteArray), (⟨#[119, 104, 105, 108, 101]⟩ : ByteArray), (⟨#[102, 111, 114]⟩ : ByteArray), (⟨#[98, 114, 101, 97, 107]⟩ : ByteArray), (⟨#[99, 111, 110, 116, 105, 110, 117, 101]⟩ : ByteArray), (⟨#[112, 97, 115, 115]⟩ : ByteArray), (⟨#[100, 101, 102]⟩ : ByteArray), (⟨#[114, 101, 116, 117, 114, 110]⟩ : ByteArray), (⟨#[108, 97, 109, 98, 100, 97]⟩ : ByteArray), (⟨#[99, 108, 97, 115, 115]⟩ : ByteArray), (⟨#[116, 114, 121]⟩ : ByteArray), (⟨#[101, 120, 99, 101, 112, 116]⟩ : ByteArray), (⟨#[102, 105, 110, 97, 108, 108, 121]⟩ : ByteArray), (⟨#[114, 97, 105, 115, 101]⟩ : ByteArray), (⟨#[97, 115]⟩ : ByteArray), (⟨#[103, 108, 111, 98, 97, 108]⟩ : ByteArray), (⟨#[110, 111, 110, 108, 111, 99, 97, 108]⟩ : ByteArray), (⟨#[121, 105, 101, 108, 100]⟩ : ByteArray), (⟨#[105, 109, 112, 111, 114, 116]⟩ : ByteArray), (⟨#[100, 101, 108]⟩ : ByteArray), (⟨#[97, 115, 115, 101, 114, 116]⟩ : ByteArray)] : List ByteArray))) = some r := h
 clear h
 obtain ⟨y230, hy230⟩ : ∃ y_ : List ByteArray, y_ = (([(⟨#[78, 111, 110, 101]⟩ : ByteArray), (⟨#[84, 114, 117, 101]⟩ : ByteArray), (⟨#[70, 97, 108, 115, 101]⟩ : ByteArray), (⟨#[97, 110, 100]⟩ : ByteArray), (⟨#[111, 114]⟩ : ByteArray), (⟨#[110, 111, 116]⟩ : ByteArray), (⟨#[105, 110]⟩ : ByteArray), (⟨#[105, 115]⟩ : ByteArray), (⟨#[105, 102]⟩ : ByteArray), (⟨#[101, 108, 105, 102]⟩ : ByteArray), (⟨#[101, 108, 115, 101]⟩ : ByteArray), (⟨#[119, 104, 105, 108, 101]⟩ : ByteArray), (⟨#[102, 111, 114]⟩ : ByteArray), (⟨#[98, 114, 101, 97, 107]⟩ : ByteArray), (⟨#[99, 111, 110, 116, 105, 110, 117, 101]⟩ : ByteArray), (⟨#[112, 97, 115, 115]⟩ : ByteArray), (⟨#[100, 101, 102]⟩ : ByteArray), (⟨#[114, 101, 116, 117, 114, 110]⟩ : ByteArray), (⟨#[108, 97, 109, 98, 100, 97]⟩ : ByteArray), (⟨#[99, 108, 97, 115, 115]⟩ : ByteArray), (⟨#[116, 114, 121]⟩ : ByteArray), (⟨#[101, 120, 99, 101, 112, 116]⟩ : ByteArray), (⟨#[102, 105, 110, 97, 108, 108, 121]⟩ : ByteArray), (⟨#[114, 97, 105, 115, 101]⟩ : ByteArray), (⟨#[97, 115]⟩ : ByteArray), (⟨#[103, 108, 111, 98, 97, 108]⟩ : ByteArray), (⟨#[110, 111, 110, 108, 111, 99, 97, 108]⟩ : ByteArray), (⟨#[121, 105, 101, 108, 100]⟩ : ByteArray), (⟨#[105, 109, 112, 111, 114, 116]⟩ : ByteArray), (⟨#[100, 101, 108]⟩ : ByteArray), (⟨#[97, 115, 115, 101, 114, 116]⟩ : ByteArray)] : List ByteArray)) := ⟨_, rfl⟩
 replace H : (some y230) = some r := by first | (rw [hy230]; with_reducible exact H) | (have H2_ := (Option.bind_some _ _).symm.trans H; rw [hy230]; with_reducible exact H2_) | (have H2_ := (Option.bind_some _ _).symm.trans H; with_reducible exact H2_) | with_reducible exact H | (rw [hy230]; exact H) | exact H
 have Ny230 := Az.mk hy230
 clear hy230
 obtain rfl := Option.some.inj H
 go_enter Try.func133, Try.ntmps133
 go_wp2_with (first | ((with_reducible refine gate_dst (N := 1) rfl ?_); refine Kd.R_lit Kd.string _ 9 ?hg (N := 1) ?hd (xs := ([(⟨#[78, 111, 110, 101]⟩ : ByteArray), (⟨#[84, 114, 117, 101]⟩ : ByteArray), (⟨#[70, 97, 108, 115, 101]⟩ : ByteArray), (⟨#[97, 110, 100]⟩ : ByteArray), (⟨#[111, 114]⟩ : ByteArray), (⟨#[110, 111, 116]⟩ : ByteArray), (⟨#[105, 110]⟩ : ByteArray), (⟨#[105, 115]⟩ : ByteArray), (⟨#[105, 102]⟩ : ByteArray), (⟨#[101, 108, 105, 102]⟩ : ByteArray), (⟨#[101, 108, 115, 101]⟩ : ByteArray), (⟨#[119, 104, 105, 108, 101]⟩ : ByteArray), (⟨#[102, 111, 114]⟩ : ByteArray), (⟨#[98, 114, 101, 97, 107]⟩ : ByteArray), (⟨#[99, 111, 110, 116, 105, 110, 117, 101]⟩ : ByteArray), (⟨#[112, 97, 115, 115]⟩ : ByteArray), (⟨#[100, 101, 102]⟩ : ByteArray), (⟨#[114, 101, 116, 117, 114, 110]⟩ : ByteArray), (⟨#[108, 97, 109, 98, 100, 97]⟩ : ByteArray), (⟨#[99, 108, 97, 115, 115]⟩ : ByteArray), (⟨#[116, 114, 121]⟩ : ByteArray), (⟨#[101, 120, 99, 101, 112, 116]⟩ : ByteArray), (⟨#[102, 105, 110, 97, 108, 108, 121]⟩ : ByteArray), (⟨#[114, 97, 105, 115, 101]⟩ : ByteArray), (⟨#[97, 115]⟩ : ByteArray), (⟨#[103, 108, 111, 98, 97, 108]⟩ : ByteArray), (⟨#[110, 111, 110, 108, 111, 99, 97, 108]⟩ : ByteArray), (⟨#[121, 105, 101, 108, 100]⟩ : ByteArray), (⟨#[105, 109, 112, 111, 114, 116]⟩ : ByteArray), (⟨#[100, 101, 108]⟩ : ByteArray), (⟨#[97, 115, 115, 101, 114, 116]⟩ : ByteArray)] : List ByteArray)) (inner := [.string (⟨#[78, 111, 110, 101]⟩ : ByteArray), .string (⟨#[84, 114, 117, 101]⟩ : ByteArray), .string (⟨#[70, 97, 108, 115, 101]⟩ : ByteArray), .string (⟨#[97, 110, 100]⟩ : ByteArray), .string (⟨#[111, 114]⟩ : ByteArray), .string (⟨#[110, 111, 116]⟩ : ByteArray), .string (⟨#[105, 110]⟩ : ByteArray), .string (⟨#[105, 115]⟩ : ByteArray), .string (⟨#[105, 102]⟩ : ByteArray), .string (⟨#[101, 108, 105, 102]⟩ : ByteArray), .string (⟨#[101, 108, 115, 101]⟩ : ByteArray), .string (⟨#[119, 104, 105, 108, 101]⟩ : ByteArray), .string (⟨#[102, 111, 114]⟩ : ByteArray), .string (⟨#[98, 114, 101, 97, 107]⟩ : ByteArray), .string (⟨#[99, 111, 110, 116, 105, 110, 117, 101]⟩ : ByteArray), .string (⟨#[112, 97, 115, 115]⟩ : ByteArray), .string (⟨#[100, 101, 102]⟩ : ByteArray), .string (⟨#[114, 101, 116, 117, 114, 110]⟩ : ByteArray), .string (⟨#[108, 97, 109, 98, 100, 97]⟩ : ByteArray), .string (⟨#[99, 108, 97, 115, 115]⟩ : ByteArray), .string (⟨#[116, 114, 121]⟩ : ByteArray), .string (⟨#[101, 120, 99, 101, 112, 116]⟩ : ByteArray), .string (⟨#[102, 105, 110, 97, 108, 108, 121]⟩ : ByteArray), .string (⟨#[114, 97, 105, 115, 101]⟩ : ByteArray), .string (⟨#[97, 115]⟩ : ByteArray), .string (⟨#[103, 108, 111, 98, 97, 108]⟩ : ByteArray), .string (⟨#[110, 111, 110, 108, 111, 99, 97, 108]⟩ : ByteArray), .string (⟨#[121, 105, 101, 108, 100]⟩ : ByteArray), .string (⟨#[105, 109, 112, 111, 114, 116]⟩ : ByteArray), .string (⟨#[100, 101, 108]⟩ : ByteArray), .string (⟨#[97, 115, 115, 101, 114, 116]⟩ : ByteArray)]) (ok := fun _ => True) (okp := fun _ => True) ?hr ?hp (fun _ hk => hk) trivial (Below.refl _ _) (Nat.le_refl _) (by simp) ?_; (case hd => rfl); (case hg => rfl); (case hr => first | (go_simp; done) | (go_simp; rfl)); (case hp => exact (Reps.one (show Kd.M Kd.string _ _ _ (⟨#[78, 111, 110, 101]⟩ : ByteArray) [.string (⟨#[78, 111, 110, 101]⟩ : ByteArray)] from rfl) (Reps.one (show Kd.M Kd.string _ _ _ (⟨#[84, 114, 117, 101]⟩ : ByteArray) [.string (⟨#[84, 114, 117, 101]⟩ : ByteArray)] from rfl) (Reps.one (show Kd.M Kd.string _ _ _ (⟨#[70, 97, 108, 115, 101]⟩ : ByteArray) [.string (⟨#[70, 97, 108, 115, 101]⟩ : ByteArray)] from rfl) (Reps.one (show Kd.M Kd.string _ _ _ (⟨#[97, 110, 100]⟩ : ByteArray) [.string (⟨#[97, 110, 100]⟩ : ByteArray)] from rfl) (Reps.one (show Kd.M Kd.string _ _ _ (⟨#[111, 114]⟩ : ByteArray) [.string (⟨#[111, 114]⟩ : ByteArray)] from rfl) (Reps.one (show Kd.M Kd.string _ _ _ (⟨#[110, 111, 116]⟩ : ByteArray) [.string (⟨#[110, 111, 116]⟩ : ByteArray)] from rfl) (Reps.one (show Kd.M Kd.string _ _ _ (⟨#[105, 110]⟩ : ByteArray) [.string (⟨#[105, 110]⟩ : ByteArray)] from rfl) (Reps.one (show Kd.M Kd.string _ _ _ (⟨#[105, 115]⟩ : ByteArray) [.string (⟨#[105, 115]⟩ : ByteArray)] from rfl) (Reps.one (show Kd.M Kd.string _ _ _ (⟨#[105, 102]⟩ : ByteArray) [.string (⟨#[105, 102]⟩ : ByteArray)] from rfl) (Reps.one (show Kd.M Kd.string _ _ _ (⟨#[101, 108, 105, 102]⟩ : ByteArray) [.string (⟨#[101, 108, 105, 102]⟩ : ByteArray)] from rfl) (Reps.one (show Kd.M Kd.string _ _ _ (⟨#[101, 108, 115, 101]⟩ : ByteArray) [.string (⟨#[101, 108, 115, 101]⟩ : ByteArray)] from rfl) (Reps.one (show Kd.M Kd.string _ _ _ (⟨#[119, 104, 105, 108, 101]⟩ : ByteArray) [.string (⟨#[119, 104, 105, 108, 101]⟩ : ByteArray)] from rfl) (Reps.one (show Kd.M Kd.string _ _ _ (⟨#[102, 111, 114]⟩ : ByteArray) [.string (⟨#[102, 111, 114]⟩ : ByteArray)] from rfl) (Reps.one (show Kd.M Kd.string _ _ _ (⟨#[98, 114, 101, 97, 107]⟩ : ByteArray) [.string (⟨#[98, 114, 101, 97, 107]⟩ : ByteArray)] from rfl) (Reps.one (show Kd.M Kd.string _ _ _ (⟨#[99, 111, 110, 116, 105, 110, 117, 101]⟩ : ByteArray) [.string (⟨#[99, 111, 110, 116, 105, 110, 117, 101]⟩ : ByteArray)] from rfl) (Reps.one (show Kd.M Kd.string _ _ _ (⟨#[112, 97, 115, 115]⟩ : ByteArray) [.string (⟨#[112, 97, 115, 115]⟩ : ByteArray)] from rfl) (Reps.one (show Kd.M Kd.string _ _ _ (⟨#[100, 101, 102]⟩ : ByteArray) [.string (⟨#[100, 101, 102]⟩ : ByteArray)] from rfl) (Reps.one (show Kd.M Kd.string _ _ _ (⟨#[114, 101, 116, 117, 114, 110]⟩ : ByteArray) [.string (⟨#[114, 101, 116, 117, 114, 110]⟩ : ByteArray)] from rfl) (Reps.one (show Kd.M Kd.string _ _ _ (⟨#[108, 97, 109, 98, 100, 97]⟩ : ByteArray) [.string (⟨#[108, 97, 109, 98, 100, 97]⟩ : ByteArray)] from rfl) (Reps.one (show Kd.M Kd.string _ _ _ (⟨#[99, 108, 97, 115, 115]⟩ : ByteArray) [.string (⟨#[99, 108, 97, 115, 115]⟩ : ByteArray)] from rfl) (Reps.one (show Kd.M Kd.string _ _ _ (⟨#[116, 114, 121]⟩ : ByteArray) [.string (⟨#[116, 114, 121]⟩ : ByteArray)] from rfl) (Reps.one (show Kd.M Kd.string _ _ _ (⟨#[101, 120, 99, 101, 112, 116]⟩ : ByteArray) [.string (⟨#[101, 120, 99, 101, 112, 116]⟩ : ByteArray)] from rfl) (Reps.one (show Kd.M Kd.string _ _ _ (⟨#[102, 105, 110, 97, 108, 108, 121]⟩ : ByteArray) [.string (⟨#[102, 105, 110, 97, 108, 108, 121]⟩ : ByteArray)] from rfl) (Reps.one (show Kd.M Kd.string _ _ _ (⟨#[114, 97, 105, 115, 101]⟩ : ByteArray) [.string (⟨#[114, 97, 105, 115, 101]⟩ : ByteArray)] from rfl) (Reps.one (show Kd.M Kd.string _ _ _ (⟨#[97, 115]⟩ : ByteArray) [.string (⟨#[97, 115]⟩ : ByteArray)] from rfl) (Reps.one (show Kd.M Kd.string _ _ _ (⟨#[103, 108, 111, 98, 97, 108]⟩ : ByteArray) [.string (⟨#[103, 108, 111, 98, 97, 108]⟩ : ByteArray)] from rfl) (Reps.one (show Kd.M Kd.string _ _ _ (⟨#[110, 111, 110, 108, 111, 99, 97, 108]⟩ : ByteArray) [.string (⟨#[110, 111, 110, 108, 111, 99, 97, 108]⟩ : ByteArray)] from rfl) (Reps.one (show Kd.M Kd.string _ _ _ (⟨#[121, 105, 101, 108, 100]⟩ : ByteArray) [.string (⟨#[121, 105, 101, 108, 100]⟩ : ByteArray)] from rfl) (Reps.one (show Kd.M Kd.string _ _ _ (⟨#[105, 109, 112, 111, 114, 116]⟩ : ByteArray) [.string (⟨#[105, 109, 112, 111, 114, 116]⟩ : ByteArray)] from rfl) (Reps.one (show Kd.M Kd.string _ _ _ (⟨#[100, 101, 108]⟩ : ByteArray) [.string (⟨#[100, 101, 108]⟩ : ByteArray)] from rfl) (Reps.one (show Kd.M Kd.string _ _ _ (⟨#[97, 115, 115, 101, 114, 116]⟩ : ByteArray) [.string (⟨#[97, 115, 115, 101, 114, 116]⟩ : ByteArray)] from rfl) (Reps.none _ _))))))))))))))))))))))))))))))))); intro v231 w1 ho2 hb hg_ hnew_; clear hg_ hnew_; (first | rw [← Ny230.out] at ho2 | (simp only [Int.reduceToNat] at ho2; rw [← Ny230.out] at ho2)); have n0_ := Az.mk (Kd.R_lower ho2 (below_size (by repeat (first | (with_reducible first | exact HB.out | apply bal | apply bdN | apply bdr) | exact HB.out)))); have n1_ := Az.mk (below_step (by repeat (first | (with_reducible first | exact HB.out | apply bal | apply bdN | apply bdr) | exact HB.out)) hb); clear HB; have HO232 := n0_; have HB := n1_; clear n0_ n1_; clear hb ho2))
 go_ret
 exact ⟨_, by first | rfl | (simp [errW_none, errW_some] <;> rfl) | (simp [*, errW_none, errW_some] <;> rfl), by (with_reducible repeat (first | apply Kd.R_alloc | apply Kd.R_drewN | apply Kd.R_drew)); exact HO232.out, by repeat (first | (with_reducible first | exact HB.out | apply bal | apply bdN | apply bdr) | exact HB.out)⟩
def impl_IsKeyword.f (k : Nat) (a0 : ByteArray) : Option (Bool) := (impl_keywords.f).bind fun t233 => ((slices_Contains_string_string.f k t233 a0).bind fun t236 => (some t236))
theorem impl_IsKeyword.calls (k : Nat) (a0 : ByteArray) (r : Bool) (w : World) (h : impl_IsKeyword.f k a0 = some r) :
  Calls Try.prog 115 #[.string a0] w fun e w' => e = .returned (.bool r) ∧ Below w.heap.size w w' := by
 have HB := Az.mk (Below.refl w.heap.size w)
 have H : ((impl_keywords.f).bind fun t233 => ((slices_Contains_string_string.f k t233 a0).bind fun t236 => (some t236))) = some r := h
 clear h
 replace H := Option.bind_eq_some_iff.mp H
 obtain ⟨t233, A20, H⟩ := H
 replace H : ((slices_Contains_string_string.f k t233 a0).bind fun t236 => (some t236)) = some r := H
 have A2 := Az.mk A20
 clear A20
 replace H := Option.bind_eq_some_iff.mp H
 obtain ⟨t236, A30, H⟩ := H
 replace H : (some t236) = some r := H
 have A3 := Az.mk A30
 clear A30
 obtain rfl := Option.some.inj H
 go_enter Try.func115, Try.ntmps115
 go_wp2_with (first | ((with_reducible refine gate_callee (f := 133) rfl ?_); refine goesL_ (some 3) rfl rfl Try.func133 (by kernel_rfl) rfl #[] rfl (by (try simp only [List.map_toArray, List.map_cons, List.map_nil]); first | done | rfl | (simp only [List.length_drop, List.length_take]; rfl)) ?_; (with_reducible refine (impl_keywords.calls  t233 _ A2.out).mono ?_); rintro e w4 ⟨v234, rfl, ho0, hb⟩; refine ⟨_, rfl, ?_⟩; have n0_ := Az.mk (Kd.R_lower ho0 (below_size (by repeat (first | (with_reducible first | exact HB.out | apply bal | apply bdN | apply bdr) | exact HB.out)))); have n1_ := Az.mk (below_step (by repeat (first | (with_reducible first | exact HB.out | apply bal | apply bdN | apply bdr) | exact HB.out)) hb); clear HB; have HO235 := n0_; have HB := n1_; clear n0_ n1_; (try clear hb); (try clear hb2); (try clear hk); (try clear hi); (try clear ho0); obtain ⟨Ao5, co5, eo5⟩ := Kd.R_slice HO235.out; subst eo5) | ((with_reducible refine gate_callee (f := 93) rfl ?_); refine goesL_ (some 5) rfl rfl Try.func93 (by kernel_rfl) rfl #[.slice Ao5 t233.length co5, .string a0] rfl (by (try simp only [List.map_toArray, List.map_cons, List.map_nil]); first | done | rfl | (simp only [List.length_drop, List.length_take]; rfl)) ?_; (with_reducible refine (slices_Contains_string_string.calls k _ _ t233 a0 t236 _ ?side1 ?side2 A3.out).mono ?_); (case side1 => repeat (first | exact (Kd.R_reads' HO235.out).2.2 | (with_reducible refine Kd.C_alloc ?_ _) | (with_reducible refine Kd.C_drewN ?_ _) | (with_reducible refine Kd.C_drew ?_))); (case side2 => exact (Kd.R_reads' HO235.out).2.1); rintro e w' ⟨rfl, ⟨nd, rfl⟩⟩; refine ⟨_, rfl, ?_⟩))
 go_ret
 exact ⟨by first | rfl | (simp [errW_none, errW_some] <;> rfl) | (simp [*, errW_none, errW_some] <;> rfl), by repeat (first | (with_reducible first | exact HB.out | apply bal | apply bdN | apply bdr) | exact HB.out)⟩
end Go.Proofs.Ytehhhlhedmfdiaa.PFnHeapNewShows
end
