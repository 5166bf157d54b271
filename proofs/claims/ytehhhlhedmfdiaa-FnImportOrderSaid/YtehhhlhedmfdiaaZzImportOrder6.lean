/- FnImportOrder holds of every input: without circles and failures each module that a whole module imports stands ahead of it; no condition. Part 6 of 7: what the proof needs. -/
import Derived.Test.YtehhhlhedmfdiaaZzImportOrder5
import Derived.Lib.Strings
set_option maxHeartbeats 8000000
set_option maxRecDepth 100000
section
namespace Go.Proofs.Ytehhhlhedmfdiaa.PFnImportOrder
open Go.RowKit Go.Proofs.Yz0.PrintWords Go.Proofs.Yz0.PrintLast Go.Proofs.Yz0.PrintMore
attribute [local go_sem] max2_int min2_int max_two min_two max_three min_three max_four min_four
set_option linter.unusedVariables false
set_option linter.unusedSimpArgs false
mutual
def laws_FnImportOrder.l0 : Nat → List (S72) → Int → List Int → List Int → List Int → List ByteArray → List Int → Option (Bool)
 | 0, _, _, _, _, _, _, _ => none
 | k + 1, x3, x6, x349000, x349001, x349002, x349003, x349004 => if x6 < (x349001.length : Int) then (if 0 ≤ x6 then ((impl_ImportCircle.f k x3 (rd x349001 x6)).bind fun t366 => (if t366 = true then (laws_FnImportOrder.l0 k x3 (wrap64 (x6 + 1)) x349000 x349001 x349002 x349003 x349004) else (laws_FnImportOrder.l1 k x3 x6 (rd x349001 x6) 0 x349000 x349001 x349002 x349003 x349004))) else (none)) else (some true)
def laws_FnImportOrder.l1 : Nat → List (S72) → Int → Int → Int → List Int → List Int → List Int → List ByteArray → List Int → Option (Bool)
 | 0, _, _, _, _, _, _, _, _, _ => none
 | k + 1, x3, x6, x7, x8, x349000, x349001, x349002, x349003, x349004 => if 0 ≤ x7 then (if x7 < (x3.length : Int) then (if x8 < (((rX x3 x7).f0).length : Int) then (if 0 ≤ x8 then (if ((rY ((rX x3 x7).f0) x8).f0) = 1 then (if 0 ≤ x6 then (if x6 ≤ (x349001.length : Int) then ((spec_HasInt.f k (x349001.take (x6 : Int).toNat) ((rY ((rX x3 x7).f0) x8).f1)).bind fun t375 => (if t375 = true then (laws_FnImportOrder.l1 k x3 x6 x7 (wrap64 (x8 + 1)) x349000 x349001 x349002 x349003 x349004) else (some false))) else (none)) else (none)) else (laws_FnImportOrder.l1 k x3 x6 x7 (wrap64 (x8 + 1)) x349000 x349001 x349002 x349003 x349004)) else (none)) else (laws_FnImportOrder.l0 k x3 (wrap64 (x6 + 1)) x349000 x349001 x349002 x349003 x349004)) else (none)) else (none)
end
def laws_FnImportOrder.f (k : Nat) (l0 : List Int) : Option (Bool) := if (l0.length : Int) > 1048576 then (some true) else ((spec_DrawImportRun.f k l0).bind fun bt327 => ((impl_ImportRun.f k bt327.1 bt327.2).bind fun bt333 => ((spec_ImportRun.f k bt327.1 bt327.2).bind fun bt349 => ((spec_SameImports.f k bt333.1 bt333.2.1 bt333.2.2.1 bt333.2.2.2.1 bt333.2.2.2.2 bt349.1 bt349.2.1 bt349.2.2.1 bt349.2.2.2.1 bt349.2.2.2.2).bind fun t364 => (if t364 = true then (laws_FnImportOrder.l0 k bt327.1 0 bt333.1 bt333.2.1 bt333.2.2.1 bt333.2.2.2.1 bt333.2.2.2.2) else (some false))))))
def laws_FnImportOrder.T16 : Bool × List (List Nat × List Nat) := (true, [([], []), ([0], [0]), ([1], [1]), ([2], [2]), ([3], [3]), ([4, 3], [3, 4]), ([3], [3]), ([5, 6, 3], [3, 5, 6]), ([3], [3]), ([8, 3], [3, 8]), ([7, 9, 3, 3], [3, 7, 9]), ([10, 3], [3, 10]), ([3, 11], [3, 11])])
def laws_FnImportOrder.B16 : List Nat := [0, 1, 3, 7, 15, 31, 15, 127, 15, 271, 1023, 2047, 4095]
theorem laws_FnImportOrder.tab16 : rtab .any (opsOf Try.f8 16) = laws_FnImportOrder.T16 := by kernel_rfl
theorem laws_FnImportOrder.bits16 : waitsOk laws_FnImportOrder.T16.2 laws_FnImportOrder.B16 = true := by kernel_rfl
theorem laws_FnImportOrder.calls (k : Nat) (A0 : Option Addr) (c0 : Nat) (l0 : List Int) (r : Bool) (w : World) (hr0 : Kd.C (Kd.int .u8) w A0 l0.length l0) (hc0 : l0.length ≤ c0) (h : laws_FnImportOrder.f k l0 = some r) :
  Calls Try.prog 8 #[.slice A0 l0.length c0] w fun e w' => e = .returned (.bool r) ∧ Below w.heap.size w w' := by
 have hu48 := Try.underlying48
 have hu74 := Try.underlying74
 have HR0 := Az.mk hr0
 have HC0 := Az.mk hc0
 clear hr0 hc0
 have HB := Az.mk (Below.refl w.heap.size w)
 have H : (if (l0.length : Int) > 1048576 then (some true) else ((spec_DrawImportRun.f k l0).bind fun bt327 => ((impl_ImportRun.f k bt327.1 bt327.2).bind fun bt333 => ((spec_ImportRun.f k bt327.1 bt327.2).bind fun bt349 => ((spec_SameImports.f k bt333.1 bt333.2.1 bt333.2.2.1 bt333.2.2.2.1 bt333.2.2.2.2 bt349.1 bt349.2.1 bt349.2.2.1 bt349.2.2.2.1 bt349.2.2.2.2).bind fun t364 => (if t364 = true then (laws_FnImportOrder.l0 k bt327.1 0 bt333.1 bt333.2.1 bt333.2.2.1 bt333.2.2.2.1 bt333.2.2.2.2) else (some false))))))) = some r := h
 clear h
 by_cases c2 : (l0.length : Int) > 1048576
 ·rw [if_pos c2] at H
  have c2b0 : decide (1048576 < (l0.length : Int)) = true := decide_eq_true c2
  have c2b1 : decide (1048576 < l0.length) = true := decide_eq_true (by omega)
  clear c2
  obtain rfl := Option.some.inj H
  go_enter Try.func8, Try.ntmps8
  go_wp2
  go_ret
  exact ⟨by first | rfl | (simp [errW_none, errW_some] <;> rfl) | (simp [*, errW_none, errW_some] <;> rfl), by repeat (first | (with_reducible first | exact HB.out | apply bal | apply bdN | apply bdr) | exact HB.out)⟩
 ·rw [if_neg c2] at H
  have c2b0 : decide (1048576 < (l0.length : Int)) = false := decide_eq_false c2
  have c2b1 : decide (1048576 < l0.length) = false := decide_eq_false (by omega)
  clear c2
  replace H := Option.bind_eq_some_iff.mp H
  obtain ⟨⟨t327, t328⟩, A30, H⟩ := H
  replace H : ((impl_ImportRun.f k t327 t328).bind fun bt333 => ((spec_ImportRun.f k t327 t328).bind fun bt349 => ((spec_SameImports.f k bt333.1 bt333.2.1 bt333.2.2.1 bt333.2.2.2.1 bt333.2.2.2.2 bt349.1 bt349.2.1 bt349.2.2.1 bt349.2.2.2.1 bt349.2.2.2.2).bind fun t364 => (if t364 = true then (laws_FnImportOrder.l0 k t327 0 bt333.1 bt333.2.1 bt333.2.2.1 bt333.2.2.2.1 bt333.2.2.2.2) else (some false))))) = some r := H
  have A3 := Az.mk A30
  clear A30
  replace H := Option.bind_eq_some_iff.mp H
  obtain ⟨⟨t333, t336, t339, t342, t345⟩, A40, H⟩ := H
  replace H : ((spec_ImportRun.f k t327 t328).bind fun bt349 => ((spec_SameImports.f k t333 t336 t339 t342 t345 bt349.1 bt349.2.1 bt349.2.2.1 bt349.2.2.2.1 bt349.2.2.2.2).bind fun t364 => (if t364 = true then (laws_FnImportOrder.l0 k t327 0 t333 t336 t339 t342 t345) else (some false)))) = some r := H
  have A4 := Az.mk A40
  clear A40
  replace H := Option.bind_eq_some_iff.mp H
  obtain ⟨⟨t349, t352, t355, t358, t361⟩, A50, H⟩ := H
  replace H : ((spec_SameImports.f k t333 t336 t339 t342 t345 t349 t352 t355 t358 t361).bind fun t364 => (if t364 = true then (laws_FnImportOrder.l0 k t327 0 t333 t336 t339 t342 t345) else (some false))) = some r := H
  have A5 := Az.mk A50
  clear A50
  replace H := Option.bind_eq_some_iff.mp H
  obtain ⟨t364, A60, H⟩ := H
  replace H : (if t364 = true then (laws_FnImportOrder.l0 k t327 0 t333 t336 t339 t342 t345) else (some false)) = some r := H
  have A6 := Az.mk A60
  clear A60
  by_cases c7 : t364 = true
  ·subst c7
   have H1 : (laws_FnImportOrder.l0 k t327 0 t333 t336 t339 t342 t345) = some r := by rw [if_pos rfl] at H; exact H
   clear H
   have H := H1
   clear H1
   have H' := Az.mk H
   clear H
   go_enter Try.func8, Try.ntmps8
   try go_wp2_with (first | ((with_reducible refine gate_callee (f := 23) rfl ?_); refine goesL_ (some 15) rfl rfl Try.func23 (by kernel_rfl) rfl #[.slice A0 l0.length c0] rfl (by (try simp only [List.map_toArray, List.map_cons, List.map_nil]); first | done | rfl | (simp only [List.length_drop, List.length_take]; rfl)) ?_; (with_reducible refine (spec_DrawImportRun.calls k _ _ l0 t327 t328 _ ?side1 ?side2 A3.out).mono ?_); (case side1 => repeat (first | exact HR0.out | (with_reducible refine Kd.C_alloc ?_ _) | (with_reducible refine Kd.C_drewN ?_ _) | (with_reducible refine Kd.C_drew ?_))); (case side2 => exact HC0.out); rintro e w8 ⟨v329, v331, rfl, ho0, ho1, hb⟩; refine ⟨_, rfl, ?_⟩; have n0_ := Az.mk (Kd.S_lower ho0 (below_size (by repeat (first | (with_reducible first | exact HB.out | apply bal | apply bdN | apply bdr) | exact HB.out)))); have n1_ := Az.mk (Kd.R_lower ho1 (below_size (by repeat (first | (with_reducible first | exact HB.out | apply bal | apply bdN | apply bdr) | exact HB.out)))); have n2_ := Az.mk (below_step (by repeat (first | (with_reducible first | exact HB.out | apply bal | apply bdN | apply bdr) | exact HB.out)) hb); clear HB; have HO330 := n0_; have HO332 := n1_; have HB := n2_; clear n0_ n1_ n2_; (try clear hb); (try clear hb2); (try clear hk); (try clear hi); (try clear ho0); (try clear ho1); obtain ⟨Ao9, co9, eo9⟩ := Kd.S_slice HO330.out; subst eo9; obtain ⟨Ao10, co10, eo10⟩ := Kd.R_slice HO332.out; subst eo10) | ((with_reducible refine gate_callee (f := 24) rfl ?_); refine goesL_ (some 20) rfl rfl Try.func24 (by kernel_rfl) rfl #[.slice Ao9 t327.length co9, .slice Ao10 t328.length co10] rfl (by (try simp only [List.map_toArray, List.map_cons, List.map_nil]); first | done | rfl | (simp only [List.length_drop, List.length_take]; rfl)) ?_; (with_reducible refine (impl_ImportRun.calls k _ _ t327 _ _ t328 t333 t336 t339 t342 t345 _ ?side1 ?side2 ?side3 ?side4 A4.out).mono ?_); (case side1 => repeat (first | exact (Kd.S_reads' HO330.out).2.2 | (with_reducible refine Kd.C_alloc ?_ _) | (with_reducible refine Kd.C_drewN ?_ _) | (with_reducible refine Kd.C_drew ?_))); (case side2 => exact (Kd.S_reads' HO330.out).2.1); (case side3 => repeat (first | exact (Kd.R_reads' HO332.out).2.2 | (with_reducible refine Kd.C_alloc ?_ _) | (with_reducible refine Kd.C_drewN ?_ _) | (with_reducible refine Kd.C_drew ?_))); (case side4 => exact (Kd.R_reads' HO332.out).2.1); rintro e w11 ⟨v334, v337, v340, v343, v346, rfl, ho0, ho1, ho2, ho3, ho4, hb⟩; refine ⟨_, rfl, ?_⟩; have n0_ := Az.mk (Kd.S_below (by (with_reducible repeat (first | apply Kd.S_alloc | apply Kd.S_drewN | apply Kd.S_drew)); exact HO330.out) hb); have n1_ := Az.mk (Kd.R_mono (Kd.R_told (Kd.R_told (Kd.R_told (Kd.R_told (Kd.R_old (by (with_reducible repeat (first | apply Kd.R_alloc | apply Kd.R_drewN | apply Kd.R_drew)); exact HO332.out) hb) (Kd.R_base ho0)) (Kd.R_base ho1)) (Kd.R_base ho2)) (Kd.R_base ho4)) (fun _ h_ => h_.1)); have n2_ := Az.mk (Kd.R_lower (Kd.R_new' ho0 (Kd.R_lt (by (with_reducible repeat (first | apply Kd.R_alloc | apply Kd.R_drewN | apply Kd.R_drew)); exact HO332.out))) (below_size (by repeat (first | (with_reducible first | exact HB.out | apply bal | apply bdN | apply bdr) | exact HB.out)))); have n3_ := Az.mk (Kd.R_lower (Kd.R_new' ho1 (Kd.R_lt (by (with_reducible repeat (first | apply Kd.R_alloc | apply Kd.R_drewN | apply Kd.R_drew)); exact HO332.out))) (below_size (by repeat (first | (with_reducible first | exact HB.out | apply bal | apply bdN | apply bdr) | exact HB.out)))); have n4_ := Az.mk (Kd.R_lower (Kd.R_new' ho2 (Kd.R_lt (by (with_reducible repeat (first | apply Kd.R_alloc | apply Kd.R_drewN | apply Kd.R_drew)); exact HO332.out))) (below_size (by repeat (first | (with_reducible first | exact HB.out | apply bal | apply bdN | apply bdr) | exact HB.out)))); have n5_ := Az.mk (Kd.R_lower ho3 (below_size (by repeat (first | (with_reducible first | exact HB.out | apply bal | apply bdN | apply bdr) | exact HB.out)))); have n6_ := Az.mk (Kd.R_lower (Kd.R_new' ho4 (Kd.R_lt (by (with_reducible repeat (first | apply Kd.R_alloc | apply Kd.R_drewN | apply Kd.R_drew)); exact HO332.out))) (below_size (by repeat (first | (with_reducible first | exact HB.out | apply bal | apply bdN | apply bdr) | exact HB.out)))); have n7_ := Az.mk (below_step (by repeat (first | (with_reducible first | exact HB.out | apply bal | apply bdN | apply bdr) | exact HB.out)) hb); clear HO330; clear HO332; clear HB; have HO330 := n0_; have HO332 := n1_; have HO335 := n2_; have HO338 := n3_; have HO341 := n4_; have HO344 := n5_; have HO347 := n6_; have HB := n7_; clear n0_ n1_ n2_ n3_ n4_ n5_ n6_ n7_; (try clear hb); (try clear hb2); (try clear hk); (try clear hi); (try clear ho0); (try clear ho1); (try clear ho2); (try clear ho3); (try clear ho4)) | ((with_reducible refine gate_dst (N := 5) rfl ?_); refine box_event ?hg (N := 5) ?hd (cs := #[.slice none 0 0, .slice none 0 0, .slice none 0 0, .slice none 0 0, .slice none 0 0]) (t := 48) ?hr ?_; (case hd => rfl); (case hg => rfl); (case hr => first | (go_simp; done) | (go_simp; rfl)); intro gb348 hg w12 hbox hb; have n0_ := Az.mk (Kd.S_below (by (with_reducible repeat (first | apply Kd.S_alloc | apply Kd.S_drewN | apply Kd.S_drew)); exact HO330.out) hb); have n1_ := Az.mk (Kd.R_below (by (with_reducible repeat (first | apply Kd.R_alloc | apply Kd.R_drewN | apply Kd.R_drew)); exact HO332.out) hb); have n2_ := Az.mk (Kd.R_below (by (with_reducible repeat (first | apply Kd.R_alloc | apply Kd.R_drewN | apply Kd.R_drew)); exact HO335.out) hb); have n3_ := Az.mk (Kd.R_below (by (with_reducible repeat (first | apply Kd.R_alloc | apply Kd.R_drewN | apply Kd.R_drew)); exact HO338.out) hb); have n4_ := Az.mk (Kd.R_below (by (with_reducible repeat (first | apply Kd.R_alloc | apply Kd.R_drewN | apply Kd.R_drew)); exact HO341.out) hb); have n5_ := Az.mk (Kd.R_below (by (with_reducible repeat (first | apply Kd.R_alloc | apply Kd.R_drewN | apply Kd.R_drew)); exact HO344.out) hb); have n6_ := Az.mk (Kd.R_below (by (with_reducible repeat (first | apply Kd.R_alloc | apply Kd.R_drewN | apply Kd.R_drew)); exact HO347.out) hb); have n7_ := Az.mk (below_step (by repeat (first | (with_reducible first | exact HB.out | apply bal | apply bdN | apply bdr) | exact HB.out)) hb); have n8_ := Az.mk (hbox); have n9_ := Az.mk ((by rw [hg]; exact (below_size (by repeat (first | (with_reducible first | exact HB.out | apply bal | apply bdN | apply bdr) | exact HB.out))) : w.heap.size ≤ gb348)); have n10_ := Az.mk ((by rw [hg]; exact (below_size (by repeat (first | (with_reducible first | exact HB.out | apply bal | apply bdN | apply bdr) | exact HB.out))) : w.heap.size ≤ gb348)); clear HO330; clear HO332; clear HO335; clear HO338; clear HO341; clear HO344; clear HO347; clear HB; have HO330 := n0_; have HO332 := n1_; have HO335 := n2_; have HO338 := n3_; have HO341 := n4_; have HO344 := n5_; have HO347 := n6_; have HB := n7_; have BK348 := n8_; have GW348 := n9_; have GE348 := n10_; clear n0_ n1_ n2_ n3_ n4_ n5_ n6_ n7_ n8_ n9_ n10_; clear hb hbox hg; obtain ⟨Ao13, co13, eo13⟩ := Kd.R_slice HO335.out; subst eo13; have hcz14_0 : w12.cell? ⟨gb348, 0, none⟩ = some (.slice none 0 0) := (bC BK348.out 0).trans rfl; have hcz14_1 : w12.cell? ⟨gb348, 1, none⟩ = some (.slice none 0 0) := (bC BK348.out 1).trans rfl; have hcz14_2 : w12.cell? ⟨gb348, 2, none⟩ = some (.slice none 0 0) := (bC BK348.out 2).trans rfl; have hcz14_3 : w12.cell? ⟨gb348, 3, none⟩ = some (.slice none 0 0) := (bC BK348.out 3).trans rfl; have hcz14_4 : w12.cell? ⟨gb348, 4, none⟩ = some (.slice none 0 0) := (bC BK348.out 4).trans rfl; have hfz14_0 := bF BK348.out 0; have hfz14_1 := bF BK348.out 1; have hfz14_2 := bF BK348.out 2; have hfz14_3 := bF BK348.out 3; have hfz14_4 := bF BK348.out 4; obtain ⟨Ao15, co15, eo15⟩ := Kd.R_slice HO338.out; subst eo15; obtain ⟨Ao16, co16, eo16⟩ := Kd.R_slice HO341.out; subst eo16; obtain ⟨Ao17, co17, eo17⟩ := Kd.R_slice HO344.out; subst eo17; obtain ⟨Ao18, co18, eo18⟩ := Kd.R_slice HO347.out; subst eo18))
   have n0_ : Az (Kd.S k72 72 (((((w12.setCell ⟨gb348, 0, none⟩ (.slice Ao13 t333.length co13)).setCell ⟨gb348, 1, none⟩ (.slice Ao15 t336.length co15)).setCell ⟨gb348, 2, none⟩ (.slice Ao16 t339.length co16)).setCell ⟨gb348, 3, none⟩ (.slice Ao17 t342.length co17)).setCell ⟨gb348, 4, none⟩ (.slice Ao18 t345.length co18)) w.heap.size (fun _ => True) (.slice Ao9 t327.length co9) t327) := ⟨by (with_reducible repeat (first | apply Kd.S_alloc | apply Kd.S_drewN | apply Kd.S_drew)); exact Kd.S_mono (Kd.S_far (p := ⟨gb348, 4, none⟩) (Kd.S_far (p := ⟨gb348, 3, none⟩) (Kd.S_far (p := ⟨gb348, 2, none⟩) (Kd.S_far (p := ⟨gb348, 1, none⟩) (Kd.S_far (p := ⟨gb348, 0, none⟩) (Kd.S_types HO330.out BK348.out (by decide)) (fun _ hk => hk.2) (.slice Ao13 t333.length co13)) (fun _ hk => hk.2) (.slice Ao15 t336.length co15)) (fun _ hk => hk.2) (.slice Ao16 t339.length co16)) (fun _ hk => hk.2) (.slice Ao17 t342.length co17)) (fun _ hk => hk.2) (.slice Ao18 t345.length co18)) (fun _ hk => trivial)⟩
   have n1_ : Az (Kd.R (Kd.int .i64) 3 (((((w12.setCell ⟨gb348, 0, none⟩ (.slice Ao13 t333.length co13)).setCell ⟨gb348, 1, none⟩ (.slice Ao15 t336.length co15)).setCell ⟨gb348, 2, none⟩ (.slice Ao16 t339.length co16)).setCell ⟨gb348, 3, none⟩ (.slice Ao17 t342.length co17)).setCell ⟨gb348, 4, none⟩ (.slice Ao18 t345.length co18)) w.heap.size (fun k_ => some k_ ≠ (.slice Ao13 t333.length co13 : Value).ownBlock ∧ some k_ ≠ (.slice Ao15 t336.length co15 : Value).ownBlock ∧ some k_ ≠ (.slice Ao16 t339.length co16 : Value).ownBlock ∧ some k_ ≠ (.slice Ao18 t345.length co18 : Value).ownBlock) (.slice Ao10 t328.length co10) t328) := ⟨by (with_reducible repeat (first | apply Kd.R_alloc | apply Kd.R_drewN | apply Kd.R_drew)); exact Kd.R_mono (Kd.R_far (p := ⟨gb348, 4, none⟩) (Kd.R_far (p := ⟨gb348, 3, none⟩) (Kd.R_far (p := ⟨gb348, 2, none⟩) (Kd.R_far (p := ⟨gb348, 1, none⟩) (Kd.R_far (p := ⟨gb348, 0, none⟩) (Kd.R_types HO332.out BK348.out (by decide)) (fun _ hk => hk.2) (.slice Ao13 t333.length co13)) (fun _ hk => hk.2) (.slice Ao15 t336.length co15)) (fun _ hk => hk.2) (.slice Ao16 t339.length co16)) (fun _ hk => hk.2) (.slice Ao17 t342.length co17)) (fun _ hk => hk.2) (.slice Ao18 t345.length co18)) (fun _ hk => ⟨hk.1.1.1.1.2, ⟨hk.1.1.1.2, ⟨hk.1.1.2, hk.1.2⟩⟩⟩)⟩
   have n2_ : Az (Kd.R (Kd.int .i64) 3 (((((w12.setCell ⟨gb348, 0, none⟩ (.slice Ao13 t333.length co13)).setCell ⟨gb348, 1, none⟩ (.slice Ao15 t336.length co15)).setCell ⟨gb348, 2, none⟩ (.slice Ao16 t339.length co16)).setCell ⟨gb348, 3, none⟩ (.slice Ao17 t342.length co17)).setCell ⟨gb348, 4, none⟩ (.slice Ao18 t345.length co18)) w.heap.size (fun k_ => some k_ ≠ (.slice Ao10 t328.length co10 : Value).ownBlock ∧ some k_ ≠ (.slice Ao15 t336.length co15 : Value).ownBlock ∧ some k_ ≠ (.slice Ao16 t339.length co16 : Value).ownBlock ∧ some k_ ≠ (.slice Ao18 t345.length co18 : Value).ownBlock) (.slice Ao13 t333.length co13) t333) := ⟨by (with_reducible repeat (first | apply Kd.R_alloc | apply Kd.R_drewN | apply Kd.R_drew)); exact Kd.R_mono (Kd.R_far (p := ⟨gb348, 4, none⟩) (Kd.R_far (p := ⟨gb348, 3, none⟩) (Kd.R_far (p := ⟨gb348, 2, none⟩) (Kd.R_far (p := ⟨gb348, 1, none⟩) (Kd.R_far (p := ⟨gb348, 0, none⟩) (Kd.R_types HO335.out BK348.out (by decide)) (fun _ hk => hk.2) (.slice Ao13 t333.length co13)) (fun _ hk => hk.2) (.slice Ao15 t336.length co15)) (fun _ hk => hk.2) (.slice Ao16 t339.length co16)) (fun _ hk => hk.2) (.slice Ao17 t342.length co17)) (fun _ hk => hk.2) (.slice Ao18 t345.length co18)) (fun _ hk => ⟨hk.1.2, ⟨hk.1.1.1, ⟨hk.1.1.2.1, hk.1.1.2.2⟩⟩⟩)⟩
   have n3_ : Az (Kd.R (Kd.int .i64) 3 (((((w12.setCell ⟨gb348, 0, none⟩ (.slice Ao13 t333.length co13)).setCell ⟨gb348, 1, none⟩ (.slice Ao15 t336.length co15)).setCell ⟨gb348, 2, none⟩ (.slice Ao16 t339.length co16)).setCell ⟨gb348, 3, none⟩ (.slice Ao17 t342.length co17)).setCell ⟨gb348, 4, none⟩ (.slice Ao18 t345.length co18)) w.heap.size (fun k_ => some k_ ≠ (.slice Ao10 t328.length co10 : Value).ownBlock ∧ some k_ ≠ (.slice Ao13 t333.length co13 : Value).ownBlock ∧ some k_ ≠ (.slice Ao16 t339.length co16 : Value).ownBlock ∧ some k_ ≠ (.slice Ao18 t345.length co18 : Value).ownBlock) (.slice Ao15 t336.length co15) t336) := ⟨by (with_reducible repeat (first | apply Kd.R_alloc | apply Kd.R_drewN | apply Kd.R_drew)); exact Kd.R_mono (Kd.R_far (p := ⟨gb348, 4, none⟩) (Kd.R_far (p := ⟨gb348, 3, none⟩) (Kd.R_far (p := ⟨gb348, 2, none⟩) (Kd.R_far (p := ⟨gb348, 1, none⟩) (Kd.R_far (p := ⟨gb348, 0, none⟩) (Kd.R_types HO338.out BK348.out (by decide)) (fun _ hk => hk.2) (.slice Ao13 t333.length co13)) (fun _ hk => hk.2) (.slice Ao15 t336.length co15)) (fun _ hk => hk.2) (.slice Ao16 t339.length co16)) (fun _ hk => hk.2) (.slice Ao17 t342.length co17)) (fun _ hk => hk.2) (.slice Ao18 t345.length co18)) (fun _ hk => ⟨hk.1.2, ⟨hk.1.1.1, ⟨hk.1.1.2.1, hk.1.1.2.2⟩⟩⟩)⟩
   have n4_ : Az (Kd.R (Kd.int .i64) 3 (((((w12.setCell ⟨gb348, 0, none⟩ (.slice Ao13 t333.length co13)).setCell ⟨gb348, 1, none⟩ (.slice Ao15 t336.length co15)).setCell ⟨gb348, 2, none⟩ (.slice Ao16 t339.length co16)).setCell ⟨gb348, 3, none⟩ (.slice Ao17 t342.length co17)).setCell ⟨gb348, 4, none⟩ (.slice Ao18 t345.length co18)) w.heap.size (fun k_ => some k_ ≠ (.slice Ao10 t328.length co10 : Value).ownBlock ∧ some k_ ≠ (.slice Ao13 t333.length co13 : Value).ownBlock ∧ some k_ ≠ (.slice Ao15 t336.length co15 : Value).ownBlock ∧ some k_ ≠ (.slice Ao18 t345.length co18 : Value).ownBlock) (.slice Ao16 t339.length co16) t339) := ⟨by (with_reducible repeat (first | apply Kd.R_alloc | apply Kd.R_drewN | apply Kd.R_drew)); exact Kd.R_mono (Kd.R_far (p := ⟨gb348, 4, none⟩) (Kd.R_far (p := ⟨gb348, 3, none⟩) (Kd.R_far (p := ⟨gb348, 2, none⟩) (Kd.R_far (p := ⟨gb348, 1, none⟩) (Kd.R_far (p := ⟨gb348, 0, none⟩) (Kd.R_types HO341.out BK348.out (by decide)) (fun _ hk => hk.2) (.slice Ao13 t333.length co13)) (fun _ hk => hk.2) (.slice Ao15 t336.length co15)) (fun _ hk => hk.2) (.slice Ao16 t339.length co16)) (fun _ hk => hk.2) (.slice Ao17 t342.length co17)) (fun _ hk => hk.2) (.slice Ao18 t345.length co18)) (fun _ hk => ⟨hk.1.2, ⟨hk.1.1.1, ⟨hk.1.1.2.1, hk.1.1.2.2⟩⟩⟩)⟩
   have n5_ : Az (Kd.R Kd.string 9 (((((w12.setCell ⟨gb348, 0, none⟩ (.slice Ao13 t333.length co13)).setCell ⟨gb348, 1, none⟩ (.slice Ao15 t336.length co15)).setCell ⟨gb348, 2, none⟩ (.slice Ao16 t339.length co16)).setCell ⟨gb348, 3, none⟩ (.slice Ao17 t342.length co17)).setCell ⟨gb348, 4, none⟩ (.slice Ao18 t345.length co18)) w.heap.size (fun _ => True) (.slice Ao17 t342.length co17) t342) := ⟨by (with_reducible repeat (first | apply Kd.R_alloc | apply Kd.R_drewN | apply Kd.R_drew)); exact Kd.R_mono (Kd.R_far (p := ⟨gb348, 4, none⟩) (Kd.R_far (p := ⟨gb348, 3, none⟩) (Kd.R_far (p := ⟨gb348, 2, none⟩) (Kd.R_far (p := ⟨gb348, 1, none⟩) (Kd.R_far (p := ⟨gb348, 0, none⟩) (Kd.R_types HO344.out BK348.out (by decide)) (fun _ hk => hk.2) (.slice Ao13 t333.length co13)) (fun _ hk => hk.2) (.slice Ao15 t336.length co15)) (fun _ hk => hk.2) (.slice Ao16 t339.length co16)) (fun _ hk => hk.2) (.slice Ao17 t342.length co17)) (fun _ hk => hk.2) (.slice Ao18 t345.length co18)) (fun _ hk => trivial)⟩
   have n6_ : Az (Kd.R (Kd.int .i64) 3 (((((w12.setCell ⟨gb348, 0, none⟩ (.slice Ao13 t333.length co13)).setCell ⟨gb348, 1, none⟩ (.slice Ao15 t336.length co15)).setCell ⟨gb348, 2, none⟩ (.slice Ao16 t339.length co16)).setCell ⟨gb348, 3, none⟩ (.slice Ao17 t342.length co17)).setCell ⟨gb348, 4, none⟩ (.slice Ao18 t345.length co18)) w.heap.size (fun k_ => some k_ ≠ (.slice Ao10 t328.length co10 : Value).ownBlock ∧ some k_ ≠ (.slice Ao13 t333.length co13 : Value).ownBlock ∧ some k_ ≠ (.slice Ao15 t336.length co15 : Value).ownBlock ∧ some k_ ≠ (.slice Ao16 t339.length co16 : Value).ownBlock) (.slice Ao18 t345.length co18) t345) := ⟨by (with_reducible repeat (first | apply Kd.R_alloc | apply Kd.R_drewN | apply Kd.R_drew)); exact Kd.R_mono (Kd.R_far (p := ⟨gb348, 4, none⟩) (Kd.R_far (p := ⟨gb348, 3, none⟩) (Kd.R_far (p := ⟨gb348, 2, none⟩) (Kd.R_far (p := ⟨gb348, 1, none⟩) (Kd.R_far (p := ⟨gb348, 0, none⟩) (Kd.R_types HO347.out BK348.out (by decide)) (fun _ hk => hk.2) (.slice Ao13 t333.length co13)) (fun _ hk => hk.2) (.slice Ao15 t336.length co15)) (fun _ hk => hk.2) (.slice Ao16 t339.length co16)) (fun _ hk => hk.2) (.slice Ao17 t342.length co17)) (fun _ hk => hk.2) (.slice Ao18 t345.length co18)) (fun _ hk => ⟨hk.1.2, ⟨hk.1.1.1, ⟨hk.1.1.2.1, hk.1.1.2.2⟩⟩⟩)⟩
   have n7_ : Az ((((((w12.setCell ⟨gb348, 0, none⟩ (.slice Ao13 t333.length co13)).setCell ⟨gb348, 1, none⟩ (.slice Ao15 t336.length co15)).setCell ⟨gb348, 2, none⟩ (.slice Ao16 t339.length co16)).setCell ⟨gb348, 3, none⟩ (.slice Ao17 t342.length co17)).setCell ⟨gb348, 4, none⟩ (.slice Ao18 t345.length co18)).heap[gb348]? = some (.cells #[.slice Ao13 t333.length co13, .slice Ao15 t336.length co15, .slice Ao16 t339.length co16, .slice Ao17 t342.length co17, .slice Ao18 t345.length co18] 48 (0, 0))) := ⟨by (with_reducible repeat (first | refine blk_drewN ?_ _ | refine blk_drew ?_ | refine blk_alloc ?_ _)); refine blk_put (cs := #[.slice Ao13 t333.length co13, .slice Ao15 t336.length co15, .slice Ao16 t339.length co16, .slice Ao17 t342.length co17, .slice none 0 0]) ?_ 4 _ rfl; (with_reducible repeat (first | refine blk_drewN ?_ _ | refine blk_drew ?_ | refine blk_alloc ?_ _)); refine blk_put (cs := #[.slice Ao13 t333.length co13, .slice Ao15 t336.length co15, .slice Ao16 t339.length co16, .slice none 0 0, .slice none 0 0]) ?_ 3 _ rfl; (with_reducible repeat (first | refine blk_drewN ?_ _ | refine blk_drew ?_ | refine blk_alloc ?_ _)); refine blk_put (cs := #[.slice Ao13 t333.length co13, .slice Ao15 t336.length co15, .slice none 0 0, .slice none 0 0, .slice none 0 0]) ?_ 2 _ rfl; (with_reducible repeat (first | refine blk_drewN ?_ _ | refine blk_drew ?_ | refine blk_alloc ?_ _)); refine blk_put (cs := #[.slice Ao13 t333.length co13, .slice none 0 0, .slice none 0 0, .slice none 0 0, .slice none 0 0]) ?_ 1 _ rfl; (with_reducible repeat (first | refine blk_drewN ?_ _ | refine blk_drew ?_ | refine blk_alloc ?_ _)); refine blk_put (cs := #[.slice none 0 0, .slice none 0 0, .slice none 0 0, .slice none 0 0, .slice none 0 0]) ?_ 0 _ rfl; (with_reducible repeat (first | refine blk_drewN ?_ _ | refine blk_drew ?_ | refine blk_alloc ?_ _)); exact BK348.out⟩
   have n8_ : Az (Below w.heap.size w (((((w12.setCell ⟨gb348, 0, none⟩ (.slice Ao13 t333.length co13)).setCell ⟨gb348, 1, none⟩ (.slice Ao15 t336.length co15)).setCell ⟨gb348, 2, none⟩ (.slice Ao16 t339.length co16)).setCell ⟨gb348, 3, none⟩ (.slice Ao17 t342.length co17)).setCell ⟨gb348, 4, none⟩ (.slice Ao18 t345.length co18))) := ⟨by repeat (first | (with_reducible first | exact HB.out | apply bal | apply bdN | apply bdr | refine bS ?_ GE348.out) | exact HB.out)⟩
   (try clear HO330)
   (try clear HO332)
   (try clear HO335)
   (try clear HO338)
   (try clear HO341)
   (try clear HO344)
   (try clear HO347)
   (try clear BK348)
   (try clear HB)
   generalize (((((w12.setCell ⟨gb348, 0, none⟩ (.slice Ao13 t333.length co13)).setCell ⟨gb348, 1, none⟩ (.slice Ao15 t336.length co15)).setCell ⟨gb348, 2, none⟩ (.slice Ao16 t339.length co16)).setCell ⟨gb348, 3, none⟩ (.slice Ao17 t342.length co17)).setCell ⟨gb348, 4, none⟩ (.slice Ao18 t345.length co18)) = w19 at n0_ n1_ n2_ n3_ n4_ n5_ n6_ n7_ n8_ ⊢
   have HO330 := n0_
   have HO332 := n1_
   have HO335 := n2_
   have HO338 := n3_
   have HO341 := n4_
   have HO344 := n5_
   have HO347 := n6_
   have BK348 := n7_
   have HB := n8_
   clear n0_ n1_ n2_ n3_ n4_ n5_ n6_ n7_ n8_
   have n0_ := Az.mk (Kd.S_drew HO330.out)
   have n1_ := Az.mk (Kd.R_drew HO332.out)
   have n2_ := Az.mk (Kd.R_drew HO335.out)
   have n3_ := Az.mk (Kd.R_drew HO338.out)
   have n4_ := Az.mk (Kd.R_drew HO341.out)
   have n5_ := Az.mk (Kd.R_drew HO344.out)
   have n6_ := Az.mk (Kd.R_drew HO347.out)
   have n7_ := Az.mk (blk_drew BK348.out)
   have n8_ := Az.mk (bdr HB.out)
   clear HO330
   clear HO332
   clear HO335
   clear HO338
   clear HO341
   clear HO344
   clear HO347
   clear BK348
   clear HB
   have HO330 := n0_
   have HO332 := n1_
   have HO335 := n2_
   have HO338 := n3_
   have HO341 := n4_
   have HO344 := n5_
   have HO347 := n6_
   have BK348 := n7_
   have HB := n8_
   clear n0_ n1_ n2_ n3_ n4_ n5_ n6_ n7_ n8_
   refine start_ (n := 6) (S := fun w' => w'.cell? ⟨gb348, 0, none⟩ = some (.slice Ao13 t333.length co13) ∧ w'.cell? ⟨gb348, 1, none⟩ = some (.slice Ao15 t336.length co15) ∧ w'.cell? ⟨gb348, 2, none⟩ = some (.slice Ao16 t339.length co16) ∧ w'.cell? ⟨gb348, 3, none⟩ = some (.slice Ao17 t342.length co17) ∧ w'.cell? ⟨gb348, 4, none⟩ = some (.slice Ao18 t345.length co18)) (ds := []) #[false, false, false, false, false, false] (by kernel_rfl) rfl rfl ⟨(bC BK348.out 0).trans rfl, (bC BK348.out 1).trans rfl, (bC BK348.out 2).trans rfl, (bC BK348.out 3).trans rfl, (bC BK348.out 4).trans rfl⟩ (fun hHeld => ?_)
   generalize w19.drew = w20 at HO330 HO332 HO335 HO338 HO341 HO344 HO347 BK348 HB hHeld ⊢
   refine pure_ (i := 1) (N := some 22) (v := ?_) (a' := ?_) #[false, true, false, false, false, false] rfl rfl (by kernel_rfl) (fun _ _ _ h => h) (Or.inl ⟨by rfl, ?_⟩) ?_ ?_
   rotate_left
   ·intro w'
    go_simp
    with_reducible rfl
   rotate_left
   ·simp only [Act.put, List.setIfInBounds_toArray, List.set_cons_zero, List.set_cons_succ, i64_w, i32_w]
    rfl
   refine pure_ (i := 2) (N := some 23) (v := ?_) (a' := ?_) #[false, true, true, false, false, false] rfl rfl (by kernel_rfl) (fun _ _ _ h => h) (Or.inl ⟨by rfl, ?_⟩) ?_ ?_
   rotate_left
   ·intro w'
    go_simp
    with_reducible rfl
   rotate_left
   ·simp only [Act.put, List.setIfInBounds_toArray, List.set_cons_zero, List.set_cons_succ, i64_w, i32_w]
    rfl
   refine take_ (i := 0) (N := some 21) (v := ?_) (a' := ?_) #[true, true, true, false, false, false] rfl rfl (by kernel_rfl) (fun _ _ _ h => h) (Or.inl ⟨by rfl, ?_⟩) hHeld ?_ ?_
   rotate_left
   ·rintro w' ⟨s0, s1, s2, s3, s4⟩
    go_simp
    with_reducible rfl
   rotate_left
   ·simp only [Act.put, List.setIfInBounds_toArray, List.set_cons_zero, List.set_cons_succ, i64_w, i32_w]
    rfl
   refine one_ (i := 3) (N := some 24) #[true, true, true, true, false, false] rfl rfl (by kernel_rfl) (by decide) (fun K hK => ?_)
   refine goes_ Try.func26 (by kernel_rfl) rfl #[.slice Ao9 t327.length co9, .slice Ao10 t328.length co10] (by rfl) rfl rfl (by (try simp only [List.map_toArray, List.map_cons, List.map_nil]); first | done | rfl | (simp only [List.length_drop, List.length_take]; rfl)) ?_
   with_reducible refine (spec_ImportRun.calls k _ _ t327 _ _ t328 t349 t352 t355 t358 t361 _ ?side1 ?side2 ?side3 ?side4 A5.out).mono ?_
   (case side1 => repeat (first | exact (Kd.S_reads' HO330.out).2.2 | (with_reducible refine Kd.C_alloc ?_ _) | (with_reducible refine Kd.C_drewN ?_ _) | (with_reducible refine Kd.C_drew ?_)))
   (case side2 => exact (Kd.S_reads' HO330.out).2.1)
   (case side3 => repeat (first | exact (Kd.R_reads' HO332.out).2.2 | (with_reducible refine Kd.C_alloc ?_ _) | (with_reducible refine Kd.C_drewN ?_ _) | (with_reducible refine Kd.C_drew ?_)))
   (case side4 => exact (Kd.R_reads' HO332.out).2.1)
   rintro e w21 ⟨v350, v353, v356, v359, v362, rfl, ho0, ho1, ho2, ho3, ho4, hb⟩
   refine ⟨_, rfl, ?_⟩
   have n0_ := Az.mk (Kd.S_below (by (with_reducible repeat (first | apply Kd.S_alloc | apply Kd.S_drewN | apply Kd.S_drew)); exact HO330.out) hb)
   have n1_ := Az.mk (Kd.R_mono (Kd.R_told (Kd.R_told (Kd.R_told (Kd.R_told (Kd.R_old (by (with_reducible repeat (first | apply Kd.R_alloc | apply Kd.R_drewN | apply Kd.R_drew)); exact HO332.out) hb) (Kd.R_base ho0)) (Kd.R_base ho1)) (Kd.R_base ho2)) (Kd.R_base ho4)) (fun _ h_ => h_.1))
   have n2_ := Az.mk (Kd.R_mono (Kd.R_told (Kd.R_told (Kd.R_told (Kd.R_told (Kd.R_old (by (with_reducible repeat (first | apply Kd.R_alloc | apply Kd.R_drewN | apply Kd.R_drew)); exact HO335.out) hb) (Kd.R_base ho0)) (Kd.R_base ho1)) (Kd.R_base ho2)) (Kd.R_base ho4)) (fun _ h_ => h_.1))
   have n3_ := Az.mk (Kd.R_mono (Kd.R_told (Kd.R_told (Kd.R_told (Kd.R_told (Kd.R_old (by (with_reducible repeat (first | apply Kd.R_alloc | apply Kd.R_drewN | apply Kd.R_drew)); exact HO338.out) hb) (Kd.R_base ho0)) (Kd.R_base ho1)) (Kd.R_base ho2)) (Kd.R_base ho4)) (fun _ h_ => h_.1))
   have n4_ := Az.mk (Kd.R_mono (Kd.R_told (Kd.R_told (Kd.R_told (Kd.R_told (Kd.R_old (by (with_reducible repeat (first | apply Kd.R_alloc | apply Kd.R_drewN | apply Kd.R_drew)); exact HO341.out) hb) (Kd.R_base ho0)) (Kd.R_base ho1)) (Kd.R_base ho2)) (Kd.R_base ho4)) (fun _ h_ => h_.1))
   have n5_ := Az.mk (Kd.R_elder' (by (with_reducible repeat (first | apply Kd.R_alloc | apply Kd.R_drewN | apply Kd.R_drew)); exact HO344.out) (Kd.R_base ho3) hb)
   have n6_ := Az.mk (Kd.R_mono (Kd.R_told (Kd.R_told (Kd.R_told (Kd.R_told (Kd.R_old (by (with_reducible repeat (first | apply Kd.R_alloc | apply Kd.R_drewN | apply Kd.R_drew)); exact HO347.out) hb) (Kd.R_base ho0)) (Kd.R_base ho1)) (Kd.R_base ho2)) (Kd.R_base ho4)) (fun _ h_ => h_.1))
   have n7_ := Az.mk (Kd.R_lower (Kd.R_new' (Kd.R_new' (Kd.R_new' (Kd.R_new' (Kd.R_new' ho0 (Kd.R_lt (by (with_reducible repeat (first | apply Kd.R_alloc | apply Kd.R_drewN | apply Kd.R_drew)); exact HO332.out))) (Kd.R_lt (by (with_reducible repeat (first | apply Kd.R_alloc | apply Kd.R_drewN | apply Kd.R_drew)); exact HO335.out))) (Kd.R_lt (by (with_reducible repeat (first | apply Kd.R_alloc | apply Kd.R_drewN | apply Kd.R_drew)); exact HO338.out))) (Kd.R_lt (by (with_reducible repeat (first | apply Kd.R_alloc | apply Kd.R_drewN | apply Kd.R_drew)); exact HO341.out))) (Kd.R_lt (by (with_reducible repeat (first | apply Kd.R_alloc | apply Kd.R_drewN | apply Kd.R_drew)); exact HO347.out))) (below_size (by repeat (first | (with_reducible first | exact HB.out | apply bal | apply bdN | apply bdr | refine bS ?_ GE348.out) | exact HB.out))))
   have n8_ := Az.mk (Kd.R_lower (Kd.R_new' (Kd.R_new' (Kd.R_new' (Kd.R_new' (Kd.R_new' ho1 (Kd.R_lt (by (with_reducible repeat (first | apply Kd.R_alloc | apply Kd.R_drewN | apply Kd.R_drew)); exact HO332.out))) (Kd.R_lt (by (with_reducible repeat (first | apply Kd.R_alloc | apply Kd.R_drewN | apply Kd.R_drew)); exact HO335.out))) (Kd.R_lt (by (with_reducible repeat (first | apply Kd.R_alloc | apply Kd.R_drewN | apply Kd.R_drew)); exact HO338.out))) (Kd.R_lt (by (with_reducible repeat (first | apply Kd.R_alloc | apply Kd.R_drewN | apply Kd.R_drew)); exact HO341.out))) (Kd.R_lt (by (with_reducible repeat (first | apply Kd.R_alloc | apply Kd.R_drewN | apply Kd.R_drew)); exact HO347.out))) (below_size (by repeat (first | (with_reducible first | exact HB.out | apply bal | apply bdN | apply bdr | refine bS ?_ GE348.out) | exact HB.out))))
   have n9_ := Az.mk (Kd.R_lower (Kd.R_new' (Kd.R_new' (Kd.R_new' (Kd.R_new' (Kd.R_new' ho2 (Kd.R_lt (by (with_reducible repeat (first | apply Kd.R_alloc | apply Kd.R_drewN | apply Kd.R_drew)); exact HO332.out))) (Kd.R_lt (by (with_reducible repeat (first | apply Kd.R_alloc | apply Kd.R_drewN | apply Kd.R_drew)); exact HO335.out))) (Kd.R_lt (by (with_reducible repeat (first | apply Kd.R_alloc | apply Kd.R_drewN | apply Kd.R_drew)); exact HO338.out))) (Kd.R_lt (by (with_reducible repeat (first | apply Kd.R_alloc | apply Kd.R_drewN | apply Kd.R_drew)); exact HO341.out))) (Kd.R_lt (by (with_reducible repeat (first | apply Kd.R_alloc | apply Kd.R_drewN | apply Kd.R_drew)); exact HO347.out))) (below_size (by repeat (first | (with_reducible first | exact HB.out | apply bal | apply bdN | apply bdr | refine bS ?_ GE348.out) | exact HB.out))))
   have n10_ := Az.mk (Kd.R_lower (Kd.R_new' ho3 (Kd.R_lt (by (with_reducible repeat (first | apply Kd.R_alloc | apply Kd.R_drewN | apply Kd.R_drew)); exact HO344.out))) (below_size (by repeat (first | (with_reducible first | exact HB.out | apply bal | apply bdN | apply bdr | refine bS ?_ GE348.out) | exact HB.out))))
   have n11_ := Az.mk (Kd.R_lower (Kd.R_new' (Kd.R_new' (Kd.R_new' (Kd.R_new' (Kd.R_new' ho4 (Kd.R_lt (by (with_reducible repeat (first | apply Kd.R_alloc | apply Kd.R_drewN | apply Kd.R_drew)); exact HO332.out))) (Kd.R_lt (by (with_reducible repeat (first | apply Kd.R_alloc | apply Kd.R_drewN | apply Kd.R_drew)); exact HO335.out))) (Kd.R_lt (by (with_reducible repeat (first | apply Kd.R_alloc | apply Kd.R_drewN | apply Kd.R_drew)); exact HO338.out))) (Kd.R_lt (by (with_reducible repeat (first | apply Kd.R_alloc | apply Kd.R_drewN | apply Kd.R_drew)); exact HO341.out))) (Kd.R_lt (by (with_reducible repeat (first | apply Kd.R_alloc | apply Kd.R_drewN | apply Kd.R_drew)); exact HO347.out))) (below_size (by repeat (first | (with_reducible first | exact HB.out | apply bal | apply bdN | apply bdr | refine bS ?_ GE348.out) | exact HB.out))))
   have n12_ := Az.mk (blk_below (g := gb348) (o := .cells #[.slice Ao13 t333.length co13, .slice Ao15 t336.length co15, .slice Ao16 t339.length co16, .slice Ao17 t342.length co17, .slice Ao18 t345.length co18] 48 (0, 0)) (by (with_reducible repeat (first | refine blk_drewN ?_ _ | refine blk_drew ?_ | refine blk_alloc ?_ _)); exact BK348.out) hb)
   have n13_ := Az.mk (below_step (by repeat (first | (with_reducible first | exact HB.out | apply bal | apply bdN | apply bdr | refine bS ?_ GE348.out) | exact HB.out)) hb)
   clear HO330
   clear HO332
   clear HO335
   clear HO338
   clear HO341
   clear HO344
   clear HO347
   clear BK348
   clear HB
   have HO330 := n0_
   have HO332 := n1_
   have HO335 := n2_
   have HO338 := n3_
   have HO341 := n4_
   have HO344 := n5_
   have HO347 := n6_
   have HO351 := n7_
   have HO354 := n8_
   have HO357 := n9_
   have HO360 := n10_
   have HO363 := n11_
   have BK348 := n12_
   have HB := n13_
   clear n0_ n1_ n2_ n3_ n4_ n5_ n6_ n7_ n8_ n9_ n10_ n11_ n12_ n13_
   (try clear hb)
   (try clear hb2)
   (try clear hk)
   (try clear hi)
   (try clear ho0)
   (try clear ho1)
   (try clear ho2)
   (try clear ho3)
   (try clear ho4)
   obtain ⟨Ao22, co22, eo22⟩ := Kd.R_slice HO351.out
   (first | subst eo22 | (injection eo22 with f1_ f2_ f3_; have f4_ := f1_.symm; have f5_ := f3_.symm; clear f1_ f2_ f3_; subst f4_; subst f5_))
   obtain ⟨Ao23, co23, eo23⟩ := Kd.R_slice HO354.out
   (first | subst eo23 | (injection eo23 with f1_ f2_ f3_; have f4_ := f1_.symm; have f5_ := f3_.symm; clear f1_ f2_ f3_; subst f4_; subst f5_))
   obtain ⟨Ao24, co24, eo24⟩ := Kd.R_slice HO357.out
   (first | subst eo24 | (injection eo24 with f1_ f2_ f3_; have f4_ := f1_.symm; have f5_ := f3_.symm; clear f1_ f2_ f3_; subst f4_; subst f5_))
   obtain ⟨Ao25, co25, eo25⟩ := Kd.R_slice HO360.out
   (first | subst eo25 | (injection eo25 with f1_ f2_ f3_; have f4_ := f1_.symm; have f5_ := f3_.symm; clear f1_ f2_ f3_; subst f4_; subst f5_))
   obtain ⟨Ao26, co26, eo26⟩ := Kd.R_slice HO363.out
   (first | subst eo26 | (injection eo26 with f1_ f2_ f3_; have f4_ := f1_.symm; have f5_ := f3_.symm; clear f1_ f2_ f3_; subst f4_; subst f5_))
   refine hK.out _ _ ⟨(bC BK348.out 0).trans rfl, (bC BK348.out 1).trans rfl, (bC BK348.out 2).trans rfl, (bC BK348.out 3).trans rfl, (bC BK348.out 4).trans rfl⟩ (fun hHeld => ?_)
   clear hK K
   refine norm_ (a' := ?_) ?_ ?_
   rotate_left
   ·show Act.put _ (some 24) _ = _
    simp only [Act.put, List.setIfInBounds_toArray, List.set_cons_zero, List.set_cons_succ, i64_w, i32_w]
    rfl
   refine one_ (i := 4) (N := some 25) #[true, true, true, true, true, false] rfl rfl (by kernel_rfl) (by decide) (fun K hK => ?_)
   refine goes_ Try.func25 (by kernel_rfl) rfl #[.agg #[.slice Ao13 t333.length co13, .slice Ao15 t336.length co15, .slice Ao16 t339.length co16, .slice Ao17 t342.length co17, .slice Ao18 t345.length co18], .agg #[.slice Ao22 t349.length co22, .slice Ao23 t352.length co23, .slice Ao24 t355.length co24, .slice Ao25 t358.length co25, .slice Ao26 t361.length co26]] (by rfl) rfl rfl (by (try simp only [List.map_toArray, List.map_cons, List.map_nil]); first | done | rfl | (simp only [List.length_drop, List.length_take]; rfl)) ?_
   with_reducible refine (spec_SameImports.calls k _ _ t333 _ _ t336 _ _ t339 _ _ t342 _ _ t345 _ _ t349 _ _ t352 _ _ t355 _ _ t358 _ _ t361 true _ ?side1 ?side2 ?side3 ?side4 ?side5 ?side6 ?side7 ?side8 ?side9 ?side10 ?side11 ?side12 ?side13 ?side14 ?side15 ?side16 ?side17 ?side18 ?side19 ?side20 A6.out).mono ?_
   (case side1 => repeat (first | exact (Kd.R_reads' HO335.out).2.2 | (with_reducible refine Kd.C_alloc ?_ _) | (with_reducible refine Kd.C_drewN ?_ _) | (with_reducible refine Kd.C_drew ?_)))
   (case side2 => exact (Kd.R_reads' HO335.out).2.1)
   (case side3 => repeat (first | exact (Kd.R_reads' HO338.out).2.2 | (with_reducible refine Kd.C_alloc ?_ _) | (with_reducible refine Kd.C_drewN ?_ _) | (with_reducible refine Kd.C_drew ?_)))
   (case side4 => exact (Kd.R_reads' HO338.out).2.1)
   (case side5 => repeat (first | exact (Kd.R_reads' HO341.out).2.2 | (with_reducible refine Kd.C_alloc ?_ _) | (with_reducible refine Kd.C_drewN ?_ _) | (with_reducible refine Kd.C_drew ?_)))
   (case side6 => exact (Kd.R_reads' HO341.out).2.1)
   (case side7 => repeat (first | exact (Kd.R_reads' HO344.out).2.2 | (with_reducible refine Kd.C_alloc ?_ _) | (with_reducible refine Kd.C_drewN ?_ _) | (with_reducible refine Kd.C_drew ?_)))
   (case side8 => exact (Kd.R_reads' HO344.out).2.1)
   (case side9 => repeat (first | exact (Kd.R_reads' HO347.out).2.2 | (with_reducible refine Kd.C_alloc ?_ _) | (with_reducible refine Kd.C_drewN ?_ _) | (with_reducible refine Kd.C_drew ?_)))
   (case side10 => exact (Kd.R_reads' HO347.out).2.1)
   (case side11 => repeat (first | exact (Kd.R_reads' HO351.out).2.2 | (with_reducible refine Kd.C_alloc ?_ _) | (with_reducible refine Kd.C_drewN ?_ _) | (with_reducible refine Kd.C_drew ?_)))
   (case side12 => exact (Kd.R_reads' HO351.out).2.1)
   (case side13 => repeat (first | exact (Kd.R_reads' HO354.out).2.2 | (with_reducible refine Kd.C_alloc ?_ _) | (with_reducible refine Kd.C_drewN ?_ _) | (with_reducible refine Kd.C_drew ?_)))
   (case side14 => exact (Kd.R_reads' HO354.out).2.1)
   (case side15 => repeat (first | exact (Kd.R_reads' HO357.out).2.2 | (with_reducible refine Kd.C_alloc ?_ _) | (with_reducible refine Kd.C_drewN ?_ _) | (with_reducible refine Kd.C_drew ?_)))
   (case side16 => exact (Kd.R_reads' HO357.out).2.1)
   (case side17 => repeat (first | exact (Kd.R_reads' HO360.out).2.2 | (with_reducible refine Kd.C_alloc ?_ _) | (with_reducible refine Kd.C_drewN ?_ _) | (with_reducible refine Kd.C_drew ?_)))
   (case side18 => exact (Kd.R_reads' HO360.out).2.1)
   (case side19 => repeat (first | exact (Kd.R_reads' HO363.out).2.2 | (with_reducible refine Kd.C_alloc ?_ _) | (with_reducible refine Kd.C_drewN ?_ _) | (with_reducible refine Kd.C_drew ?_)))
   (case side20 => exact (Kd.R_reads' HO363.out).2.1)
   rintro e w27 ⟨rfl, hb⟩
   refine ⟨_, rfl, ?_⟩
   have n0_ := Az.mk (Kd.S_below (by (with_reducible repeat (first | apply Kd.S_alloc | apply Kd.S_drewN | apply Kd.S_drew)); exact HO330.out) hb)
   have n1_ := Az.mk (Kd.R_below (by (with_reducible repeat (first | apply Kd.R_alloc | apply Kd.R_drewN | apply Kd.R_drew)); exact HO332.out) hb)
   have n2_ := Az.mk (Kd.R_below (by (with_reducible repeat (first | apply Kd.R_alloc | apply Kd.R_drewN | apply Kd.R_drew)); exact HO335.out) hb)
   have n3_ := Az.mk (Kd.R_below (by (with_reducible repeat (first | apply Kd.R_alloc | apply Kd.R_drewN | apply Kd.R_drew)); exact HO338.out) hb)
   have n4_ := Az.mk (Kd.R_below (by (with_reducible repeat (first | apply Kd.R_alloc | apply Kd.R_drewN | apply Kd.R_drew)); exact HO341.out) hb)
   have n5_ := Az.mk (Kd.R_below (by (with_reducible repeat (first | apply Kd.R_alloc | apply Kd.R_drewN | apply Kd.R_drew)); exact HO344.out) hb)
   have n6_ := Az.mk (Kd.R_below (by (with_reducible repeat (first | apply Kd.R_alloc | apply Kd.R_drewN | apply Kd.R_drew)); exact HO347.out) hb)
   have n7_ := Az.mk (Kd.R_below (by (with_reducible repeat (first | apply Kd.R_alloc | apply Kd.R_drewN | apply Kd.R_drew)); exact HO351.out) hb)
   have n8_ := Az.mk (Kd.R_below (by (with_reducible repeat (first | apply Kd.R_alloc | apply Kd.R_drewN | apply Kd.R_drew)); exact HO354.out) hb)
   have n9_ := Az.mk (Kd.R_below (by (with_reducible repeat (first | apply Kd.R_alloc | apply Kd.R_drewN | apply Kd.R_drew)); exact HO357.out) hb)
   have n10_ := Az.mk (Kd.R_below (by (with_reducible repeat (first | apply Kd.R_alloc | apply Kd.R_drewN | apply Kd.R_drew)); exact HO360.out) hb)
   have n11_ := Az.mk (Kd.R_below (by (with_reducible repeat (first | apply Kd.R_alloc | apply Kd.R_drewN | apply Kd.R_drew)); exact HO363.out) hb)
   have n12_ := Az.mk (blk_below (g := gb348) (o := .cells #[.slice Ao13 t333.length co13, .slice Ao15 t336.length co15, .slice Ao16 t339.length co16, .slice Ao17 t342.length co17, .slice Ao18 t345.length co18] 48 (0, 0)) (by (with_reducible repeat (first | refine blk_drewN ?_ _ | refine blk_drew ?_ | refine blk_alloc ?_ _)); exact BK348.out) hb)
   have n13_ := Az.mk (below_step (by repeat (first | (with_reducible first | exact HB.out | apply bal | apply bdN | apply bdr | refine bS ?_ GE348.out) | exact HB.out)) hb)
   clear HO330
   clear HO332
   clear HO335
   clear HO338
   clear HO341
   clear HO344
   clear HO347
   clear HO351
   clear HO354
   clear HO357
   clear HO360
   clear HO363
   clear BK348
   clear HB
   have HO330 := n0_
   have HO332 := n1_
   have HO335 := n2_
   have HO338 := n3_
   have HO341 := n4_
   have HO344 := n5_
   have HO347 := n6_
   have HO351 := n7_
   have HO354 := n8_
   have HO357 := n9_
   have HO360 := n10_
   have HO363 := n11_
   have BK348 := n12_
   have HB := n13_
   clear n0_ n1_ n2_ n3_ n4_ n5_ n6_ n7_ n8_ n9_ n10_ n11_ n12_ n13_
   (try clear hb)
   (try clear hb2)
   (try clear hk)
   (try clear hi)
   refine hK.out _ _ ⟨(bC BK348.out 0).trans rfl, (bC BK348.out 1).trans rfl, (bC BK348.out 2).trans rfl, (bC BK348.out 3).trans rfl, (bC BK348.out 4).trans rfl⟩ (fun hHeld => ?_)
   clear hK K
   refine norm_ (a' := ?_) ?_ ?_
   rotate_left
   ·show Act.put _ (some 25) _ = _
    simp only [Act.put, List.setIfInBounds_toArray, List.set_cons_zero, List.set_cons_succ, i64_w, i32_w]
    rfl
   refine pure_ (i := 5) (N := some 26) (v := ?_) (a' := ?_) #[true, true, true, true, true, true] rfl rfl (by kernel_rfl) (fun _ _ _ h => h) (Or.inl ⟨by rfl, ?_⟩) ?_ ?_
   rotate_left
   ·intro w'
    go_simp
    with_reducible rfl
   rotate_left
   ·simp only [Act.put, List.setIfInBounds_toArray, List.set_cons_zero, List.set_cons_succ, i64_w, i32_w]
    rfl
   refine done_ (by kernel_rfl) ?_
   try go_wp2
   go_loopg [6] k (fun kq v6 w' => ∃ (x6_1 : Int), v6 = .int .i64 x6_1 ∧ Az (laws_FnImportOrder.l0 kq t327 x6_1 t333 t336 t339 t342 t345 = some r) ∧ Az (kq ≤ k) ∧ Az (Kd.S k72 72 w' w.heap.size (fun _ => True) (.slice Ao9 t327.length co9) t327) ∧ Az (Kd.R (Kd.int .i64) 3 w' w.heap.size (fun k_ => some k_ ≠ ((.slice Ao15 t336.length co15) : Value).ownBlock ∧ some k_ ≠ ((.slice Ao16 t339.length co16) : Value).ownBlock ∧ some k_ ≠ ((.slice Ao18 t345.length co18) : Value).ownBlock) (.slice Ao13 t333.length co13) t333) ∧ Az (Kd.R (Kd.int .i64) 3 w' w.heap.size (fun k_ => some k_ ≠ ((.slice Ao13 t333.length co13) : Value).ownBlock ∧ some k_ ≠ ((.slice Ao16 t339.length co16) : Value).ownBlock ∧ some k_ ≠ ((.slice Ao18 t345.length co18) : Value).ownBlock) (.slice Ao15 t336.length co15) t336) ∧ Az (Kd.R (Kd.int .i64) 3 w' w.heap.size (fun k_ => some k_ ≠ ((.slice Ao13 t333.length co13) : Value).ownBlock ∧ some k_ ≠ ((.slice Ao15 t336.length co15) : Value).ownBlock ∧ some k_ ≠ ((.slice Ao18 t345.length co18) : Value).ownBlock) (.slice Ao16 t339.length co16) t339) ∧ Az (Kd.R Kd.string 9 w' w.heap.size (fun _ => True) (.slice Ao17 t342.length co17) t342) ∧ Az (Kd.R (Kd.int .i64) 3 w' w.heap.size (fun k_ => some k_ ≠ ((.slice Ao13 t333.length co13) : Value).ownBlock ∧ some k_ ≠ ((.slice Ao15 t336.length co15) : Value).ownBlock ∧ some k_ ≠ ((.slice Ao16 t339.length co16) : Value).ownBlock) (.slice Ao18 t345.length co18) t345) ∧ Az (w'.heap[gb348]? = some (.cells #[(.slice Ao13 t333.length co13), (.slice Ao15 t336.length co15), (.slice Ao16 t339.length co16), (.slice Ao17 t342.length co17), (.slice Ao18 t345.length co18)] 48 (0, 0))) ∧ Az (Below w.heap.size w w'))
   case atStart => exact ⟨(0), (by first | rfl | (simp; done) | (simp [*]; done)), H', ⟨Nat.le_refl _⟩, ⟨by (with_reducible repeat (first | apply Kd.S_alloc | apply Kd.S_drewN | apply Kd.S_drew)); exact HO330.out⟩, ⟨by (with_reducible repeat (first | apply Kd.R_alloc | apply Kd.R_drewN | apply Kd.R_drew)); exact Kd.R_mono HO335.out (fun _ hk => ⟨hk.1.1.1.1.2.1, ⟨hk.1.1.1.1.2.2.1, hk.1.1.1.1.2.2.2⟩⟩)⟩, ⟨by (with_reducible repeat (first | apply Kd.R_alloc | apply Kd.R_drewN | apply Kd.R_drew)); exact Kd.R_mono HO338.out (fun _ hk => ⟨hk.1.1.1.1.2.1, ⟨hk.1.1.1.1.2.2.1, hk.1.1.1.1.2.2.2⟩⟩)⟩, ⟨by (with_reducible repeat (first | apply Kd.R_alloc | apply Kd.R_drewN | apply Kd.R_drew)); exact Kd.R_mono HO341.out (fun _ hk => ⟨hk.1.1.1.1.2.1, ⟨hk.1.1.1.1.2.2.1, hk.1.1.1.1.2.2.2⟩⟩)⟩, ⟨by (with_reducible repeat (first | apply Kd.R_alloc | apply Kd.R_drewN | apply Kd.R_drew)); exact Kd.R_mono HO344.out (fun _ hk => trivial)⟩, ⟨by (with_reducible repeat (first | apply Kd.R_alloc | apply Kd.R_drewN | apply Kd.R_drew)); exact Kd.R_mono HO347.out (fun _ hk => ⟨hk.1.1.1.1.2.1, ⟨hk.1.1.1.1.2.2.1, hk.1.1.1.1.2.2.2⟩⟩)⟩, ⟨by (with_reducible repeat (first | refine blk_drewN ?_ _ | refine blk_drew ?_ | refine blk_alloc ?_ _)); exact BK348.out⟩, ⟨by repeat (first | (with_reducible first | exact HB.out | apply bal | apply bdN | apply bdr | refine bS ?_ GE348.out) | exact HB.out)⟩⟩
   case round =>
    clear H'
    try clear c2
    try clear c2b0
    try clear c2b1
    try clear p2
    try clear c7
    try clear c8
    try clear c23
    try clear c24
    try clear c25
    try clear c26
    try clear hcz14_0
    try clear hcz14_1
    try clear hcz14_2
    try clear hcz14_3
    try clear hcz14_4
    try clear hfz14_0
    try clear hfz14_1
    try clear hfz14_2
    try clear hfz14_3
    try clear hfz14_4
    obtain ⟨x6_1, rfl, HA, HK1, HO_3, HO_349000, HO_349001, HO_349002, HO_349003, HO_349004, BK348, HB⟩ := hrel
    cases gk with
    | zero => exact absurd HA.out (by simp [laws_FnImportOrder.l0])
    | succ k1 =>
     have H := HA.out
     clear HA
     simp only [laws_FnImportOrder.l0] at H
     by_cases c28 : x6_1 < (t336.length : Int)
     ·rw [if_pos c28] at H
      have c28b0 : decide (x6_1 < (t336.length : Int)) = true := decide_eq_true c28
      clear c28
      by_cases c29 : 0 ≤ x6_1
      ·rw [if_pos c29] at H
       have c29b0 : decide (0 ≤ x6_1) = true := decide_eq_true c29
       clear c29
       replace H := Option.bind_eq_some_iff.mp H
       obtain ⟨t366, A300, H⟩ := H
       replace H : (if t366 = true then (laws_FnImportOrder.l0 k1 t327 (wrap64 (x6_1 + 1)) t333 t336 t339 t342 t345) else (laws_FnImportOrder.l1 k1 t327 x6_1 (rd t336 x6_1) 0 t333 t336 t339 t342 t345)) = some r := H
       have A30 := Az.mk A300
       clear A300
       by_cases c31 : t366 = true
       ·subst c31
        have H1 : (laws_FnImportOrder.l0 k1 t327 (wrap64 (x6_1 + 1)) t333 t336 t339 t342 t345) = some r := by rw [if_pos rfl] at H; exact H
        clear H
        have H := H1
        clear H1
        have H' := Az.mk H
        clear H
        have hcz32_0 : wr.cell? ⟨gb348, 0, none⟩ = some (.slice Ao13 t333.length co13) := (bC BK348.out 0).trans rfl
        have hcz32_1 : wr.cell? ⟨gb348, 1, none⟩ = some (.slice Ao15 t336.length co15) := (bC BK348.out 1).trans rfl
        have hcz32_2 : wr.cell? ⟨gb348, 2, none⟩ = some (.slice Ao16 t339.length co16) := (bC BK348.out 2).trans rfl
        have hcz32_3 : wr.cell? ⟨gb348, 3, none⟩ = some (.slice Ao17 t342.length co17) := (bC BK348.out 3).trans rfl
        have hcz32_4 : wr.cell? ⟨gb348, 4, none⟩ = some (.slice Ao18 t345.length co18) := (bC BK348.out 4).trans rfl
        have hfz32_0 := bF BK348.out 0
        have hfz32_1 := bF BK348.out 1
        have hfz32_2 := bF BK348.out 2
        have hfz32_3 := bF BK348.out 3
        have hfz32_4 := bF BK348.out 4
        have p365 : 0 ≤ (x6_1 : Int) := of_decide_eq_true (by first | (with_reducible assumption) | assumption)
        have q365 : x6_1 < (t336.length : Int) := of_decide_eq_true (by first | (with_reducible assumption) | assumption)
        obtain ⟨ad365, e365, hx365_0⟩ := Kd.at_int (Kd.R_reads' HO_349001.out).2.2 x6_1 p365 q365
        cases e365
        replace p365 := eq_true p365
        replace q365 := eq_true q365
        go_wp2_with (first | ((with_reducible refine gate_callee (f := 43) rfl ?_); refine goesL_ (some 41) rfl rfl Try.func43 (by kernel_rfl) rfl #[.slice Ao9 t327.length co9, .int .i64 (rd t336 x6_1)] rfl (by (try simp only [List.map_toArray, List.map_cons, List.map_nil]); first | done | rfl | (simp only [List.length_drop, List.length_take]; rfl)) ?_; (with_reducible refine (impl_ImportCircle.calls k1 _ _ t327 (rd t336 x6_1) true _ ?side1 ?side2 A30.out).mono ?_); (case side1 => repeat (first | exact (Kd.S_reads' HO_3.out).2.2 | (with_reducible refine Kd.C_alloc ?_ _) | (with_reducible refine Kd.C_drewN ?_ _) | (with_reducible refine Kd.C_drew ?_))); (case side2 => exact (Kd.S_reads' HO_3.out).2.1); rintro e w33 ⟨rfl, hb⟩; refine ⟨_, rfl, ?_⟩; have n0_ := Az.mk (Kd.S_below (by (with_reducible repeat (first | apply Kd.S_alloc | apply Kd.S_drewN | apply Kd.S_drew)); exact HO_3.out) hb); have n1_ := Az.mk (Kd.R_below (by (with_reducible repeat (first | apply Kd.R_alloc | apply Kd.R_drewN | apply Kd.R_drew)); exact HO_349000.out) hb); have n2_ := Az.mk (Kd.R_below (by (with_reducible repeat (first | apply Kd.R_alloc | apply Kd.R_drewN | apply Kd.R_drew)); exact HO_349001.out) hb); have n3_ := Az.mk (Kd.R_below (by (with_reducible repeat (first | apply Kd.R_alloc | apply Kd.R_drewN | apply Kd.R_drew)); exact HO_349002.out) hb); have n4_ := Az.mk (Kd.R_below (by (with_reducible repeat (first | apply Kd.R_alloc | apply Kd.R_drewN | apply Kd.R_drew)); exact HO_349003.out) hb); have n5_ := Az.mk (Kd.R_below (by (with_reducible repeat (first | apply Kd.R_alloc | apply Kd.R_drewN | apply Kd.R_drew)); exact HO_349004.out) hb); have n6_ := Az.mk (blk_below (g := gb348) (o := .cells #[.slice Ao13 t333.length co13, .slice (some ad365) t336.length co15, .slice Ao16 t339.length co16, .slice Ao17 t342.length co17, .slice Ao18 t345.length co18] 48 (0, 0)) (by (with_reducible repeat (first | refine blk_drewN ?_ _ | refine blk_drew ?_ | refine blk_alloc ?_ _)); exact BK348.out) hb); have n7_ := Az.mk (below_step (by repeat (first | (with_reducible first | exact HB.out | apply bal | apply bdN | apply bdr | refine bS ?_ GE348.out) | exact HB.out)) hb); clear HO_3; clear HO_349000; clear HO_349001; clear HO_349002; clear HO_349003; clear HO_349004; clear BK348; clear HB; have HO_3 := n0_; have HO_349000 := n1_; have HO_349001 := n2_; have HO_349002 := n3_; have HO_349003 := n4_; have HO_349004 := n5_; have BK348 := n6_; have HB := n7_; clear n0_ n1_ n2_ n3_ n4_ n5_ n6_ n7_; (try clear hb); (try clear hb2); (try clear hk); (try clear hi)))
        go_roundg k1
        case measure => have := HK1.out; omega
        case rel => exact ⟨(wrap64 (x6_1 + 1)), (by first | rfl | (simp; done) | (simp [*]; done)), H', ⟨by have := HK1.out; omega⟩, ⟨by (with_reducible repeat (first | apply Kd.S_alloc | apply Kd.S_drewN | apply Kd.S_drew)); exact HO_3.out⟩, ⟨by (with_reducible repeat (first | apply Kd.R_alloc | apply Kd.R_drewN | apply Kd.R_drew)); exact HO_349000.out⟩, ⟨by (with_reducible repeat (first | apply Kd.R_alloc | apply Kd.R_drewN | apply Kd.R_drew)); exact HO_349001.out⟩, ⟨by (with_reducible repeat (first | apply Kd.R_alloc | apply Kd.R_drewN | apply Kd.R_drew)); exact HO_349002.out⟩, ⟨by (with_reducible repeat (first | apply Kd.R_alloc | apply Kd.R_drewN | apply Kd.R_drew)); exact HO_349003.out⟩, ⟨by (with_reducible repeat (first | apply Kd.R_alloc | apply Kd.R_drewN | apply Kd.R_drew)); exact HO_349004.out⟩, ⟨by (with_reducible repeat (first | refine blk_drewN ?_ _ | refine blk_drew ?_ | refine blk_alloc ?_ _)); exact BK348.out⟩, ⟨by repeat (first | (with_reducible first | exact HB.out | apply bal | apply bdN | apply bdr | refine bS ?_ GE348.out) | exact HB.out)⟩⟩
       ·replace c31 := Bool.eq_false_iff.mpr c31
        subst c31
        have H1 : (laws_FnImportOrder.l1 k1 t327 x6_1 (rd t336 x6_1) 0 t333 t336 t339 t342 t345) = some r := by rw [if_neg (show ¬ (false = true) by decide)] at H; exact H
        clear H
        have H := H1
        clear H1
        have H' := Az.mk H
        clear H
        have hcz34_0 : wr.cell? ⟨gb348, 0, none⟩ = some (.slice Ao13 t333.length co13) := (bC BK348.out 0).trans rfl
        have hcz34_1 : wr.cell? ⟨gb348, 1, none⟩ = some (.slice Ao15 t336.length co15) := (bC BK348.out 1).trans rfl
        have hcz34_2 : wr.cell? ⟨gb348, 2, none⟩ = some (.slice Ao16 t339.length co16) := (bC BK348.out 2).trans rfl
        have hcz34_3 : wr.cell? ⟨gb348, 3, none⟩ = some (.slice Ao17 t342.length co17) := (bC BK348.out 3).trans rfl
        have hcz34_4 : wr.cell? ⟨gb348, 4, none⟩ = some (.slice Ao18 t345.length co18) := (bC BK348.out 4).trans rfl
        have hfz34_0 := bF BK348.out 0
        have hfz34_1 := bF BK348.out 1
        have hfz34_2 := bF BK348.out 2
        have hfz34_3 := bF BK348.out 3
        have hfz34_4 := bF BK348.out 4
        have p365 : 0 ≤ (x6_1 : Int) := of_decide_eq_true (by first | (with_reducible assumption) | assumption)
        have q365 : x6_1 < (t336.length : Int) := of_decide_eq_true (by first | (with_reducible assumption) | assumption)
        obtain ⟨ad365, e365, hx365_0⟩ := Kd.at_int (Kd.R_reads' HO_349001.out).2.2 x6_1 p365 q365
        cases e365
        replace p365 := eq_true p365
        replace q365 := eq_true q365
        go_wp2_with (first | ((with_reducible refine gate_callee (f := 43) rfl ?_); refine goesL_ (some 41) rfl rfl Try.func43 (by kernel_rfl) rfl #[.slice Ao9 t327.length co9, .int .i64 (rd t336 x6_1)] rfl (by (try simp only [List.map_toArray, List.map_cons, List.map_nil]); first | done | rfl | (simp only [List.length_drop, List.length_take]; rfl)) ?_; (with_reducible refine (impl_ImportCircle.calls k1 _ _ t327 (rd t336 x6_1) false _ ?side1 ?side2 A30.out).mono ?_); (case side1 => repeat (first | exact (Kd.S_reads' HO_3.out).2.2 | (with_reducible refine Kd.C_alloc ?_ _) | (with_reducible refine Kd.C_drewN ?_ _) | (with_reducible refine Kd.C_drew ?_))); (case side2 => exact (Kd.S_reads' HO_3.out).2.1); rintro e w35 ⟨rfl, hb⟩; refine ⟨_, rfl, ?_⟩; have n0_ := Az.mk (Kd.S_below (by (with_reducible repeat (first | apply Kd.S_alloc | apply Kd.S_drewN | apply Kd.S_drew)); exact HO_3.out) hb); have n1_ := Az.mk (Kd.R_below (by (with_reducible repeat (first | apply Kd.R_alloc | apply Kd.R_drewN | apply Kd.R_drew)); exact HO_349000.out) hb); have n2_ := Az.mk (Kd.R_below (by (with_reducible repeat (first | apply Kd.R_alloc | apply Kd.R_drewN | apply Kd.R_drew)); exact HO_349001.out) hb); have n3_ := Az.mk (Kd.R_below (by (with_reducible repeat (first | apply Kd.R_alloc | apply Kd.R_drewN | apply Kd.R_drew)); exact HO_349002.out) hb); have n4_ := Az.mk (Kd.R_below (by (with_reducible repeat (first | apply Kd.R_alloc | apply Kd.R_drewN | apply Kd.R_drew)); exact HO_349003.out) hb); have n5_ := Az.mk (Kd.R_below (by (with_reducible repeat (first | apply Kd.R_alloc | apply Kd.R_drewN | apply Kd.R_drew)); exact HO_349004.out) hb); have n6_ := Az.mk (blk_below (g := gb348) (o := .cells #[.slice Ao13 t333.length co13, .slice (some ad365) t336.length co15, .slice Ao16 t339.length co16, .slice Ao17 t342.length co17, .slice Ao18 t345.length co18] 48 (0, 0)) (by (with_reducible repeat (first | refine blk_drewN ?_ _ | refine blk_drew ?_ | refine blk_alloc ?_ _)); exact BK348.out) hb); have n7_ := Az.mk (below_step (by repeat (first | (with_reducible first | exact HB.out | apply bal | apply bdN | apply bdr | refine bS ?_ GE348.out) | exact HB.out)) hb); clear HO_3; clear HO_349000; clear HO_349001; clear HO_349002; clear HO_349003; clear HO_349004; clear BK348; clear HB; have HO_3 := n0_; have HO_349000 := n1_; have HO_349001 := n2_; have HO_349002 := n3_; have HO_349003 := n4_; have HO_349004 := n5_; have BK348 := n6_; have HB := n7_; clear n0_ n1_ n2_ n3_ n4_ n5_ n6_ n7_; (try clear hb); (try clear hb2); (try clear hk); (try clear hi)))
        go_loopg [8] k1 (fun kq v8 w' => ∃ (x8_2 : Int), v8 = .int .i64 x8_2 ∧ Az (laws_FnImportOrder.l1 kq t327 x6_1 (rd t336 x6_1) x8_2 t333 t336 t339 t342 t345 = some r) ∧ Az (kq ≤ k1) ∧ Az (Kd.S k72 72 w' w.heap.size (fun _ => True) (.slice Ao9 t327.length co9) t327) ∧ Az (Kd.R (Kd.int .i64) 3 w' w.heap.size (fun k_ => some k_ ≠ ((.slice (some ad365) t336.length co15) : Value).ownBlock ∧ some k_ ≠ ((.slice Ao16 t339.length co16) : Value).ownBlock ∧ some k_ ≠ ((.slice Ao18 t345.length co18) : Value).ownBlock) (.slice Ao13 t333.length co13) t333) ∧ Az (Kd.R (Kd.int .i64) 3 w' w.heap.size (fun k_ => some k_ ≠ ((.slice Ao13 t333.length co13) : Value).ownBlock ∧ some k_ ≠ ((.slice Ao16 t339.length co16) : Value).ownBlock ∧ some k_ ≠ ((.slice Ao18 t345.length co18) : Value).ownBlock) (.slice (some ad365) t336.length co15) t336) ∧ Az (Kd.R (Kd.int .i64) 3 w' w.heap.size (fun k_ => some k_ ≠ ((.slice Ao13 t333.length co13) : Value).ownBlock ∧ some k_ ≠ ((.slice (some ad365) t336.length co15) : Value).ownBlock ∧ some k_ ≠ ((.slice Ao18 t345.length co18) : Value).ownBlock) (.slice Ao16 t339.length co16) t339) ∧ Az (Kd.R Kd.string 9 w' w.heap.size (fun _ => True) (.slice Ao17 t342.length co17) t342) ∧ Az (Kd.R (Kd.int .i64) 3 w' w.heap.size (fun k_ => some k_ ≠ ((.slice Ao13 t333.length co13) : Value).ownBlock ∧ some k_ ≠ ((.slice (some ad365) t336.length co15) : Value).ownBlock ∧ some k_ ≠ ((.slice Ao16 t339.length co16) : Value).ownBlock) (.slice Ao18 t345.length co18) t345) ∧ Az (w'.heap[gb348]? = some (.cells #[(.slice Ao13 t333.length co13), (.slice (some ad365) t336.length co15), (.slice Ao16 t339.length co16), (.slice Ao17 t342.length co17), (.slice Ao18 t345.length co18)] 48 (0, 0))) ∧ Az (Below w.heap.size w w'))
        case atStart => exact ⟨(0), (by first | rfl | (simp; done) | (simp [*]; done)), H', ⟨Nat.le_refl _⟩, ⟨by (with_reducible repeat (first | apply Kd.S_alloc | apply Kd.S_drewN | apply Kd.S_drew)); exact HO_3.out⟩, ⟨by (with_reducible repeat (first | apply Kd.R_alloc | apply Kd.R_drewN | apply Kd.R_drew)); exact HO_349000.out⟩, ⟨by (with_reducible repeat (first | apply Kd.R_alloc | apply Kd.R_drewN | apply Kd.R_drew)); exact HO_349001.out⟩, ⟨by (with_reducible repeat (first | apply Kd.R_alloc | apply Kd.R_drewN | apply Kd.R_drew)); exact HO_349002.out⟩, ⟨by (with_reducible repeat (first | apply Kd.R_alloc | apply Kd.R_drewN | apply Kd.R_drew)); exact HO_349003.out⟩, ⟨by (with_reducible repeat (first | apply Kd.R_alloc | apply Kd.R_drewN | apply Kd.R_drew)); exact HO_349004.out⟩, ⟨by (with_reducible repeat (first | refine blk_drewN ?_ _ | refine blk_drew ?_ | refine blk_alloc ?_ _)); exact BK348.out⟩, ⟨by repeat (first | (with_reducible first | exact HB.out | apply bal | apply bdN | apply bdr | refine bS ?_ GE348.out) | exact HB.out)⟩⟩
        case round =>
         clear H'
         try clear c2
         try clear c2b0
         try clear c2b1
         try clear p2
         try clear c3
         try clear p3
         try clear q3
         try clear hx3
         try clear c4
         try clear p6
         try clear c7
         try clear c8
         try clear c23
         try clear c24
         try clear c25
         try clear c26
         try clear c28
         try clear c28b0
         try clear c29
         try clear c29b0
         try clear c31
         try clear hcz14_0
         try clear hcz14_1
         try clear hcz14_2
         try clear hcz14_3
         try clear hcz14_4
         try clear hcz32_0
         try clear hcz32_1
         try clear hcz32_2
         try clear hcz32_3
         try clear hcz32_4
         try clear hcz34_0
         try clear hcz34_1
         try clear hcz34_2
         try clear hcz34_3
         try clear hcz34_4
         try clear hfz14_0
         try clear hfz14_1
         try clear hfz14_2
         try clear hfz14_3
         try clear hfz14_4
         try clear hfz32_0
         try clear hfz32_1
         try clear hfz32_2
         try clear hfz32_3
         try clear hfz32_4
         try clear hfz34_0
         try clear hfz34_1
         try clear hfz34_2
         try clear hfz34_3
         try clear hfz34_4
         try clear hx365_0
         try clear p2
         try clear p365
         try clear q365
         obtain ⟨x8_2, rfl, HA, HK2, HO_3, HO_349000, HO_349001, HO_349002, HO_349003, HO_349004, BK348, HB⟩ := hrel
         cases gk with
         | zero => exact absurd HA.out (by simp [laws_FnImportOrder.l1])
         | succ k2 =>
          have H := HA.out
          clear HA
          simp only [laws_FnImportOrder.l1] at H
          by_cases c36 : 0 ≤ (rd t336 x6_1)
          ·rw [if_pos c36] at H
           have c36b0 : decide (0 ≤ (rd t336 x6_1)) = true := decide_eq_true c36
           clear c36
           by_cases c37 : (rd t336 x6_1) < (t327.length : Int)
           ·rw [if_pos c37] at H
            have c37b0 : decide ((rd t336 x6_1) < (t327.length : Int)) = true := decide_eq_true c37
            clear c37
            by_cases c38 : x8_2 < (((rX t327 (rd t336 x6_1)).f0).length : Int)
            ·rw [if_pos c38] at H
             have c38b0 : decide (x8_2 < (((rX t327 (rd t336 x6_1)).f0).length : Int)) = true := decide_eq_true c38
             clear c38
             by_cases c39 : 0 ≤ x8_2
             ·rw [if_pos c39] at H
              have c39b0 : decide (0 ≤ x8_2) = true := decide_eq_true c39
              clear c39
              by_cases c40 : ((rY ((rX t327 (rd t336 x6_1)).f0) x8_2).f0) = 1
              ·rw [if_pos c40] at H
               have c40b0 : (((rY ((rX t327 (rd t336 x6_1)).f0) x8_2).f0) == 1) = true := beq_iff_eq.mpr c40
               have c40b1 : (((rY ((rX t327 (rd t336 x6_1)).f0) x8_2).f0) != 1) = false := bne_eq_false_iff_eq.mpr c40
               clear c40
               by_cases c41 : 0 ≤ x6_1
               ·rw [if_pos c41] at H
                have c41b0 := eq_true c41
                have c41b1 : decide (0 ≤ x6_1) = true := decide_eq_true c41
                clear c41
                by_cases c42 : x6_1 ≤ (t336.length : Int)
                ·rw [if_pos c42] at H
                 have c42b0 := eq_true c42
                 have c42b1 : decide (x6_1 ≤ (t336.length : Int)) = true := decide_eq_true c42
                 clear c42
                 obtain ⟨y371, hy371⟩ : ∃ y_ : List Int, y_ = (t336.take (x6_1 : Int).toNat) := ⟨_, rfl⟩
                 replace H : ((spec_HasInt.f k2 y371 ((rY ((rX t327 (rd t336 x6_1)).f0) x8_2).f1)).bind fun t375 => (if t375 = true then (laws_FnImportOrder.l1 k2 t327 x6_1 (rd t336 x6_1) (wrap64 (x8_2 + 1)) t333 t336 t339 t342 t345) else (some false))) = some r := by first | (rw [hy371]; with_reducible exact H) | (have H2_ := (Option.bind_some _ _).symm.trans H; rw [hy371]; with_reducible exact H2_) | (have H2_ := (Option.bind_some _ _).symm.trans H; with_reducible exact H2_) | with_reducible exact H | (rw [hy371]; exact H) | exact H
                 have Ny371 := Az.mk hy371
                 clear hy371
                 replace H := Option.bind_eq_some_iff.mp H
                 obtain ⟨t375, A430, H⟩ := H
                 replace H : (if t375 = true then (laws_FnImportOrder.l1 k2 t327 x6_1 (rd t336 x6_1) (wrap64 (x8_2 + 1)) t333 t336 t339 t342 t345) else (some false)) = some r := H
                 have A43 := Az.mk A430
                 clear A430
                 by_cases c44 : t375 = true
                 ·subst c44
                  have H1 : (laws_FnImportOrder.l1 k2 t327 x6_1 (rd t336 x6_1) (wrap64 (x8_2 + 1)) t333 t336 t339 t342 t345) = some r := by rw [if_pos rfl] at H; exact H
                  clear H
                  have H := H1
                  clear H1
                  have H' := Az.mk H
                  clear H
                  have p367 : 0 ≤ ((rd t336 x6_1) : Int) := of_decide_eq_true (by first | (with_reducible assumption) | assumption)
                  have q367 : (rd t336 x6_1) < (t327.length : Int) := of_decide_eq_true (by first | (with_reducible assumption) | assumption)
                  obtain ⟨ad367, A367_0, c367_0, e367, hx367_0, hl367_0, hi367_0⟩ := at_T72 (Kd.S_reads' HO_3.out).2.2 (rd t336 x6_1) p367 q367
                  cases e367
                  obtain ⟨ce367, hce367, hMe367, hcc367⟩ := Kd.S_get HO_3.out z72 (rd t336 x6_1) p367 (by first | exact q367 | exact of_decide_eq_true (by first | (with_reducible assumption) | assumption) | (have e_ := (Kd.S_reads' HO_3.out).1; omega))
                  obtain ⟨ve367_0, rfl, ge367_0⟩ := k72_openM hMe367
                  have hv367_0 := hcc367 0 _ rfl
                  rw [Nat.add_zero, show (k72).sz = 1 from rfl, Nat.mul_one] at hv367_0
                  replace hv367_0 := Option.some.inj (hv367_0.symm.trans hx367_0)
                  rw [hv367_0] at ge367_0
                  have HL367_0 := Az.mk (show Kd.R k74 74 _ _ _ _ ((rX t327 (rd t336 x6_1)).f0) from ge367_0)
                  clear hv367_0 ge367_0
                  clear hcc367 hce367
                  have HR367_0 := Az.mk hi367_0
                  have HC367_0 := Az.mk hl367_0
                  clear hi367_0 hl367_0
                  replace p367 := eq_true p367
                  replace q367 := eq_true q367
                  have p368 : 0 ≤ ((rd t336 x6_1) : Int) := of_decide_eq_true (by first | (with_reducible assumption) | assumption)
                  have q368 : (rd t336 x6_1) < (t327.length : Int) := of_decide_eq_true (by first | (with_reducible assumption) | assumption)
                  obtain ⟨ad368, A368_0, c368_0, e368, hx368_0, hl368_0, hi368_0⟩ := at_T72 (Kd.S_reads' HO_3.out).2.2 (rd t336 x6_1) p368 q368
                  obtain rfl : ad367 = ad368 := (by injection e368)
                  obtain ⟨ce368, hce368, hMe368, hcc368⟩ := Kd.S_get HO_3.out z72 (rd t336 x6_1) p368 (by first | exact q368 | exact of_decide_eq_true (by first | (with_reducible assumption) | assumption) | (have e_ := (Kd.S_reads' HO_3.out).1; omega))
                  obtain ⟨ve368_0, rfl, ge368_0⟩ := k72_openM hMe368
                  have hv368_0 := hcc368 0 _ rfl
                  rw [Nat.add_zero, show (k72).sz = 1 from rfl, Nat.mul_one] at hv368_0
                  replace hv368_0 := Option.some.inj (hv368_0.symm.trans hx368_0)
                  rw [hv368_0] at ge368_0
                  have HL368_0 := Az.mk (show Kd.R k74 74 _ _ _ _ ((rX t327 (rd t336 x6_1)).f0) from ge368_0)
                  clear hv368_0 ge368_0
                  clear hcc368 hce368
                  have HR368_0 := Az.mk hi368_0
                  have HC368_0 := Az.mk hl368_0
                  clear hi368_0 hl368_0
                  replace p368 := eq_true p368
                  replace q368 := eq_true q368
                  have ea_ := Option.some.inj (hx367_0.symm.trans hx368_0)
                  injection ea_ with ea_ en_ ec_
                  subst ea_
                  subst ec_
                  clear en_
                  have p369 : 0 ≤ (x8_2 : Int) := of_decide_eq_true (by first | (with_reducible assumption) | assumption)
                  have q369 : x8_2 < (((rX t327 (rd t336 x6_1)).f0).length : Int) := of_decide_eq_true (by first | (with_reducible assumption) | assumption)
                  obtain ⟨ad369, e369, hx369_0, hx369_1, hx369_2⟩ := at_T74 (by repeat (first | (with_reducible exact HR368_0.out) | (with_reducible refine Kd.C_alloc ?_ _) | (with_reducible refine Kd.C_drewN ?_ _) | (with_reducible refine Kd.C_drew ?_) | exact HR368_0.out)) x8_2 p369 q369
                  cases e369
                  replace p369 := eq_true p369
                  replace q369 := eq_true q369
                  try go_wp2_with (first | ((with_reducible refine gate_dst (N := 9) rfl ?_); refine box_event ?hg (N := 9) ?hd (cs := #[.int .i64 0, .int .i64 0, .string (⟨#[]⟩ : ByteArray)]) (t := 74) ?hr ?_; (case hd => rfl); (case hg => rfl); (case hr => first | (go_simp; done) | (go_simp; rfl)); intro gb370 hg w45 hbox hb; have n0_ := Az.mk (Kd.S_below (Kd.S_elderB (by (with_reducible repeat (first | apply Kd.S_alloc | apply Kd.S_drewN | apply Kd.S_drew)); exact HO_3.out) gb370 (Nat.le_of_eq hg.symm)) hb); have n1_ := Az.mk (Kd.R_below (by (with_reducible repeat (first | apply Kd.R_alloc | apply Kd.R_drewN | apply Kd.R_drew)); exact HO_349000.out) hb); have n2_ := Az.mk (Kd.R_below (by (with_reducible repeat (first | apply Kd.R_alloc | apply Kd.R_drewN | apply Kd.R_drew)); exact HO_349001.out) hb); have n3_ := Az.mk (Kd.R_below (by (with_reducible repeat (first | apply Kd.R_alloc | apply Kd.R_drewN | apply Kd.R_drew)); exact HO_349002.out) hb); have n4_ := Az.mk (Kd.R_below (by (with_reducible repeat (first | apply Kd.R_alloc | apply Kd.R_drewN | apply Kd.R_drew)); exact HO_349003.out) hb); have n5_ := Az.mk (Kd.R_below (by (with_reducible repeat (first | apply Kd.R_alloc | apply Kd.R_drewN | apply Kd.R_drew)); exact HO_349004.out) hb); have n6_ := Az.mk (Kd.R_below (Kd.R_elderB (by (with_reducible repeat (first | apply Kd.R_alloc | apply Kd.R_drewN | apply Kd.R_drew)); exact HL367_0.out) gb370 (Nat.le_of_eq hg.symm)) hb); have n7_ := Az.mk (Kd.R_below (Kd.R_elderB (by (with_reducible repeat (first | apply Kd.R_alloc | apply Kd.R_drewN | apply Kd.R_drew)); exact HL368_0.out) gb370 (Nat.le_of_eq hg.symm)) hb); have n8_ := Az.mk (blk_below (g := gb348) (o := .cells #[.slice Ao13 t333.length co13, .slice (some ad365) t336.length co15, .slice Ao16 t339.length co16, .slice Ao17 t342.length co17, .slice Ao18 t345.length co18] 48 (0, 0)) (by (with_reducible repeat (first | refine blk_drewN ?_ _ | refine blk_drew ?_ | refine blk_alloc ?_ _)); exact BK348.out) hb); have n9_ := Az.mk (Kd.C_below (by repeat (first | (with_reducible exact HR367_0.out) | (with_reducible refine Kd.C_alloc ?_ _) | (with_reducible refine Kd.C_drewN ?_ _) | (with_reducible refine Kd.C_drew ?_) | exact HR367_0.out)) hb); have n10_ := Az.mk (Kd.C_below (by repeat (first | (with_reducible exact HR368_0.out) | (with_reducible refine Kd.C_alloc ?_ _) | (with_reducible refine Kd.C_drewN ?_ _) | (with_reducible refine Kd.C_drew ?_) | exact HR368_0.out)) hb); have n11_ := Az.mk (below_step (by repeat (first | (with_reducible first | exact HB.out | apply bal | apply bdN | apply bdr | refine bS ?_ GE348.out) | exact HB.out)) hb); have n12_ := Az.mk (hbox); have n13_ := Az.mk ((by rw [hg]; exact (below_size (by repeat (first | (with_reducible first | exact HB.out | apply bal | apply bdN | apply bdr | refine bS ?_ GE348.out) | exact HB.out))) : w.heap.size ≤ gb370)); have n14_ := Az.mk ((by rw [hg]; exact (below_size (by repeat (first | (with_reducible first | exact HB.out | apply bal | apply bdN | apply bdr | refine bS ?_ GE348.out) | exact HB.out))) : w.heap.size ≤ gb370)); have n15_ := Az.mk ((by rw [hg]; exact Nat.ne_of_lt (blk_lt (g := gb348) (o := .cells #[.slice Ao13 t333.length co13, .slice (some ad365) t336.length co15, .slice Ao16 t339.length co16, .slice Ao17 t342.length co17, .slice Ao18 t345.length co18] 48 (0, 0)) (by (with_reducible repeat (first | refine blk_drewN ?_ _ | refine blk_drew ?_ | refine blk_alloc ?_ _)); exact BK348.out)) : gb348 ≠ gb370)); have n16_ := Az.mk ((by rw [hg]; exact Nat.ne_of_gt (blk_lt (g := gb348) (o := .cells #[.slice Ao13 t333.length co13, .slice (some ad365) t336.length co15, .slice Ao16 t339.length co16, .slice Ao17 t342.length co17, .slice Ao18 t345.length co18] 48 (0, 0)) (by (with_reducible repeat (first | refine blk_drewN ?_ _ | refine blk_drew ?_ | refine blk_alloc ?_ _)); exact BK348.out)) : gb370 ≠ gb348)); clear HO_3; clear HO_349000; clear HO_349001; clear HO_349002; clear HO_349003; clear HO_349004; clear HL367_0; clear HL368_0; clear BK348; clear HR367_0; clear HR368_0; clear HB; have HO_3 := n0_; have HO_349000 := n1_; have HO_349001 := n2_; have HO_349002 := n3_; have HO_349003 := n4_; have HO_349004 := n5_; have HL367_0 := n6_; have HL368_0 := n7_; have BK348 := n8_; have HR367_0 := n9_; have HR368_0 := n10_; have HB := n11_; have BK370 := n12_; have GW370 := n13_; have GE370 := n14_; have NB348_370 := n15_; have NB370_348 := n16_; clear n0_ n1_ n2_ n3_ n4_ n5_ n6_ n7_ n8_ n9_ n10_ n11_ n12_ n13_ n14_ n15_ n16_; clear hb hbox hg; have hnb46 := NB370_348.out; have hnc46 := NB348_370.out; have hcz47_0 : w45.cell? ⟨gb370, 0, none⟩ = some (.int .i64 0) := (bC BK370.out 0).trans rfl; have hcz47_1 : w45.cell? ⟨gb370, 1, none⟩ = some (.int .i64 0) := (bC BK370.out 1).trans rfl; have hcz47_2 : w45.cell? ⟨gb370, 2, none⟩ = some (.string (⟨#[]⟩ : ByteArray)) := (bC BK370.out 2).trans rfl; have hfz47_0 := bF BK370.out 0; have hfz47_1 := bF BK370.out 1; have hfz47_2 := bF BK370.out 2))
                  have n0_ : Az (Kd.S k72 72 (((w45.setCell ⟨gb370, 0, none⟩ (.int .i64 ((rY ((rX t327 (rd t336 x6_1)).f0) x8_2).f0))).setCell ⟨gb370, 1, none⟩ (.int .i64 ((rY ((rX t327 (rd t336 x6_1)).f0) x8_2).f1))).setCell ⟨gb370, 2, none⟩ (.string ((rY ((rX t327 (rd t336 x6_1)).f0) x8_2).f2))) w.heap.size (fun k_ => k_ ≠ gb370) (.slice (some ad367) t327.length co9) t327) := ⟨by (with_reducible repeat (first | apply Kd.S_alloc | apply Kd.S_drewN | apply Kd.S_drew)); exact Kd.S_mono (Kd.S_far (p := ⟨gb370, 2, none⟩) (Kd.S_far (p := ⟨gb370, 1, none⟩) (Kd.S_far (p := ⟨gb370, 0, none⟩) (Kd.S_mono HO_3.out (fun k_ hk => (⟨hk, hk.2⟩ : _ ∧ k_ ≠ gb370))) (fun _ hk => hk.2) (.int .i64 ((rY ((rX t327 (rd t336 x6_1)).f0) x8_2).f0))) (fun _ hk => hk.2) (.int .i64 ((rY ((rX t327 (rd t336 x6_1)).f0) x8_2).f1))) (fun _ hk => hk.2) (.string ((rY ((rX t327 (rd t336 x6_1)).f0) x8_2).f2))) (fun _ hk => hk.1.2)⟩
                  have n1_ : Az (Kd.R (Kd.int .i64) 3 (((w45.setCell ⟨gb370, 0, none⟩ (.int .i64 ((rY ((rX t327 (rd t336 x6_1)).f0) x8_2).f0))).setCell ⟨gb370, 1, none⟩ (.int .i64 ((rY ((rX t327 (rd t336 x6_1)).f0) x8_2).f1))).setCell ⟨gb370, 2, none⟩ (.string ((rY ((rX t327 (rd t336 x6_1)).f0) x8_2).f2))) w.heap.size (fun k_ => some k_ ≠ (.slice (some ad365) t336.length co15 : Value).ownBlock ∧ some k_ ≠ (.slice Ao16 t339.length co16 : Value).ownBlock ∧ some k_ ≠ (.slice Ao18 t345.length co18 : Value).ownBlock) (.slice Ao13 t333.length co13) t333) := ⟨by (with_reducible repeat (first | apply Kd.R_alloc | apply Kd.R_drewN | apply Kd.R_drew)); exact Kd.R_mono (Kd.R_far (p := ⟨gb370, 2, none⟩) (Kd.R_far (p := ⟨gb370, 1, none⟩) (Kd.R_far (p := ⟨gb370, 0, none⟩) (Kd.R_types HO_349000.out BK370.out (by decide)) (fun _ hk => hk.2) (.int .i64 ((rY ((rX t327 (rd t336 x6_1)).f0) x8_2).f0))) (fun _ hk => hk.2) (.int .i64 ((rY ((rX t327 (rd t336 x6_1)).f0) x8_2).f1))) (fun _ hk => hk.2) (.string ((rY ((rX t327 (rd t336 x6_1)).f0) x8_2).f2))) (fun _ hk => ⟨hk.1.1, ⟨hk.1.2.1, hk.1.2.2⟩⟩)⟩
                  have n2_ : Az (Kd.R (Kd.int .i64) 3 (((w45.setCell ⟨gb370, 0, none⟩ (.int .i64 ((rY ((rX t327 (rd t336 x6_1)).f0) x8_2).f0))).setCell ⟨gb370, 1, none⟩ (.int .i64 ((rY ((rX t327 (rd t336 x6_1)).f0) x8_2).f1))).setCell ⟨gb370, 2, none⟩ (.string ((rY ((rX t327 (rd t336 x6_1)).f0) x8_2).f2))) w.heap.size (fun k_ => some k_ ≠ (.slice Ao13 t333.length co13 : Value).ownBlock ∧ some k_ ≠ (.slice Ao16 t339.length co16 : Value).ownBlock ∧ some k_ ≠ (.slice Ao18 t345.length co18 : Value).ownBlock) (.slice (some ad365) t336.length co15) t336) := ⟨by (with_reducible repeat (first | apply Kd.R_alloc | apply Kd.R_drewN | apply Kd.R_drew)); exact Kd.R_mono (Kd.R_far (p := ⟨gb370, 2, none⟩) (Kd.R_far (p := ⟨gb370, 1, none⟩) (Kd.R_far (p := ⟨gb370, 0, none⟩) (Kd.R_types HO_349001.out BK370.out (by decide)) (fun _ hk => hk.2) (.int .i64 ((rY ((rX t327 (rd t336 x6_1)).f0) x8_2).f0))) (fun _ hk => hk.2) (.int .i64 ((rY ((rX t327 (rd t336 x6_1)).f0) x8_2).f1))) (fun _ hk => hk.2) (.string ((rY ((rX t327 (rd t336 x6_1)).f0) x8_2).f2))) (fun _ hk => ⟨hk.1.1, ⟨hk.1.2.1, hk.1.2.2⟩⟩)⟩
                  have n3_ : Az (Kd.R (Kd.int .i64) 3 (((w45.setCell ⟨gb370, 0, none⟩ (.int .i64 ((rY ((rX t327 (rd t336 x6_1)).f0) x8_2).f0))).setCell ⟨gb370, 1, none⟩ (.int .i64 ((rY ((rX t327 (rd t336 x6_1)).f0) x8_2).f1))).setCell ⟨gb370, 2, none⟩ (.string ((rY ((rX t327 (rd t336 x6_1)).f0) x8_2).f2))) w.heap.size (fun k_ => some k_ ≠ (.slice Ao13 t333.length co13 : Value).ownBlock ∧ some k_ ≠ (.slice (some ad365) t336.length co15 : Value).ownBlock ∧ some k_ ≠ (.slice Ao18 t345.length co18 : Value).ownBlock) (.slice Ao16 t339.length co16) t339) := ⟨by (with_reducible repeat (first | apply Kd.R_alloc | apply Kd.R_drewN | apply Kd.R_drew)); exact Kd.R_mono (Kd.R_far (p := ⟨gb370, 2, none⟩) (Kd.R_far (p := ⟨gb370, 1, none⟩) (Kd.R_far (p := ⟨gb370, 0, none⟩) (Kd.R_types HO_349002.out BK370.out (by decide)) (fun _ hk => hk.2) (.int .i64 ((rY ((rX t327 (rd t336 x6_1)).f0) x8_2).f0))) (fun _ hk => hk.2) (.int .i64 ((rY ((rX t327 (rd t336 x6_1)).f0) x8_2).f1))) (fun _ hk => hk.2) (.string ((rY ((rX t327 (rd t336 x6_1)).f0) x8_2).f2))) (fun _ hk => ⟨hk.1.1, ⟨hk.1.2.1, hk.1.2.2⟩⟩)⟩
                  have n4_ : Az (Kd.R Kd.string 9 (((w45.setCell ⟨gb370, 0, none⟩ (.int .i64 ((rY ((rX t327 (rd t336 x6_1)).f0) x8_2).f0))).setCell ⟨gb370, 1, none⟩ (.int .i64 ((rY ((rX t327 (rd t336 x6_1)).f0) x8_2).f1))).setCell ⟨gb370, 2, none⟩ (.string ((rY ((rX t327 (rd t336 x6_1)).f0) x8_2).f2))) w.heap.size (fun _ => True) (.slice Ao17 t342.length co17) t342) := ⟨by (with_reducible repeat (first | apply Kd.R_alloc | apply Kd.R_drewN | apply Kd.R_drew)); exact Kd.R_mono (Kd.R_far (p := ⟨gb370, 2, none⟩) (Kd.R_far (p := ⟨gb370, 1, none⟩) (Kd.R_far (p := ⟨gb370, 0, none⟩) (Kd.R_types HO_349003.out BK370.out (by decide)) (fun _ hk => hk.2) (.int .i64 ((rY ((rX t327 (rd t336 x6_1)).f0) x8_2).f0))) (fun _ hk => hk.2) (.int .i64 ((rY ((rX t327 (rd t336 x6_1)).f0) x8_2).f1))) (fun _ hk => hk.2) (.string ((rY ((rX t327 (rd t336 x6_1)).f0) x8_2).f2))) (fun _ hk => trivial)⟩
                  have n5_ : Az (Kd.R (Kd.int .i64) 3 (((w45.setCell ⟨gb370, 0, none⟩ (.int .i64 ((rY ((rX t327 (rd t336 x6_1)).f0) x8_2).f0))).setCell ⟨gb370, 1, none⟩ (.int .i64 ((rY ((rX t327 (rd t336 x6_1)).f0) x8_2).f1))).setCell ⟨gb370, 2, none⟩ (.string ((rY ((rX t327 (rd t336 x6_1)).f0) x8_2).f2))) w.heap.size (fun k_ => some k_ ≠ (.slice Ao13 t333.length co13 : Value).ownBlock ∧ some k_ ≠ (.slice (some ad365) t336.length co15 : Value).ownBlock ∧ some k_ ≠ (.slice Ao16 t339.length co16 : Value).ownBlock) (.slice Ao18 t345.length co18) t345) := ⟨by (with_reducible repeat (first | apply Kd.R_alloc | apply Kd.R_drewN | apply Kd.R_drew)); exact Kd.R_mono (Kd.R_far (p := ⟨gb370, 2, none⟩) (Kd.R_far (p := ⟨gb370, 1, none⟩) (Kd.R_far (p := ⟨gb370, 0, none⟩) (Kd.R_types HO_349004.out BK370.out (by decide)) (fun _ hk => hk.2) (.int .i64 ((rY ((rX t327 (rd t336 x6_1)).f0) x8_2).f0))) (fun _ hk => hk.2) (.int .i64 ((rY ((rX t327 (rd t336 x6_1)).f0) x8_2).f1))) (fun _ hk => hk.2) (.string ((rY ((rX t327 (rd t336 x6_1)).f0) x8_2).f2))) (fun _ hk => ⟨hk.1.1, ⟨hk.1.2.1, hk.1.2.2⟩⟩)⟩
                  have n6_ : Az (Kd.R k74 74 (((w45.setCell ⟨gb370, 0, none⟩ (.int .i64 ((rY ((rX t327 (rd t336 x6_1)).f0) x8_2).f0))).setCell ⟨gb370, 1, none⟩ (.int .i64 ((rY ((rX t327 (rd t336 x6_1)).f0) x8_2).f1))).setCell ⟨gb370, 2, none⟩ (.string ((rY ((rX t327 (rd t336 x6_1)).f0) x8_2).f2))) w.heap.size (fun k_ => some k_ ≠ (.slice (some ad367) t327.length co9 : Value).ownBlock ∧ k_ ≠ gb370) (.slice (some ad369) ((rX t327 (rd t336 x6_1)).f0).length c367_0) ((rX t327 (rd t336 x6_1)).f0)) := ⟨by (with_reducible repeat (first | apply Kd.R_alloc | apply Kd.R_drewN | apply Kd.R_drew)); exact Kd.R_mono (Kd.R_far (p := ⟨gb370, 2, none⟩) (Kd.R_far (p := ⟨gb370, 1, none⟩) (Kd.R_far (p := ⟨gb370, 0, none⟩) (Kd.R_mono HL367_0.out (fun k_ hk => (⟨hk, hk.2⟩ : _ ∧ k_ ≠ gb370))) (fun _ hk => hk.2) (.int .i64 ((rY ((rX t327 (rd t336 x6_1)).f0) x8_2).f0))) (fun _ hk => hk.2) (.int .i64 ((rY ((rX t327 (rd t336 x6_1)).f0) x8_2).f1))) (fun _ hk => hk.2) (.string ((rY ((rX t327 (rd t336 x6_1)).f0) x8_2).f2))) (fun _ hk => ⟨hk.1.1.2, hk.1.2⟩)⟩
                  have n7_ : Az (Kd.R k74 74 (((w45.setCell ⟨gb370, 0, none⟩ (.int .i64 ((rY ((rX t327 (rd t336 x6_1)).f0) x8_2).f0))).setCell ⟨gb370, 1, none⟩ (.int .i64 ((rY ((rX t327 (rd t336 x6_1)).f0) x8_2).f1))).setCell ⟨gb370, 2, none⟩ (.string ((rY ((rX t327 (rd t336 x6_1)).f0) x8_2).f2))) w.heap.size (fun k_ => some k_ ≠ (.slice (some ad367) t327.length co9 : Value).ownBlock ∧ k_ ≠ gb370) (.slice (some ad369) ((rX t327 (rd t336 x6_1)).f0).length c367_0) ((rX t327 (rd t336 x6_1)).f0)) := ⟨by (with_reducible repeat (first | apply Kd.R_alloc | apply Kd.R_drewN | apply Kd.R_drew)); exact Kd.R_mono (Kd.R_far (p := ⟨gb370, 2, none⟩) (Kd.R_far (p := ⟨gb370, 1, none⟩) (Kd.R_far (p := ⟨gb370, 0, none⟩) (Kd.R_mono HL368_0.out (fun k_ hk => (⟨hk, hk.2⟩ : _ ∧ k_ ≠ gb370))) (fun _ hk => hk.2) (.int .i64 ((rY ((rX t327 (rd t336 x6_1)).f0) x8_2).f0))) (fun _ hk => hk.2) (.int .i64 ((rY ((rX t327 (rd t336 x6_1)).f0) x8_2).f1))) (fun _ hk => hk.2) (.string ((rY ((rX t327 (rd t336 x6_1)).f0) x8_2).f2))) (fun _ hk => ⟨hk.1.1.2, hk.1.2⟩)⟩
                  have n8_ : Az ((((w45.setCell ⟨gb370, 0, none⟩ (.int .i64 ((rY ((rX t327 (rd t336 x6_1)).f0) x8_2).f0))).setCell ⟨gb370, 1, none⟩ (.int .i64 ((rY ((rX t327 (rd t336 x6_1)).f0) x8_2).f1))).setCell ⟨gb370, 2, none⟩ (.string ((rY ((rX t327 (rd t336 x6_1)).f0) x8_2).f2))).heap[gb348]? = some (.cells #[.slice Ao13 t333.length co13, .slice (some ad365) t336.length co15, .slice Ao16 t339.length co16, .slice Ao17 t342.length co17, .slice Ao18 t345.length co18] 48 (0, 0))) := ⟨by (with_reducible repeat (first | refine blk_drewN ?_ _ | refine blk_drew ?_ | refine blk_alloc ?_ _)); refine blk_far ?_ NB348_370.out _; (with_reducible repeat (first | refine blk_drewN ?_ _ | refine blk_drew ?_ | refine blk_alloc ?_ _)); refine blk_far ?_ NB348_370.out _; (with_reducible repeat (first | refine blk_drewN ?_ _ | refine blk_drew ?_ | refine blk_alloc ?_ _)); refine blk_far ?_ NB348_370.out _; (with_reducible repeat (first | refine blk_drewN ?_ _ | refine blk_drew ?_ | refine blk_alloc ?_ _)); exact BK348.out⟩
                  have n9_ : Az ((((w45.setCell ⟨gb370, 0, none⟩ (.int .i64 ((rY ((rX t327 (rd t336 x6_1)).f0) x8_2).f0))).setCell ⟨gb370, 1, none⟩ (.int .i64 ((rY ((rX t327 (rd t336 x6_1)).f0) x8_2).f1))).setCell ⟨gb370, 2, none⟩ (.string ((rY ((rX t327 (rd t336 x6_1)).f0) x8_2).f2))).heap[gb370]? = some (.cells #[.int .i64 ((rY ((rX t327 (rd t336 x6_1)).f0) x8_2).f0), .int .i64 ((rY ((rX t327 (rd t336 x6_1)).f0) x8_2).f1), .string ((rY ((rX t327 (rd t336 x6_1)).f0) x8_2).f2)] 74 (0, 0))) := ⟨by (with_reducible repeat (first | refine blk_drewN ?_ _ | refine blk_drew ?_ | refine blk_alloc ?_ _)); refine blk_put (cs := #[.int .i64 ((rY ((rX t327 (rd t336 x6_1)).f0) x8_2).f0), .int .i64 ((rY ((rX t327 (rd t336 x6_1)).f0) x8_2).f1), .string (⟨#[]⟩ : ByteArray)]) ?_ 2 _ rfl; (with_reducible repeat (first | refine blk_drewN ?_ _ | refine blk_drew ?_ | refine blk_alloc ?_ _)); refine blk_put (cs := #[.int .i64 ((rY ((rX t327 (rd t336 x6_1)).f0) x8_2).f0), .int .i64 0, .string (⟨#[]⟩ : ByteArray)]) ?_ 1 _ rfl; (with_reducible repeat (first | refine blk_drewN ?_ _ | refine blk_drew ?_ | refine blk_alloc ?_ _)); refine blk_put (cs := #[.int .i64 0, .int .i64 0, .string (⟨#[]⟩ : ByteArray)]) ?_ 0 _ rfl; (with_reducible repeat (first | refine blk_drewN ?_ _ | refine blk_drew ?_ | refine blk_alloc ?_ _)); exact BK370.out⟩
                  have n10_ : Az (Below w.heap.size w (((w45.setCell ⟨gb370, 0, none⟩ (.int .i64 ((rY ((rX t327 (rd t336 x6_1)).f0) x8_2).f0))).setCell ⟨gb370, 1, none⟩ (.int .i64 ((rY ((rX t327 (rd t336 x6_1)).f0) x8_2).f1))).setCell ⟨gb370, 2, none⟩ (.string ((rY ((rX t327 (rd t336 x6_1)).f0) x8_2).f2)))) := ⟨by repeat (first | (with_reducible first | exact HB.out | apply bal | apply bdN | apply bdr | refine bS ?_ GE348.out | refine bS ?_ GE370.out) | exact HB.out)⟩
                  (try clear HO_3)
                  (try clear HO_349000)
                  (try clear HO_349001)
                  (try clear HO_349002)
                  (try clear HO_349003)
                  (try clear HO_349004)
                  (try clear HL367_0)
                  (try clear HL368_0)
                  (try clear BK348)
                  (try clear BK370)
                  (try clear HB)
                  generalize (((w45.setCell ⟨gb370, 0, none⟩ (.int .i64 ((rY ((rX t327 (rd t336 x6_1)).f0) x8_2).f0))).setCell ⟨gb370, 1, none⟩ (.int .i64 ((rY ((rX t327 (rd t336 x6_1)).f0) x8_2).f1))).setCell ⟨gb370, 2, none⟩ (.string ((rY ((rX t327 (rd t336 x6_1)).f0) x8_2).f2))) = w48 at n0_ n1_ n2_ n3_ n4_ n5_ n6_ n7_ n8_ n9_ n10_ ⊢
                  have HO_3 := n0_
                  have HO_349000 := n1_
                  have HO_349001 := n2_
                  have HO_349002 := n3_
                  have HO_349003 := n4_
                  have HO_349004 := n5_
                  have HL367_0 := n6_
                  have HL368_0 := n7_
                  have BK348 := n8_
                  have BK370 := n9_
                  have HB := n10_
                  clear n0_ n1_ n2_ n3_ n4_ n5_ n6_ n7_ n8_ n9_ n10_
                  have n0_ := Az.mk (Kd.S_drew HO_3.out)
                  have n1_ := Az.mk (Kd.R_drew HO_349000.out)
                  have n2_ := Az.mk (Kd.R_drew HO_349001.out)
                  have n3_ := Az.mk (Kd.R_drew HO_349002.out)
                  have n4_ := Az.mk (Kd.R_drew HO_349003.out)
                  have n5_ := Az.mk (Kd.R_drew HO_349004.out)
                  have n6_ := Az.mk (Kd.R_drew HL367_0.out)
                  have n7_ := Az.mk (Kd.R_drew HL368_0.out)
                  have n8_ := Az.mk (blk_drew BK348.out)
                  have n9_ := Az.mk (blk_drew BK370.out)
                  have n10_ := Az.mk (bdr HB.out)
                  clear HO_3
                  clear HO_349000
                  clear HO_349001
                  clear HO_349002
                  clear HO_349003
                  clear HO_349004
                  clear HL367_0
                  clear HL368_0
                  clear BK348
                  clear BK370
                  clear HB
                  have HO_3 := n0_
                  have HO_349000 := n1_
                  have HO_349001 := n2_
                  have HO_349002 := n3_
                  have HO_349003 := n4_
                  have HO_349004 := n5_
                  have HL367_0 := n6_
                  have HL368_0 := n7_
                  have BK348 := n8_
                  have BK370 := n9_
                  have HB := n10_
                  clear n0_ n1_ n2_ n3_ n4_ n5_ n6_ n7_ n8_ n9_ n10_
                  have q50 : (x6_1 : Int) ≤ ((t336.length : Int) : Int) := of_decide_eq_true (by first | (with_reducible assumption) | assumption)
                  obtain ⟨i050, hi050, _, hsz50, _⟩ := info_parts info3
                  have hroom50 : t336.length ≤ co15 := (Kd.R_reads' HO_349001.out).2.1
                  have hC50 : Kd.C (Kd.int .i64) _ (some ad365) t336.length t336 := (Kd.R_reads' HO_349001.out).2.2
                  have hcut50 := cut_to (P := Try.prog) 35 3 .i64 Try.underlying35 hi050 (some ad365) t336.length co15 x6_1 (of_decide_eq_true (by first | (with_reducible assumption) | assumption)) q50 hroom50
                  have hr50 := Kd.C_take (m := (x6_1 : Int).toNat) hC50 (by omega)
                  have hy50 : y371.length = (x6_1 : Int).toNat := (by rw [Ny371.out, List.length_take]; omega)
                  rw [← Ny371.out] at hr50
                  rw [← hy50] at hcut50
                  have HR374 := Az.mk hr50
                  have HC374 := Az.mk (show y371.length ≤ co15 from by omega)
                  clear hr50 hC50 hroom50 hi050 hsz50
                  have KY50 := Az.mk hy50
                  clear hy50
                  have KL50 := Az.mk (show (x6_1 : Int).toNat ≤ t336.length from by omega)
                  replace q50 := eq_true q50
                  refine start_ (n := 13) (S := fun w' => w'.cell? ⟨gb370, 0, none⟩ = some (.int .i64 ((rY ((rX t327 (rd t336 x6_1)).f0) x8_2).f0)) ∧ w'.cell? ⟨gb370, 1, none⟩ = some (.int .i64 ((rY ((rX t327 (rd t336 x6_1)).f0) x8_2).f1)) ∧ w'.cell? ⟨gb370, 2, none⟩ = some (.string ((rY ((rX t327 (rd t336 x6_1)).f0) x8_2).f2)) ∧ w'.cell? ⟨gb348, 0, none⟩ = some (.slice Ao13 t333.length co13) ∧ w'.cell? ⟨gb348, 1, none⟩ = some (.slice (some ad365) t336.length co15) ∧ w'.cell? ⟨gb348, 2, none⟩ = some (.slice Ao16 t339.length co16) ∧ w'.cell? ⟨gb348, 3, none⟩ = some (.slice Ao17 t342.length co17) ∧ w'.cell? ⟨gb348, 4, none⟩ = some (.slice Ao18 t345.length co18)) (ds := []) #[false, false, false, false, false, false, false, false, false, false, false, false, false] (by kernel_rfl) rfl rfl ⟨(bC BK370.out 0).trans rfl, (bC BK370.out 1).trans rfl, (bC BK370.out 2).trans rfl, (bC BK348.out 0).trans rfl, (bC BK348.out 1).trans rfl, (bC BK348.out 2).trans rfl, (bC BK348.out 3).trans rfl, (bC BK348.out 4).trans rfl⟩ (fun hHeld => ?_); refine with_tabW laws_FnImportOrder.tab16 laws_FnImportOrder.bits16 (fun HT_ HW_ => ?_)
                  generalize w48.drew = w49 at HO_3 HO_349000 HO_349001 HO_349002 HO_349003 HO_349004 HL367_0 HL368_0 BK348 BK370 HB HR374 hHeld ⊢
                  refine pure_ (i := 0) (N := some 60) (v := ?_) (a' := ?_) #[true, false, false, false, false, false, false, false, false, false, false, false, false] rfl rfl (any_of HT_.out (by kernel_rfl)) (fun _ _ _ h => h) (Or.inl ⟨by rfl, ?_⟩) ?_ ?_
                  rotate_left
                  ·intro w'
                   go_simp
                   with_reducible rfl
                  rotate_left
                  ·simp only [Act.put, List.setIfInBounds_toArray, List.set_cons_zero, List.set_cons_succ, i64_w, i32_w]
                   rfl
                  refine take_ (i := 1) (N := some 61) (v := ?_) (a' := ?_) #[true, true, false, false, false, false, false, false, false, false, false, false, false] rfl rfl (take_ofW HT_.out HW_.out (by kernel_rfl)) (fun _ _ _ h => h) (Or.inl ⟨by rfl, ?_⟩) hHeld ?_ ?_
                  rotate_left
                  ·rintro w' ⟨s0, s1, s2, s3, s4, s5, s6, s7⟩
                   go_simp
                   with_reducible rfl
                  rotate_left
                  ·simp only [Act.put, List.setIfInBounds_toArray, List.set_cons_zero, List.set_cons_succ, i64_w, i32_w]
                   rfl
                  refine pure_ (i := 2) (N := some 62) (v := ?_) (a' := ?_) #[true, true, true, false, false, false, false, false, false, false, false, false, false] rfl rfl (any_of HT_.out (by kernel_rfl)) (fun _ _ _ h => h) (Or.inl ⟨by rfl, ?_⟩) ?_ ?_
                  rotate_left
                  ·intro w'
                   go_simp
                   with_reducible rfl
                  rotate_left
                  ·simp only [Act.put, List.setIfInBounds_toArray, List.set_cons_zero, List.set_cons_succ, i64_w, i32_w]
                   rfl
                  refine pure_ (i := 3) (N := some 63) (v := ?_) (a' := ?_) #[true, true, true, true, false, false, false, false, false, false, false, false, false] rfl rfl (any_of HT_.out (by kernel_rfl)) (fun _ _ _ h => h) (Or.inl ⟨by rfl, ?_⟩) ?_ ?_
                  rotate_left
                  ·intro w'
                   go_simp
                   with_reducible rfl
                  rotate_left
                  ·simp only [Act.put, List.setIfInBounds_toArray, List.set_cons_zero, List.set_cons_succ, i64_w, i32_w]
                   rfl
                  refine pure_ (i := 4) (N := some 64) (v := ?_) (a' := ?_) #[true, true, true, true, true, false, false, false, false, false, false, false, false] rfl rfl (any_of HT_.out (by kernel_rfl)) (fun _ _ _ h => h) (Or.inl ⟨by rfl, ?_⟩) ?_ ?_
                  rotate_left
                  ·intro w'
                   go_simp
                   with_reducible rfl
                  rotate_left
                  ·simp only [Act.put, List.setIfInBounds_toArray, List.set_cons_zero, List.set_cons_succ, i64_w, i32_w]
                   rfl
                  refine pure_ (i := 6) (N := some 66) (v := ?_) (a' := ?_) #[true, true, true, true, true, false, true, false, false, false, false, false, false] rfl rfl (any_of HT_.out (by kernel_rfl)) (fun _ _ _ h => h) (Or.inl ⟨by rfl, ?_⟩) ?_ ?_
                  rotate_left
                  ·intro w'
                   go_simp
                   with_reducible rfl
                  rotate_left
                  ·simp only [Act.put, List.setIfInBounds_toArray, List.set_cons_zero, List.set_cons_succ, i64_w, i32_w]
                   rfl
                  refine pure_ (i := 8) (N := some 68) (v := ?_) (a' := ?_) #[true, true, true, true, true, false, true, false, true, false, false, false, false] rfl rfl (any_of HT_.out (by kernel_rfl)) (fun _ _ _ h => h) (Or.inl ⟨by rfl, ?_⟩) ?_ ?_
                  rotate_left
                  ·intro w'
                   go_simp
                   with_reducible rfl
                  rotate_left
                  ·simp only [Act.put, List.setIfInBounds_toArray, List.set_cons_zero, List.set_cons_succ, i64_w, i32_w]
                   rfl
                  refine take_ (i := 5) (N := some 65) (v := ?_) (a' := ?_) #[true, true, true, true, true, true, true, false, true, false, false, false, false] rfl rfl (take_ofW HT_.out HW_.out (by kernel_rfl)) (fun _ _ _ h => h) (Or.inl ⟨by rfl, ?_⟩) hHeld ?_ ?_
                  rotate_left
                  ·rintro w' ⟨s0, s1, s2, s3, s4, s5, s6, s7⟩
                   go_simp
                   with_reducible rfl
                  rotate_left
                  ·simp only [Act.put, List.setIfInBounds_toArray, List.set_cons_zero, List.set_cons_succ, i64_w, i32_w]
                   rfl
                  refine pure_ (i := 7) (N := some 67) (v := ?_) (a' := ?_) #[true, true, true, true, true, true, true, true, true, false, false, false, false] rfl rfl (any_of HT_.out (by kernel_rfl)) (fun _ _ _ h => h) (Or.inl ⟨by rfl, ?_⟩) ?_ ?_
                  rotate_left
                  ·intro w'
                   go_simp
                   with_reducible rfl
                  rotate_left
                  ·simp only [Act.put, List.setIfInBounds_toArray, List.set_cons_zero, List.set_cons_succ, i64_w, i32_w]
                   rfl
                  refine take_ (i := 9) (N := some 69) (v := ?_) (a' := ?_) #[true, true, true, true, true, true, true, true, true, true, false, false, false] rfl rfl (take_ofW HT_.out HW_.out (by kernel_rfl)) (fun _ _ _ h => h) (Or.inl ⟨by rfl, ?_⟩) hHeld ?_ ?_
                  rotate_left
                  ·rintro w' ⟨s0, s1, s2, s3, s4, s5, s6, s7⟩
                   go_simp
                   with_reducible rfl
                  rotate_left
                  ·simp only [Act.put, List.setIfInBounds_toArray, List.set_cons_zero, List.set_cons_succ, i64_w, i32_w]
                   rfl
                  refine one_ (i := 10) (N := some 70) #[true, true, true, true, true, true, true, true, true, true, true, false, false] rfl rfl (one_of HT_.out (by kernel_rfl)) (by decide) (fun K hK => ?_)
                  refine goes_ Try.func42 (by kernel_rfl) rfl #[.slice (some ad365) y371.length co15, .int .i64 ((rY ((rX t327 (rd t336 x6_1)).f0) x8_2).f1)] (by rfl) rfl rfl (by (try simp only [List.map_toArray, List.map_cons, List.map_nil]); first | done | rfl | (simp only [List.length_drop, List.length_take]; rfl)) ?_
                  with_reducible refine (spec_HasInt.calls k2 _ _ y371 ((rY ((rX t327 (rd t336 x6_1)).f0) x8_2).f1) true _ ?side1 ?side2 A43.out).mono ?_
                  (case side1 => repeat (first | exact (by repeat (first | (with_reducible exact HR374.out) | (with_reducible refine Kd.C_alloc ?_ _) | (with_reducible refine Kd.C_drewN ?_ _) | (with_reducible refine Kd.C_drew ?_) | exact HR374.out)) | (with_reducible refine Kd.C_alloc ?_ _) | (with_reducible refine Kd.C_drewN ?_ _) | (with_reducible refine Kd.C_drew ?_)))
                  (case side2 => exact HC374.out)
                  rintro e w' ⟨rfl, ⟨nd, rfl⟩⟩
                  refine ⟨_, rfl, ?_⟩
                  refine hK.out _ _ ⟨(bC BK370.out 0).trans rfl, (bC BK370.out 1).trans rfl, (bC BK370.out 2).trans rfl, (bC BK348.out 0).trans rfl, (bC BK348.out 1).trans rfl, (bC BK348.out 2).trans rfl, (bC BK348.out 3).trans rfl, (bC BK348.out 4).trans rfl⟩ (fun hHeld => ?_)
                  clear hK K
                  refine norm_ (a' := ?_) ?_ ?_
                  rotate_left
                  ·show Act.put _ (some 70) _ = _
                   simp only [Act.put, List.setIfInBounds_toArray, List.set_cons_zero, List.set_cons_succ, i64_w, i32_w]
                   rfl
                  refine pure_ (i := 11) (N := some 71) (v := ?_) (a' := ?_) #[true, true, true, true, true, true, true, true, true, true, true, true, false] rfl rfl (any_of HT_.out (by kernel_rfl)) (fun _ _ _ h => h) (Or.inl ⟨by rfl, ?_⟩) ?_ ?_
                  rotate_left
                  ·intro w'
                   go_simp
                   with_reducible rfl
                  rotate_left
                  ·simp only [Act.put, List.setIfInBounds_toArray, List.set_cons_zero, List.set_cons_succ, i64_w, i32_w]
                   rfl
                  refine pure_ (i := 12) (N := some 72) (v := ?_) (a' := ?_) #[true, true, true, true, true, true, true, true, true, true, true, true, true] rfl rfl (any_of HT_.out (by kernel_rfl)) (fun _ _ _ h => h) (Or.inl ⟨by rfl, ?_⟩) ?_ ?_
                  rotate_left
                  ·intro w'
                   go_simp
                   with_reducible rfl
                  rotate_left
                  ·simp only [Act.put, List.setIfInBounds_toArray, List.set_cons_zero, List.set_cons_succ, i64_w, i32_w]
                   rfl
                  refine done_ (done_of HT_.out (by kernel_rfl)) ?_
                  try go_wp2
                  go_roundg k2
                  case measure => have := HK1.out; have := HK2.out; omega
                  case rel => exact ⟨(wrap64 (x8_2 + 1)), (by first | rfl | (simp; done) | (simp [*]; done)), H', ⟨by have := HK1.out; have := HK2.out; omega⟩, ⟨by (with_reducible repeat (first | apply Kd.S_alloc | apply Kd.S_drewN | apply Kd.S_drew)); exact Kd.S_mono HO_3.out (fun _ hk => trivial)⟩, ⟨by (with_reducible repeat (first | apply Kd.R_alloc | apply Kd.R_drewN | apply Kd.R_drew)); exact HO_349000.out⟩, ⟨by (with_reducible repeat (first | apply Kd.R_alloc | apply Kd.R_drewN | apply Kd.R_drew)); exact HO_349001.out⟩, ⟨by (with_reducible repeat (first | apply Kd.R_alloc | apply Kd.R_drewN | apply Kd.R_drew)); exact HO_349002.out⟩, ⟨by (with_reducible repeat (first | apply Kd.R_alloc | apply Kd.R_drewN | apply Kd.R_drew)); exact HO_349003.out⟩, ⟨by (with_reducible repeat (first | apply Kd.R_alloc | apply Kd.R_drewN | apply Kd.R_drew)); exact HO_349004.out⟩, ⟨by (with_reducible repeat (first | refine blk_drewN ?_ _ | refine blk_drew ?_ | refine blk_alloc ?_ _)); exact BK348.out⟩, ⟨by repeat (first | (with_reducible first | exact HB.out | apply bal | apply bdN | apply bdr | refine bS ?_ GE348.out | refine bS ?_ GE370.out) | exact HB.out)⟩⟩
                 ·replace c44 := Bool.eq_false_iff.mpr c44
                  subst c44
                  have H1 : (some false) = some r := by rw [if_neg (show ¬ (false = true) by decide)] at H; exact H
                  clear H
                  have H := H1
                  clear H1
                  obtain rfl := Option.some.inj H
                  have p367 : 0 ≤ ((rd t336 x6_1) : Int) := of_decide_eq_true (by first | (with_reducible assumption) | assumption)
                  have q367 : (rd t336 x6_1) < (t327.length : Int) := of_decide_eq_true (by first | (with_reducible assumption) | assumption)
                  obtain ⟨ad367, A367_0, c367_0, e367, hx367_0, hl367_0, hi367_0⟩ := at_T72 (Kd.S_reads' HO_3.out).2.2 (rd t336 x6_1) p367 q367
                  cases e367
                  obtain ⟨ce367, hce367, hMe367, hcc367⟩ := Kd.S_get HO_3.out z72 (rd t336 x6_1) p367 (by first | exact q367 | exact of_decide_eq_true (by first | (with_reducible assumption) | assumption) | (have e_ := (Kd.S_reads' HO_3.out).1; omega))
                  obtain ⟨ve367_0, rfl, ge367_0⟩ := k72_openM hMe367
                  have hv367_0 := hcc367 0 _ rfl
                  rw [Nat.add_zero, show (k72).sz = 1 from rfl, Nat.mul_one] at hv367_0
                  replace hv367_0 := Option.some.inj (hv367_0.symm.trans hx367_0)
                  rw [hv367_0] at ge367_0
                  have HL367_0 := Az.mk (show Kd.R k74 74 _ _ _ _ ((rX t327 (rd t336 x6_1)).f0) from ge367_0)
                  clear hv367_0 ge367_0
                  clear hcc367 hce367
                  have HR367_0 := Az.mk hi367_0
                  have HC367_0 := Az.mk hl367_0
                  clear hi367_0 hl367_0
                  replace p367 := eq_true p367
                  replace q367 := eq_true q367
                  have p368 : 0 ≤ ((rd t336 x6_1) : Int) := of_decide_eq_true (by first | (with_reducible assumption) | assumption)
                  have q368 : (rd t336 x6_1) < (t327.length : Int) := of_decide_eq_true (by first | (with_reducible assumption) | assumption)
                  obtain ⟨ad368, A368_0, c368_0, e368, hx368_0, hl368_0, hi368_0⟩ := at_T72 (Kd.S_reads' HO_3.out).2.2 (rd t336 x6_1) p368 q368
                  obtain rfl : ad367 = ad368 := (by injection e368)
                  obtain ⟨ce368, hce368, hMe368, hcc368⟩ := Kd.S_get HO_3.out z72 (rd t336 x6_1) p368 (by first | exact q368 | exact of_decide_eq_true (by first | (with_reducible assumption) | assumption) | (have e_ := (Kd.S_reads' HO_3.out).1; omega))
                  obtain ⟨ve368_0, rfl, ge368_0⟩ := k72_openM hMe368
                  have hv368_0 := hcc368 0 _ rfl
                  rw [Nat.add_zero, show (k72).sz = 1 from rfl, Nat.mul_one] at hv368_0
                  replace hv368_0 := Option.some.inj (hv368_0.symm.trans hx368_0)
                  rw [hv368_0] at ge368_0
                  have HL368_0 := Az.mk (show Kd.R k74 74 _ _ _ _ ((rX t327 (rd t336 x6_1)).f0) from ge368_0)
                  clear hv368_0 ge368_0
                  clear hcc368 hce368
                  have HR368_0 := Az.mk hi368_0
                  have HC368_0 := Az.mk hl368_0
                  clear hi368_0 hl368_0
                  replace p368 := eq_true p368
                  replace q368 := eq_true q368
                  have ea_ := Option.some.inj (hx367_0.symm.trans hx368_0)
                  injection ea_ with ea_ en_ ec_
                  subst ea_
                  subst ec_
                  clear en_
                  have p369 : 0 ≤ (x8_2 : Int) := of_decide_eq_true (by first | (with_reducible assumption) | assumption)
                  have q369 : x8_2 < (((rX t327 (rd t336 x6_1)).f0).length : Int) := of_decide_eq_true (by first | (with_reducible assumption) | assumption)
                  obtain ⟨ad369, e369, hx369_0, hx369_1, hx369_2⟩ := at_T74 (by repeat (first | (with_reducible exact HR368_0.out) | (with_reducible refine Kd.C_alloc ?_ _) | (with_reducible refine Kd.C_drewN ?_ _) | (with_reducible refine Kd.C_drew ?_) | exact HR368_0.out)) x8_2 p369 q369
                  cases e369
                  replace p369 := eq_true p369
                  replace q369 := eq_true q369
                  try go_wp2_with (first | ((with_reducible refine gate_dst (N := 9) rfl ?_); refine box_event ?hg (N := 9) ?hd (cs := #[.int .i64 0, .int .i64 0, .string (⟨#[]⟩ : ByteArray)]) (t := 74) ?hr ?_; (case hd => rfl); (case hg => rfl); (case hr => first | (go_simp; done) | (go_simp; rfl)); intro gb370 hg w51 hbox hb; have n0_ := Az.mk (Kd.S_below (Kd.S_elderB (by (with_reducible repeat (first | apply Kd.S_alloc | apply Kd.S_drewN | apply Kd.S_drew)); exact HO_3.out) gb370 (Nat.le_of_eq hg.symm)) hb); have n1_ := Az.mk (Kd.R_below (by (with_reducible repeat (first | apply Kd.R_alloc | apply Kd.R_drewN | apply Kd.R_drew)); exact HO_349000.out) hb); have n2_ := Az.mk (Kd.R_below (by (with_reducible repeat (first | apply Kd.R_alloc | apply Kd.R_drewN | apply Kd.R_drew)); exact HO_349001.out) hb); have n3_ := Az.mk (Kd.R_below (by (with_reducible repeat (first | apply Kd.R_alloc | apply Kd.R_drewN | apply Kd.R_drew)); exact HO_349002.out) hb); have n4_ := Az.mk (Kd.R_below (by (with_reducible repeat (first | apply Kd.R_alloc | apply Kd.R_drewN | apply Kd.R_drew)); exact HO_349003.out) hb); have n5_ := Az.mk (Kd.R_below (by (with_reducible repeat (first | apply Kd.R_alloc | apply Kd.R_drewN | apply Kd.R_drew)); exact HO_349004.out) hb); have n6_ := Az.mk (Kd.R_below (Kd.R_elderB (by (with_reducible repeat (first | apply Kd.R_alloc | apply Kd.R_drewN | apply Kd.R_drew)); exact HL367_0.out) gb370 (Nat.le_of_eq hg.symm)) hb); have n7_ := Az.mk (Kd.R_below (Kd.R_elderB (by (with_reducible repeat (first | apply Kd.R_alloc | apply Kd.R_drewN | apply Kd.R_drew)); exact HL368_0.out) gb370 (Nat.le_of_eq hg.symm)) hb); have n8_ := Az.mk (blk_below (g := gb348) (o := .cells #[.slice Ao13 t333.length co13, .slice (some ad365) t336.length co15, .slice Ao16 t339.length co16, .slice Ao17 t342.length co17, .slice Ao18 t345.length co18] 48 (0, 0)) (by (with_reducible repeat (first | refine blk_drewN ?_ _ | refine blk_drew ?_ | refine blk_alloc ?_ _)); exact BK348.out) hb); have n9_ := Az.mk (Kd.C_below (by repeat (first | (with_reducible exact HR367_0.out) | (with_reducible refine Kd.C_alloc ?_ _) | (with_reducible refine Kd.C_drewN ?_ _) | (with_reducible refine Kd.C_drew ?_) | exact HR367_0.out)) hb); have n10_ := Az.mk (Kd.C_below (by repeat (first | (with_reducible exact HR368_0.out) | (with_reducible refine Kd.C_alloc ?_ _) | (with_reducible refine Kd.C_drewN ?_ _) | (with_reducible refine Kd.C_drew ?_) | exact HR368_0.out)) hb); have n11_ := Az.mk (below_step (by repeat (first | (with_reducible first | exact HB.out | apply bal | apply bdN | apply bdr | refine bS ?_ GE348.out) | exact HB.out)) hb); have n12_ := Az.mk (hbox); have n13_ := Az.mk ((by rw [hg]; exact (below_size (by repeat (first | (with_reducible first | exact HB.out | apply bal | apply bdN | apply bdr | refine bS ?_ GE348.out) | exact HB.out))) : w.heap.size ≤ gb370)); have n14_ := Az.mk ((by rw [hg]; exact (below_size (by repeat (first | (with_reducible first | exact HB.out | apply bal | apply bdN | apply bdr | refine bS ?_ GE348.out) | exact HB.out))) : w.heap.size ≤ gb370)); have n15_ := Az.mk ((by rw [hg]; exact Nat.ne_of_lt (blk_lt (g := gb348) (o := .cells #[.slice Ao13 t333.length co13, .slice (some ad365) t336.length co15, .slice Ao16 t339.length co16, .slice Ao17 t342.length co17, .slice Ao18 t345.length co18] 48 (0, 0)) (by (with_reducible repeat (first | refine blk_drewN ?_ _ | refine blk_drew ?_ | refine blk_alloc ?_ _)); exact BK348.out)) : gb348 ≠ gb370)); have n16_ := Az.mk ((by rw [hg]; exact Nat.ne_of_gt (blk_lt (g := gb348) (o := .cells #[.slice Ao13 t333.length co13, .slice (some ad365) t336.length co15, .slice Ao16 t339.length co16, .slice Ao17 t342.length co17, .slice Ao18 t345.length co18] 48 (0, 0)) (by (with_reducible repeat (first | refine blk_drewN ?_ _ | refine blk_drew ?_ | refine blk_alloc ?_ _)); exact BK348.out)) : gb370 ≠ gb348)); clear HO_3; clear HO_349000; clear HO_349001; clear HO_349002; clear HO_349003; clear HO_349004; clear HL367_0; clear HL368_0; clear BK348; clear HR367_0; clear HR368_0; clear HB; have HO_3 := n0_; have HO_349000 := n1_; have HO_349001 := n2_; have HO_349002 := n3_; have HO_349003 := n4_; have HO_349004 := n5_; have HL367_0 := n6_; have HL368_0 := n7_; have BK348 := n8_; have HR367_0 := n9_; have HR368_0 := n10_; have HB := n11_; have BK370 := n12_; have GW370 := n13_; have GE370 := n14_; have NB348_370 := n15_; have NB370_348 := n16_; clear n0_ n1_ n2_ n3_ n4_ n5_ n6_ n7_ n8_ n9_ n10_ n11_ n12_ n13_ n14_ n15_ n16_; clear hb hbox hg; have hnb52 := NB370_348.out; have hnc52 := NB348_370.out; have hcz53_0 : w51.cell? ⟨gb370, 0, none⟩ = some (.int .i64 0) := (bC BK370.out 0).trans rfl; have hcz53_1 : w51.cell? ⟨gb370, 1, none⟩ = some (.int .i64 0) := (bC BK370.out 1).trans rfl; have hcz53_2 : w51.cell? ⟨gb370, 2, none⟩ = some (.string (⟨#[]⟩ : ByteArray)) := (bC BK370.out 2).trans rfl; have hfz53_0 := bF BK370.out 0; have hfz53_1 := bF BK370.out 1; have hfz53_2 := bF BK370.out 2))
                  have n0_ : Az (Kd.S k72 72 (((w51.setCell ⟨gb370, 0, none⟩ (.int .i64 ((rY ((rX t327 (rd t336 x6_1)).f0) x8_2).f0))).setCell ⟨gb370, 1, none⟩ (.int .i64 ((rY ((rX t327 (rd t336 x6_1)).f0) x8_2).f1))).setCell ⟨gb370, 2, none⟩ (.string ((rY ((rX t327 (rd t336 x6_1)).f0) x8_2).f2))) w.heap.size (fun k_ => k_ ≠ gb370) (.slice (some ad367) t327.length co9) t327) := ⟨by (with_reducible repeat (first | apply Kd.S_alloc | apply Kd.S_drewN | apply Kd.S_drew)); exact Kd.S_mono (Kd.S_far (p := ⟨gb370, 2, none⟩) (Kd.S_far (p := ⟨gb370, 1, none⟩) (Kd.S_far (p := ⟨gb370, 0, none⟩) (Kd.S_mono HO_3.out (fun k_ hk => (⟨hk, hk.2⟩ : _ ∧ k_ ≠ gb370))) (fun _ hk => hk.2) (.int .i64 ((rY ((rX t327 (rd t336 x6_1)).f0) x8_2).f0))) (fun _ hk => hk.2) (.int .i64 ((rY ((rX t327 (rd t336 x6_1)).f0) x8_2).f1))) (fun _ hk => hk.2) (.string ((rY ((rX t327 (rd t336 x6_1)).f0) x8_2).f2))) (fun _ hk => hk.1.2)⟩
                  have n1_ : Az (Kd.R (Kd.int .i64) 3 (((w51.setCell ⟨gb370, 0, none⟩ (.int .i64 ((rY ((rX t327 (rd t336 x6_1)).f0) x8_2).f0))).setCell ⟨gb370, 1, none⟩ (.int .i64 ((rY ((rX t327 (rd t336 x6_1)).f0) x8_2).f1))).setCell ⟨gb370, 2, none⟩ (.string ((rY ((rX t327 (rd t336 x6_1)).f0) x8_2).f2))) w.heap.size (fun k_ => some k_ ≠ (.slice (some ad365) t336.length co15 : Value).ownBlock ∧ some k_ ≠ (.slice Ao16 t339.length co16 : Value).ownBlock ∧ some k_ ≠ (.slice Ao18 t345.length co18 : Value).ownBlock) (.slice Ao13 t333.length co13) t333) := ⟨by (with_reducible repeat (first | apply Kd.R_alloc | apply Kd.R_drewN | apply Kd.R_drew)); exact Kd.R_mono (Kd.R_far (p := ⟨gb370, 2, none⟩) (Kd.R_far (p := ⟨gb370, 1, none⟩) (Kd.R_far (p := ⟨gb370, 0, none⟩) (Kd.R_types HO_349000.out BK370.out (by decide)) (fun _ hk => hk.2) (.int .i64 ((rY ((rX t327 (rd t336 x6_1)).f0) x8_2).f0))) (fun _ hk => hk.2) (.int .i64 ((rY ((rX t327 (rd t336 x6_1)).f0) x8_2).f1))) (fun _ hk => hk.2) (.string ((rY ((rX t327 (rd t336 x6_1)).f0) x8_2).f2))) (fun _ hk => ⟨hk.1.1, ⟨hk.1.2.1, hk.1.2.2⟩⟩)⟩
                  have n2_ : Az (Kd.R (Kd.int .i64) 3 (((w51.setCell ⟨gb370, 0, none⟩ (.int .i64 ((rY ((rX t327 (rd t336 x6_1)).f0) x8_2).f0))).setCell ⟨gb370, 1, none⟩ (.int .i64 ((rY ((rX t327 (rd t336 x6_1)).f0) x8_2).f1))).setCell ⟨gb370, 2, none⟩ (.string ((rY ((rX t327 (rd t336 x6_1)).f0) x8_2).f2))) w.heap.size (fun k_ => some k_ ≠ (.slice Ao13 t333.length co13 : Value).ownBlock ∧ some k_ ≠ (.slice Ao16 t339.length co16 : Value).ownBlock ∧ some k_ ≠ (.slice Ao18 t345.length co18 : Value).ownBlock) (.slice (some ad365) t336.length co15) t336) := ⟨by (with_reducible repeat (first | apply Kd.R_alloc | apply Kd.R_drewN | apply Kd.R_drew)); exact Kd.R_mono (Kd.R_far (p := ⟨gb370, 2, none⟩) (Kd.R_far (p := ⟨gb370, 1, none⟩) (Kd.R_far (p := ⟨gb370, 0, none⟩) (Kd.R_types HO_349001.out BK370.out (by decide)) (fun _ hk => hk.2) (.int .i64 ((rY ((rX t327 (rd t336 x6_1)).f0) x8_2).f0))) (fun _ hk => hk.2) (.int .i64 ((rY ((rX t327 (rd t336 x6_1)).f0) x8_2).f1))) (fun _ hk => hk.2) (.string ((rY ((rX t327 (rd t336 x6_1)).f0) x8_2).f2))) (fun _ hk => ⟨hk.1.1, ⟨hk.1.2.1, hk.1.2.2⟩⟩)⟩
                  have n3_ : Az (Kd.R (Kd.int .i64) 3 (((w51.setCell ⟨gb370, 0, none⟩ (.int .i64 ((rY ((rX t327 (rd t336 x6_1)).f0) x8_2).f0))).setCell ⟨gb370, 1, none⟩ (.int .i64 ((rY ((rX t327 (rd t336 x6_1)).f0) x8_2).f1))).setCell ⟨gb370, 2, none⟩ (.string ((rY ((rX t327 (rd t336 x6_1)).f0) x8_2).f2))) w.heap.size (fun k_ => some k_ ≠ (.slice Ao13 t333.length co13 : Value).ownBlock ∧ some k_ ≠ (.slice (some ad365) t336.length co15 : Value).ownBlock ∧ some k_ ≠ (.slice Ao18 t345.length co18 : Value).ownBlock) (.slice Ao16 t339.length co16) t339) := ⟨by (with_reducible repeat (first | apply Kd.R_alloc | apply Kd.R_drewN | apply Kd.R_drew)); exact Kd.R_mono (Kd.R_far (p := ⟨gb370, 2, none⟩) (Kd.R_far (p := ⟨gb370, 1, none⟩) (Kd.R_far (p := ⟨gb370, 0, none⟩) (Kd.R_types HO_349002.out BK370.out (by decide)) (fun _ hk => hk.2) (.int .i64 ((rY ((rX t327 (rd t336 x6_1)).f0) x8_2).f0))) (fun _ hk => hk.2) (.int .i64 ((rY ((rX t327 (rd t336 x6_1)).f0) x8_2).f1))) (fun _ hk => hk.2) (.string ((rY ((rX t327 (rd t336 x6_1)).f0) x8_2).f2))) (fun _ hk => ⟨hk.1.1, ⟨hk.1.2.1, hk.1.2.2⟩⟩)⟩
                  have n4_ : Az (Kd.R Kd.string 9 (((w51.setCell ⟨gb370, 0, none⟩ (.int .i64 ((rY ((rX t327 (rd t336 x6_1)).f0) x8_2).f0))).setCell ⟨gb370, 1, none⟩ (.int .i64 ((rY ((rX t327 (rd t336 x6_1)).f0) x8_2).f1))).setCell ⟨gb370, 2, none⟩ (.string ((rY ((rX t327 (rd t336 x6_1)).f0) x8_2).f2))) w.heap.size (fun _ => True) (.slice Ao17 t342.length co17) t342) := ⟨by (with_reducible repeat (first | apply Kd.R_alloc | apply Kd.R_drewN | apply Kd.R_drew)); exact Kd.R_mono (Kd.R_far (p := ⟨gb370, 2, none⟩) (Kd.R_far (p := ⟨gb370, 1, none⟩) (Kd.R_far (p := ⟨gb370, 0, none⟩) (Kd.R_types HO_349003.out BK370.out (by decide)) (fun _ hk => hk.2) (.int .i64 ((rY ((rX t327 (rd t336 x6_1)).f0) x8_2).f0))) (fun _ hk => hk.2) (.int .i64 ((rY ((rX t327 (rd t336 x6_1)).f0) x8_2).f1))) (fun _ hk => hk.2) (.string ((rY ((rX t327 (rd t336 x6_1)).f0) x8_2).f2))) (fun _ hk => trivial)⟩
                  have n5_ : Az (Kd.R (Kd.int .i64) 3 (((w51.setCell ⟨gb370, 0, none⟩ (.int .i64 ((rY ((rX t327 (rd t336 x6_1)).f0) x8_2).f0))).setCell ⟨gb370, 1, none⟩ (.int .i64 ((rY ((rX t327 (rd t336 x6_1)).f0) x8_2).f1))).setCell ⟨gb370, 2, none⟩ (.string ((rY ((rX t327 (rd t336 x6_1)).f0) x8_2).f2))) w.heap.size (fun k_ => some k_ ≠ (.slice Ao13 t333.length co13 : Value).ownBlock ∧ some k_ ≠ (.slice (some ad365) t336.length co15 : Value).ownBlock ∧ some k_ ≠ (.slice Ao16 t339.length co16 : Value).ownBlock) (.slice Ao18 t345.length co18) t345) := ⟨by (with_reducible repeat (first | apply Kd.R_alloc | apply Kd.R_drewN | apply Kd.R_drew)); exact Kd.R_mono (Kd.R_far (p := ⟨gb370, 2, none⟩) (Kd.R_far (p := ⟨gb370, 1, none⟩) (Kd.R_far (p := ⟨gb370, 0, none⟩) (Kd.R_types HO_349004.out BK370.out (by decide)) (fun _ hk => hk.2) (.int .i64 ((rY ((rX t327 (rd t336 x6_1)).f0) x8_2).f0))) (fun _ hk => hk.2) (.int .i64 ((rY ((rX t327 (rd t336 x6_1)).f0) x8_2).f1))) (fun _ hk => hk.2) (.string ((rY ((rX t327 (rd t336 x6_1)).f0) x8_2).f2))) (fun _ hk => ⟨hk.1.1, ⟨hk.1.2.1, hk.1.2.2⟩⟩)⟩
                  have n6_ : Az (Kd.R k74 74 (((w51.setCell ⟨gb370, 0, none⟩ (.int .i64 ((rY ((rX t327 (rd t336 x6_1)).f0) x8_2).f0))).setCell ⟨gb370, 1, none⟩ (.int .i64 ((rY ((rX t327 (rd t336 x6_1)).f0) x8_2).f1))).setCell ⟨gb370, 2, none⟩ (.string ((rY ((rX t327 (rd t336 x6_1)).f0) x8_2).f2))) w.heap.size (fun k_ => some k_ ≠ (.slice (some ad367) t327.length co9 : Value).ownBlock ∧ k_ ≠ gb370) (.slice (some ad369) ((rX t327 (rd t336 x6_1)).f0).length c367_0) ((rX t327 (rd t336 x6_1)).f0)) := ⟨by (with_reducible repeat (first | apply Kd.R_alloc | apply Kd.R_drewN | apply Kd.R_drew)); exact Kd.R_mono (Kd.R_far (p := ⟨gb370, 2, none⟩) (Kd.R_far (p := ⟨gb370, 1, none⟩) (Kd.R_far (p := ⟨gb370, 0, none⟩) (Kd.R_mono HL367_0.out (fun k_ hk => (⟨hk, hk.2⟩ : _ ∧ k_ ≠ gb370))) (fun _ hk => hk.2) (.int .i64 ((rY ((rX t327 (rd t336 x6_1)).f0) x8_2).f0))) (fun _ hk => hk.2) (.int .i64 ((rY ((rX t327 (rd t336 x6_1)).f0) x8_2).f1))) (fun _ hk => hk.2) (.string ((rY ((rX t327 (rd t336 x6_1)).f0) x8_2).f2))) (fun _ hk => ⟨hk.1.1.2, hk.1.2⟩)⟩
                  have n7_ : Az (Kd.R k74 74 (((w51.setCell ⟨gb370, 0, none⟩ (.int .i64 ((rY ((rX t327 (rd t336 x6_1)).f0) x8_2).f0))).setCell ⟨gb370, 1, none⟩ (.int .i64 ((rY ((rX t327 (rd t336 x6_1)).f0) x8_2).f1))).setCell ⟨gb370, 2, none⟩ (.string ((rY ((rX t327 (rd t336 x6_1)).f0) x8_2).f2))) w.heap.size (fun k_ => some k_ ≠ (.slice (some ad367) t327.length co9 : Value).ownBlock ∧ k_ ≠ gb370) (.slice (some ad369) ((rX t327 (rd t336 x6_1)).f0).length c367_0) ((rX t327 (rd t336 x6_1)).f0)) := ⟨by (with_reducible repeat (first | apply Kd.R_alloc | apply Kd.R_drewN | apply Kd.R_drew)); exact Kd.R_mono (Kd.R_far (p := ⟨gb370, 2, none⟩) (Kd.R_far (p := ⟨gb370, 1, none⟩) (Kd.R_far (p := ⟨gb370, 0, none⟩) (Kd.R_mono HL368_0.out (fun k_ hk => (⟨hk, hk.2⟩ : _ ∧ k_ ≠ gb370))) (fun _ hk => hk.2) (.int .i64 ((rY ((rX t327 (rd t336 x6_1)).f0) x8_2).f0))) (fun _ hk => hk.2) (.int .i64 ((rY ((rX t327 (rd t336 x6_1)).f0) x8_2).f1))) (fun _ hk => hk.2) (.string ((rY ((rX t327 (rd t336 x6_1)).f0) x8_2).f2))) (fun _ hk => ⟨hk.1.1.2, hk.1.2⟩)⟩
                  have n8_ : Az ((((w51.setCell ⟨gb370, 0, none⟩ (.int .i64 ((rY ((rX t327 (rd t336 x6_1)).f0) x8_2).f0))).setCell ⟨gb370, 1, none⟩ (.int .i64 ((rY ((rX t327 (rd t336 x6_1)).f0) x8_2).f1))).setCell ⟨gb370, 2, none⟩ (.string ((rY ((rX t327 (rd t336 x6_1)).f0) x8_2).f2))).heap[gb348]? = some (.cells #[.slice Ao13 t333.length co13, .slice (some ad365) t336.length co15, .slice Ao16 t339.length co16, .slice Ao17 t342.length co17, .slice Ao18 t345.length co18] 48 (0, 0))) := ⟨by (with_reducible repeat (first | refine blk_drewN ?_ _ | refine blk_drew ?_ | refine blk_alloc ?_ _)); refine blk_far ?_ NB348_370.out _; (with_reducible repeat (first | refine blk_drewN ?_ _ | refine blk_drew ?_ | refine blk_alloc ?_ _)); refine blk_far ?_ NB348_370.out _; (with_reducible repeat (first | refine blk_drewN ?_ _ | refine blk_drew ?_ | refine blk_alloc ?_ _)); refine blk_far ?_ NB348_370.out _; (with_reducible repeat (first | refine blk_drewN ?_ _ | refine blk_drew ?_ | refine blk_alloc ?_ _)); exact BK348.out⟩
                  have n9_ : Az ((((w51.setCell ⟨gb370, 0, none⟩ (.int .i64 ((rY ((rX t327 (rd t336 x6_1)).f0) x8_2).f0))).setCell ⟨gb370, 1, none⟩ (.int .i64 ((rY ((rX t327 (rd t336 x6_1)).f0) x8_2).f1))).setCell ⟨gb370, 2, none⟩ (.string ((rY ((rX t327 (rd t336 x6_1)).f0) x8_2).f2))).heap[gb370]? = some (.cells #[.int .i64 ((rY ((rX t327 (rd t336 x6_1)).f0) x8_2).f0), .int .i64 ((rY ((rX t327 (rd t336 x6_1)).f0) x8_2).f1), .string ((rY ((rX t327 (rd t336 x6_1)).f0) x8_2).f2)] 74 (0, 0))) := ⟨by (with_reducible repeat (first | refine blk_drewN ?_ _ | refine blk_drew ?_ | refine blk_alloc ?_ _)); refine blk_put (cs := #[.int .i64 ((rY ((rX t327 (rd t336 x6_1)).f0) x8_2).f0), .int .i64 ((rY ((rX t327 (rd t336 x6_1)).f0) x8_2).f1), .string (⟨#[]⟩ : ByteArray)]) ?_ 2 _ rfl; (with_reducible repeat (first | refine blk_drewN ?_ _ | refine blk_drew ?_ | refine blk_alloc ?_ _)); refine blk_put (cs := #[.int .i64 ((rY ((rX t327 (rd t336 x6_1)).f0) x8_2).f0), .int .i64 0, .string (⟨#[]⟩ : ByteArray)]) ?_ 1 _ rfl; (with_reducible repeat (first | refine blk_drewN ?_ _ | refine blk_drew ?_ | refine blk_alloc ?_ _)); refine blk_put (cs := #[.int .i64 0, .int .i64 0, .string (⟨#[]⟩ : ByteArray)]) ?_ 0 _ rfl; (with_reducible repeat (first | refine blk_drewN ?_ _ | refine blk_drew ?_ | refine blk_alloc ?_ _)); exact BK370.out⟩
                  have n10_ : Az (Below w.heap.size w (((w51.setCell ⟨gb370, 0, none⟩ (.int .i64 ((rY ((rX t327 (rd t336 x6_1)).f0) x8_2).f0))).setCell ⟨gb370, 1, none⟩ (.int .i64 ((rY ((rX t327 (rd t336 x6_1)).f0) x8_2).f1))).setCell ⟨gb370, 2, none⟩ (.string ((rY ((rX t327 (rd t336 x6_1)).f0) x8_2).f2)))) := ⟨by repeat (first | (with_reducible first | exact HB.out | apply bal | apply bdN | apply bdr | refine bS ?_ GE348.out | refine bS ?_ GE370.out) | exact HB.out)⟩
                  (try clear HO_3)
                  (try clear HO_349000)
                  (try clear HO_349001)
                  (try clear HO_349002)
                  (try clear HO_349003)
                  (try clear HO_349004)
                  (try clear HL367_0)
                  (try clear HL368_0)
                  (try clear BK348)
                  (try clear BK370)
                  (try clear HB)
                  generalize (((w51.setCell ⟨gb370, 0, none⟩ (.int .i64 ((rY ((rX t327 (rd t336 x6_1)).f0) x8_2).f0))).setCell ⟨gb370, 1, none⟩ (.int .i64 ((rY ((rX t327 (rd t336 x6_1)).f0) x8_2).f1))).setCell ⟨gb370, 2, none⟩ (.string ((rY ((rX t327 (rd t336 x6_1)).f0) x8_2).f2))) = w54 at n0_ n1_ n2_ n3_ n4_ n5_ n6_ n7_ n8_ n9_ n10_ ⊢
                  have HO_3 := n0_
                  have HO_349000 := n1_
                  have HO_349001 := n2_
                  have HO_349002 := n3_
                  have HO_349003 := n4_
                  have HO_349004 := n5_
                  have HL367_0 := n6_
                  have HL368_0 := n7_
                  have BK348 := n8_
                  have BK370 := n9_
                  have HB := n10_
                  clear n0_ n1_ n2_ n3_ n4_ n5_ n6_ n7_ n8_ n9_ n10_
                  have n0_ := Az.mk (Kd.S_drew HO_3.out)
                  have n1_ := Az.mk (Kd.R_drew HO_349000.out)
                  have n2_ := Az.mk (Kd.R_drew HO_349001.out)
                  have n3_ := Az.mk (Kd.R_drew HO_349002.out)
                  have n4_ := Az.mk (Kd.R_drew HO_349003.out)
                  have n5_ := Az.mk (Kd.R_drew HO_349004.out)
                  have n6_ := Az.mk (Kd.R_drew HL367_0.out)
                  have n7_ := Az.mk (Kd.R_drew HL368_0.out)
                  have n8_ := Az.mk (blk_drew BK348.out)
                  have n9_ := Az.mk (blk_drew BK370.out)
                  have n10_ := Az.mk (bdr HB.out)
                  clear HO_3
                  clear HO_349000
                  clear HO_349001
                  clear HO_349002
                  clear HO_349003
                  clear HO_349004
                  clear HL367_0
                  clear HL368_0
                  clear BK348
                  clear BK370
                  clear HB
                  have HO_3 := n0_
                  have HO_349000 := n1_
                  have HO_349001 := n2_
                  have HO_349002 := n3_
                  have HO_349003 := n4_
                  have HO_349004 := n5_
                  have HL367_0 := n6_
                  have HL368_0 := n7_
                  have BK348 := n8_
                  have BK370 := n9_
                  have HB := n10_
                  clear n0_ n1_ n2_ n3_ n4_ n5_ n6_ n7_ n8_ n9_ n10_
                  have q56 : (x6_1 : Int) ≤ ((t336.length : Int) : Int) := of_decide_eq_true (by first | (with_reducible assumption) | assumption)
                  obtain ⟨i056, hi056, _, hsz56, _⟩ := info_parts info3
                  have hroom56 : t336.length ≤ co15 := (Kd.R_reads' HO_349001.out).2.1
                  have hC56 : Kd.C (Kd.int .i64) _ (some ad365) t336.length t336 := (Kd.R_reads' HO_349001.out).2.2
                  have hcut56 := cut_to (P := Try.prog) 35 3 .i64 Try.underlying35 hi056 (some ad365) t336.length co15 x6_1 (of_decide_eq_true (by first | (with_reducible assumption) | assumption)) q56 hroom56
                  have hr56 := Kd.C_take (m := (x6_1 : Int).toNat) hC56 (by omega)
                  have hy56 : y371.length = (x6_1 : Int).toNat := (by rw [Ny371.out, List.length_take]; omega)
                  rw [← Ny371.out] at hr56
                  rw [← hy56] at hcut56
                  have HR374 := Az.mk hr56
                  have HC374 := Az.mk (show y371.length ≤ co15 from by omega)
                  clear hr56 hC56 hroom56 hi056 hsz56
                  have KY56 := Az.mk hy56
                  clear hy56
                  have KL56 := Az.mk (show (x6_1 : Int).toNat ≤ t336.length from by omega)
                  replace q56 := eq_true q56
                  refine start_ (n := 13) (S := fun w' => w'.cell? ⟨gb370, 0, none⟩ = some (.int .i64 ((rY ((rX t327 (rd t336 x6_1)).f0) x8_2).f0)) ∧ w'.cell? ⟨gb370, 1, none⟩ = some (.int .i64 ((rY ((rX t327 (rd t336 x6_1)).f0) x8_2).f1)) ∧ w'.cell? ⟨gb370, 2, none⟩ = some (.string ((rY ((rX t327 (rd t336 x6_1)).f0) x8_2).f2)) ∧ w'.cell? ⟨gb348, 0, none⟩ = some (.slice Ao13 t333.length co13) ∧ w'.cell? ⟨gb348, 1, none⟩ = some (.slice (some ad365) t336.length co15) ∧ w'.cell? ⟨gb348, 2, none⟩ = some (.slice Ao16 t339.length co16) ∧ w'.cell? ⟨gb348, 3, none⟩ = some (.slice Ao17 t342.length co17) ∧ w'.cell? ⟨gb348, 4, none⟩ = some (.slice Ao18 t345.length co18)) (ds := []) #[false, false, false, false, false, false, false, false, false, false, false, false, false] (by kernel_rfl) rfl rfl ⟨(bC BK370.out 0).trans rfl, (bC BK370.out 1).trans rfl, (bC BK370.out 2).trans rfl, (bC BK348.out 0).trans rfl, (bC BK348.out 1).trans rfl, (bC BK348.out 2).trans rfl, (bC BK348.out 3).trans rfl, (bC BK348.out 4).trans rfl⟩ (fun hHeld => ?_); refine with_tabW laws_FnImportOrder.tab16 laws_FnImportOrder.bits16 (fun HT_ HW_ => ?_)
                  generalize w54.drew = w55 at HO_3 HO_349000 HO_349001 HO_349002 HO_349003 HO_349004 HL367_0 HL368_0 BK348 BK370 HB HR374 hHeld ⊢
                  refine pure_ (i := 0) (N := some 60) (v := ?_) (a' := ?_) #[true, false, false, false, false, false, false, false, false, false, false, false, false] rfl rfl (any_of HT_.out (by kernel_rfl)) (fun _ _ _ h => h) (Or.inl ⟨by rfl, ?_⟩) ?_ ?_
                  rotate_left
                  ·intro w'
                   go_simp
                   with_reducible rfl
                  rotate_left
                  ·simp only [Act.put, List.setIfInBounds_toArray, List.set_cons_zero, List.set_cons_succ, i64_w, i32_w]
                   rfl
                  refine take_ (i := 1) (N := some 61) (v := ?_) (a' := ?_) #[true, true, false, false, false, false, false, false, false, false, false, false, false] rfl rfl (take_ofW HT_.out HW_.out (by kernel_rfl)) (fun _ _ _ h => h) (Or.inl ⟨by rfl, ?_⟩) hHeld ?_ ?_
                  rotate_left
                  ·rintro w' ⟨s0, s1, s2, s3, s4, s5, s6, s7⟩
                   go_simp
                   with_reducible rfl
                  rotate_left
                  ·simp only [Act.put, List.setIfInBounds_toArray, List.set_cons_zero, List.set_cons_succ, i64_w, i32_w]
                   rfl
                  refine pure_ (i := 2) (N := some 62) (v := ?_) (a' := ?_) #[true, true, true, false, false, false, false, false, false, false, false, false, false] rfl rfl (any_of HT_.out (by kernel_rfl)) (fun _ _ _ h => h) (Or.inl ⟨by rfl, ?_⟩) ?_ ?_
                  rotate_left
                  ·intro w'
                   go_simp
                   with_reducible rfl
                  rotate_left
                  ·simp only [Act.put, List.setIfInBounds_toArray, List.set_cons_zero, List.set_cons_succ, i64_w, i32_w]
                   rfl
                  refine pure_ (i := 3) (N := some 63) (v := ?_) (a' := ?_) #[true, true, true, true, false, false, false, false, false, false, false, false, false] rfl rfl (any_of HT_.out (by kernel_rfl)) (fun _ _ _ h => h) (Or.inl ⟨by rfl, ?_⟩) ?_ ?_
                  rotate_left
                  ·intro w'
                   go_simp
                   with_reducible rfl
                  rotate_left
                  ·simp only [Act.put, List.setIfInBounds_toArray, List.set_cons_zero, List.set_cons_succ, i64_w, i32_w]
                   rfl
                  refine pure_ (i := 4) (N := some 64) (v := ?_) (a' := ?_) #[true, true, true, true, true, false, false, false, false, false, false, false, false] rfl rfl (any_of HT_.out (by kernel_rfl)) (fun _ _ _ h => h) (Or.inl ⟨by rfl, ?_⟩) ?_ ?_
                  rotate_left
                  ·intro w'
                   go_simp
                   with_reducible rfl
                  rotate_left
                  ·simp only [Act.put, List.setIfInBounds_toArray, List.set_cons_zero, List.set_cons_succ, i64_w, i32_w]
                   rfl
                  refine pure_ (i := 6) (N := some 66) (v := ?_) (a' := ?_) #[true, true, true, true, true, false, true, false, false, false, false, false, false] rfl rfl (any_of HT_.out (by kernel_rfl)) (fun _ _ _ h => h) (Or.inl ⟨by rfl, ?_⟩) ?_ ?_
                  rotate_left
                  ·intro w'
                   go_simp
                   with_reducible rfl
                  rotate_left
                  ·simp only [Act.put, List.setIfInBounds_toArray, List.set_cons_zero, List.set_cons_succ, i64_w, i32_w]
                   rfl
                  refine pure_ (i := 8) (N := some 68) (v := ?_) (a' := ?_) #[true, true, true, true, true, false, true, false, true, false, false, false, false] rfl rfl (any_of HT_.out (by kernel_rfl)) (fun _ _ _ h => h) (Or.inl ⟨by rfl, ?_⟩) ?_ ?_
                  rotate_left
                  ·intro w'
                   go_simp
                   with_reducible rfl
                  rotate_left
                  ·simp only [Act.put, List.setIfInBounds_toArray, List.set_cons_zero, List.set_cons_succ, i64_w, i32_w]
                   rfl
                  refine take_ (i := 5) (N := some 65) (v := ?_) (a' := ?_) #[true, true, true, true, true, true, true, false, true, false, false, false, false] rfl rfl (take_ofW HT_.out HW_.out (by kernel_rfl)) (fun _ _ _ h => h) (Or.inl ⟨by rfl, ?_⟩) hHeld ?_ ?_
                  rotate_left
                  ·rintro w' ⟨s0, s1, s2, s3, s4, s5, s6, s7⟩
                   go_simp
                   with_reducible rfl
                  rotate_left
                  ·simp only [Act.put, List.setIfInBounds_toArray, List.set_cons_zero, List.set_cons_succ, i64_w, i32_w]
                   rfl
                  refine pure_ (i := 7) (N := some 67) (v := ?_) (a' := ?_) #[true, true, true, true, true, true, true, true, true, false, false, false, false] rfl rfl (any_of HT_.out (by kernel_rfl)) (fun _ _ _ h => h) (Or.inl ⟨by rfl, ?_⟩) ?_ ?_
                  rotate_left
                  ·intro w'
                   go_simp
                   with_reducible rfl
                  rotate_left
                  ·simp only [Act.put, List.setIfInBounds_toArray, List.set_cons_zero, List.set_cons_succ, i64_w, i32_w]
                   rfl
                  refine take_ (i := 9) (N := some 69) (v := ?_) (a' := ?_) #[true, true, true, true, true, true, true, true, true, true, false, false, false] rfl rfl (take_ofW HT_.out HW_.out (by kernel_rfl)) (fun _ _ _ h => h) (Or.inl ⟨by rfl, ?_⟩) hHeld ?_ ?_
                  rotate_left
                  ·rintro w' ⟨s0, s1, s2, s3, s4, s5, s6, s7⟩
                   go_simp
                   with_reducible rfl
                  rotate_left
                  ·simp only [Act.put, List.setIfInBounds_toArray, List.set_cons_zero, List.set_cons_succ, i64_w, i32_w]
                   rfl
                  refine one_ (i := 10) (N := some 70) #[true, true, true, true, true, true, true, true, true, true, true, false, false] rfl rfl (one_of HT_.out (by kernel_rfl)) (by decide) (fun K hK => ?_)
                  refine goes_ Try.func42 (by kernel_rfl) rfl #[.slice (some ad365) y371.length co15, .int .i64 ((rY ((rX t327 (rd t336 x6_1)).f0) x8_2).f1)] (by rfl) rfl rfl (by (try simp only [List.map_toArray, List.map_cons, List.map_nil]); first | done | rfl | (simp only [List.length_drop, List.length_take]; rfl)) ?_
                  with_reducible refine (spec_HasInt.calls k2 _ _ y371 ((rY ((rX t327 (rd t336 x6_1)).f0) x8_2).f1) false _ ?side1 ?side2 A43.out).mono ?_
                  (case side1 => repeat (first | exact (by repeat (first | (with_reducible exact HR374.out) | (with_reducible refine Kd.C_alloc ?_ _) | (with_reducible refine Kd.C_drewN ?_ _) | (with_reducible refine Kd.C_drew ?_) | exact HR374.out)) | (with_reducible refine Kd.C_alloc ?_ _) | (with_reducible refine Kd.C_drewN ?_ _) | (with_reducible refine Kd.C_drew ?_)))
                  (case side2 => exact HC374.out)
                  rintro e w' ⟨rfl, ⟨nd, rfl⟩⟩
                  refine ⟨_, rfl, ?_⟩
                  refine hK.out _ _ ⟨(bC BK370.out 0).trans rfl, (bC BK370.out 1).trans rfl, (bC BK370.out 2).trans rfl, (bC BK348.out 0).trans rfl, (bC BK348.out 1).trans rfl, (bC BK348.out 2).trans rfl, (bC BK348.out 3).trans rfl, (bC BK348.out 4).trans rfl⟩ (fun hHeld => ?_)
                  clear hK K
                  refine norm_ (a' := ?_) ?_ ?_
                  rotate_left
                  ·show Act.put _ (some 70) _ = _
                   simp only [Act.put, List.setIfInBounds_toArray, List.set_cons_zero, List.set_cons_succ, i64_w, i32_w]
                   rfl
                  refine pure_ (i := 11) (N := some 71) (v := ?_) (a' := ?_) #[true, true, true, true, true, true, true, true, true, true, true, true, false] rfl rfl (any_of HT_.out (by kernel_rfl)) (fun _ _ _ h => h) (Or.inl ⟨by rfl, ?_⟩) ?_ ?_
                  rotate_left
                  ·intro w'
                   go_simp
                   with_reducible rfl
                  rotate_left
                  ·simp only [Act.put, List.setIfInBounds_toArray, List.set_cons_zero, List.set_cons_succ, i64_w, i32_w]
                   rfl
                  refine pure_ (i := 12) (N := some 72) (v := ?_) (a' := ?_) #[true, true, true, true, true, true, true, true, true, true, true, true, true] rfl rfl (any_of HT_.out (by kernel_rfl)) (fun _ _ _ h => h) (Or.inl ⟨by rfl, ?_⟩) ?_ ?_
                  rotate_left
                  ·intro w'
                   go_simp
                   with_reducible rfl
                  rotate_left
                  ·simp only [Act.put, List.setIfInBounds_toArray, List.set_cons_zero, List.set_cons_succ, i64_w, i32_w]
                   rfl
                  refine done_ (done_of HT_.out (by kernel_rfl)) ?_
                  try go_wp2
                  go_ret
                  exact ⟨by first | rfl | (simp [errW_none, errW_some] <;> rfl) | (simp [*, errW_none, errW_some] <;> rfl), by repeat (first | (with_reducible first | exact HB.out | apply bal | apply bdN | apply bdr | refine bS ?_ GE348.out | refine bS ?_ GE370.out) | exact HB.out)⟩
                ·rw [if_neg c42] at H
                 exact absurd H (by simp)
               ·rw [if_neg c41] at H
                exact absurd H (by simp)
              ·rw [if_neg c40] at H
               have c40b0 : (((rY ((rX t327 (rd t336 x6_1)).f0) x8_2).f0) == 1) = false := beq_eq_false_iff_ne.mpr c40
               have c40b1 : (((rY ((rX t327 (rd t336 x6_1)).f0) x8_2).f0) != 1) = true := bne_iff_ne.mpr c40
               have H' := Az.mk H
               clear H
               have p367 : 0 ≤ ((rd t336 x6_1) : Int) := of_decide_eq_true (by first | (with_reducible assumption) | assumption)
               have q367 : (rd t336 x6_1) < (t327.length : Int) := of_decide_eq_true (by first | (with_reducible assumption) | assumption)
               obtain ⟨ad367, A367_0, c367_0, e367, hx367_0, hl367_0, hi367_0⟩ := at_T72 (Kd.S_reads' HO_3.out).2.2 (rd t336 x6_1) p367 q367
               cases e367
               obtain ⟨ce367, hce367, hMe367, hcc367⟩ := Kd.S_get HO_3.out z72 (rd t336 x6_1) p367 (by first | exact q367 | exact of_decide_eq_true (by first | (with_reducible assumption) | assumption) | (have e_ := (Kd.S_reads' HO_3.out).1; omega))
               obtain ⟨ve367_0, rfl, ge367_0⟩ := k72_openM hMe367
               have hv367_0 := hcc367 0 _ rfl
               rw [Nat.add_zero, show (k72).sz = 1 from rfl, Nat.mul_one] at hv367_0
               replace hv367_0 := Option.some.inj (hv367_0.symm.trans hx367_0)
               rw [hv367_0] at ge367_0
               have HL367_0 := Az.mk (show Kd.R k74 74 _ _ _ _ ((rX t327 (rd t336 x6_1)).f0) from ge367_0)
               clear hv367_0 ge367_0
               clear hcc367 hce367
               have HR367_0 := Az.mk hi367_0
               have HC367_0 := Az.mk hl367_0
               clear hi367_0 hl367_0
               replace p367 := eq_true p367
               replace q367 := eq_true q367
               have p368 : 0 ≤ ((rd t336 x6_1) : Int) := of_decide_eq_true (by first | (with_reducible assumption) | assumption)
               have q368 : (rd t336 x6_1) < (t327.length : Int) := of_decide_eq_true (by first | (with_reducible assumption) | assumption)
               obtain ⟨ad368, A368_0, c368_0, e368, hx368_0, hl368_0, hi368_0⟩ := at_T72 (Kd.S_reads' HO_3.out).2.2 (rd t336 x6_1) p368 q368
               obtain rfl : ad367 = ad368 := (by injection e368)
               obtain ⟨ce368, hce368, hMe368, hcc368⟩ := Kd.S_get HO_3.out z72 (rd t336 x6_1) p368 (by first | exact q368 | exact of_decide_eq_true (by first | (with_reducible assumption) | assumption) | (have e_ := (Kd.S_reads' HO_3.out).1; omega))
               obtain ⟨ve368_0, rfl, ge368_0⟩ := k72_openM hMe368
               have hv368_0 := hcc368 0 _ rfl
               rw [Nat.add_zero, show (k72).sz = 1 from rfl, Nat.mul_one] at hv368_0
               replace hv368_0 := Option.some.inj (hv368_0.symm.trans hx368_0)
               rw [hv368_0] at ge368_0
               have HL368_0 := Az.mk (show Kd.R k74 74 _ _ _ _ ((rX t327 (rd t336 x6_1)).f0) from ge368_0)
               clear hv368_0 ge368_0
               clear hcc368 hce368
               have HR368_0 := Az.mk hi368_0
               have HC368_0 := Az.mk hl368_0
               clear hi368_0 hl368_0
               replace p368 := eq_true p368
               replace q368 := eq_true q368
               have ea_ := Option.some.inj (hx367_0.symm.trans hx368_0)
               injection ea_ with ea_ en_ ec_
               subst ea_
               subst ec_
               clear en_
               have p369 : 0 ≤ (x8_2 : Int) := of_decide_eq_true (by first | (with_reducible assumption) | assumption)
               have q369 : x8_2 < (((rX t327 (rd t336 x6_1)).f0).length : Int) := of_decide_eq_true (by first | (with_reducible assumption) | assumption)
               obtain ⟨ad369, e369, hx369_0, hx369_1, hx369_2⟩ := at_T74 (by repeat (first | (with_reducible exact HR368_0.out) | (with_reducible refine Kd.C_alloc ?_ _) | (with_reducible refine Kd.C_drewN ?_ _) | (with_reducible refine Kd.C_drew ?_) | exact HR368_0.out)) x8_2 p369 q369
               cases e369
               replace p369 := eq_true p369
               replace q369 := eq_true q369
               try go_wp2_with (first | ((with_reducible refine gate_dst (N := 9) rfl ?_); refine box_event ?hg (N := 9) ?hd (cs := #[.int .i64 0, .int .i64 0, .string (⟨#[]⟩ : ByteArray)]) (t := 74) ?hr ?_; (case hd => rfl); (case hg => rfl); (case hr => first | (go_simp; done) | (go_simp; rfl)); intro gb370 hg w57 hbox hb; have n0_ := Az.mk (Kd.S_below (Kd.S_elderB (by (with_reducible repeat (first | apply Kd.S_alloc | apply Kd.S_drewN | apply Kd.S_drew)); exact HO_3.out) gb370 (Nat.le_of_eq hg.symm)) hb); have n1_ := Az.mk (Kd.R_below (by (with_reducible repeat (first | apply Kd.R_alloc | apply Kd.R_drewN | apply Kd.R_drew)); exact HO_349000.out) hb); have n2_ := Az.mk (Kd.R_below (by (with_reducible repeat (first | apply Kd.R_alloc | apply Kd.R_drewN | apply Kd.R_drew)); exact HO_349001.out) hb); have n3_ := Az.mk (Kd.R_below (by (with_reducible repeat (first | apply Kd.R_alloc | apply Kd.R_drewN | apply Kd.R_drew)); exact HO_349002.out) hb); have n4_ := Az.mk (Kd.R_below (by (with_reducible repeat (first | apply Kd.R_alloc | apply Kd.R_drewN | apply Kd.R_drew)); exact HO_349003.out) hb); have n5_ := Az.mk (Kd.R_below (by (with_reducible repeat (first | apply Kd.R_alloc | apply Kd.R_drewN | apply Kd.R_drew)); exact HO_349004.out) hb); have n6_ := Az.mk (Kd.R_below (Kd.R_elderB (by (with_reducible repeat (first | apply Kd.R_alloc | apply Kd.R_drewN | apply Kd.R_drew)); exact HL367_0.out) gb370 (Nat.le_of_eq hg.symm)) hb); have n7_ := Az.mk (Kd.R_below (Kd.R_elderB (by (with_reducible repeat (first | apply Kd.R_alloc | apply Kd.R_drewN | apply Kd.R_drew)); exact HL368_0.out) gb370 (Nat.le_of_eq hg.symm)) hb); have n8_ := Az.mk (blk_below (g := gb348) (o := .cells #[.slice Ao13 t333.length co13, .slice (some ad365) t336.length co15, .slice Ao16 t339.length co16, .slice Ao17 t342.length co17, .slice Ao18 t345.length co18] 48 (0, 0)) (by (with_reducible repeat (first | refine blk_drewN ?_ _ | refine blk_drew ?_ | refine blk_alloc ?_ _)); exact BK348.out) hb); have n9_ := Az.mk (Kd.C_below (by repeat (first | (with_reducible exact HR367_0.out) | (with_reducible refine Kd.C_alloc ?_ _) | (with_reducible refine Kd.C_drewN ?_ _) | (with_reducible refine Kd.C_drew ?_) | exact HR367_0.out)) hb); have n10_ := Az.mk (Kd.C_below (by repeat (first | (with_reducible exact HR368_0.out) | (with_reducible refine Kd.C_alloc ?_ _) | (with_reducible refine Kd.C_drewN ?_ _) | (with_reducible refine Kd.C_drew ?_) | exact HR368_0.out)) hb); have n11_ := Az.mk (below_step (by repeat (first | (with_reducible first | exact HB.out | apply bal | apply bdN | apply bdr | refine bS ?_ GE348.out) | exact HB.out)) hb); have n12_ := Az.mk (hbox); have n13_ := Az.mk ((by rw [hg]; exact (below_size (by repeat (first | (with_reducible first | exact HB.out | apply bal | apply bdN | apply bdr | refine bS ?_ GE348.out) | exact HB.out))) : w.heap.size ≤ gb370)); have n14_ := Az.mk ((by rw [hg]; exact (below_size (by repeat (first | (with_reducible first | exact HB.out | apply bal | apply bdN | apply bdr | refine bS ?_ GE348.out) | exact HB.out))) : w.heap.size ≤ gb370)); have n15_ := Az.mk ((by rw [hg]; exact Nat.ne_of_lt (blk_lt (g := gb348) (o := .cells #[.slice Ao13 t333.length co13, .slice (some ad365) t336.length co15, .slice Ao16 t339.length co16, .slice Ao17 t342.length co17, .slice Ao18 t345.length co18] 48 (0, 0)) (by (with_reducible repeat (first | refine blk_drewN ?_ _ | refine blk_drew ?_ | refine blk_alloc ?_ _)); exact BK348.out)) : gb348 ≠ gb370)); have n16_ := Az.mk ((by rw [hg]; exact Nat.ne_of_gt (blk_lt (g := gb348) (o := .cells #[.slice Ao13 t333.length co13, .slice (some ad365) t336.length co15, .slice Ao16 t339.length co16, .slice Ao17 t342.length co17, .slice Ao18 t345.length co18] 48 (0, 0)) (by (with_reducible repeat (first | refine blk_drewN ?_ _ | refine blk_drew ?_ | refine blk_alloc ?_ _)); exact BK348.out)) : gb370 ≠ gb348)); clear HO_3; clear HO_349000; clear HO_349001; clear HO_349002; clear HO_349003; clear HO_349004; clear HL367_0; clear HL368_0; clear BK348; clear HR367_0; clear HR368_0; clear HB; have HO_3 := n0_; have HO_349000 := n1_; have HO_349001 := n2_; have HO_349002 := n3_; have HO_349003 := n4_; have HO_349004 := n5_; have HL367_0 := n6_; have HL368_0 := n7_; have BK348 := n8_; have HR367_0 := n9_; have HR368_0 := n10_; have HB := n11_; have BK370 := n12_; have GW370 := n13_; have GE370 := n14_; have NB348_370 := n15_; have NB370_348 := n16_; clear n0_ n1_ n2_ n3_ n4_ n5_ n6_ n7_ n8_ n9_ n10_ n11_ n12_ n13_ n14_ n15_ n16_; clear hb hbox hg; have hnb58 := NB370_348.out; have hnc58 := NB348_370.out; have hcz59_0 : w57.cell? ⟨gb370, 0, none⟩ = some (.int .i64 0) := (bC BK370.out 0).trans rfl; have hcz59_1 : w57.cell? ⟨gb370, 1, none⟩ = some (.int .i64 0) := (bC BK370.out 1).trans rfl; have hcz59_2 : w57.cell? ⟨gb370, 2, none⟩ = some (.string (⟨#[]⟩ : ByteArray)) := (bC BK370.out 2).trans rfl; have hfz59_0 := bF BK370.out 0; have hfz59_1 := bF BK370.out 1; have hfz59_2 := bF BK370.out 2))
               have n0_ : Az (Kd.S k72 72 (((w57.setCell ⟨gb370, 0, none⟩ (.int .i64 ((rY ((rX t327 (rd t336 x6_1)).f0) x8_2).f0))).setCell ⟨gb370, 1, none⟩ (.int .i64 ((rY ((rX t327 (rd t336 x6_1)).f0) x8_2).f1))).setCell ⟨gb370, 2, none⟩ (.string ((rY ((rX t327 (rd t336 x6_1)).f0) x8_2).f2))) w.heap.size (fun k_ => k_ ≠ gb370) (.slice (some ad367) t327.length co9) t327) := ⟨by (with_reducible repeat (first | apply Kd.S_alloc | apply Kd.S_drewN | apply Kd.S_drew)); exact Kd.S_mono (Kd.S_far (p := ⟨gb370, 2, none⟩) (Kd.S_far (p := ⟨gb370, 1, none⟩) (Kd.S_far (p := ⟨gb370, 0, none⟩) (Kd.S_mono HO_3.out (fun k_ hk => (⟨hk, hk.2⟩ : _ ∧ k_ ≠ gb370))) (fun _ hk => hk.2) (.int .i64 ((rY ((rX t327 (rd t336 x6_1)).f0) x8_2).f0))) (fun _ hk => hk.2) (.int .i64 ((rY ((rX t327 (rd t336 x6_1)).f0) x8_2).f1))) (fun _ hk => hk.2) (.string ((rY ((rX t327 (rd t336 x6_1)).f0) x8_2).f2))) (fun _ hk => hk.1.2)⟩
               have n1_ : Az (Kd.R (Kd.int .i64) 3 (((w57.setCell ⟨gb370, 0, none⟩ (.int .i64 ((rY ((rX t327 (rd t336 x6_1)).f0) x8_2).f0))).setCell ⟨gb370, 1, none⟩ (.int .i64 ((rY ((rX t327 (rd t336 x6_1)).f0) x8_2).f1))).setCell ⟨gb370, 2, none⟩ (.string ((rY ((rX t327 (rd t336 x6_1)).f0) x8_2).f2))) w.heap.size (fun k_ => some k_ ≠ (.slice (some ad365) t336.length co15 : Value).ownBlock ∧ some k_ ≠ (.slice Ao16 t339.length co16 : Value).ownBlock ∧ some k_ ≠ (.slice Ao18 t345.length co18 : Value).ownBlock) (.slice Ao13 t333.length co13) t333) := ⟨by (with_reducible repeat (first | apply Kd.R_alloc | apply Kd.R_drewN | apply Kd.R_drew)); exact Kd.R_mono (Kd.R_far (p := ⟨gb370, 2, none⟩) (Kd.R_far (p := ⟨gb370, 1, none⟩) (Kd.R_far (p := ⟨gb370, 0, none⟩) (Kd.R_types HO_349000.out BK370.out (by decide)) (fun _ hk => hk.2) (.int .i64 ((rY ((rX t327 (rd t336 x6_1)).f0) x8_2).f0))) (fun _ hk => hk.2) (.int .i64 ((rY ((rX t327 (rd t336 x6_1)).f0) x8_2).f1))) (fun _ hk => hk.2) (.string ((rY ((rX t327 (rd t336 x6_1)).f0) x8_2).f2))) (fun _ hk => ⟨hk.1.1, ⟨hk.1.2.1, hk.1.2.2⟩⟩)⟩
               have n2_ : Az (Kd.R (Kd.int .i64) 3 (((w57.setCell ⟨gb370, 0, none⟩ (.int .i64 ((rY ((rX t327 (rd t336 x6_1)).f0) x8_2).f0))).setCell ⟨gb370, 1, none⟩ (.int .i64 ((rY ((rX t327 (rd t336 x6_1)).f0) x8_2).f1))).setCell ⟨gb370, 2, none⟩ (.string ((rY ((rX t327 (rd t336 x6_1)).f0) x8_2).f2))) w.heap.size (fun k_ => some k_ ≠ (.slice Ao13 t333.length co13 : Value).ownBlock ∧ some k_ ≠ (.slice Ao16 t339.length co16 : Value).ownBlock ∧ some k_ ≠ (.slice Ao18 t345.length co18 : Value).ownBlock) (.slice (some ad365) t336.length co15) t336) := ⟨by (with_reducible repeat (first | apply Kd.R_alloc | apply Kd.R_drewN | apply Kd.R_drew)); exact Kd.R_mono (Kd.R_far (p := ⟨gb370, 2, none⟩) (Kd.R_far (p := ⟨gb370, 1, none⟩) (Kd.R_far (p := ⟨gb370, 0, none⟩) (Kd.R_types HO_349001.out BK370.out (by decide)) (fun _ hk => hk.2) (.int .i64 ((rY ((rX t327 (rd t336 x6_1)).f0) x8_2).f0))) (fun _ hk => hk.2) (.int .i64 ((rY ((rX t327 (rd t336 x6_1)).f0) x8_2).f1))) (fun _ hk => hk.2) (.string ((rY ((rX t327 (rd t336 x6_1)).f0) x8_2).f2))) (fun _ hk => ⟨hk.1.1, ⟨hk.1.2.1, hk.1.2.2⟩⟩)⟩
               have n3_ : Az (Kd.R (Kd.int .i64) 3 (((w57.setCell ⟨gb370, 0, none⟩ (.int .i64 ((rY ((rX t327 (rd t336 x6_1)).f0) x8_2).f0))).setCell ⟨gb370, 1, none⟩ (.int .i64 ((rY ((rX t327 (rd t336 x6_1)).f0) x8_2).f1))).setCell ⟨gb370, 2, none⟩ (.string ((rY ((rX t327 (rd t336 x6_1)).f0) x8_2).f2))) w.heap.size (fun k_ => some k_ ≠ (.slice Ao13 t333.length co13 : Value).ownBlock ∧ some k_ ≠ (.slice (some ad365) t336.length co15 : Value).ownBlock ∧ some k_ ≠ (.slice Ao18 t345.length co18 : Value).ownBlock) (.slice Ao16 t339.length co16) t339) := ⟨by (with_reducible repeat (first | apply Kd.R_alloc | apply Kd.R_drewN | apply Kd.R_drew)); exact Kd.R_mono (Kd.R_far (p := ⟨gb370, 2, none⟩) (Kd.R_far (p := ⟨gb370, 1, none⟩) (Kd.R_far (p := ⟨gb370, 0, none⟩) (Kd.R_types HO_349002.out BK370.out (by decide)) (fun _ hk => hk.2) (.int .i64 ((rY ((rX t327 (rd t336 x6_1)).f0) x8_2).f0))) (fun _ hk => hk.2) (.int .i64 ((rY ((rX t327 (rd t336 x6_1)).f0) x8_2).f1))) (fun _ hk => hk.2) (.string ((rY ((rX t327 (rd t336 x6_1)).f0) x8_2).f2))) (fun _ hk => ⟨hk.1.1, ⟨hk.1.2.1, hk.1.2.2⟩⟩)⟩
               have n4_ : Az (Kd.R Kd.string 9 (((w57.setCell ⟨gb370, 0, none⟩ (.int .i64 ((rY ((rX t327 (rd t336 x6_1)).f0) x8_2).f0))).setCell ⟨gb370, 1, none⟩ (.int .i64 ((rY ((rX t327 (rd t336 x6_1)).f0) x8_2).f1))).setCell ⟨gb370, 2, none⟩ (.string ((rY ((rX t327 (rd t336 x6_1)).f0) x8_2).f2))) w.heap.size (fun _ => True) (.slice Ao17 t342.length co17) t342) := ⟨by (with_reducible repeat (first | apply Kd.R_alloc | apply Kd.R_drewN | apply Kd.R_drew)); exact Kd.R_mono (Kd.R_far (p := ⟨gb370, 2, none⟩) (Kd.R_far (p := ⟨gb370, 1, none⟩) (Kd.R_far (p := ⟨gb370, 0, none⟩) (Kd.R_types HO_349003.out BK370.out (by decide)) (fun _ hk => hk.2) (.int .i64 ((rY ((rX t327 (rd t336 x6_1)).f0) x8_2).f0))) (fun _ hk => hk.2) (.int .i64 ((rY ((rX t327 (rd t336 x6_1)).f0) x8_2).f1))) (fun _ hk => hk.2) (.string ((rY ((rX t327 (rd t336 x6_1)).f0) x8_2).f2))) (fun _ hk => trivial)⟩
               have n5_ : Az (Kd.R (Kd.int .i64) 3 (((w57.setCell ⟨gb370, 0, none⟩ (.int .i64 ((rY ((rX t327 (rd t336 x6_1)).f0) x8_2).f0))).setCell ⟨gb370, 1, none⟩ (.int .i64 ((rY ((rX t327 (rd t336 x6_1)).f0) x8_2).f1))).setCell ⟨gb370, 2, none⟩ (.string ((rY ((rX t327 (rd t336 x6_1)).f0) x8_2).f2))) w.heap.size (fun k_ => some k_ ≠ (.slice Ao13 t333.length co13 : Value).ownBlock ∧ some k_ ≠ (.slice (some ad365) t336.length co15 : Value).ownBlock ∧ some k_ ≠ (.slice Ao16 t339.length co16 : Value).ownBlock) (.slice Ao18 t345.length co18) t345) := ⟨by (with_reducible repeat (first | apply Kd.R_alloc | apply Kd.R_drewN | apply Kd.R_drew)); exact Kd.R_mono (Kd.R_far (p := ⟨gb370, 2, none⟩) (Kd.R_far (p := ⟨gb370, 1, none⟩) (Kd.R_far (p := ⟨gb370, 0, none⟩) (Kd.R_types HO_349004.out BK370.out (by decide)) (fun _ hk => hk.2) (.int .i64 ((rY ((rX t327 (rd t336 x6_1)).f0) x8_2).f0))) (fun _ hk => hk.2) (.int .i64 ((rY ((rX t327 (rd t336 x6_1)).f0) x8_2).f1))) (fun _ hk => hk.2) (.string ((rY ((rX t327 (rd t336 x6_1)).f0) x8_2).f2))) (fun _ hk => ⟨hk.1.1, ⟨hk.1.2.1, hk.1.2.2⟩⟩)⟩
               have n6_ : Az (Kd.R k74 74 (((w57.setCell ⟨gb370, 0, none⟩ (.int .i64 ((rY ((rX t327 (rd t336 x6_1)).f0) x8_2).f0))).setCell ⟨gb370, 1, none⟩ (.int .i64 ((rY ((rX t327 (rd t336 x6_1)).f0) x8_2).f1))).setCell ⟨gb370, 2, none⟩ (.string ((rY ((rX t327 (rd t336 x6_1)).f0) x8_2).f2))) w.heap.size (fun k_ => some k_ ≠ (.slice (some ad367) t327.length co9 : Value).ownBlock ∧ k_ ≠ gb370) (.slice (some ad369) ((rX t327 (rd t336 x6_1)).f0).length c367_0) ((rX t327 (rd t336 x6_1)).f0)) := ⟨by (with_reducible repeat (first | apply Kd.R_alloc | apply Kd.R_drewN | apply Kd.R_drew)); exact Kd.R_mono (Kd.R_far (p := ⟨gb370, 2, none⟩) (Kd.R_far (p := ⟨gb370, 1, none⟩) (Kd.R_far (p := ⟨gb370, 0, none⟩) (Kd.R_mono HL367_0.out (fun k_ hk => (⟨hk, hk.2⟩ : _ ∧ k_ ≠ gb370))) (fun _ hk => hk.2) (.int .i64 ((rY ((rX t327 (rd t336 x6_1)).f0) x8_2).f0))) (fun _ hk => hk.2) (.int .i64 ((rY ((rX t327 (rd t336 x6_1)).f0) x8_2).f1))) (fun _ hk => hk.2) (.string ((rY ((rX t327 (rd t336 x6_1)).f0) x8_2).f2))) (fun _ hk => ⟨hk.1.1.2, hk.1.2⟩)⟩
               have n7_ : Az (Kd.R k74 74 (((w57.setCell ⟨gb370, 0, none⟩ (.int .i64 ((rY ((rX t327 (rd t336 x6_1)).f0) x8_2).f0))).setCell ⟨gb370, 1, none⟩ (.int .i64 ((rY ((rX t327 (rd t336 x6_1)).f0) x8_2).f1))).setCell ⟨gb370, 2, none⟩ (.string ((rY ((rX t327 (rd t336 x6_1)).f0) x8_2).f2))) w.heap.size (fun k_ => some k_ ≠ (.slice (some ad367) t327.length co9 : Value).ownBlock ∧ k_ ≠ gb370) (.slice (some ad369) ((rX t327 (rd t336 x6_1)).f0).length c367_0) ((rX t327 (rd t336 x6_1)).f0)) := ⟨by (with_reducible repeat (first | apply Kd.R_alloc | apply Kd.R_drewN | apply Kd.R_drew)); exact Kd.R_mono (Kd.R_far (p := ⟨gb370, 2, none⟩) (Kd.R_far (p := ⟨gb370, 1, none⟩) (Kd.R_far (p := ⟨gb370, 0, none⟩) (Kd.R_mono HL368_0.out (fun k_ hk => (⟨hk, hk.2⟩ : _ ∧ k_ ≠ gb370))) (fun _ hk => hk.2) (.int .i64 ((rY ((rX t327 (rd t336 x6_1)).f0) x8_2).f0))) (fun _ hk => hk.2) (.int .i64 ((rY ((rX t327 (rd t336 x6_1)).f0) x8_2).f1))) (fun _ hk => hk.2) (.string ((rY ((rX t327 (rd t336 x6_1)).f0) x8_2).f2))) (fun _ hk => ⟨hk.1.1.2, hk.1.2⟩)⟩
               have n8_ : Az ((((w57.setCell ⟨gb370, 0, none⟩ (.int .i64 ((rY ((rX t327 (rd t336 x6_1)).f0) x8_2).f0))).setCell ⟨gb370, 1, none⟩ (.int .i64 ((rY ((rX t327 (rd t336 x6_1)).f0) x8_2).f1))).setCell ⟨gb370, 2, none⟩ (.string ((rY ((rX t327 (rd t336 x6_1)).f0) x8_2).f2))).heap[gb348]? = some (.cells #[.slice Ao13 t333.length co13, .slice (some ad365) t336.length co15, .slice Ao16 t339.length co16, .slice Ao17 t342.length co17, .slice Ao18 t345.length co18] 48 (0, 0))) := ⟨by (with_reducible repeat (first | refine blk_drewN ?_ _ | refine blk_drew ?_ | refine blk_alloc ?_ _)); refine blk_far ?_ NB348_370.out _; (with_reducible repeat (first | refine blk_drewN ?_ _ | refine blk_drew ?_ | refine blk_alloc ?_ _)); refine blk_far ?_ NB348_370.out _; (with_reducible repeat (first | refine blk_drewN ?_ _ | refine blk_drew ?_ | refine blk_alloc ?_ _)); refine blk_far ?_ NB348_370.out _; (with_reducible repeat (first | refine blk_drewN ?_ _ | refine blk_drew ?_ | refine blk_alloc ?_ _)); exact BK348.out⟩
               have n9_ : Az ((((w57.setCell ⟨gb370, 0, none⟩ (.int .i64 ((rY ((rX t327 (rd t336 x6_1)).f0) x8_2).f0))).setCell ⟨gb370, 1, none⟩ (.int .i64 ((rY ((rX t327 (rd t336 x6_1)).f0) x8_2).f1))).setCell ⟨gb370, 2, none⟩ (.string ((rY ((rX t327 (rd t336 x6_1)).f0) x8_2).f2))).heap[gb370]? = some (.cells #[.int .i64 ((rY ((rX t327 (rd t336 x6_1)).f0) x8_2).f0), .int .i64 ((rY ((rX t327 (rd t336 x6_1)).f0) x8_2).f1), .string ((rY ((rX t327 (rd t336 x6_1)).f0) x8_2).f2)] 74 (0, 0))) := ⟨by (with_reducible repeat (first | refine blk_drewN ?_ _ | refine blk_drew ?_ | refine blk_alloc ?_ _)); refine blk_put (cs := #[.int .i64 ((rY ((rX t327 (rd t336 x6_1)).f0) x8_2).f0), .int .i64 ((rY ((rX t327 (rd t336 x6_1)).f0) x8_2).f1), .string (⟨#[]⟩ : ByteArray)]) ?_ 2 _ rfl; (with_reducible repeat (first | refine blk_drewN ?_ _ | refine blk_drew ?_ | refine blk_alloc ?_ _)); refine blk_put (cs := #[.int .i64 ((rY ((rX t327 (rd t336 x6_1)).f0) x8_2).f0), .int .i64 0, .string (⟨#[]⟩ : ByteArray)]) ?_ 1 _ rfl; (with_reducible repeat (first | refine blk_drewN ?_ _ | refine blk_drew ?_ | refine blk_alloc ?_ _)); refine blk_put (cs := #[.int .i64 0, .int .i64 0, .string (⟨#[]⟩ : ByteArray)]) ?_ 0 _ rfl; (with_reducible repeat (first | refine blk_drewN ?_ _ | refine blk_drew ?_ | refine blk_alloc ?_ _)); exact BK370.out⟩
               have n10_ : Az (Below w.heap.size w (((w57.setCell ⟨gb370, 0, none⟩ (.int .i64 ((rY ((rX t327 (rd t336 x6_1)).f0) x8_2).f0))).setCell ⟨gb370, 1, none⟩ (.int .i64 ((rY ((rX t327 (rd t336 x6_1)).f0) x8_2).f1))).setCell ⟨gb370, 2, none⟩ (.string ((rY ((rX t327 (rd t336 x6_1)).f0) x8_2).f2)))) := ⟨by repeat (first | (with_reducible first | exact HB.out | apply bal | apply bdN | apply bdr | refine bS ?_ GE348.out | refine bS ?_ GE370.out) | exact HB.out)⟩
               (try clear HO_3)
               (try clear HO_349000)
               (try clear HO_349001)
               (try clear HO_349002)
               (try clear HO_349003)
               (try clear HO_349004)
               (try clear HL367_0)
               (try clear HL368_0)
               (try clear BK348)
               (try clear BK370)
               (try clear HB)
               generalize (((w57.setCell ⟨gb370, 0, none⟩ (.int .i64 ((rY ((rX t327 (rd t336 x6_1)).f0) x8_2).f0))).setCell ⟨gb370, 1, none⟩ (.int .i64 ((rY ((rX t327 (rd t336 x6_1)).f0) x8_2).f1))).setCell ⟨gb370, 2, none⟩ (.string ((rY ((rX t327 (rd t336 x6_1)).f0) x8_2).f2))) = w60 at n0_ n1_ n2_ n3_ n4_ n5_ n6_ n7_ n8_ n9_ n10_ ⊢
               have HO_3 := n0_
               have HO_349000 := n1_
               have HO_349001 := n2_
               have HO_349002 := n3_
               have HO_349003 := n4_
               have HO_349004 := n5_
               have HL367_0 := n6_
               have HL368_0 := n7_
               have BK348 := n8_
               have BK370 := n9_
               have HB := n10_
               clear n0_ n1_ n2_ n3_ n4_ n5_ n6_ n7_ n8_ n9_ n10_
               have n0_ := Az.mk (Kd.S_drew HO_3.out)
               have n1_ := Az.mk (Kd.R_drew HO_349000.out)
               have n2_ := Az.mk (Kd.R_drew HO_349001.out)
               have n3_ := Az.mk (Kd.R_drew HO_349002.out)
               have n4_ := Az.mk (Kd.R_drew HO_349003.out)
               have n5_ := Az.mk (Kd.R_drew HO_349004.out)
               have n6_ := Az.mk (Kd.R_drew HL367_0.out)
               have n7_ := Az.mk (Kd.R_drew HL368_0.out)
               have n8_ := Az.mk (blk_drew BK348.out)
               have n9_ := Az.mk (blk_drew BK370.out)
               have n10_ := Az.mk (bdr HB.out)
               clear HO_3
               clear HO_349000
               clear HO_349001
               clear HO_349002
               clear HO_349003
               clear HO_349004
               clear HL367_0
               clear HL368_0
               clear BK348
               clear BK370
               clear HB
               have HO_3 := n0_
               have HO_349000 := n1_
               have HO_349001 := n2_
               have HO_349002 := n3_
               have HO_349003 := n4_
               have HO_349004 := n5_
               have HL367_0 := n6_
               have HL368_0 := n7_
               have BK348 := n8_
               have BK370 := n9_
               have HB := n10_
               clear n0_ n1_ n2_ n3_ n4_ n5_ n6_ n7_ n8_ n9_ n10_
               refine start_ (n := 13) (S := fun w' => w'.cell? ⟨gb370, 0, none⟩ = some (.int .i64 ((rY ((rX t327 (rd t336 x6_1)).f0) x8_2).f0)) ∧ w'.cell? ⟨gb370, 1, none⟩ = some (.int .i64 ((rY ((rX t327 (rd t336 x6_1)).f0) x8_2).f1)) ∧ w'.cell? ⟨gb370, 2, none⟩ = some (.string ((rY ((rX t327 (rd t336 x6_1)).f0) x8_2).f2))) (ds := []) #[false, false, false, false, false, false, false, false, false, false, false, false, false] (by kernel_rfl) rfl rfl ⟨(bC BK370.out 0).trans rfl, (bC BK370.out 1).trans rfl, (bC BK370.out 2).trans rfl⟩ (fun hHeld => ?_); refine with_tabW laws_FnImportOrder.tab16 laws_FnImportOrder.bits16 (fun HT_ HW_ => ?_)
               generalize w60.drew = w61 at HO_3 HO_349000 HO_349001 HO_349002 HO_349003 HO_349004 HL367_0 HL368_0 BK348 BK370 HB hHeld ⊢
               refine pure_ (i := 0) (N := some 60) (v := ?_) (a' := ?_) #[true, false, false, false, false, false, false, false, false, false, false, false, false] rfl rfl (any_of HT_.out (by kernel_rfl)) (fun _ _ _ h => h) (Or.inl ⟨by rfl, ?_⟩) ?_ ?_
               rotate_left
               ·intro w'
                go_simp
                with_reducible rfl
               rotate_left
               ·simp only [Act.put, List.setIfInBounds_toArray, List.set_cons_zero, List.set_cons_succ, i64_w, i32_w]
                rfl
               refine take_ (i := 1) (N := some 61) (v := ?_) (a' := ?_) #[true, true, false, false, false, false, false, false, false, false, false, false, false] rfl rfl (take_ofW HT_.out HW_.out (by kernel_rfl)) (fun _ _ _ h => h) (Or.inl ⟨by rfl, ?_⟩) hHeld ?_ ?_
               rotate_left
               ·rintro w' ⟨s0, s1, s2⟩
                go_simp
                with_reducible rfl
               rotate_left
               ·simp only [Act.put, List.setIfInBounds_toArray, List.set_cons_zero, List.set_cons_succ, i64_w, i32_w]
                rfl
               refine pure_ (i := 2) (N := some 62) (v := ?_) (a' := ?_) #[true, true, true, false, false, false, false, false, false, false, false, false, false] rfl rfl (any_of HT_.out (by kernel_rfl)) (fun _ _ _ h => h) (Or.inl ⟨by rfl, ?_⟩) ?_ ?_
               rotate_left
               ·intro w'
                go_simp
                with_reducible rfl
               rotate_left
               ·simp only [Act.put, List.setIfInBounds_toArray, List.set_cons_zero, List.set_cons_succ, i64_w, i32_w]
                rfl
               refine pure_ (i := 3) (N := some 63) (v := ?_) (a' := ?_) #[true, true, true, true, false, false, false, false, false, false, false, false, false] rfl rfl (any_of HT_.out (by kernel_rfl)) (fun _ _ _ h => h) (Or.inl ⟨by rfl, ?_⟩) ?_ ?_
               rotate_left
               ·intro w'
                go_simp
                with_reducible rfl
               rotate_left
               ·simp only [Act.put, List.setIfInBounds_toArray, List.set_cons_zero, List.set_cons_succ, i64_w, i32_w]
                rfl
               refine pure_ (i := 4) (N := some 64) (v := undef) (a' := ?_) #[true, true, true, true, true, false, false, false, false, false, false, false, false] rfl rfl (any_of HT_.out (by kernel_rfl)) (fun _ _ _ h => h) (Or.inr ⟨by rfl, rfl⟩) ?_ ?_
               rotate_left
               ·simp only [Act.put, List.setIfInBounds_toArray, List.set_cons_zero, List.set_cons_succ, i64_w, i32_w]
                rfl
               refine pure_ (i := 5) (N := some 65) (v := undef) (a' := ?_) #[true, true, true, true, true, true, false, false, false, false, false, false, false] rfl rfl (any_of HT_.out (by kernel_rfl)) (fun _ _ _ h => h) (Or.inr ⟨by rfl, rfl⟩) ?_ ?_
               rotate_left
               ·simp only [Act.put, List.setIfInBounds_toArray, List.set_cons_zero, List.set_cons_succ, i64_w, i32_w]
                rfl
               refine pure_ (i := 6) (N := some 66) (v := undef) (a' := ?_) #[true, true, true, true, true, true, true, false, false, false, false, false, false] rfl rfl (any_of HT_.out (by kernel_rfl)) (fun _ _ _ h => h) (Or.inr ⟨by rfl, rfl⟩) ?_ ?_
               rotate_left
               ·simp only [Act.put, List.setIfInBounds_toArray, List.set_cons_zero, List.set_cons_succ, i64_w, i32_w]
                rfl
               refine pure_ (i := 7) (N := some 67) (v := undef) (a' := ?_) #[true, true, true, true, true, true, true, true, false, false, false, false, false] rfl rfl (any_of HT_.out (by kernel_rfl)) (fun _ _ _ h => h) (Or.inr ⟨by rfl, rfl⟩) ?_ ?_
               rotate_left
               ·simp only [Act.put, List.setIfInBounds_toArray, List.set_cons_zero, List.set_cons_succ, i64_w, i32_w]
                rfl
               refine pure_ (i := 8) (N := some 68) (v := undef) (a' := ?_) #[true, true, true, true, true, true, true, true, true, false, false, false, false] rfl rfl (any_of HT_.out (by kernel_rfl)) (fun _ _ _ h => h) (Or.inr ⟨by rfl, rfl⟩) ?_ ?_
               rotate_left
               ·simp only [Act.put, List.setIfInBounds_toArray, List.set_cons_zero, List.set_cons_succ, i64_w, i32_w]
                rfl
               refine pure_ (i := 9) (N := some 69) (v := undef) (a' := ?_) #[true, true, true, true, true, true, true, true, true, true, false, false, false] rfl rfl (any_of HT_.out (by kernel_rfl)) (fun _ _ _ h => h) (Or.inr ⟨by rfl, rfl⟩) ?_ ?_
               rotate_left
               ·simp only [Act.put, List.setIfInBounds_toArray, List.set_cons_zero, List.set_cons_succ, i64_w, i32_w]
                rfl
               refine pure_ (i := 10) (N := some 70) (v := undef) (a' := ?_) #[true, true, true, true, true, true, true, true, true, true, true, false, false] rfl rfl (any_of HT_.out (by kernel_rfl)) (fun _ _ _ h => h) (Or.inr ⟨by rfl, rfl⟩) ?_ ?_
               rotate_left
               ·simp only [Act.put, List.setIfInBounds_toArray, List.set_cons_zero, List.set_cons_succ, i64_w, i32_w]
                rfl
               refine pure_ (i := 11) (N := some 71) (v := undef) (a' := ?_) #[true, true, true, true, true, true, true, true, true, true, true, true, false] rfl rfl (any_of HT_.out (by kernel_rfl)) (fun _ _ _ h => h) (Or.inr ⟨by rfl, rfl⟩) ?_ ?_
               rotate_left
               ·simp only [Act.put, List.setIfInBounds_toArray, List.set_cons_zero, List.set_cons_succ, i64_w, i32_w]
                rfl
               refine pure_ (i := 12) (N := some 72) (v := ?_) (a' := ?_) #[true, true, true, true, true, true, true, true, true, true, true, true, true] rfl rfl (any_of HT_.out (by kernel_rfl)) (fun _ _ _ h => h) (Or.inl ⟨by rfl, ?_⟩) ?_ ?_
               rotate_left
               ·intro w'
                go_simp
                with_reducible rfl
               rotate_left
               ·simp only [Act.put, List.setIfInBounds_toArray, List.set_cons_zero, List.set_cons_succ, i64_w, i32_w]
                rfl
               refine done_ (done_of HT_.out (by kernel_rfl)) ?_
               try go_wp2
               go_roundg k2
               case measure => have := HK1.out; have := HK2.out; omega
               case rel => exact ⟨(wrap64 (x8_2 + 1)), (by first | rfl | (simp; done) | (simp [*]; done)), H', ⟨by have := HK1.out; have := HK2.out; omega⟩, ⟨by (with_reducible repeat (first | apply Kd.S_alloc | apply Kd.S_drewN | apply Kd.S_drew)); exact Kd.S_mono HO_3.out (fun _ hk => trivial)⟩, ⟨by (with_reducible repeat (first | apply Kd.R_alloc | apply Kd.R_drewN | apply Kd.R_drew)); exact HO_349000.out⟩, ⟨by (with_reducible repeat (first | apply Kd.R_alloc | apply Kd.R_drewN | apply Kd.R_drew)); exact HO_349001.out⟩, ⟨by (with_reducible repeat (first | apply Kd.R_alloc | apply Kd.R_drewN | apply Kd.R_drew)); exact HO_349002.out⟩, ⟨by (with_reducible repeat (first | apply Kd.R_alloc | apply Kd.R_drewN | apply Kd.R_drew)); exact HO_349003.out⟩, ⟨by (with_reducible repeat (first | apply Kd.R_alloc | apply Kd.R_drewN | apply Kd.R_drew)); exact HO_349004.out⟩, ⟨by (with_reducible repeat (first | refine blk_drewN ?_ _ | refine blk_drew ?_ | refine blk_alloc ?_ _)); exact BK348.out⟩, ⟨by repeat (first | (with_reducible first | exact HB.out | apply bal | apply bdN | apply bdr | refine bS ?_ GE348.out | refine bS ?_ GE370.out) | exact HB.out)⟩⟩
             ·rw [if_neg c39] at H
              exact absurd H (by simp)
            ·rw [if_neg c38] at H
             have c38b0 : decide (x8_2 < (((rX t327 (rd t336 x6_1)).f0).length : Int)) = false := decide_eq_false c38
             clear c38
             have H' := Az.mk H
             clear H
             have p367 : 0 ≤ ((rd t336 x6_1) : Int) := of_decide_eq_true (by first | (with_reducible assumption) | assumption)
             have q367 : (rd t336 x6_1) < (t327.length : Int) := of_decide_eq_true (by first | (with_reducible assumption) | assumption)
             obtain ⟨ad367, A367_0, c367_0, e367, hx367_0, hl367_0, hi367_0⟩ := at_T72 (Kd.S_reads' HO_3.out).2.2 (rd t336 x6_1) p367 q367
             cases e367
             obtain ⟨ce367, hce367, hMe367, hcc367⟩ := Kd.S_get HO_3.out z72 (rd t336 x6_1) p367 (by first | exact q367 | exact of_decide_eq_true (by first | (with_reducible assumption) | assumption) | (have e_ := (Kd.S_reads' HO_3.out).1; omega))
             obtain ⟨ve367_0, rfl, ge367_0⟩ := k72_openM hMe367
             have hv367_0 := hcc367 0 _ rfl
             rw [Nat.add_zero, show (k72).sz = 1 from rfl, Nat.mul_one] at hv367_0
             replace hv367_0 := Option.some.inj (hv367_0.symm.trans hx367_0)
             rw [hv367_0] at ge367_0
             have HL367_0 := Az.mk (show Kd.R k74 74 _ _ _ _ ((rX t327 (rd t336 x6_1)).f0) from ge367_0)
             clear hv367_0 ge367_0
             clear hcc367 hce367
             have HR367_0 := Az.mk hi367_0
             have HC367_0 := Az.mk hl367_0
             clear hi367_0 hl367_0
             replace p367 := eq_true p367
             replace q367 := eq_true q367
             go_wp2
             go_roundg k2
             case measure => have := HK1.out; have := HK2.out; omega
             case rel => exact ⟨(wrap64 (x6_1 + 1)), (by first | rfl | (simp; done) | (simp [*]; done)), H', ⟨by have := HK1.out; have := HK2.out; omega⟩, ⟨by (with_reducible repeat (first | apply Kd.S_alloc | apply Kd.S_drewN | apply Kd.S_drew)); exact HO_3.out⟩, ⟨by (with_reducible repeat (first | apply Kd.R_alloc | apply Kd.R_drewN | apply Kd.R_drew)); exact HO_349000.out⟩, ⟨by (with_reducible repeat (first | apply Kd.R_alloc | apply Kd.R_drewN | apply Kd.R_drew)); exact HO_349001.out⟩, ⟨by (with_reducible repeat (first | apply Kd.R_alloc | apply Kd.R_drewN | apply Kd.R_drew)); exact HO_349002.out⟩, ⟨by (with_reducible repeat (first | apply Kd.R_alloc | apply Kd.R_drewN | apply Kd.R_drew)); exact HO_349003.out⟩, ⟨by (with_reducible repeat (first | apply Kd.R_alloc | apply Kd.R_drewN | apply Kd.R_drew)); exact HO_349004.out⟩, ⟨by (with_reducible repeat (first | refine blk_drewN ?_ _ | refine blk_drew ?_ | refine blk_alloc ?_ _)); exact BK348.out⟩, ⟨by repeat (first | (with_reducible first | exact HB.out | apply bal | apply bdN | apply bdr | refine bS ?_ GE348.out) | exact HB.out)⟩⟩
           ·rw [if_neg c37] at H
            exact absurd H (by simp)
          ·rw [if_neg c36] at H
           exact absurd H (by simp)
      ·rw [if_neg c29] at H
       exact absurd H (by simp)
     ·rw [if_neg c28] at H
      have c28b0 : decide (x6_1 < (t336.length : Int)) = false := decide_eq_false c28
      clear c28
      obtain rfl := Option.some.inj H
      have hcz62_0 : wr.cell? ⟨gb348, 0, none⟩ = some (.slice Ao13 t333.length co13) := (bC BK348.out 0).trans rfl
      have hcz62_1 : wr.cell? ⟨gb348, 1, none⟩ = some (.slice Ao15 t336.length co15) := (bC BK348.out 1).trans rfl
      have hcz62_2 : wr.cell? ⟨gb348, 2, none⟩ = some (.slice Ao16 t339.length co16) := (bC BK348.out 2).trans rfl
      have hcz62_3 : wr.cell? ⟨gb348, 3, none⟩ = some (.slice Ao17 t342.length co17) := (bC BK348.out 3).trans rfl
      have hcz62_4 : wr.cell? ⟨gb348, 4, none⟩ = some (.slice Ao18 t345.length co18) := (bC BK348.out 4).trans rfl
      have hfz62_0 := bF BK348.out 0
      have hfz62_1 := bF BK348.out 1
      have hfz62_2 := bF BK348.out 2
      have hfz62_3 := bF BK348.out 3
      have hfz62_4 := bF BK348.out 4
      go_wp2
      go_ret
      exact ⟨by first | rfl | (simp [errW_none, errW_some] <;> rfl) | (simp [*, errW_none, errW_some] <;> rfl), by repeat (first | (with_reducible first | exact HB.out | apply bal | apply bdN | apply bdr | refine bS ?_ GE348.out) | exact HB.out)⟩
  ·replace c7 := Bool.eq_false_iff.mpr c7
   subst c7
   have H1 : (some false) = some r := by rw [if_neg (show ¬ (false = true) by decide)] at H; exact H
   clear H
   have H := H1
   clear H1
   obtain rfl := Option.some.inj H
   go_enter Try.func8, Try.ntmps8
   try go_wp2_with (first | ((with_reducible refine gate_callee (f := 23) rfl ?_); refine goesL_ (some 15) rfl rfl Try.func23 (by kernel_rfl) rfl #[.slice A0 l0.length c0] rfl (by (try simp only [List.map_toArray, List.map_cons, List.map_nil]); first | done | rfl | (simp only [List.length_drop, List.length_take]; rfl)) ?_; (with_reducible refine (spec_DrawImportRun.calls k _ _ l0 t327 t328 _ ?side1 ?side2 A3.out).mono ?_); (case side1 => repeat (first | exact HR0.out | (with_reducible refine Kd.C_alloc ?_ _) | (with_reducible refine Kd.C_drewN ?_ _) | (with_reducible refine Kd.C_drew ?_))); (case side2 => exact HC0.out); rintro e w63 ⟨v329, v331, rfl, ho0, ho1, hb⟩; refine ⟨_, rfl, ?_⟩; have n0_ := Az.mk (Kd.S_lower ho0 (below_size (by repeat (first | (with_reducible first | exact HB.out | apply bal | apply bdN | apply bdr) | exact HB.out)))); have n1_ := Az.mk (Kd.R_lower ho1 (below_size (by repeat (first | (with_reducible first | exact HB.out | apply bal | apply bdN | apply bdr) | exact HB.out)))); have n2_ := Az.mk (below_step (by repeat (first | (with_reducible first | exact HB.out | apply bal | apply bdN | apply bdr) | exact HB.out)) hb); clear HB; have HO330 := n0_; have HO332 := n1_; have HB := n2_; clear n0_ n1_ n2_; (try clear hb); (try clear hb2); (try clear hk); (try clear hi); (try clear ho0); (try clear ho1); obtain ⟨Ao64, co64, eo64⟩ := Kd.S_slice HO330.out; subst eo64; obtain ⟨Ao65, co65, eo65⟩ := Kd.R_slice HO332.out; subst eo65) | ((with_reducible refine gate_callee (f := 24) rfl ?_); refine goesL_ (some 20) rfl rfl Try.func24 (by kernel_rfl) rfl #[.slice Ao64 t327.length co64, .slice Ao65 t328.length co65] rfl (by (try simp only [List.map_toArray, List.map_cons, List.map_nil]); first | done | rfl | (simp only [List.length_drop, List.length_take]; rfl)) ?_; (with_reducible refine (impl_ImportRun.calls k _ _ t327 _ _ t328 t333 t336 t339 t342 t345 _ ?side1 ?side2 ?side3 ?side4 A4.out).mono ?_); (case side1 => repeat (first | exact (Kd.S_reads' HO330.out).2.2 | (with_reducible refine Kd.C_alloc ?_ _) | (with_reducible refine Kd.C_drewN ?_ _) | (with_reducible refine Kd.C_drew ?_))); (case side2 => exact (Kd.S_reads' HO330.out).2.1); (case side3 => repeat (first | exact (Kd.R_reads' HO332.out).2.2 | (with_reducible refine Kd.C_alloc ?_ _) | (with_reducible refine Kd.C_drewN ?_ _) | (with_reducible refine Kd.C_drew ?_))); (case side4 => exact (Kd.R_reads' HO332.out).2.1); rintro e w66 ⟨v334, v337, v340, v343, v346, rfl, ho0, ho1, ho2, ho3, ho4, hb⟩; refine ⟨_, rfl, ?_⟩; have n0_ := Az.mk (Kd.S_below (by (with_reducible repeat (first | apply Kd.S_alloc | apply Kd.S_drewN | apply Kd.S_drew)); exact HO330.out) hb); have n1_ := Az.mk (Kd.R_mono (Kd.R_told (Kd.R_told (Kd.R_told (Kd.R_told (Kd.R_old (by (with_reducible repeat (first | apply Kd.R_alloc | apply Kd.R_drewN | apply Kd.R_drew)); exact HO332.out) hb) (Kd.R_base ho0)) (Kd.R_base ho1)) (Kd.R_base ho2)) (Kd.R_base ho4)) (fun _ h_ => h_.1)); have n2_ := Az.mk (Kd.R_lower (Kd.R_new' ho0 (Kd.R_lt (by (with_reducible repeat (first | apply Kd.R_alloc | apply Kd.R_drewN | apply Kd.R_drew)); exact HO332.out))) (below_size (by repeat (first | (with_reducible first | exact HB.out | apply bal | apply bdN | apply bdr) | exact HB.out)))); have n3_ := Az.mk (Kd.R_lower (Kd.R_new' ho1 (Kd.R_lt (by (with_reducible repeat (first | apply Kd.R_alloc | apply Kd.R_drewN | apply Kd.R_drew)); exact HO332.out))) (below_size (by repeat (first | (with_reducible first | exact HB.out | apply bal | apply bdN | apply bdr) | exact HB.out)))); have n4_ := Az.mk (Kd.R_lower (Kd.R_new' ho2 (Kd.R_lt (by (with_reducible repeat (first | apply Kd.R_alloc | apply Kd.R_drewN | apply Kd.R_drew)); exact HO332.out))) (below_size (by repeat (first | (with_reducible first | exact HB.out | apply bal | apply bdN | apply bdr) | exact HB.out)))); have n5_ := Az.mk (Kd.R_lower ho3 (below_size (by repeat (first | (with_reducible first | exact HB.out | apply bal | apply bdN | apply bdr) | exact HB.out)))); have n6_ := Az.mk (Kd.R_lower (Kd.R_new' ho4 (Kd.R_lt (by (with_reducible repeat (first | apply Kd.R_alloc | apply Kd.R_drewN | apply Kd.R_drew)); exact HO332.out))) (below_size (by repeat (first | (with_reducible first | exact HB.out | apply bal | apply bdN | apply bdr) | exact HB.out)))); have n7_ := Az.mk (below_step (by repeat (first | (with_reducible first | exact HB.out | apply bal | apply bdN | apply bdr) | exact HB.out)) hb); clear HO330; clear HO332; clear HB; have HO330 := n0_; have HO332 := n1_; have HO335 := n2_; have HO338 := n3_; have HO341 := n4_; have HO344 := n5_; have HO347 := n6_; have HB := n7_; clear n0_ n1_ n2_ n3_ n4_ n5_ n6_ n7_; (try clear hb); (try clear hb2); (try clear hk); (try clear hi); (try clear ho0); (try clear ho1); (try clear ho2); (try clear ho3); (try clear ho4)) | ((with_reducible refine gate_dst (N := 5) rfl ?_); refine box_event ?hg (N := 5) ?hd (cs := #[.slice none 0 0, .slice none 0 0, .slice none 0 0, .slice none 0 0, .slice none 0 0]) (t := 48) ?hr ?_; (case hd => rfl); (case hg => rfl); (case hr => first | (go_simp; done) | (go_simp; rfl)); intro gb348 hg w67 hbox hb; have n0_ := Az.mk (Kd.S_below (by (with_reducible repeat (first | apply Kd.S_alloc | apply Kd.S_drewN | apply Kd.S_drew)); exact HO330.out) hb); have n1_ := Az.mk (Kd.R_below (by (with_reducible repeat (first | apply Kd.R_alloc | apply Kd.R_drewN | apply Kd.R_drew)); exact HO332.out) hb); have n2_ := Az.mk (Kd.R_below (by (with_reducible repeat (first | apply Kd.R_alloc | apply Kd.R_drewN | apply Kd.R_drew)); exact HO335.out) hb); have n3_ := Az.mk (Kd.R_below (by (with_reducible repeat (first | apply Kd.R_alloc | apply Kd.R_drewN | apply Kd.R_drew)); exact HO338.out) hb); have n4_ := Az.mk (Kd.R_below (by (with_reducible repeat (first | apply Kd.R_alloc | apply Kd.R_drewN | apply Kd.R_drew)); exact HO341.out) hb); have n5_ := Az.mk (Kd.R_below (by (with_reducible repeat (first | apply Kd.R_alloc | apply Kd.R_drewN | apply Kd.R_drew)); exact HO344.out) hb); have n6_ := Az.mk (Kd.R_below (by (with_reducible repeat (first | apply Kd.R_alloc | apply Kd.R_drewN | apply Kd.R_drew)); exact HO347.out) hb); have n7_ := Az.mk (below_step (by repeat (first | (with_reducible first | exact HB.out | apply bal | apply bdN | apply bdr) | exact HB.out)) hb); have n8_ := Az.mk (hbox); have n9_ := Az.mk ((by rw [hg]; exact (below_size (by repeat (first | (with_reducible first | exact HB.out | apply bal | apply bdN | apply bdr) | exact HB.out))) : w.heap.size ≤ gb348)); have n10_ := Az.mk ((by rw [hg]; exact (below_size (by repeat (first | (with_reducible first | exact HB.out | apply bal | apply bdN | apply bdr) | exact HB.out))) : w.heap.size ≤ gb348)); clear HO330; clear HO332; clear HO335; clear HO338; clear HO341; clear HO344; clear HO347; clear HB; have HO330 := n0_; have HO332 := n1_; have HO335 := n2_; have HO338 := n3_; have HO341 := n4_; have HO344 := n5_; have HO347 := n6_; have HB := n7_; have BK348 := n8_; have GW348 := n9_; have GE348 := n10_; clear n0_ n1_ n2_ n3_ n4_ n5_ n6_ n7_ n8_ n9_ n10_; clear hb hbox hg; obtain ⟨Ao68, co68, eo68⟩ := Kd.R_slice HO335.out; subst eo68; have hcz69_0 : w67.cell? ⟨gb348, 0, none⟩ = some (.slice none 0 0) := (bC BK348.out 0).trans rfl; have hcz69_1 : w67.cell? ⟨gb348, 1, none⟩ = some (.slice none 0 0) := (bC BK348.out 1).trans rfl; have hcz69_2 : w67.cell? ⟨gb348, 2, none⟩ = some (.slice none 0 0) := (bC BK348.out 2).trans rfl; have hcz69_3 : w67.cell? ⟨gb348, 3, none⟩ = some (.slice none 0 0) := (bC BK348.out 3).trans rfl; have hcz69_4 : w67.cell? ⟨gb348, 4, none⟩ = some (.slice none 0 0) := (bC BK348.out 4).trans rfl; have hfz69_0 := bF BK348.out 0; have hfz69_1 := bF BK348.out 1; have hfz69_2 := bF BK348.out 2; have hfz69_3 := bF BK348.out 3; have hfz69_4 := bF BK348.out 4; obtain ⟨Ao70, co70, eo70⟩ := Kd.R_slice HO338.out; subst eo70; obtain ⟨Ao71, co71, eo71⟩ := Kd.R_slice HO341.out; subst eo71; obtain ⟨Ao72, co72, eo72⟩ := Kd.R_slice HO344.out; subst eo72; obtain ⟨Ao73, co73, eo73⟩ := Kd.R_slice HO347.out; subst eo73))
   have n0_ : Az (Kd.S k72 72 (((((w67.setCell ⟨gb348, 0, none⟩ (.slice Ao68 t333.length co68)).setCell ⟨gb348, 1, none⟩ (.slice Ao70 t336.length co70)).setCell ⟨gb348, 2, none⟩ (.slice Ao71 t339.length co71)).setCell ⟨gb348, 3, none⟩ (.slice Ao72 t342.length co72)).setCell ⟨gb348, 4, none⟩ (.slice Ao73 t345.length co73)) w.heap.size (fun _ => True) (.slice Ao64 t327.length co64) t327) := ⟨by (with_reducible repeat (first | apply Kd.S_alloc | apply Kd.S_drewN | apply Kd.S_drew)); exact Kd.S_mono (Kd.S_far (p := ⟨gb348, 4, none⟩) (Kd.S_far (p := ⟨gb348, 3, none⟩) (Kd.S_far (p := ⟨gb348, 2, none⟩) (Kd.S_far (p := ⟨gb348, 1, none⟩) (Kd.S_far (p := ⟨gb348, 0, none⟩) (Kd.S_types HO330.out BK348.out (by decide)) (fun _ hk => hk.2) (.slice Ao68 t333.length co68)) (fun _ hk => hk.2) (.slice Ao70 t336.length co70)) (fun _ hk => hk.2) (.slice Ao71 t339.length co71)) (fun _ hk => hk.2) (.slice Ao72 t342.length co72)) (fun _ hk => hk.2) (.slice Ao73 t345.length co73)) (fun _ hk => trivial)⟩
   have n1_ : Az (Kd.R (Kd.int .i64) 3 (((((w67.setCell ⟨gb348, 0, none⟩ (.slice Ao68 t333.length co68)).setCell ⟨gb348, 1, none⟩ (.slice Ao70 t336.length co70)).setCell ⟨gb348, 2, none⟩ (.slice Ao71 t339.length co71)).setCell ⟨gb348, 3, none⟩ (.slice Ao72 t342.length co72)).setCell ⟨gb348, 4, none⟩ (.slice Ao73 t345.length co73)) w.heap.size (fun k_ => some k_ ≠ (.slice Ao68 t333.length co68 : Value).ownBlock ∧ some k_ ≠ (.slice Ao70 t336.length co70 : Value).ownBlock ∧ some k_ ≠ (.slice Ao71 t339.length co71 : Value).ownBlock ∧ some k_ ≠ (.slice Ao73 t345.length co73 : Value).ownBlock) (.slice Ao65 t328.length co65) t328) := ⟨by (with_reducible repeat (first | apply Kd.R_alloc | apply Kd.R_drewN | apply Kd.R_drew)); exact Kd.R_mono (Kd.R_far (p := ⟨gb348, 4, none⟩) (Kd.R_far (p := ⟨gb348, 3, none⟩) (Kd.R_far (p := ⟨gb348, 2, none⟩) (Kd.R_far (p := ⟨gb348, 1, none⟩) (Kd.R_far (p := ⟨gb348, 0, none⟩) (Kd.R_types HO332.out BK348.out (by decide)) (fun _ hk => hk.2) (.slice Ao68 t333.length co68)) (fun _ hk => hk.2) (.slice Ao70 t336.length co70)) (fun _ hk => hk.2) (.slice Ao71 t339.length co71)) (fun _ hk => hk.2) (.slice Ao72 t342.length co72)) (fun _ hk => hk.2) (.slice Ao73 t345.length co73)) (fun _ hk => ⟨hk.1.1.1.1.2, ⟨hk.1.1.1.2, ⟨hk.1.1.2, hk.1.2⟩⟩⟩)⟩
   have n2_ : Az (Kd.R (Kd.int .i64) 3 (((((w67.setCell ⟨gb348, 0, none⟩ (.slice Ao68 t333.length co68)).setCell ⟨gb348, 1, none⟩ (.slice Ao70 t336.length co70)).setCell ⟨gb348, 2, none⟩ (.slice Ao71 t339.length co71)).setCell ⟨gb348, 3, none⟩ (.slice Ao72 t342.length co72)).setCell ⟨gb348, 4, none⟩ (.slice Ao73 t345.length co73)) w.heap.size (fun k_ => some k_ ≠ (.slice Ao65 t328.length co65 : Value).ownBlock ∧ some k_ ≠ (.slice Ao70 t336.length co70 : Value).ownBlock ∧ some k_ ≠ (.slice Ao71 t339.length co71 : Value).ownBlock ∧ some k_ ≠ (.slice Ao73 t345.length co73 : Value).ownBlock) (.slice Ao68 t333.length co68) t333) := ⟨by (with_reducible repeat (first | apply Kd.R_alloc | apply Kd.R_drewN | apply Kd.R_drew)); exact Kd.R_mono (Kd.R_far (p := ⟨gb348, 4, none⟩) (Kd.R_far (p := ⟨gb348, 3, none⟩) (Kd.R_far (p := ⟨gb348, 2, none⟩) (Kd.R_far (p := ⟨gb348, 1, none⟩) (Kd.R_far (p := ⟨gb348, 0, none⟩) (Kd.R_types HO335.out BK348.out (by decide)) (fun _ hk => hk.2) (.slice Ao68 t333.length co68)) (fun _ hk => hk.2) (.slice Ao70 t336.length co70)) (fun _ hk => hk.2) (.slice Ao71 t339.length co71)) (fun _ hk => hk.2) (.slice Ao72 t342.length co72)) (fun _ hk => hk.2) (.slice Ao73 t345.length co73)) (fun _ hk => ⟨hk.1.2, ⟨hk.1.1.1, ⟨hk.1.1.2.1, hk.1.1.2.2⟩⟩⟩)⟩
   have n3_ : Az (Kd.R (Kd.int .i64) 3 (((((w67.setCell ⟨gb348, 0, none⟩ (.slice Ao68 t333.length co68)).setCell ⟨gb348, 1, none⟩ (.slice Ao70 t336.length co70)).setCell ⟨gb348, 2, none⟩ (.slice Ao71 t339.length co71)).setCell ⟨gb348, 3, none⟩ (.slice Ao72 t342.length co72)).setCell ⟨gb348, 4, none⟩ (.slice Ao73 t345.length co73)) w.heap.size (fun k_ => some k_ ≠ (.slice Ao65 t328.length co65 : Value).ownBlock ∧ some k_ ≠ (.slice Ao68 t333.length co68 : Value).ownBlock ∧ some k_ ≠ (.slice Ao71 t339.length co71 : Value).ownBlock ∧ some k_ ≠ (.slice Ao73 t345.length co73 : Value).ownBlock) (.slice Ao70 t336.length co70) t336) := ⟨by (with_reducible repeat (first | apply Kd.R_alloc | apply Kd.R_drewN | apply Kd.R_drew)); exact Kd.R_mono (Kd.R_far (p := ⟨gb348, 4, none⟩) (Kd.R_far (p := ⟨gb348, 3, none⟩) (Kd.R_far (p := ⟨gb348, 2, none⟩) (Kd.R_far (p := ⟨gb348, 1, none⟩) (Kd.R_far (p := ⟨gb348, 0, none⟩) (Kd.R_types HO338.out BK348.out (by decide)) (fun _ hk => hk.2) (.slice Ao68 t333.length co68)) (fun _ hk => hk.2) (.slice Ao70 t336.length co70)) (fun _ hk => hk.2) (.slice Ao71 t339.length co71)) (fun _ hk => hk.2) (.slice Ao72 t342.length co72)) (fun _ hk => hk.2) (.slice Ao73 t345.length co73)) (fun _ hk => ⟨hk.1.2, ⟨hk.1.1.1, ⟨hk.1.1.2.1, hk.1.1.2.2⟩⟩⟩)⟩
   have n4_ : Az (Kd.R (Kd.int .i64) 3 (((((w67.setCell ⟨gb348, 0, none⟩ (.slice Ao68 t333.length co68)).setCell ⟨gb348, 1, none⟩ (.slice Ao70 t336.length co70)).setCell ⟨gb348, 2, none⟩ (.slice Ao71 t339.length co71)).setCell ⟨gb348, 3, none⟩ (.slice Ao72 t342.length co72)).setCell ⟨gb348, 4, none⟩ (.slice Ao73 t345.length co73)) w.heap.size (fun k_ => some k_ ≠ (.slice Ao65 t328.length co65 : Value).ownBlock ∧ some k_ ≠ (.slice Ao68 t333.length co68 : Value).ownBlock ∧ some k_ ≠ (.slice Ao70 t336.length co70 : Value).ownBlock ∧ some k_ ≠ (.slice Ao73 t345.length co73 : Value).ownBlock) (.slice Ao71 t339.length co71) t339) := ⟨by (with_reducible repeat (first | apply Kd.R_alloc | apply Kd.R_drewN | apply Kd.R_drew)); exact Kd.R_mono (Kd.R_far (p := ⟨gb348, 4, none⟩) (Kd.R_far (p := ⟨gb348, 3, none⟩) (Kd.R_far (p := ⟨gb348, 2, none⟩) (Kd.R_far (p := ⟨gb348, 1, none⟩) (Kd.R_far (p := ⟨gb348, 0, none⟩) (Kd.R_types HO341.out BK348.out (by decide)) (fun _ hk => hk.2) (.slice Ao68 t333.length co68)) (fun _ hk => hk.2) (.slice Ao70 t336.length co70)) (fun _ hk => hk.2) (.slice Ao71 t339.length co71)) (fun _ hk => hk.2) (.slice Ao72 t342.length co72)) (fun _ hk => hk.2) (.slice Ao73 t345.length co73)) (fun _ hk => ⟨hk.1.2, ⟨hk.1.1.1, ⟨hk.1.1.2.1, hk.1.1.2.2⟩⟩⟩)⟩
   have n5_ : Az (Kd.R Kd.string 9 (((((w67.setCell ⟨gb348, 0, none⟩ (.slice Ao68 t333.length co68)).setCell ⟨gb348, 1, none⟩ (.slice Ao70 t336.length co70)).setCell ⟨gb348, 2, none⟩ (.slice Ao71 t339.length co71)).setCell ⟨gb348, 3, none⟩ (.slice Ao72 t342.length co72)).setCell ⟨gb348, 4, none⟩ (.slice Ao73 t345.length co73)) w.heap.size (fun _ => True) (.slice Ao72 t342.length co72) t342) := ⟨by (with_reducible repeat (first | apply Kd.R_alloc | apply Kd.R_drewN | apply Kd.R_drew)); exact Kd.R_mono (Kd.R_far (p := ⟨gb348, 4, none⟩) (Kd.R_far (p := ⟨gb348, 3, none⟩) (Kd.R_far (p := ⟨gb348, 2, none⟩) (Kd.R_far (p := ⟨gb348, 1, none⟩) (Kd.R_far (p := ⟨gb348, 0, none⟩) (Kd.R_types HO344.out BK348.out (by decide)) (fun _ hk => hk.2) (.slice Ao68 t333.length co68)) (fun _ hk => hk.2) (.slice Ao70 t336.length co70)) (fun _ hk => hk.2) (.slice Ao71 t339.length co71)) (fun _ hk => hk.2) (.slice Ao72 t342.length co72)) (fun _ hk => hk.2) (.slice Ao73 t345.length co73)) (fun _ hk => trivial)⟩
   have n6_ : Az (Kd.R (Kd.int .i64) 3 (((((w67.setCell ⟨gb348, 0, none⟩ (.slice Ao68 t333.length co68)).setCell ⟨gb348, 1, none⟩ (.slice Ao70 t336.length co70)).setCell ⟨gb348, 2, none⟩ (.slice Ao71 t339.length co71)).setCell ⟨gb348, 3, none⟩ (.slice Ao72 t342.length co72)).setCell ⟨gb348, 4, none⟩ (.slice Ao73 t345.length co73)) w.heap.size (fun k_ => some k_ ≠ (.slice Ao65 t328.length co65 : Value).ownBlock ∧ some k_ ≠ (.slice Ao68 t333.length co68 : Value).ownBlock ∧ some k_ ≠ (.slice Ao70 t336.length co70 : Value).ownBlock ∧ some k_ ≠ (.slice Ao71 t339.length co71 : Value).ownBlock) (.slice Ao73 t345.length co73) t345) := ⟨by (with_reducible repeat (first | apply Kd.R_alloc | apply Kd.R_drewN | apply Kd.R_drew)); exact Kd.R_mono (Kd.R_far (p := ⟨gb348, 4, none⟩) (Kd.R_far (p := ⟨gb348, 3, none⟩) (Kd.R_far (p := ⟨gb348, 2, none⟩) (Kd.R_far (p := ⟨gb348, 1, none⟩) (Kd.R_far (p := ⟨gb348, 0, none⟩) (Kd.R_types HO347.out BK348.out (by decide)) (fun _ hk => hk.2) (.slice Ao68 t333.length co68)) (fun _ hk => hk.2) (.slice Ao70 t336.length co70)) (fun _ hk => hk.2) (.slice Ao71 t339.length co71)) (fun _ hk => hk.2) (.slice Ao72 t342.length co72)) (fun _ hk => hk.2) (.slice Ao73 t345.length co73)) (fun _ hk => ⟨hk.1.2, ⟨hk.1.1.1, ⟨hk.1.1.2.1, hk.1.1.2.2⟩⟩⟩)⟩
   have n7_ : Az ((((((w67.setCell ⟨gb348, 0, none⟩ (.slice Ao68 t333.length co68)).setCell ⟨gb348, 1, none⟩ (.slice Ao70 t336.length co70)).setCell ⟨gb348, 2, none⟩ (.slice Ao71 t339.length co71)).setCell ⟨gb348, 3, none⟩ (.slice Ao72 t342.length co72)).setCell ⟨gb348, 4, none⟩ (.slice Ao73 t345.length co73)).heap[gb348]? = some (.cells #[.slice Ao68 t333.length co68, .slice Ao70 t336.length co70, .slice Ao71 t339.length co71, .slice Ao72 t342.length co72, .slice Ao73 t345.length co73] 48 (0, 0))) := ⟨by (with_reducible repeat (first | refine blk_drewN ?_ _ | refine blk_drew ?_ | refine blk_alloc ?_ _)); refine blk_put (cs := #[.slice Ao68 t333.length co68, .slice Ao70 t336.length co70, .slice Ao71 t339.length co71, .slice Ao72 t342.length co72, .slice none 0 0]) ?_ 4 _ rfl; (with_reducible repeat (first | refine blk_drewN ?_ _ | refine blk_drew ?_ | refine blk_alloc ?_ _)); refine blk_put (cs := #[.slice Ao68 t333.length co68, .slice Ao70 t336.length co70, .slice Ao71 t339.length co71, .slice none 0 0, .slice none 0 0]) ?_ 3 _ rfl; (with_reducible repeat (first | refine blk_drewN ?_ _ | refine blk_drew ?_ | refine blk_alloc ?_ _)); refine blk_put (cs := #[.slice Ao68 t333.length co68, .slice Ao70 t336.length co70, .slice none 0 0, .slice none 0 0, .slice none 0 0]) ?_ 2 _ rfl; (with_reducible repeat (first | refine blk_drewN ?_ _ | refine blk_drew ?_ | refine blk_alloc ?_ _)); refine blk_put (cs := #[.slice Ao68 t333.length co68, .slice none 0 0, .slice none 0 0, .slice none 0 0, .slice none 0 0]) ?_ 1 _ rfl; (with_reducible repeat (first | refine blk_drewN ?_ _ | refine blk_drew ?_ | refine blk_alloc ?_ _)); refine blk_put (cs := #[.slice none 0 0, .slice none 0 0, .slice none 0 0, .slice none 0 0, .slice none 0 0]) ?_ 0 _ rfl; (with_reducible repeat (first | refine blk_drewN ?_ _ | refine blk_drew ?_ | refine blk_alloc ?_ _)); exact BK348.out⟩
   have n8_ : Az (Below w.heap.size w (((((w67.setCell ⟨gb348, 0, none⟩ (.slice Ao68 t333.length co68)).setCell ⟨gb348, 1, none⟩ (.slice Ao70 t336.length co70)).setCell ⟨gb348, 2, none⟩ (.slice Ao71 t339.length co71)).setCell ⟨gb348, 3, none⟩ (.slice Ao72 t342.length co72)).setCell ⟨gb348, 4, none⟩ (.slice Ao73 t345.length co73))) := ⟨by repeat (first | (with_reducible first | exact HB.out | apply bal | apply bdN | apply bdr | refine bS ?_ GE348.out) | exact HB.out)⟩
   (try clear HO330)
   (try clear HO332)
   (try clear HO335)
   (try clear HO338)
   (try clear HO341)
   (try clear HO344)
   (try clear HO347)
   (try clear BK348)
   (try clear HB)
   generalize (((((w67.setCell ⟨gb348, 0, none⟩ (.slice Ao68 t333.length co68)).setCell ⟨gb348, 1, none⟩ (.slice Ao70 t336.length co70)).setCell ⟨gb348, 2, none⟩ (.slice Ao71 t339.length co71)).setCell ⟨gb348, 3, none⟩ (.slice Ao72 t342.length co72)).setCell ⟨gb348, 4, none⟩ (.slice Ao73 t345.length co73)) = w74 at n0_ n1_ n2_ n3_ n4_ n5_ n6_ n7_ n8_ ⊢
   have HO330 := n0_
   have HO332 := n1_
   have HO335 := n2_
   have HO338 := n3_
   have HO341 := n4_
   have HO344 := n5_
   have HO347 := n6_
   have BK348 := n7_
   have HB := n8_
   clear n0_ n1_ n2_ n3_ n4_ n5_ n6_ n7_ n8_
   have n0_ := Az.mk (Kd.S_drew HO330.out)
   have n1_ := Az.mk (Kd.R_drew HO332.out)
   have n2_ := Az.mk (Kd.R_drew HO335.out)
   have n3_ := Az.mk (Kd.R_drew HO338.out)
   have n4_ := Az.mk (Kd.R_drew HO341.out)
   have n5_ := Az.mk (Kd.R_drew HO344.out)
   have n6_ := Az.mk (Kd.R_drew HO347.out)
   have n7_ := Az.mk (blk_drew BK348.out)
   have n8_ := Az.mk (bdr HB.out)
   clear HO330
   clear HO332
   clear HO335
   clear HO338
   clear HO341
   clear HO344
   clear HO347
   clear BK348
   clear HB
   have HO330 := n0_
   have HO332 := n1_
   have HO335 := n2_
   have HO338 := n3_
   have HO341 := n4_
   have HO344 := n5_
   have HO347 := n6_
   have BK348 := n7_
   have HB := n8_
   clear n0_ n1_ n2_ n3_ n4_ n5_ n6_ n7_ n8_
   refine start_ (n := 6) (S := fun w' => w'.cell? ⟨gb348, 0, none⟩ = some (.slice Ao68 t333.length co68) ∧ w'.cell? ⟨gb348, 1, none⟩ = some (.slice Ao70 t336.length co70) ∧ w'.cell? ⟨gb348, 2, none⟩ = some (.slice Ao71 t339.length co71) ∧ w'.cell? ⟨gb348, 3, none⟩ = some (.slice Ao72 t342.length co72) ∧ w'.cell? ⟨gb348, 4, none⟩ = some (.slice Ao73 t345.length co73)) (ds := []) #[false, false, false, false, false, false] (by kernel_rfl) rfl rfl ⟨(bC BK348.out 0).trans rfl, (bC BK348.out 1).trans rfl, (bC BK348.out 2).trans rfl, (bC BK348.out 3).trans rfl, (bC BK348.out 4).trans rfl⟩ (fun hHeld => ?_)
   generalize w74.drew = w75 at HO330 HO332 HO335 HO338 HO341 HO344 HO347 BK348 HB hHeld ⊢
   refine pure_ (i := 1) (N := some 22) (v := ?_) (a' := ?_) #[false, true, false, false, false, false] rfl rfl (by kernel_rfl) (fun _ _ _ h => h) (Or.inl ⟨by rfl, ?_⟩) ?_ ?_
   rotate_left
   ·intro w'
    go_simp
    with_reducible rfl
   rotate_left
   ·simp only [Act.put, List.setIfInBounds_toArray, List.set_cons_zero, List.set_cons_succ, i64_w, i32_w]
    rfl
   refine pure_ (i := 2) (N := some 23) (v := ?_) (a' := ?_) #[false, true, true, false, false, false] rfl rfl (by kernel_rfl) (fun _ _ _ h => h) (Or.inl ⟨by rfl, ?_⟩) ?_ ?_
   rotate_left
   ·intro w'
    go_simp
    with_reducible rfl
   rotate_left
   ·simp only [Act.put, List.setIfInBounds_toArray, List.set_cons_zero, List.set_cons_succ, i64_w, i32_w]
    rfl
   refine take_ (i := 0) (N := some 21) (v := ?_) (a' := ?_) #[true, true, true, false, false, false] rfl rfl (by kernel_rfl) (fun _ _ _ h => h) (Or.inl ⟨by rfl, ?_⟩) hHeld ?_ ?_
   rotate_left
   ·rintro w' ⟨s0, s1, s2, s3, s4⟩
    go_simp
    with_reducible rfl
   rotate_left
   ·simp only [Act.put, List.setIfInBounds_toArray, List.set_cons_zero, List.set_cons_succ, i64_w, i32_w]
    rfl
   refine one_ (i := 3) (N := some 24) #[true, true, true, true, false, false] rfl rfl (by kernel_rfl) (by decide) (fun K hK => ?_)
   refine goes_ Try.func26 (by kernel_rfl) rfl #[.slice Ao64 t327.length co64, .slice Ao65 t328.length co65] (by rfl) rfl rfl (by (try simp only [List.map_toArray, List.map_cons, List.map_nil]); first | done | rfl | (simp only [List.length_drop, List.length_take]; rfl)) ?_
   with_reducible refine (spec_ImportRun.calls k _ _ t327 _ _ t328 t349 t352 t355 t358 t361 _ ?side1 ?side2 ?side3 ?side4 A5.out).mono ?_
   (case side1 => repeat (first | exact (Kd.S_reads' HO330.out).2.2 | (with_reducible refine Kd.C_alloc ?_ _) | (with_reducible refine Kd.C_drewN ?_ _) | (with_reducible refine Kd.C_drew ?_)))
   (case side2 => exact (Kd.S_reads' HO330.out).2.1)
   (case side3 => repeat (first | exact (Kd.R_reads' HO332.out).2.2 | (with_reducible refine Kd.C_alloc ?_ _) | (with_reducible refine Kd.C_drewN ?_ _) | (with_reducible refine Kd.C_drew ?_)))
   (case side4 => exact (Kd.R_reads' HO332.out).2.1)
   rintro e w76 ⟨v350, v353, v356, v359, v362, rfl, ho0, ho1, ho2, ho3, ho4, hb⟩
   refine ⟨_, rfl, ?_⟩
   have n0_ := Az.mk (Kd.S_below (by (with_reducible repeat (first | apply Kd.S_alloc | apply Kd.S_drewN | apply Kd.S_drew)); exact HO330.out) hb)
   have n1_ := Az.mk (Kd.R_mono (Kd.R_told (Kd.R_told (Kd.R_told (Kd.R_told (Kd.R_old (by (with_reducible repeat (first | apply Kd.R_alloc | apply Kd.R_drewN | apply Kd.R_drew)); exact HO332.out) hb) (Kd.R_base ho0)) (Kd.R_base ho1)) (Kd.R_base ho2)) (Kd.R_base ho4)) (fun _ h_ => h_.1))
   have n2_ := Az.mk (Kd.R_mono (Kd.R_told (Kd.R_told (Kd.R_told (Kd.R_told (Kd.R_old (by (with_reducible repeat (first | apply Kd.R_alloc | apply Kd.R_drewN | apply Kd.R_drew)); exact HO335.out) hb) (Kd.R_base ho0)) (Kd.R_base ho1)) (Kd.R_base ho2)) (Kd.R_base ho4)) (fun _ h_ => h_.1))
   have n3_ := Az.mk (Kd.R_mono (Kd.R_told (Kd.R_told (Kd.R_told (Kd.R_told (Kd.R_old (by (with_reducible repeat (first | apply Kd.R_alloc | apply Kd.R_drewN | apply Kd.R_drew)); exact HO338.out) hb) (Kd.R_base ho0)) (Kd.R_base ho1)) (Kd.R_base ho2)) (Kd.R_base ho4)) (fun _ h_ => h_.1))
   have n4_ := Az.mk (Kd.R_mono (Kd.R_told (Kd.R_told (Kd.R_told (Kd.R_told (Kd.R_old (by (with_reducible repeat (first | apply Kd.R_alloc | apply Kd.R_drewN | apply Kd.R_drew)); exact HO341.out) hb) (Kd.R_base ho0)) (Kd.R_base ho1)) (Kd.R_base ho2)) (Kd.R_base ho4)) (fun _ h_ => h_.1))
   have n5_ := Az.mk (Kd.R_elder' (by (with_reducible repeat (first | apply Kd.R_alloc | apply Kd.R_drewN | apply Kd.R_drew)); exact HO344.out) (Kd.R_base ho3) hb)
   have n6_ := Az.mk (Kd.R_mono (Kd.R_told (Kd.R_told (Kd.R_told (Kd.R_told (Kd.R_old (by (with_reducible repeat (first | apply Kd.R_alloc | apply Kd.R_drewN | apply Kd.R_drew)); exact HO347.out) hb) (Kd.R_base ho0)) (Kd.R_base ho1)) (Kd.R_base ho2)) (Kd.R_base ho4)) (fun _ h_ => h_.1))
   have n7_ := Az.mk (Kd.R_lower (Kd.R_new' (Kd.R_new' (Kd.R_new' (Kd.R_new' (Kd.R_new' ho0 (Kd.R_lt (by (with_reducible repeat (first | apply Kd.R_alloc | apply Kd.R_drewN | apply Kd.R_drew)); exact HO332.out))) (Kd.R_lt (by (with_reducible repeat (first | apply Kd.R_alloc | apply Kd.R_drewN | apply Kd.R_drew)); exact HO335.out))) (Kd.R_lt (by (with_reducible repeat (first | apply Kd.R_alloc | apply Kd.R_drewN | apply Kd.R_drew)); exact HO338.out))) (Kd.R_lt (by (with_reducible repeat (first | apply Kd.R_alloc | apply Kd.R_drewN | apply Kd.R_drew)); exact HO341.out))) (Kd.R_lt (by (with_reducible repeat (first | apply Kd.R_alloc | apply Kd.R_drewN | apply Kd.R_drew)); exact HO347.out))) (below_size (by repeat (first | (with_reducible first | exact HB.out | apply bal | apply bdN | apply bdr | refine bS ?_ GE348.out) | exact HB.out))))
   have n8_ := Az.mk (Kd.R_lower (Kd.R_new' (Kd.R_new' (Kd.R_new' (Kd.R_new' (Kd.R_new' ho1 (Kd.R_lt (by (with_reducible repeat (first | apply Kd.R_alloc | apply Kd.R_drewN | apply Kd.R_drew)); exact HO332.out))) (Kd.R_lt (by (with_reducible repeat (first | apply Kd.R_alloc | apply Kd.R_drewN | apply Kd.R_drew)); exact HO335.out))) (Kd.R_lt (by (with_reducible repeat (first | apply Kd.R_alloc | apply Kd.R_drewN | apply Kd.R_drew)); exact HO338.out))) (Kd.R_lt (by (with_reducible repeat (first | apply Kd.R_alloc | apply Kd.R_drewN | apply Kd.R_drew)); exact HO341.out))) (Kd.R_lt (by (with_reducible repeat (first | apply Kd.R_alloc | apply Kd.R_drewN | apply Kd.R_drew)); exact HO347.out))) (below_size (by repeat (first | (with_reducible first | exact HB.out | apply bal | apply bdN | apply bdr | refine bS ?_ GE348.out) | exact HB.out))))
   have n9_ := Az.mk (Kd.R_lower (Kd.R_new' (Kd.R_new' (Kd.R_new' (Kd.R_new' (Kd.R_new' ho2 (Kd.R_lt (by (with_reducible repeat (first | apply Kd.R_alloc | apply Kd.R_drewN | apply Kd.R_drew)); exact HO332.out))) (Kd.R_lt (by (with_reducible repeat (first | apply Kd.R_alloc | apply Kd.R_drewN | apply Kd.R_drew)); exact HO335.out))) (Kd.R_lt (by (with_reducible repeat (first | apply Kd.R_alloc | apply Kd.R_drewN | apply Kd.R_drew)); exact HO338.out))) (Kd.R_lt (by (with_reducible repeat (first | apply Kd.R_alloc | apply Kd.R_drewN | apply Kd.R_drew)); exact HO341.out))) (Kd.R_lt (by (with_reducible repeat (first | apply Kd.R_alloc | apply Kd.R_drewN | apply Kd.R_drew)); exact HO347.out))) (below_size (by repeat (first | (with_reducible first | exact HB.out | apply bal | apply bdN | apply bdr | refine bS ?_ GE348.out) | exact HB.out))))
   have n10_ := Az.mk (Kd.R_lower (Kd.R_new' ho3 (Kd.R_lt (by (with_reducible repeat (first | apply Kd.R_alloc | apply Kd.R_drewN | apply Kd.R_drew)); exact HO344.out))) (below_size (by repeat (first | (with_reducible first | exact HB.out | apply bal | apply bdN | apply bdr | refine bS ?_ GE348.out) | exact HB.out))))
   have n11_ := Az.mk (Kd.R_lower (Kd.R_new' (Kd.R_new' (Kd.R_new' (Kd.R_new' (Kd.R_new' ho4 (Kd.R_lt (by (with_reducible repeat (first | apply Kd.R_alloc | apply Kd.R_drewN | apply Kd.R_drew)); exact HO332.out))) (Kd.R_lt (by (with_reducible repeat (first | apply Kd.R_alloc | apply Kd.R_drewN | apply Kd.R_drew)); exact HO335.out))) (Kd.R_lt (by (with_reducible repeat (first | apply Kd.R_alloc | apply Kd.R_drewN | apply Kd.R_drew)); exact HO338.out))) (Kd.R_lt (by (with_reducible repeat (first | apply Kd.R_alloc | apply Kd.R_drewN | apply Kd.R_drew)); exact HO341.out))) (Kd.R_lt (by (with_reducible repeat (first | apply Kd.R_alloc | apply Kd.R_drewN | apply Kd.R_drew)); exact HO347.out))) (below_size (by repeat (first | (with_reducible first | exact HB.out | apply bal | apply bdN | apply bdr | refine bS ?_ GE348.out) | exact HB.out))))
   have n12_ := Az.mk (blk_below (g := gb348) (o := .cells #[.slice Ao68 t333.length co68, .slice Ao70 t336.length co70, .slice Ao71 t339.length co71, .slice Ao72 t342.length co72, .slice Ao73 t345.length co73] 48 (0, 0)) (by (with_reducible repeat (first | refine blk_drewN ?_ _ | refine blk_drew ?_ | refine blk_alloc ?_ _)); exact BK348.out) hb)
   have n13_ := Az.mk (below_step (by repeat (first | (with_reducible first | exact HB.out | apply bal | apply bdN | apply bdr | refine bS ?_ GE348.out) | exact HB.out)) hb)
   clear HO330
   clear HO332
   clear HO335
   clear HO338
   clear HO341
   clear HO344
   clear HO347
   clear BK348
   clear HB
   have HO330 := n0_
   have HO332 := n1_
   have HO335 := n2_
   have HO338 := n3_
   have HO341 := n4_
   have HO344 := n5_
   have HO347 := n6_
   have HO351 := n7_
   have HO354 := n8_
   have HO357 := n9_
   have HO360 := n10_
   have HO363 := n11_
   have BK348 := n12_
   have HB := n13_
   clear n0_ n1_ n2_ n3_ n4_ n5_ n6_ n7_ n8_ n9_ n10_ n11_ n12_ n13_
   (try clear hb)
   (try clear hb2)
   (try clear hk)
   (try clear hi)
   (try clear ho0)
   (try clear ho1)
   (try clear ho2)
   (try clear ho3)
   (try clear ho4)
   obtain ⟨Ao77, co77, eo77⟩ := Kd.R_slice HO351.out
   (first | subst eo77 | (injection eo77 with f1_ f2_ f3_; have f4_ := f1_.symm; have f5_ := f3_.symm; clear f1_ f2_ f3_; subst f4_; subst f5_))
   obtain ⟨Ao78, co78, eo78⟩ := Kd.R_slice HO354.out
   (first | subst eo78 | (injection eo78 with f1_ f2_ f3_; have f4_ := f1_.symm; have f5_ := f3_.symm; clear f1_ f2_ f3_; subst f4_; subst f5_))
   obtain ⟨Ao79, co79, eo79⟩ := Kd.R_slice HO357.out
   (first | subst eo79 | (injection eo79 with f1_ f2_ f3_; have f4_ := f1_.symm; have f5_ := f3_.symm; clear f1_ f2_ f3_; subst f4_; subst f5_))
   obtain ⟨Ao80, co80, eo80⟩ := Kd.R_slice HO360.out
   (first | subst eo80 | (injection eo80 with f1_ f2_ f3_; have f4_ := f1_.symm; have f5_ := f3_.symm; clear f1_ f2_ f3_; subst f4_; subst f5_))
   obtain ⟨Ao81, co81, eo81⟩ := Kd.R_slice HO363.out
   (first | subst eo81 | (injection eo81 with f1_ f2_ f3_; have f4_ := f1_.symm; have f5_ := f3_.symm; clear f1_ f2_ f3_; subst f4_; subst f5_))
   refine hK.out _ _ ⟨(bC BK348.out 0).trans rfl, (bC BK348.out 1).trans rfl, (bC BK348.out 2).trans rfl, (bC BK348.out 3).trans rfl, (bC BK348.out 4).trans rfl⟩ (fun hHeld => ?_)
   clear hK K
   refine norm_ (a' := ?_) ?_ ?_
   rotate_left
   ·show Act.put _ (some 24) _ = _
    simp only [Act.put, List.setIfInBounds_toArray, List.set_cons_zero, List.set_cons_succ, i64_w, i32_w]
    rfl
   refine one_ (i := 4) (N := some 25) #[true, true, true, true, true, false] rfl rfl (by kernel_rfl) (by decide) (fun K hK => ?_)
   refine goes_ Try.func25 (by kernel_rfl) rfl #[.agg #[.slice Ao68 t333.length co68, .slice Ao70 t336.length co70, .slice Ao71 t339.length co71, .slice Ao72 t342.length co72, .slice Ao73 t345.length co73], .agg #[.slice Ao77 t349.length co77, .slice Ao78 t352.length co78, .slice Ao79 t355.length co79, .slice Ao80 t358.length co80, .slice Ao81 t361.length co81]] (by rfl) rfl rfl (by (try simp only [List.map_toArray, List.map_cons, List.map_nil]); first | done | rfl | (simp only [List.length_drop, List.length_take]; rfl)) ?_
   with_reducible refine (spec_SameImports.calls k _ _ t333 _ _ t336 _ _ t339 _ _ t342 _ _ t345 _ _ t349 _ _ t352 _ _ t355 _ _ t358 _ _ t361 false _ ?side1 ?side2 ?side3 ?side4 ?side5 ?side6 ?side7 ?side8 ?side9 ?side10 ?side11 ?side12 ?side13 ?side14 ?side15 ?side16 ?side17 ?side18 ?side19 ?side20 A6.out).mono ?_
   (case side1 => repeat (first | exact (Kd.R_reads' HO335.out).2.2 | (with_reducible refine Kd.C_alloc ?_ _) | (with_reducible refine Kd.C_drewN ?_ _) | (with_reducible refine Kd.C_drew ?_)))
   (case side2 => exact (Kd.R_reads' HO335.out).2.1)
   (case side3 => repeat (first | exact (Kd.R_reads' HO338.out).2.2 | (with_reducible refine Kd.C_alloc ?_ _) | (with_reducible refine Kd.C_drewN ?_ _) | (with_reducible refine Kd.C_drew ?_)))
   (case side4 => exact (Kd.R_reads' HO338.out).2.1)
   (case side5 => repeat (first | exact (Kd.R_reads' HO341.out).2.2 | (with_reducible refine Kd.C_alloc ?_ _) | (with_reducible refine Kd.C_drewN ?_ _) | (with_reducible refine Kd.C_drew ?_)))
   (case side6 => exact (Kd.R_reads' HO341.out).2.1)
   (case side7 => repeat (first | exact (Kd.R_reads' HO344.out).2.2 | (with_reducible refine Kd.C_alloc ?_ _) | (with_reducible refine Kd.C_drewN ?_ _) | (with_reducible refine Kd.C_drew ?_)))
   (case side8 => exact (Kd.R_reads' HO344.out).2.1)
   (case side9 => repeat (first | exact (Kd.R_reads' HO347.out).2.2 | (with_reducible refine Kd.C_alloc ?_ _) | (with_reducible refine Kd.C_drewN ?_ _) | (with_reducible refine Kd.C_drew ?_)))
   (case side10 => exact (Kd.R_reads' HO347.out).2.1)
   (case side11 => repeat (first | exact (Kd.R_reads' HO351.out).2.2 | (with_reducible refine Kd.C_alloc ?_ _) | (with_reducible refine Kd.C_drewN ?_ _) | (with_reducible refine Kd.C_drew ?_)))
   (case side12 => exact (Kd.R_reads' HO351.out).2.1)
   (case side13 => repeat (first | exact (Kd.R_reads' HO354.out).2.2 | (with_reducible refine Kd.C_alloc ?_ _) | (with_reducible refine Kd.C_drewN ?_ _) | (with_reducible refine Kd.C_drew ?_)))
   (case side14 => exact (Kd.R_reads' HO354.out).2.1)
   (case side15 => repeat (first | exact (Kd.R_reads' HO357.out).2.2 | (with_reducible refine Kd.C_alloc ?_ _) | (with_reducible refine Kd.C_drewN ?_ _) | (with_reducible refine Kd.C_drew ?_)))
   (case side16 => exact (Kd.R_reads' HO357.out).2.1)
   (case side17 => repeat (first | exact (Kd.R_reads' HO360.out).2.2 | (with_reducible refine Kd.C_alloc ?_ _) | (with_reducible refine Kd.C_drewN ?_ _) | (with_reducible refine Kd.C_drew ?_)))
   (case side18 => exact (Kd.R_reads' HO360.out).2.1)
   (case side19 => repeat (first | exact (Kd.R_reads' HO363.out).2.2 | (with_reducible refine Kd.C_alloc ?_ _) | (with_reducible refine Kd.C_drewN ?_ _) | (with_reducible refine Kd.C_drew ?_)))
   (case side20 => exact (Kd.R_reads' HO363.out).2.1)
   rintro e w82 ⟨rfl, hb⟩
   refine ⟨_, rfl, ?_⟩
   have n0_ := Az.mk (Kd.S_below (by (with_reducible repeat (first | apply Kd.S_alloc | apply Kd.S_drewN | apply Kd.S_drew)); exact HO330.out) hb)
   have n1_ := Az.mk (Kd.R_below (by (with_reducible repeat (first | apply Kd.R_alloc | apply Kd.R_drewN | apply Kd.R_drew)); exact HO332.out) hb)
   have n2_ := Az.mk (Kd.R_below (by (with_reducible repeat (first | apply Kd.R_alloc | apply Kd.R_drewN | apply Kd.R_drew)); exact HO335.out) hb)
   have n3_ := Az.mk (Kd.R_below (by (with_reducible repeat (first | apply Kd.R_alloc | apply Kd.R_drewN | apply Kd.R_drew)); exact HO338.out) hb)
   have n4_ := Az.mk (Kd.R_below (by (with_reducible repeat (first | apply Kd.R_alloc | apply Kd.R_drewN | apply Kd.R_drew)); exact HO341.out) hb)
   have n5_ := Az.mk (Kd.R_below (by (with_reducible repeat (first | apply Kd.R_alloc | apply Kd.R_drewN | apply Kd.R_drew)); exact HO344.out) hb)
   have n6_ := Az.mk (Kd.R_below (by (with_reducible repeat (first | apply Kd.R_alloc | apply Kd.R_drewN | apply Kd.R_drew)); exact HO347.out) hb)
   have n7_ := Az.mk (Kd.R_below (by (with_reducible repeat (first | apply Kd.R_alloc | apply Kd.R_drewN | apply Kd.R_drew)); exact HO351.out) hb)
   have n8_ := Az.mk (Kd.R_below (by (with_reducible repeat (first | apply Kd.R_alloc | apply Kd.R_drewN | apply Kd.R_drew)); exact HO354.out) hb)
   have n9_ := Az.mk (Kd.R_below (by (with_reducible repeat (first | apply Kd.R_alloc | apply Kd.R_drewN | apply Kd.R_drew)); exact HO357.out) hb)
   have n10_ := Az.mk (Kd.R_below (by (with_reducible repeat (first | apply Kd.R_alloc | apply Kd.R_drewN | apply Kd.R_drew)); exact HO360.out) hb)
   have n11_ := Az.mk (Kd.R_below (by (with_reducible repeat (first | apply Kd.R_alloc | apply Kd.R_drewN | apply Kd.R_drew)); exact HO363.out) hb)
   have n12_ := Az.mk (blk_below (g := gb348) (o := .cells #[.slice Ao68 t333.length co68, .slice Ao70 t336.length co70, .slice Ao71 t339.length co71, .slice Ao72 t342.length co72, .slice Ao73 t345.length co73] 48 (0, 0)) (by (with_reducible repeat (first | refine blk_drewN ?_ _ | refine blk_drew ?_ | refine blk_alloc ?_ _)); exact BK348.out) hb)
   have n13_ := Az.mk (below_step (by repeat (first | (with_reducible first | exact HB.out | apply bal | apply bdN | apply bdr | refine bS ?_ GE348.out) | exact HB.out)) hb)
   clear HO330
   clear HO332
   clear HO335
   clear HO338
   clear HO341
   clear HO344
   clear HO347
   clear HO351
   clear HO354
   clear HO357
   clear HO360
   clear HO363
   clear BK348
   clear HB
   have HO330 := n0_
   have HO332 := n1_
   have HO335 := n2_
   have HO338 := n3_
   have HO341 := n4_
   have HO344 := n5_
   have HO347 := n6_
   have HO351 := n7_
   have HO354 := n8_
   have HO357 := n9_
   have HO360 := n10_
   have HO363 := n11_
   have BK348 := n12_
   have HB := n13_
   clear n0_ n1_ n2_ n3_ n4_ n5_ n6_ n7_ n8_ n9_ n10_ n11_ n12_ n13_
   (try clear hb)
   (try clear hb2)
   (try clear hk)
   (try clear hi)
   refine hK.out _ _ ⟨(bC BK348.out 0).trans rfl, (bC BK348.out 1).trans rfl, (bC BK348.out 2).trans rfl, (bC BK348.out 3).trans rfl, (bC BK348.out 4).trans rfl⟩ (fun hHeld => ?_)
   clear hK K
   refine norm_ (a' := ?_) ?_ ?_
   rotate_left
   ·show Act.put _ (some 25) _ = _
    simp only [Act.put, List.setIfInBounds_toArray, List.set_cons_zero, List.set_cons_succ, i64_w, i32_w]
    rfl
   refine pure_ (i := 5) (N := some 26) (v := ?_) (a' := ?_) #[true, true, true, true, true, true] rfl rfl (by kernel_rfl) (fun _ _ _ h => h) (Or.inl ⟨by rfl, ?_⟩) ?_ ?_
   rotate_left
   ·intro w'
    go_simp
    with_reducible rfl
   rotate_left
   ·simp only [Act.put, List.setIfInBounds_toArray, List.set_cons_zero, List.set_cons_succ, i64_w, i32_w]
    rfl
   refine done_ (by kernel_rfl) ?_
   try go_wp2
   go_ret
   exact ⟨by first | rfl | (simp [errW_none, errW_some] <;> rfl) | (simp [*, errW_none, errW_some] <;> rfl), by repeat (first | (with_reducible first | exact HB.out | apply bal | apply bdN | apply bdr | refine bS ?_ GE348.out) | exact HB.out)⟩
def laws_FnImportOrder.Pure : Prop := ∀ (l0 : List Int), l0.length ≤ maxLen → l0.length * 1 ≤ 140737488351232 → (∀ x ∈ l0, (Lit.int .u8 x).wf = true) → ∃ k, laws_FnImportOrder.f k l0 = some true
theorem laws_FnImportOrder.walk (P : laws_FnImportOrder.Pure) (a0 : Option Addr) (len0 cap0 : Nat) (z0 : List Int) (w : World) (w0 : (a0 = none ∧ len0 = 0 ∧ cap0 = 0 ∧ z0 = []) ∨ ∃ x, a0 = some x ∧ len0 ≤ cap0 ∧ cap0 ≤ maxLen ∧ z0.length = cap0 ∧ (∀ i, i < z0.length → w.cell? (x.add i) = some (.int .u8 (z0.getD i 0))) ∧ ∀ n ∈ z0, (Lit.int .u8 n).wf = true) (y0 : len0 * 1 ≤ 140737488351232) :
  Calls Try.prog 8 #[.slice a0 len0 cap0] w fun e w' => e = .returned (.bool true) ∧ Below w.heap.size w w' := by
 obtain ⟨l0, rfl, hr0, hm0, hw0, hc0⟩ := ReadsInt.ofRowC w0
 obtain ⟨k, h⟩ := P l0 hm0 y0 hw0
 refine (laws_FnImportOrder.calls k _ _ l0 true w (Kd.C_of_reads (d := (0 : Int)) (h1 := fun _ => rfl) hr0) hc0 h).mono ?_
 rintro e w' ⟨rfl, hd⟩
 exact ⟨rfl, hd⟩
end Go.Proofs.Ytehhhlhedmfdiaa.PFnImportOrder
end
section
namespace Go.Proofs.Ytehhhlhedmfdiaa.PFnImportOrder
open Go.RowKit Go.Proofs.Yz0.PrintWords Go.Proofs.Yz0.PrintLast Go.Proofs.Yz0.PrintMore
set_option linter.unusedVariables false
def Tells (g : Nat → Option Bool) (P : Prop) : Prop := ∃ b, Ev g b ∧ (b = true ↔ P)
theorem Tells.step {g f : Nat → Option Bool} {P : Prop} (h : ∀ k, g (k + 1) = f k) (t : Tells f P) : Tells g P := by
 obtain ⟨b, e, hb⟩ := t; exact ⟨b, Ev.step h e, hb⟩
theorem Tells.congr {g f : Nat → Option Bool} {P Q : Prop} (h : ∀ k, g k = f k) (t : Tells f P) (hPQ : P ↔ Q) : Tells g Q := by
 obtain ⟨b, e, hb⟩ := t; exact ⟨b, Ev.congr h e, hb.trans hPQ⟩
theorem Tells.now {b : Bool} {P : Prop} (h : b = true ↔ P) : Tells (fun _ => some b) P := ⟨b, Ev.now b, h⟩
theorem Tells.iff {g : Nat → Option Bool} {P Q : Prop} (t : Tells g P) (h : P ↔ Q) : Tells g Q := by
 obtain ⟨b, e, hb⟩ := t; exact ⟨b, e, hb.trans h⟩
theorem Tells.same {g f : Nat → Option Bool} {P : Prop} (t : Tells g P) (u : Tells f P) : ∃ b, Ev g b ∧ Ev f b ∧ (b = true ↔ P) := by
 obtain ⟨b, e, hb⟩ := t
 obtain ⟨c, e2, hc⟩ := u
 have : b = c := Bool.eq_iff_iff.2 (hb.trans hc.symm)
 subst this
 exact ⟨b, e, e2, hb⟩
theorem Tells.ask {g : Nat → Option Bool} {f : Nat → Bool → Option Bool} {P Q : Prop} (t : Tells g P) (h1 : P → Tells (fun k => f k true) Q) (h2 : ¬ P → Tells (fun k => f k false) Q) : Tells (fun k => (g k).bind (f k)) Q := by
 obtain ⟨b, e, hb⟩ := t
 cases b with
 | true => obtain ⟨c, e2, hc⟩ := h1 (hb.1 rfl); exact ⟨c, Ev.bind e e2, hc⟩
 | false => obtain ⟨c, e2, hc⟩ := h2 (fun p => by have := hb.2 p; cases this); exact ⟨c, Ev.bind e e2, hc⟩
theorem bindSome {α : Type} (o : Option α) : (o.bind fun t => some t) = o := by cases o <;> rfl
theorem up1 {i : Int} (h0 : 0 ≤ i) (h : i < 4611686018427387904) : wrap64 (i + 1) = i + 1 := by unfold wrap64; omega
def IsW (c : Int) : Prop := 97 ≤ c ∧ c ≤ 122 ∨ 65 ≤ c ∧ c ≤ 90 ∨ c = 95
def IsD (c : Int) : Prop := 48 ≤ c ∧ c ≤ 57
theorem letter_tells (c : Int) : Tells (fun _ => spec_letter.f c) (IsW c) := by
 unfold spec_letter.f IsW
 repeat' first
  | (refine Tells.now ?_; simp; omega)
  | split
theorem isLetter_tells (c : Int) : Tells (fun _ => impl_isLetter.f c) (IsW c) := by
 unfold impl_isLetter.f IsW
 repeat' first
  | (refine Tells.now ?_; simp; omega)
  | split
theorem digit_tells (c : Int) : Tells (fun _ => spec_digit.f c) (IsD c) := by
 unfold spec_digit.f IsD
 repeat' first
  | (refine Tells.now ?_; simp; omega)
  | split
theorem isDigit_tells (c : Int) : Tells (fun _ => impl_isDigit.f c) (IsD c) := by
 unfold impl_isDigit.f IsD
 repeat' first
  | (refine Tells.now ?_; simp; omega)
  | split
theorem inRange_tells (a b c : Int) : Tells (fun _ => spec_inRange.f a b c) (b ≤ a ∧ a ≤ c) := by
 unfold spec_inRange.f
 repeat' first
  | (refine Tells.now ?_; simp; omega)
  | split
theorem within_tells (a b c : Int) : Tells (fun _ => impl_within.f a b c) (b ≤ a ∧ a ≤ c) := by
 unfold impl_within.f
 repeat' first
  | (refine Tells.now ?_; simp; omega)
  | split
theorem rdOf_at {l : List ByteArray} {i : Int} (h0 : 0 ≤ i) (h : i < (l.length : Int)) : l.drop i.toNat = rdOf ByteArray.empty l i :: l.drop (i + 1).toNat := by
 have hl : i.toNat < l.length := by omega
 unfold rdOf
 rw [List.getD_eq_getElem?_getD, List.getElem?_eq_getElem hl, List.drop_eq_getElem_cons hl, show (i + 1).toNat = i.toNat + 1 from by omega]
 rfl
def Has (l : List ByteArray) (s : ByteArray) : Prop := ∃ x ∈ l, x.toList = s.toList
theorem isOne_tells (l : List ByteArray) (s : ByteArray) (hl : l.length < 1000) (d : Nat) : ∀ i : Int, 0 ≤ i → i ≤ l.length → (l.length : Int) - i = d → Tells (fun k => spec_isOne.l0 k l s i) (Has (l.drop i.toNat) s) := by
 induction d with
 | zero =>
  intro i h0 h1 hd
  refine Tells.step (f := fun _ => some false) (fun k => by simp only [spec_isOne.l0]; rw [if_neg (by omega)]) (Tells.now ?_)
  rw [List.drop_eq_nil_of_le (by omega)]
  simp [Has]
 | succ d ih =>
  intro i h0 h1 hd
  have hlt : i < (l.length : Int) := by omega
  have hp := rdOf_at h0 hlt
  by_cases he : (rdOf ByteArray.empty l i).toList = s.toList
  ·refine Tells.step (f := fun _ => some true) (fun k => by simp only [spec_isOne.l0]; rw [if_pos hlt, if_pos h0, if_pos he]) (Tells.now ?_)
   rw [hp]
   simp only [true_iff]
   exact ⟨_, List.mem_cons_self, he⟩
  ·refine Tells.step (fun k => by simp only [spec_isOne.l0]; rw [if_pos hlt, if_pos h0, if_neg he, up1 h0 (by omega)]) ((ih (i + 1) (by omega) (by omega) (by omega)).iff ?_)
   rw [hp]
   unfold Has
   constructor
   ·rintro ⟨x, hx, e⟩; exact ⟨x, List.mem_cons_of_mem _ hx, e⟩
   ·rintro ⟨x, hx, e⟩
    rcases List.mem_cons.1 hx with rfl | hx
    ·exact absurd e he
    ·exact ⟨x, hx, e⟩
theorem index_tells (l : List ByteArray) (s : ByteArray) (hl : l.length < 1000) (d : Nat) : ∀ i : Int, 0 ≤ i → i ≤ l.length → (l.length : Int) - i = d → ∃ r, Ev (fun k => slices_Index_string_string.l0 k l s (l.length : Int) i) r ∧ (r ≥ 0 ↔ Has (l.drop i.toNat) s) := by
 induction d with
 | zero =>
  intro i h0 h1 hd
  refine ⟨-1, Ev.step (f := fun _ => some (-1)) (fun k => by simp only [slices_Index_string_string.l0]; rw [if_neg (by omega)]) (Ev.now _), ?_⟩
  rw [List.drop_eq_nil_of_le (by omega)]
  simp [Has]
 | succ d ih =>
  intro i h0 h1 hd
  have hlt : i < (l.length : Int) := by omega
  have hp := rdOf_at h0 hlt
  by_cases he : s.toList = (rdOf ByteArray.empty l i).toList
  ·refine ⟨i, Ev.step (f := fun _ => some i) (fun k => by simp only [slices_Index_string_string.l0]; rw [if_pos hlt, if_pos h0, if_pos hlt, if_pos he]) (Ev.now _), ?_⟩
   rw [hp]
   exact ⟨fun _ => ⟨_, List.mem_cons_self, he.symm⟩, fun _ => h0⟩
  ·obtain ⟨r, e, hr⟩ := ih (i + 1) (by omega) (by omega) (by omega)
   refine ⟨r, Ev.step (fun k => by simp only [slices_Index_string_string.l0]; rw [if_pos hlt, if_pos h0, if_pos hlt, if_neg he, up1 h0 (by omega)]) e, hr.trans ?_⟩
   rw [hp]
   unfold Has
   constructor
   ·rintro ⟨x, hx, e⟩; exact ⟨x, List.mem_cons_of_mem _ hx, e⟩
   ·rintro ⟨x, hx, e⟩
    rcases List.mem_cons.1 hx with rfl | hx
    ·exact absurd e.symm he
    ·exact ⟨x, hx, e⟩
def kws : List ByteArray := spec_keywords.f.getD []
theorem kws_len : kws.length < 1000 := by decide
theorem spec_kw (s : ByteArray) : Tells (fun k => spec_isKeyword.f k s) (Has kws s) := by
 have h := isOne_tells kws s kws_len kws.length 0 (by omega) (by omega) (by omega)
 rw [show (0 : Int).toNat = 0 from rfl, List.drop_zero] at h
 refine Tells.congr (fun k => ?_) h Iff.rfl
 show (some kws).bind (fun t => (spec_isOne.f k t s).bind fun t => some t) = _
 simp only [Option.bind_some]
 show (spec_isOne.l0 k kws s 0).bind (fun t => some t) = _
 rw [bindSome]
theorem impl_kw (s : ByteArray) : Tells (fun k => impl_IsKeyword.f k s) (Has kws s) := by
 obtain ⟨r, e, hr⟩ := index_tells kws s kws_len kws.length 0 (by omega) (by omega) (by omega)
 rw [show (0 : Int).toNat = 0 from rfl, List.drop_zero] at hr
 refine ⟨decide (r ≥ 0), ?_, by rw [decide_eq_true_iff]; exact hr⟩
 refine Ev.congr (f := fun k => (slices_Index_string_string.l0 k kws s (kws.length : Int) 0).bind fun t => some (decide (t ≥ 0))) (fun k => ?_) (Ev.bind e (Ev.now _))
 show ((some kws).bind fun t => ((slices_Contains_string_string.f k t s).bind fun t => some t)) = _
 simp only [Option.bind_some]
 rw [bindSome]
 rfl
def NameP (s : ByteArray) : Prop := (∀ j : Int, 0 ≤ j → j < s.size → IsW (bt s j) ∨ j ≠ 0 ∧ IsD (bt s j)) ∧ (1 ≤ s.size ∧ s.size ≤ 12) ∧ ¬ Has kws s
theorem validName_from (s : ByteArray) (hs : s.size ≤ 140737488355328) (d : Nat) : ∀ i : Int, 0 ≤ i → i ≤ s.size → (s.size : Int) - i = d →
  Tells (fun k => spec_validName.l0 k s i) ((∀ j : Int, i ≤ j → j < s.size → IsW (bt s j) ∨ j ≠ 0 ∧ IsD (bt s j)) ∧ (1 ≤ s.size ∧ s.size ≤ 12) ∧ ¬ Has kws s) := by
 induction d with
 | zero =>
  intro i h0 h1 hd
  have hv : ∀ j : Int, i ≤ j → j < s.size → IsW (bt s j) ∨ j ≠ 0 ∧ IsD (bt s j) := fun j a b => by omega
  refine Tells.step (fun k => by simp only [spec_validName.l0]; rw [if_neg (by omega)]) ?_
  refine Tells.ask (f := fun k t => if t = true then ((spec_isKeyword.f k s).bind fun t => some (!t)) else some false) (inRange_tells _ _ _) (fun hp => ?_) (fun hp => ?_)
  ·refine Tells.congr (f := fun k => (spec_isKeyword.f k s).bind fun t => some (!t)) (fun k => by rw [if_pos rfl]) (Tells.ask (f := fun _ t => some (!t)) (spec_kw s) (fun hk => Tells.now ?_) (fun hk => Tells.now ?_)) Iff.rfl
   ·simp only [Bool.not_true, Bool.false_eq_true, false_iff]; exact fun h => h.2.2 hk
   ·simp only [Bool.not_false, true_iff]; exact ⟨hv, by omega, hk⟩
  ·refine Tells.congr (f := fun _ => some false) (fun k => by rw [if_neg (by decide)]) (Tells.now ?_) Iff.rfl
   simp only [Bool.false_eq_true, false_iff]; exact fun h => hp (by omega)
 | succ d ih =>
  intro i h0 h1 hd
  have hlt : i < (s.size : Int) := by omega
  have hw : wrap64 (i + 1) = i + 1 := up1 h0 (by omega)
  have next : (IsW (bt s i) ∨ i ≠ 0 ∧ IsD (bt s i)) → Tells (fun k => spec_validName.l0 k s (i + 1)) ((∀ j : Int, i ≤ j → j < s.size → IsW (bt s j) ∨ j ≠ 0 ∧ IsD (bt s j)) ∧ (1 ≤ s.size ∧ s.size ≤ 12) ∧ ¬ Has kws s) := fun hi =>
   (ih (i + 1) (by omega) (by omega) (by omega)).iff (and_congr ⟨fun h j a b => by
    by_cases e : j = i
    ·rw [e]; exact hi
    ·exact h j (by omega) b, fun h j a b => h j (by omega) b⟩ Iff.rfl)
  have fails : ¬ (IsW (bt s i) ∨ i ≠ 0 ∧ IsD (bt s i)) → Tells (fun _ => some false) ((∀ j : Int, i ≤ j → j < s.size → IsW (bt s j) ∨ j ≠ 0 ∧ IsD (bt s j)) ∧ (1 ≤ s.size ∧ s.size ≤ 12) ∧ ¬ Has kws s) := fun hi =>
   Tells.now (by simp only [Bool.false_eq_true, false_iff]; exact fun h => hi (h.1 i (by omega) hlt))
  refine Tells.step (fun k => by simp only [spec_validName.l0]; rw [if_pos hlt, if_pos h0, hw]) ?_
  refine Tells.ask (f := fun k t => if t = true then (spec_validName.l0 k s (i + 1)) else (if i = 0 then (some false) else ((spec_digit.f (bt s i)).bind fun t119 => (if t119 = true then (spec_validName.l0 k s (i + 1)) else (some false))))) (letter_tells _) (fun hp => ?_) (fun hp => ?_)
  ·exact Tells.congr (fun k => by rw [if_pos rfl]) (next (.inl hp)) Iff.rfl
  ·by_cases hz : i = 0
   ·exact Tells.congr (f := fun _ => some false) (fun k => by rw [if_neg (by decide), if_pos hz]) (fails (fun h => h.elim hp (fun h => h.1 hz))) Iff.rfl
   ·refine Tells.congr (f := fun k => (spec_digit.f (bt s i)).bind fun t119 => (if t119 = true then (spec_validName.l0 k s (i + 1)) else (some false))) (fun k => by rw [if_neg (by decide), if_neg hz]) (Tells.ask (f := fun k t119 => (if t119 = true then (spec_validName.l0 k s (i + 1)) else (some false))) (digit_tells _) (fun hq => ?_) (fun hq => ?_)) Iff.rfl
    ·exact Tells.congr (fun k => by rw [if_pos rfl]) (next (.inr ⟨hz, hq⟩)) Iff.rfl
    ·exact Tells.congr (f := fun _ => some false) (fun k => by rw [if_neg (by decide)]) (fails (fun h => h.elim hp (fun h => hq h.2))) Iff.rfl
theorem validName_tells (s : ByteArray) (hs : s.size ≤ 140737488355328) : Tells (fun k => spec_validName.f k s) (NameP s) :=
 validName_from s hs s.size 0 (by omega) (by omega) (by omega)
theorem nameOk_from (s : ByteArray) (hs : s.size ≤ 140737488355328) (d : Nat) : ∀ i : Int, 0 ≤ i → i ≤ s.size → (s.size : Int) - i = d →
  Tells (fun k => impl_NameOk.l0 k s (s.size : Int) i) (∀ j : Int, i ≤ j → j < s.size → IsW (bt s j) ∨ IsD (bt s j)) := by
 induction d with
 | zero =>
  intro i h0 h1 hd
  exact Tells.step (f := fun _ => some true) (fun k => by simp only [impl_NameOk.l0]; rw [if_neg (by omega)]) (Tells.now (by simp only [true_iff]; exact fun j a b => by omega))
 | succ d ih =>
  intro i h0 h1 hd
  have hlt : i < (s.size : Int) := by omega
  have hw : wrap64 (i + 1) = i + 1 := up1 h0 (by omega)
  have next : (IsW (bt s i) ∨ IsD (bt s i)) → Tells (fun k => impl_NameOk.l0 k s (s.size : Int) (i + 1)) (∀ j : Int, i ≤ j → j < s.size → IsW (bt s j) ∨ IsD (bt s j)) := fun hi =>
   (ih (i + 1) (by omega) (by omega) (by omega)).iff ⟨fun h j a b => by
    by_cases e : j = i
    ·rw [e]; exact hi
    ·exact h j (by omega) b, fun h j a b => h j (by omega) b⟩
  refine Tells.step (fun k => by simp only [impl_NameOk.l0]; rw [if_pos hlt, if_pos h0, if_pos hlt, hw]) ?_
  refine Tells.ask (f := fun k t => if t = true then (impl_NameOk.l0 k s (s.size : Int) (i + 1)) else ((impl_isDigit.f (bt s i)).bind fun t224 => (if t224 = true then (impl_NameOk.l0 k s (s.size : Int) (i + 1)) else (some false)))) (isLetter_tells _) (fun hp => ?_) (fun hp => ?_)
  ·exact Tells.congr (fun k => by rw [if_pos rfl]) (next (.inl hp)) Iff.rfl
  ·refine Tells.congr (f := fun k => (impl_isDigit.f (bt s i)).bind fun t224 => (if t224 = true then (impl_NameOk.l0 k s (s.size : Int) (i + 1)) else (some false))) (fun k => by rw [if_neg (by decide)]) (Tells.ask (f := fun k t224 => (if t224 = true then (impl_NameOk.l0 k s (s.size : Int) (i + 1)) else (some false))) (isDigit_tells _) (fun hq => ?_) (fun hq => ?_)) Iff.rfl
   ·exact Tells.congr (fun k => by rw [if_pos rfl]) (next (.inr hq)) Iff.rfl
   ·exact Tells.congr (f := fun _ => some false) (fun k => by rw [if_neg (by decide)]) (Tells.now (by simp only [Bool.false_eq_true, false_iff]; exact fun h => (h i (by omega) hlt).elim hp hq)) Iff.rfl
theorem nameOk_tells (s : ByteArray) (hs : s.size ≤ 140737488355328) : Tells (fun k => impl_NameOk.f k s) (NameP s) := by
 have no : ¬ NameP s → Tells (fun k => impl_NameOk.j0 k s true) (NameP s) := fun h =>
  Tells.step (f := fun _ => some false) (fun k => by simp only [impl_NameOk.j0]; exact if_pos trivial) (Tells.now (by simp only [Bool.false_eq_true, false_iff]; exact h))
 unfold impl_NameOk.f
 by_cases h1 : (s.size : Int) < 1
 ·exact Tells.congr (fun k => by rw [if_pos h1]) (no (fun h => by have := h.2.1.1; omega)) Iff.rfl
 by_cases h2 : (s.size : Int) > 12
 ·exact Tells.congr (fun k => by rw [if_neg h1, if_pos h2]) (no (fun h => by have := h.2.1.2; omega)) Iff.rfl
 refine Tells.congr (f := fun k => (impl_isDigit.f (bt s 0)).bind fun t221 => (if t221 = true then (impl_NameOk.j0 k s true) else ((impl_IsKeyword.f k s).bind fun t222 => (impl_NameOk.j0 k s t222)))) (fun k => by rw [if_neg h1, if_neg h2, if_pos (by omega)]) ?_ Iff.rfl
 refine Tells.ask (f := fun k t221 => (if t221 = true then (impl_NameOk.j0 k s true) else ((impl_IsKeyword.f k s).bind fun t222 => (impl_NameOk.j0 k s t222)))) (isDigit_tells _) (fun hd => ?_) (fun hd => ?_)
 ·refine Tells.congr (fun k => by rw [if_pos rfl]) (no (fun h => ?_)) Iff.rfl
  rcases h.1 0 (by omega) (by omega) with hw | hw
  ·unfold IsW at hw; unfold IsD at hd; omega
  ·exact hw.1 rfl
 ·refine Tells.congr (f := fun k => (impl_IsKeyword.f k s).bind fun t222 => (impl_NameOk.j0 k s t222)) (fun k => by rw [if_neg (by decide)]) ?_ Iff.rfl
  refine Tells.ask (f := fun k t222 => impl_NameOk.j0 k s t222) (impl_kw s) (fun hk => no (fun h => h.2.2 hk)) (fun hk => ?_)
  refine Tells.step (fun k => by simp only [impl_NameOk.j0]; exact if_neg (by decide)) ((nameOk_from s hs s.size 0 (by omega) (by omega) (by omega)).iff ?_)
  constructor
  ·intro h
   refine ⟨fun j a b => ?_, by omega, hk⟩
   by_cases hz : j = 0
   ·subst hz; exact .inl ((h 0 a b).resolve_right hd)
   ·exact (h j a b).imp id (fun h => ⟨hz, h⟩)
  ·intro h j a b
   exact (h.1 j a b).imp id (fun h => h.2)
end Go.Proofs.Ytehhhlhedmfdiaa.PFnImportOrder
end
section
namespace Go.Proofs.Ytehhhlhedmfdiaa.PFnImportOrder
open Go.RowKit Go.Proofs.Yz0.PrintWords Go.Proofs.Yz0.PrintLast Go.Proofs.Yz0.PrintMore
set_option linter.unusedVariables false
def Named (s : S74) : Prop := s.f0 = 3 ∨ s.f0 = 4
def top (n : Nat) (s : S74) : Int := if s.f0 = 3 ∨ s.f0 = 5 then 1000000 else (n : Int) - 1
def StepP (n : Nat) (s : S74) : Prop := (1 ≤ s.f0 ∧ s.f0 ≤ 5) ∧ (0 ≤ s.f1 ∧ s.f1 ≤ top n s) ∧ (Named s ↔ s.f2.toList ≠ []) ∧ (Named s → NameP s.f2)
def ModP (n : Nat) (x : S72) : Prop := (∀ s ∈ x.f0, StepP n s) ∧ x.f0.length ≤ 8
def ModsP (m : List S72) : Prop := (∀ x ∈ m, ModP m.length x) ∧ 1 ≤ m.length ∧ m.length ≤ 6
def Small (m : List S72) : Prop := m.length ≤ 140737488355328 ∧ ∀ x ∈ m, x.f0.length ≤ 140737488355328 ∧ ∀ s ∈ x.f0, s.f2.size ≤ 140737488355328
theorem at_cons {α : Type} (z : α) {l : List α} {i : Int} (h0 : 0 ≤ i) (h : i < (l.length : Int)) : l.drop i.toNat = l.getD i.toNat z :: l.drop (i + 1).toNat := by
 have hl : i.toNat < l.length := by omega
 rw [List.getD_eq_getElem?_getD, List.getElem?_eq_getElem hl, List.drop_eq_getElem_cons hl, show (i + 1).toNat = i.toNat + 1 from by omega]
 rfl
theorem at_mem {α : Type} (z : α) {l : List α} {i : Int} (h0 : 0 ≤ i) (h : i < (l.length : Int)) : l.getD i.toNat z ∈ l := by
 have hl : i.toNat < l.length := by omega
 rw [List.getD_eq_getElem?_getD, List.getElem?_eq_getElem hl]
 exact List.getElem_mem hl
theorem all_cons {α : Type} {P : α → Prop} {a : α} {l : List α} : (∀ x ∈ a :: l, P x) ↔ P a ∧ ∀ x ∈ l, P x := by simp
theorem toList_nil {s : ByteArray} (h : NameP s) : s.toList ≠ [] := by
 intro e
 have h1 := h.2.1.1
 have : s.data.toList = [] := by rw [← Lib.toList_data]; exact e
 have h2 : s.size = s.data.toList.length := by rw [Array.length_toList]; rfl
 rw [h2, this] at h1
 simp at h1
theorem bne_iff (b : Bool) (l : List UInt8) : (b != (l != ([] : List UInt8))) = true ↔ ¬ (b = true ↔ l ≠ []) := by
 cases b <;> cases l <;> simp
theorem spec_j4 (m : List S72) (i j lo hi : Int) (nm : Bool) (s : S74) (hs : s.f2.size ≤ 140737488355328) {R : Prop} (hw : wrap64 (j + 1) = j + 1) (rest : Tells (fun k => spec_validMods.l1 k m i (j + 1)) R) :
  Tells (fun k => spec_validMods.j4 k m i j lo hi nm s.f0 s.f1 s.f2) (((1 ≤ s.f0 ∧ s.f0 ≤ 5) ∧ (lo ≤ s.f1 ∧ s.f1 ≤ hi) ∧ (nm = true ↔ s.f2.toList ≠ []) ∧ (nm = true → NameP s.f2)) ∧ R) := by
 have no : ∀ {Q : Prop}, ¬ Q → Tells (fun _ => some false) Q := fun h => Tells.now (by simp only [Bool.false_eq_true, false_iff]; exact h)
 refine Tells.step (fun k => by simp only [spec_validMods.j4]; rfl) ?_
 refine Tells.ask (f := fun k t126 => (if t126 = true then ((spec_inRange.f s.f1 lo hi).bind fun t127 => (if t127 = true then (if (nm != (s.f2.toList != ([] : List UInt8))) = true then (some false) else (if nm = true then ((spec_validName.f k s.f2).bind fun t128 => (if t128 = true then (spec_validMods.l1 k m i (wrap64 (j + 1))) else (some false))) else (spec_validMods.l1 k m i (wrap64 (j + 1))))) else (some false))) else (some false))) (inRange_tells _ _ _) (fun h1 => ?_) (fun h1 => ?_)
 rotate_left
 ·exact Tells.congr (f := fun _ => some false) (fun k => by rw [if_neg (by decide)]) (no (fun h => h1 h.1.1)) Iff.rfl
 refine Tells.congr (fun k => by rw [if_pos rfl]) ?_ Iff.rfl
 refine Tells.ask (f := fun k t127 => (if t127 = true then (if (nm != (s.f2.toList != ([] : List UInt8))) = true then (some false) else (if nm = true then ((spec_validName.f k s.f2).bind fun t128 => (if t128 = true then (spec_validMods.l1 k m i (wrap64 (j + 1))) else (some false))) else (spec_validMods.l1 k m i (wrap64 (j + 1))))) else (some false))) (inRange_tells _ _ _) (fun h2 => ?_) (fun h2 => ?_)
 rotate_left
 ·exact Tells.congr (f := fun _ => some false) (fun k => by rw [if_neg (by decide)]) (no (fun h => h2 h.1.2.1)) Iff.rfl
 by_cases h3 : (nm != (s.f2.toList != ([] : List UInt8))) = true
 ·exact Tells.congr (f := fun _ => some false) (fun k => by rw [if_pos rfl, if_pos h3]) (no (fun h => (bne_iff _ _).1 h3 h.1.2.2.1)) Iff.rfl
 have h3' : nm = true ↔ s.f2.toList ≠ [] := Classical.not_not.1 (fun h => h3 ((bne_iff _ _).2 h))
 by_cases h4 : nm = true
 ·refine Tells.congr (fun k => by rw [if_pos rfl, if_neg h3, if_pos h4, hw]) ?_ Iff.rfl
  refine Tells.ask (f := fun k t128 => (if t128 = true then (spec_validMods.l1 k m i (j + 1)) else (some false))) (validName_tells s.f2 hs) (fun h5 => ?_) (fun h5 => ?_)
  ·exact Tells.congr (fun k => by rw [if_pos rfl]) rest ⟨fun h => ⟨⟨h1, h2, h3', fun _ => h5⟩, h⟩, fun h => h.2⟩
  ·exact Tells.congr (f := fun _ => some false) (fun k => by rw [if_neg (by decide)]) (no (fun h => h5 (h.1.2.2.2 h4))) Iff.rfl
 ·exact Tells.congr (fun k => by rw [if_pos rfl, if_neg h3, if_neg h4, hw]) rest ⟨fun h => ⟨⟨h1, h2, h3', fun h => absurd h h4⟩, h⟩, fun h => h.2⟩
theorem spec_step (m : List S72) (i j : Int) (s : S74) (hs : s.f2.size ≤ 140737488355328) (hm : m.length ≤ 140737488355328) {R : Prop} (hw : wrap64 (j + 1) = j + 1) (rest : Tells (fun k => spec_validMods.l1 k m i (j + 1)) R) :
  Tells (fun k => if s.f0 = 3 then (spec_validMods.j2 k m i j 0 (wrap64 ((m.length : Int) - 1)) true s.f0 s.f1 s.f2) else (spec_validMods.j2 k m i j 0 (wrap64 ((m.length : Int) - 1)) (s.f0 == 5) s.f0 s.f1 s.f2)) (StepP m.length s ∧ R) := by
 have hl : wrap64 ((m.length : Int) - 1) = (m.length : Int) - 1 := by unfold wrap64; omega
 have key : ∀ hi : Int, hi = top m.length s → Tells (fun k => spec_validMods.j3 k m i j 0 hi s.f0 s.f1 s.f2) (StepP m.length s ∧ R) := by
  intro hi e
  subst e
  unfold StepP Named
  by_cases h3 : s.f0 = 3
  ·refine Tells.step (fun k => by simp only [spec_validMods.j3]; rw [if_pos h3]) ((spec_j4 m i j 0 _ true s hs hw rest).iff ?_)
   simp [h3]
  ·refine Tells.step (fun k => by simp only [spec_validMods.j3]; rw [if_neg h3]) ((spec_j4 m i j 0 _ (s.f0 == 4) s hs hw rest).iff ?_)
   simp [h3]
 by_cases h3 : s.f0 = 3
 ·refine Tells.congr (fun k => by rw [if_pos h3]) (Tells.step (f := fun k => spec_validMods.j3 k m i j 0 1000000 s.f0 s.f1 s.f2) (fun k => by simp only [spec_validMods.j2]; exact if_pos trivial) (key _ (by unfold top; rw [if_pos (.inl h3)]))) Iff.rfl
 ·by_cases h5 : s.f0 = 5
  ·refine Tells.congr (fun k => by rw [if_neg h3]) (Tells.step (f := fun k => spec_validMods.j3 k m i j 0 1000000 s.f0 s.f1 s.f2) (fun k => by simp only [spec_validMods.j2]; rw [if_pos (by rw [h5]; rfl)]) (key _ (by unfold top; rw [if_pos (.inr h5)]))) Iff.rfl
  ·refine Tells.congr (fun k => by rw [if_neg h3]) (Tells.step (f := fun k => spec_validMods.j3 k m i j 0 ((m.length : Int) - 1) s.f0 s.f1 s.f2) (fun k => by simp only [spec_validMods.j2]; rw [if_neg (by simpa using h5), hl]) (key _ (by unfold top; rw [if_neg (fun h => h.elim h3 h5)]))) Iff.rfl
theorem spec_inner (m : List S72) (hm : Small m) (i : Int) (h0 : 0 ≤ i) (hi : i < (m.length : Int)) {R : Prop} (rest : Tells (fun k => spec_validMods.l0 k m (i + 1)) R) (d : Nat) :
  ∀ j : Int, 0 ≤ j → j ≤ ((rX m i).f0.length : Int) → ((rX m i).f0.length : Int) - j = d →
   Tells (fun k => spec_validMods.l1 k m i j) ((∀ s ∈ (rX m i).f0.drop j.toNat, StepP m.length s) ∧ (rX m i).f0.length ≤ 8 ∧ R) := by
 have hx := hm.2 _ (at_mem z72 h0 hi)
 have hlen : ((rX m i).f0.length : Int) ≤ 140737488355328 := by have := hx.1; unfold rX; omega
 induction d with
 | zero =>
  intro j j0 j1 hd
  by_cases h8 : ((rX m i).f0.length : Int) > 8
  ·refine Tells.step (f := fun _ => some false) (fun k => by simp only [spec_validMods.l1]; rw [if_pos h0, if_pos hi, if_neg (by omega), if_pos h8]) (Tells.now ?_)
   simp only [Bool.false_eq_true, false_iff]; exact fun h => by have := h.2.1; omega
  ·refine Tells.step (fun k => by simp only [spec_validMods.l1]; rw [if_pos h0, if_pos hi, if_neg (by omega), if_neg h8, up1 h0 (by have := hm.1; omega)]) (rest.iff ?_)
   rw [List.drop_eq_nil_of_le (by omega)]
   simp only [List.not_mem_nil, false_implies, implies_true, true_and]
   exact ⟨fun h => ⟨by omega, h⟩, fun h => h.2⟩
 | succ d ih =>
  intro j j0 j1 hd
  have hj : j < ((rX m i).f0.length : Int) := by omega
  have hs := hx.2 _ (show rY (rX m i).f0 j ∈ (m.getD i.toNat z72).f0 from at_mem z74 j0 hj)
  have hw : wrap64 (j + 1) = j + 1 := up1 j0 (by omega)
  refine Tells.step (fun k => by simp only [spec_validMods.l1]; rw [if_pos h0, if_pos hi, if_pos hj, if_pos j0]) ((spec_step m i j (rY (rX m i).f0 j) hs hm.1 hw (ih (j + 1) (by omega) (by omega) (by omega))).iff ?_)
  rw [at_cons z74 j0 hj, all_cons]
  exact and_assoc.symm
theorem spec_outer (m : List S72) (hm : Small m) (d : Nat) : ∀ i : Int, 0 ≤ i → i ≤ (m.length : Int) → (m.length : Int) - i = d →
  Tells (fun k => spec_validMods.l0 k m i) ((∀ x ∈ m.drop i.toNat, ModP m.length x) ∧ 1 ≤ m.length ∧ m.length ≤ 6) := by
 induction d with
 | zero =>
  intro i h0 h1 hd
  refine Tells.step (fun k => by simp only [spec_validMods.l0]; rw [if_neg (by omega), bindSome]) ((inRange_tells _ _ _).iff ?_)
  rw [List.drop_eq_nil_of_le (by omega)]
  simp only [List.not_mem_nil, false_implies, implies_true, true_and]
  omega
 | succ d ih =>
  intro i h0 h1 hd
  have hi : i < (m.length : Int) := by omega
  refine Tells.step (fun k => by simp only [spec_validMods.l0]; rw [if_pos hi]) ((spec_inner m hm i h0 hi (ih (i + 1) (by omega) (by omega) (by omega)) _ 0 (by omega) (by omega) (by omega : ((rX m i).f0.length : Int) - 0 = (((rX m i).f0.length : Nat) : Int))).iff ?_)
  rw [at_cons z72 h0 hi, all_cons, show (0 : Int).toNat = 0 from rfl, List.drop_zero]
  unfold ModP
  exact ⟨fun h => ⟨⟨⟨h.1, h.2.1⟩, h.2.2.1⟩, h.2.2.2⟩, fun h => ⟨h.1.1.1, h.1.1.2, h.1.2, h.2⟩⟩
theorem validMods_tells (m : List S72) (hm : Small m) : Tells (fun k => spec_validMods.f k m) (ModsP m) := by
 have h := spec_outer m hm m.length 0 (by omega) (by omega) (by omega)
 rw [show (0 : Int).toNat = 0 from rfl, List.drop_zero] at h
 exact h
def StepQ (n : Nat) (s : S74) : Prop := (Named s → NameP s.f2) ∧ (¬ Named s → s.f2.toList = []) ∧ (0 ≤ s.f1 ∧ s.f1 ≤ (if s.f0 = 1 ∨ s.f0 = 2 ∨ s.f0 = 4 then (n : Int) - 1 else if s.f0 = 3 ∨ s.f0 = 5 then 1000000 else -1))
theorem step_same (n : Nat) (s : S74) : StepQ n s ↔ StepP n s := by
 unfold StepQ StepP top
 constructor
 ·rintro ⟨h1, h2, h3⟩
  refine ⟨?_, ?_, ⟨fun h => toList_nil (h1 h), fun h => Classical.not_not.1 (fun hn => h (h2 hn))⟩, h1⟩
  ·split at h3
   ·omega
   ·split at h3 <;> omega
  ·split at h3
   ·rw [if_neg (by omega)]; exact h3
   ·split at h3
    ·rw [if_pos (by omega)]; exact h3
    ·omega
 ·rintro ⟨h1, h2, h3, h4⟩
  refine ⟨h4, fun hn => Classical.not_not.1 (fun h => hn (h3.2 h)), ?_⟩
  split at h2
  ·rw [if_neg (by omega), if_pos (by omega)]; exact h2
  ·rw [if_pos (by omega)]; exact h2
theorem impl_j5 (m x9 : List S72) (x10 i : Int) (x20 : List S74) (x21 j : Int) (b : Bool) (s : S74) {R : Prop} (hw : wrap64 (j + 1) = j + 1) (rest : Tells (fun k => impl_ModsOk.l1 k m x9 x10 i x20 x21 (j + 1)) R) :
  Tells (fun k => impl_ModsOk.j5 k m (-1) x9 x10 i x20 x21 j b s.f0 s.f1 s.f2) ((0 ≤ s.f1 ∧ s.f1 ≤ (if b = true then 1000000 else -1)) ∧ R) := by
 cases b with
 | true =>
  refine Tells.step (f := fun k => (impl_within.f s.f1 0 1000000).bind fun t232 => (if t232 = true then (impl_ModsOk.l1 k m x9 x10 i x20 x21 (j + 1)) else (some false))) (fun k => by simp only [impl_ModsOk.j5, hw]; exact if_pos trivial) (Tells.ask (f := fun k t232 => (if t232 = true then (impl_ModsOk.l1 k m x9 x10 i x20 x21 (j + 1)) else (some false))) (within_tells _ _ _) (fun h => ?_) (fun h => ?_))
  ·exact Tells.congr (fun k => by rw [if_pos rfl]) rest ⟨fun r => ⟨by rw [if_pos rfl]; exact h, r⟩, fun r => r.2⟩
  ·exact Tells.congr (f := fun _ => some false) (fun k => by rw [if_neg (by decide)]) (Tells.now (by simp only [Bool.false_eq_true, false_iff]; exact fun r => h (by have := r.1; rw [if_pos trivial] at this; exact this))) Iff.rfl
 | false =>
  refine Tells.step (f := fun k => (impl_within.f s.f1 0 (-1)).bind fun t232 => (if t232 = true then (impl_ModsOk.l1 k m x9 x10 i x20 x21 (j + 1)) else (some false))) (fun k => by simp only [impl_ModsOk.j5, hw]; exact if_neg (by decide)) (Tells.ask (f := fun k t232 => (if t232 = true then (impl_ModsOk.l1 k m x9 x10 i x20 x21 (j + 1)) else (some false))) (within_tells _ _ _) (fun h => ?_) (fun h => ?_))
  ·exact Tells.congr (fun k => by rw [if_pos rfl]) rest ⟨fun r => ⟨by rw [if_neg (by decide)]; exact h, r⟩, fun r => r.2⟩
  ·exact Tells.congr (f := fun _ => some false) (fun k => by rw [if_neg (by decide)]) (Tells.now (by simp only [Bool.false_eq_true, false_iff]; exact fun r => h (by have := r.1; rw [if_neg (by decide)] at this; exact this))) Iff.rfl
theorem impl_j4 (m x9 : List S72) (x10 i : Int) (x20 : List S74) (x21 j : Int) (b : Bool) (s : S74) (hm : m.length ≤ 140737488355328) {R : Prop} (hw : wrap64 (j + 1) = j + 1) (rest : Tells (fun k => impl_ModsOk.l1 k m x9 x10 i x20 x21 (j + 1)) R) :
  Tells (fun k => impl_ModsOk.j4 k m (-1) x9 x10 i x20 x21 j s.f0 b s.f0 s.f1 s.f2) ((0 ≤ s.f1 ∧ s.f1 ≤ (if b = true then (m.length : Int) - 1 else if s.f0 = 3 ∨ s.f0 = 5 then 1000000 else -1)) ∧ R) := by
 have hl : wrap64 ((m.length : Int) - 1) = (m.length : Int) - 1 := by unfold wrap64; omega
 cases b with
 | true =>
  refine Tells.step (f := fun k => (impl_within.f s.f1 0 ((m.length : Int) - 1)).bind fun t232 => (if t232 = true then (impl_ModsOk.l1 k m x9 x10 i x20 x21 (j + 1)) else (some false))) (fun k => by simp only [impl_ModsOk.j4, hw, hl]; exact if_pos trivial) (Tells.ask (f := fun k t232 => (if t232 = true then (impl_ModsOk.l1 k m x9 x10 i x20 x21 (j + 1)) else (some false))) (within_tells _ _ _) (fun h => ?_) (fun h => ?_))
  ·exact Tells.congr (fun k => by rw [if_pos rfl]) rest ⟨fun r => ⟨by rw [if_pos rfl]; exact h, r⟩, fun r => r.2⟩
  ·exact Tells.congr (f := fun _ => some false) (fun k => by rw [if_neg (by decide)]) (Tells.now (by simp only [Bool.false_eq_true, false_iff]; exact fun r => h (by have := r.1; rw [if_pos trivial] at this; exact this))) Iff.rfl
 | false =>
  by_cases h3 : s.f0 = 3
  ·refine Tells.step (f := fun k => impl_ModsOk.j5 k m (-1) x9 x10 i x20 x21 j (s.f0 == 3) s.f0 s.f1 s.f2) (fun k => by simp only [impl_ModsOk.j4]; rw [if_neg (by decide), if_pos h3]) ((impl_j5 m x9 x10 i x20 x21 j _ s hw rest).iff ?_)
   rw [if_pos (by rw [h3]; rfl), if_neg (by decide), if_pos (.inl h3)]
  ·refine Tells.step (f := fun k => impl_ModsOk.j5 k m (-1) x9 x10 i x20 x21 j (s.f0 == 5) s.f0 s.f1 s.f2) (fun k => by simp only [impl_ModsOk.j4]; rw [if_neg (by decide), if_neg h3]) ((impl_j5 m x9 x10 i x20 x21 j _ s hw rest).iff ?_)
   by_cases h5 : s.f0 = 5
   ·rw [if_pos (by rw [h5]; rfl), if_neg (by decide), if_pos (.inr h5)]
   ·rw [if_neg (by simpa using h5), if_neg (by decide), if_neg (fun h => h.elim h3 h5)]
theorem impl_j3 (m x9 : List S72) (x10 i : Int) (x20 : List S74) (x21 j : Int) (b : Bool) (s : S74) (hm : m.length ≤ 140737488355328) {R : Prop} (hw : wrap64 (j + 1) = j + 1) (rest : Tells (fun k => impl_ModsOk.l1 k m x9 x10 i x20 x21 (j + 1)) R) :
  Tells (fun k => impl_ModsOk.j3 k m x9 x10 i x20 x21 j b s.f0 s.f1 s.f2) ((b = false ∧ (0 ≤ s.f1 ∧ s.f1 ≤ (if s.f0 = 1 ∨ s.f0 = 2 ∨ s.f0 = 4 then (m.length : Int) - 1 else if s.f0 = 3 ∨ s.f0 = 5 then 1000000 else -1))) ∧ R) := by
 cases b with
 | true =>
  refine Tells.step (f := fun _ => some false) (fun k => by simp only [impl_ModsOk.j3]; exact if_pos trivial) (Tells.now ?_)
  simp
 | false =>
  have go : ∀ c : Bool, (c = true ↔ s.f0 = 1 ∨ s.f0 = 2 ∨ s.f0 = 4) → Tells (fun k => impl_ModsOk.j4 k m (-1) x9 x10 i x20 x21 j s.f0 c s.f0 s.f1 s.f2) ((false = false ∧ (0 ≤ s.f1 ∧ s.f1 ≤ (if s.f0 = 1 ∨ s.f0 = 2 ∨ s.f0 = 4 then (m.length : Int) - 1 else if s.f0 = 3 ∨ s.f0 = 5 then 1000000 else -1))) ∧ R) := by
   intro c hc
   refine (impl_j4 m x9 x10 i x20 x21 j c s hm hw rest).iff ?_
   by_cases h : c = true
   ·rw [if_pos h, if_pos (hc.1 h)]; simp
   ·rw [if_neg h, if_neg (fun h2 => h (hc.2 h2))]; simp
  by_cases h1 : s.f0 = 1
  ·exact Tells.step (fun k => by simp only [impl_ModsOk.j3]; rw [if_neg (by decide), if_pos h1]) (go (s.f0 == 1) (by rw [beq_iff_eq]; omega))
  ·by_cases h2 : s.f0 = 2
   ·exact Tells.step (fun k => by simp only [impl_ModsOk.j3]; rw [if_neg (by decide), if_neg h1, if_pos h2]) (go (s.f0 == 2) (by rw [beq_iff_eq]; omega))
   ·exact Tells.step (fun k => by simp only [impl_ModsOk.j3]; rw [if_neg (by decide), if_neg h1, if_neg h2]) (go (s.f0 == 4) (by rw [beq_iff_eq]; omega))
theorem impl_step (m x9 : List S72) (x10 i : Int) (x20 : List S74) (x21 j : Int) (s : S74) (hs : s.f2.size ≤ 140737488355328) (hm : m.length ≤ 140737488355328) {R : Prop} (hw : wrap64 (j + 1) = j + 1) (rest : Tells (fun k => impl_ModsOk.l1 k m x9 x10 i x20 x21 (j + 1)) R) :
  Tells (fun k => if s.f0 = 3 then (impl_ModsOk.j2 k m true x9 x10 i x20 x21 j s.f0 s.f1 s.f2) else (impl_ModsOk.j2 k m (s.f0 == 4) x9 x10 i x20 x21 j s.f0 s.f1 s.f2)) (StepP m.length s ∧ R) := by
 have key : ∀ c : Bool, (c = true ↔ Named s) → Tells (fun k => impl_ModsOk.j2 k m c x9 x10 i x20 x21 j s.f0 s.f1 s.f2) (StepP m.length s ∧ R) := by
  intro c hc
  cases c with
  | true =>
   have hn : Named s := hc.1 rfl
   refine Tells.step (f := fun k => ((impl_NameOk.f k s.f2).bind fun t230 => (if t230 = true then (impl_ModsOk.j3 k m x9 x10 i x20 x21 j false s.f0 s.f1 s.f2) else (impl_ModsOk.j3 k m x9 x10 i x20 x21 j true s.f0 s.f1 s.f2)))) (fun k => by simp only [impl_ModsOk.j2]; exact if_pos trivial) (Tells.ask (f := fun k t230 => (if t230 = true then (impl_ModsOk.j3 k m x9 x10 i x20 x21 j false s.f0 s.f1 s.f2) else (impl_ModsOk.j3 k m x9 x10 i x20 x21 j true s.f0 s.f1 s.f2))) (nameOk_tells s.f2 hs) (fun h => ?_) (fun h => ?_))
   ·refine Tells.congr (fun k => by rw [if_pos rfl]) (impl_j3 m x9 x10 i x20 x21 j false s hm hw rest) ?_
    rw [← step_same]; unfold StepQ
    exact ⟨fun r => ⟨⟨fun _ => h, fun h2 => absurd hn h2, r.1.2⟩, r.2⟩, fun r => ⟨⟨rfl, r.1.2.2⟩, r.2⟩⟩
   ·refine Tells.congr (fun k => by rw [if_neg (by decide)]) (impl_j3 m x9 x10 i x20 x21 j true s hm hw rest) ?_
    rw [← step_same]; unfold StepQ
    exact ⟨(fun r => absurd r.1.1 (by decide)), fun r => absurd (r.1.1 hn) h⟩
  | false =>
   have hn : ¬ Named s := fun h => by have := hc.2 h; cases this
   refine Tells.step (f := fun k => impl_ModsOk.j3 k m x9 x10 i x20 x21 j (s.f2.toList != ([] : List UInt8)) s.f0 s.f1 s.f2) (fun k => by simp only [impl_ModsOk.j2]; exact if_neg (by decide)) ((impl_j3 m x9 x10 i x20 x21 j _ s hm hw rest).iff ?_)
   rw [← step_same]; unfold StepQ
   have hb : (s.f2.toList != ([] : List UInt8)) = false ↔ s.f2.toList = [] := by simp
   rw [hb]
   exact ⟨fun r => ⟨⟨fun h2 => absurd h2 hn, fun _ => r.1.1, r.1.2⟩, r.2⟩, fun r => ⟨⟨r.1.2.1 hn, r.1.2.2⟩, r.2⟩⟩
 by_cases h3 : s.f0 = 3
 ·exact Tells.congr (fun k => by rw [if_pos h3]) (key true (by simp [Named, h3])) Iff.rfl
 ·exact Tells.congr (fun k => by rw [if_neg h3]) (key (s.f0 == 4) (by simp [Named, h3])) Iff.rfl
theorem impl_inner (m : List S72) (hm : Small m) (i : Int) (h0 : 0 ≤ i) (hi : i < (m.length : Int)) {R : Prop} (rest : Tells (fun k => impl_ModsOk.l0 k m m (m.length : Int) (i + 1)) R) (d : Nat) :
  ∀ j : Int, 0 ≤ j → j ≤ ((rX m i).f0.length : Int) → ((rX m i).f0.length : Int) - j = d →
   Tells (fun k => impl_ModsOk.l1 k m m (m.length : Int) i (rX m i).f0 ((rX m i).f0.length : Int) j) ((∀ s ∈ (rX m i).f0.drop j.toNat, StepP m.length s) ∧ R) := by
 have hx := hm.2 _ (at_mem z72 h0 hi)
 have hlen : ((rX m i).f0.length : Int) ≤ 140737488355328 := by have := hx.1; unfold rX; omega
 induction d with
 | zero =>
  intro j j0 j1 hd
  refine Tells.step (fun k => by simp only [impl_ModsOk.l1]; rw [if_neg (by omega), up1 h0 (by have := hm.1; omega)]) (rest.iff ?_)
  rw [List.drop_eq_nil_of_le (by omega)]
  simp
 | succ d ih =>
  intro j j0 j1 hd
  have hj : j < ((rX m i).f0.length : Int) := by omega
  have hs := hx.2 _ (show rY (rX m i).f0 j ∈ (m.getD i.toNat z72).f0 from at_mem z74 j0 hj)
  have hw : wrap64 (j + 1) = j + 1 := up1 j0 (by omega)
  refine Tells.step (fun k => by simp only [impl_ModsOk.l1]; rw [if_pos hj, if_pos j0, if_pos hj]) ((impl_step m m (m.length : Int) i (rX m i).f0 ((rX m i).f0.length : Int) j (rY (rX m i).f0 j) hs hm.1 hw (ih (j + 1) (by omega) (by omega) (by omega))).iff ?_)
  rw [at_cons z74 j0 hj, all_cons]
  exact and_assoc.symm
theorem impl_outer (m : List S72) (hm : Small m) (d : Nat) : ∀ i : Int, 0 ≤ i → i ≤ (m.length : Int) → (m.length : Int) - i = d →
  Tells (fun k => impl_ModsOk.l0 k m m (m.length : Int) i) ((∀ x ∈ m.drop i.toNat, ModP m.length x) ∧ 1 ≤ m.length ∧ m.length ≤ 6) := by
 induction d with
 | zero =>
  intro i h0 h1 hd
  refine Tells.step (fun k => by simp only [impl_ModsOk.l0]; rw [if_neg (by omega), bindSome]) ((within_tells _ _ _).iff ?_)
  rw [List.drop_eq_nil_of_le (by omega)]
  simp only [List.not_mem_nil, false_implies, implies_true, true_and]
  omega
 | succ d ih =>
  intro i h0 h1 hd
  have hi : i < (m.length : Int) := by omega
  by_cases h8 : ((rX m i).f0.length : Int) > 8
  ·refine Tells.step (f := fun _ => some false) (fun k => by simp only [impl_ModsOk.l0]; rw [if_pos hi, if_pos h0, if_pos hi, if_pos h8]) (Tells.now ?_)
   simp only [Bool.false_eq_true, false_iff]
   rw [at_cons z72 h0 hi, all_cons]
   exact fun h => by have := h.1.1.2; unfold rX at h8; omega
  ·refine Tells.step (fun k => by simp only [impl_ModsOk.l0]; rw [if_pos hi, if_pos h0, if_pos hi, if_neg h8]) ((impl_inner m hm i h0 hi (ih (i + 1) (by omega) (by omega) (by omega)) _ 0 (by omega) (by omega) (by omega : ((rX m i).f0.length : Int) - 0 = (((rX m i).f0.length : Nat) : Int))).iff ?_)
   rw [at_cons z72 h0 hi, all_cons, show (0 : Int).toNat = 0 from rfl, List.drop_zero]
   unfold ModP
   exact ⟨fun h => ⟨⟨⟨h.1, by unfold rX at h8; omega⟩, h.2.1⟩, h.2.2⟩, fun h => ⟨h.1.1.1, h.1.2, h.2⟩⟩
theorem modsOk_tells (m : List S72) (hm : Small m) : Tells (fun k => impl_ModsOk.f k m) (ModsP m) := by
 have h := impl_outer m hm m.length 0 (by omega) (by omega) (by omega)
 rw [show (0 : Int).toNat = 0 from rfl, List.drop_zero] at h
 exact h
end Go.Proofs.Ytehhhlhedmfdiaa.PFnImportOrder
end
section
namespace Go.Proofs.Ytehhhlhedmfdiaa.PFnImportOrder
open Go.RowKit Go.Proofs.Yz0.PrintWords Go.Proofs.Yz0.PrintLast Go.Proofs.Yz0.PrintMore
set_option linter.unusedVariables false
def sel (l : List S74) : List Int := (l.filter fun s => s.f0 == 1 || s.f0 == 2).map (·.f1)
def edges (m : List S72) : List (List Int) := m.map fun x => sel x.f0
theorem sel_cons (s : S74) (l : List S74) : sel (s :: l) = (if s.f0 = 1 ∨ s.f0 = 2 then [s.f1] else []) ++ sel l := by
 unfold sel
 by_cases h : s.f0 = 1 ∨ s.f0 = 2
 ·have : (s.f0 == 1 || s.f0 == 2) = true := by simpa using h
  rw [if_pos h, List.filter_cons, if_pos this]; rfl
 ·have : ¬ (s.f0 == 1 || s.f0 == 2) = true := by simpa using h
  rw [if_neg h, List.filter_cons, if_neg this]; rfl
theorem sel_len (l : List S74) : (sel l).length ≤ l.length := by
 unfold sel; rw [List.length_map]; exact List.length_filter_le _ _
theorem set_mid {α : Type} (a : List α) (b : α) (n : Nat) (v : α) : (a ++ List.replicate (n + 1) b).set a.length v = (a ++ [v]) ++ List.replicate n b := by
 rw [List.set_append_right _ _ (Nat.le_refl _), Nat.sub_self, List.replicate_succ, List.set_cons_zero, List.append_assoc]; rfl
theorem get_mid {α : Type} (a : List α) (b z : α) (n : Nat) : (a ++ List.replicate (n + 1) b).getD a.length z = b := by
 rw [List.getD_eq_getElem?_getD, List.getElem?_append_right (Nat.le_refl _), Nat.sub_self, List.replicate_succ]; rfl
theorem rows_set (x3 : List (List Int)) (i : Int) (h0 : 0 ≤ i) (hi : i < (x3.length : Int)) (v : List Int) : rd_L6 (x3.set i.toNat v) i = v := by
 unfold rd_L6
 rw [List.getD_eq_getElem?_getD, List.getElem?_set_self (by omega)]; rfl
theorem imports_inner (m : List S72) (hm : m.length ≤ 6) (i : Int) (h0 : 0 ≤ i) (hi : i < (m.length : Int)) (h8 : (rX m i).f0.length ≤ 8) {r : List (List Int)} (d : Nat) :
  ∀ (x3 : List (List Int)) (j : Int), x3.length = m.length → 0 ≤ j → j ≤ ((rX m i).f0.length : Int) → ((rX m i).f0.length : Int) - j = d → (rd_L6 x3 i).length ≤ j.toNat →
   Ev (fun k => impl_importsOf.l0 k (x3.set i.toNat (rd_L6 x3 i ++ sel ((rX m i).f0.drop j.toNat))) m (m.length : Int) (i + 1)) r → Ev (fun k => impl_importsOf.l1 k x3 i m (m.length : Int) i (rX m i).f0 ((rX m i).f0.length : Int) j) r := by
 induction d with
 | zero =>
  intro x3 j hx j0 j1 hd hr he
  rw [List.drop_eq_nil_of_le (by omega)] at he
  have e : x3.set i.toNat (rd_L6 x3 i ++ sel []) = x3 := by
   simp only [sel, List.filter_nil, List.map_nil, List.append_nil]
   unfold rd_L6
   rw [List.getD_eq_getElem?_getD, List.getElem?_eq_getElem (by omega)]
   exact List.set_getElem_self _
  rw [e] at he
  refine Ev.step (fun k => ?_) he
  simp only [impl_importsOf.l1]
  rw [if_neg (by omega), up1 h0 (by omega)]
 | succ d ih =>
  intro x3 j hx j0 j1 hd hr he
  have hj : j < ((rX m i).f0.length : Int) := by omega
  have hw : wrap64 (j + 1) = j + 1 := up1 j0 (by omega)
  have hi3 : i < (x3.length : Int) := by omega
  rw [at_cons z74 j0 hj, sel_cons, ← List.append_assoc] at he
  change Ev (fun k => impl_importsOf.l0 k (x3.set i.toNat (rd_L6 x3 i ++ (if (rY (rX m i).f0 j).f0 = 1 ∨ (rY (rX m i).f0 j).f0 = 2 then [(rY (rX m i).f0 j).f1] else []) ++ sel ((rX m i).f0.drop (j + 1).toNat))) m (m.length : Int) (i + 1)) r at he
  have more : ((rY (rX m i).f0 j).f0 = 1 ∨ (rY (rX m i).f0 j).f0 = 2) → Ev (fun k => impl_importsOf.l1 k (x3.set i.toNat (rd_L6 x3 i ++ [(rY (rX m i).f0 j).f1])) i m (m.length : Int) i (rX m i).f0 ((rX m i).f0.length : Int) (j + 1)) r := by
   intro h
   rw [if_pos h] at he
   refine ih _ (j + 1) (by rw [List.length_set]; exact hx) (by omega) (by omega) (by omega) (by rw [rows_set _ _ h0 hi3, List.length_append, List.length_singleton]; omega) ?_
   rw [rows_set _ _ h0 hi3, List.set_set]
   exact he
  by_cases k1 : (rY (rX m i).f0 j).f0 = 1
  ·refine Ev.step (fun k => ?_) (more (.inl k1))
   simp only [impl_importsOf.l1]
   rw [if_pos hj, if_pos j0, if_pos hj, if_pos k1, if_pos h0, if_pos hi3, if_pos (by omega), hw]
  ·by_cases k2 : (rY (rX m i).f0 j).f0 = 2
   ·refine Ev.step (fun k => ?_) (more (.inr k2))
    simp only [impl_importsOf.l1]
    rw [if_pos hj, if_pos j0, if_pos hj, if_neg k1, if_pos k2, if_pos h0, if_pos hi3, if_pos (by omega), hw]
   ·rw [if_neg (fun h => h.elim k1 k2), List.append_nil] at he
    refine Ev.step (fun k => ?_) (ih _ (j + 1) hx (by omega) (by omega) (by omega) (by omega) he)
    simp only [impl_importsOf.l1]
    rw [if_pos hj, if_pos j0, if_pos hj, if_neg k1, if_neg k2, hw]
theorem imports_outer (m : List S72) (hm : m.length ≤ 6) (h8 : ∀ x ∈ m, x.f0.length ≤ 8) (d : Nat) : ∀ (i : Int), 0 ≤ i → i ≤ (m.length : Int) → (m.length : Int) - i = d →
  Ev (fun k => impl_importsOf.l0 k (edges (m.take i.toNat) ++ List.replicate d []) m (m.length : Int) i) (edges m) := by
 induction d with
 | zero =>
  intro i h0 h1 hd
  refine Ev.step (f := fun _ => some (edges m)) (fun k => ?_) (Ev.now _)
  simp only [impl_importsOf.l0]
  rw [if_neg (by omega), List.take_of_length_le (by omega)]
  simp
 | succ d ih =>
  intro i h0 h1 hd
  have hi : i < (m.length : Int) := by omega
  have hx := h8 _ (at_mem z72 h0 hi)
  have hlen : (edges (m.take i.toNat)).length = i.toNat := by unfold edges; rw [List.length_map, List.length_take]; omega
  have hrow : rd_L6 (edges (m.take i.toNat) ++ List.replicate (d + 1) []) i = [] := by
   have := get_mid (edges (m.take i.toNat)) ([] : List Int) [] d
   rw [hlen] at this
   exact this
  have := ih (i + 1) (by omega) (by omega) (by omega)
  have et : edges (m.take (i + 1).toNat) = edges (m.take i.toNat) ++ [sel (rX m i).f0] := by
   have hl : i.toNat < m.length := by omega
   rw [show (i + 1).toNat = i.toNat + 1 from by omega, List.take_succ_eq_append_getElem hl]
   unfold edges rX
   rw [List.map_append, List.getD_eq_getElem?_getD, List.getElem?_eq_getElem hl]; rfl
  rw [et] at this
  refine Ev.step (f := fun k => impl_importsOf.l1 k (edges (m.take i.toNat) ++ List.replicate (d + 1) []) i m (m.length : Int) i (rX m i).f0 ((rX m i).f0.length : Int) 0) (fun k => by simp only [impl_importsOf.l0]; rw [if_pos hi, if_pos h0, if_pos hi])
   (imports_inner m hm i h0 hi hx _ _ 0 (by rw [List.length_append, hlen, List.length_replicate]; omega) (by omega) (by omega) (by omega : ((rX m i).f0.length : Int) - 0 = (((rX m i).f0.length : Nat) : Int)) (by rw [hrow]; simp) ?_)
  rw [hrow, show (0 : Int).toNat = 0 from rfl, List.drop_zero, List.nil_append]
  have hs := set_mid (edges (m.take i.toNat)) ([] : List Int) d (sel (rX m i).f0)
  rw [hlen] at hs
  rw [hs]
  exact this
theorem importsOf_ev (m : List S72) (hm : m.length ≤ 6) (h8 : ∀ x ∈ m, x.f0.length ≤ 8) : Ev (fun k => impl_importsOf.f k m) (edges m) := by
 have h := imports_outer m hm h8 m.length 0 (by omega) (by omega) (by omega)
 rw [show (0 : Int).toNat = 0 from rfl, List.take_zero] at h
 refine Ev.congr (fun k => ?_) h
 unfold impl_importsOf.f
 rw [if_pos (by omega), if_pos (by omega), Int.toNat_natCast]
 rfl
end Go.Proofs.Ytehhhlhedmfdiaa.PFnImportOrder
end
section
namespace Go.Proofs.Ytehhhlhedmfdiaa.Plain
def outs (refs : List (List Int)) (v : Int) : List Int := refs.getD v.toNat []
def Reach (refs : List (List Int)) (roots : List Int) (v : Int) : Prop :=
 ∀ S : Int → Prop, (∀ r ∈ roots, S r) → (∀ a b, S a → b ∈ outs refs a → S b) → S v
theorem Reach.root {refs : List (List Int)} {roots : List Int} {v : Int} (h : v ∈ roots) : Reach refs roots v := fun _ hr _ => hr v h
theorem Reach.step {refs : List (List Int)} {roots : List Int} {v w : Int} (h : Reach refs roots v) (hw : w ∈ outs refs v) : Reach refs roots w :=
 fun S hr hs => hs v w (h S hr hs) hw
def InR (n : Nat) (v : Int) : Prop := 0 ≤ v ∧ v < n
def Graph (refs : List (List Int)) : Prop := ∀ l ∈ refs, ∀ v ∈ l, InR refs.length v
def AllIn (n : Nat) (l : List Int) : Prop := ∀ v ∈ l, InR n v
theorem outs_in {refs : List (List Int)} (hg : Graph refs) {a b : Int} (h : b ∈ outs refs a) : InR refs.length b := by
 unfold outs at h
 rw [List.getD_eq_getElem?_getD] at h
 cases he : refs[a.toNat]? with
 | none => rw [he] at h; simp at h
 | some l => rw [he] at h; exact hg l (List.mem_of_getElem? he) b (by simpa using h)
def mkd (seen : List Bool) (v : Int) : Bool := seen.getD v.toNat false
theorem mkd_set {seen : List Bool} {u v : Int} (hu : InR seen.length u) (hv : 0 ≤ v) : mkd (seen.set u.toNat true) v = (if v = u then true else mkd seen v) := by
 unfold mkd InR at *
 rw [List.getD_eq_getElem?_getD, List.getD_eq_getElem?_getD, List.getElem?_set]
 by_cases h : v = u
 ·subst h
  rw [if_pos rfl, if_pos (by omega), if_pos rfl]; rfl
 ·rw [if_neg (by omega), if_neg h]
structure Work (refs : List (List Int)) (roots : List Int) (seen : List Bool) (todo : List Int) : Prop where
 len : seen.length = refs.length
 ok : AllIn refs.length todo
 sound : ∀ v, mkd seen v = true → 0 ≤ v → Reach refs roots v
 waits : ∀ v ∈ todo, Reach refs roots v
 root : ∀ r ∈ roots, mkd seen r = true ∨ r ∈ todo
 closed : ∀ v, 0 ≤ v → mkd seen v = true → ∀ w ∈ outs refs v, mkd seen w = true ∨ w ∈ todo
theorem mkd_nil (n : Nat) (v : Int) : mkd (List.replicate n false) v = false := by
 unfold mkd
 rw [List.getD_eq_getElem?_getD, List.getElem?_replicate]
 split <;> rfl
theorem Work.start {refs : List (List Int)} {roots : List Int} (hr : AllIn refs.length roots) : Work refs roots (List.replicate refs.length false) roots :=
 ⟨by simp, hr, (fun v h => absurd h (by rw [mkd_nil]; decide)), (fun v h => Reach.root h), (fun r h => .inr h), (fun v _ h => absurd h (by rw [mkd_nil]; decide))⟩
theorem Work.drop {refs : List (List Int)} {roots : List Int} {seen : List Bool} {todo todo' : List Int} {v : Int} (h : Work refs roots seen todo) (hm : mkd seen v = true)
    (h1 : ∀ x ∈ todo', x ∈ todo) (h2 : ∀ x ∈ todo, x = v ∨ x ∈ todo') : Work refs roots seen todo' :=
  ⟨h.len, fun x hx => h.ok x (h1 x hx), h.sound, fun x hx => h.waits x (h1 x hx),
   fun r hr => (h.root r hr).elim .inl (fun hx => (h2 r hx).elim (fun e => .inl (by rw [e]; exact hm)) .inr),
   fun a ha hma w hw => (h.closed a ha hma w hw).elim .inl (fun hx => (h2 w hx).elim (fun e => .inl (by rw [e]; exact hm)) .inr)⟩
theorem Work.take {refs : List (List Int)} {roots : List Int} {seen : List Bool} {todo todo' : List Int} {v : Int} (hg : Graph refs) (h : Work refs roots seen todo) (hv : v ∈ todo)
  (h1 : ∀ x ∈ todo', x ∈ todo ∨ x ∈ outs refs v) (h2 : ∀ x ∈ todo, x = v ∨ x ∈ todo') (h3 : ∀ x ∈ outs refs v, x ∈ todo') : Work refs roots (seen.set v.toNat true) todo' := by
 have hi : InR seen.length v := by rw [h.len]; exact h.ok v hv
 have hmv : mkd (seen.set v.toNat true) v = true := by rw [mkd_set hi hi.1, if_pos rfl]
 have up : ∀ w, 0 ≤ w → mkd seen w = true → mkd (seen.set v.toNat true) w = true := fun w hw hm => by
  rw [mkd_set hi hw]; split
  ·rfl
  ·exact hm
 have nn : ∀ w ∈ todo, 0 ≤ w := fun w hw => (h.ok w hw).1
 refine ⟨by rw [List.length_set]; exact h.len, fun x hx => (h1 x hx).elim (h.ok x) (fun ho => outs_in hg ho), fun w hm hw => ?_, fun x hx => (h1 x hx).elim (h.waits x) (fun ho => (h.waits v hv).step ho), fun r hr => ?_, fun a ha hma w hw => ?_⟩
 ·rw [mkd_set hi hw] at hm
  by_cases e : w = v
  ·rw [e]; exact h.waits v hv
  ·rw [if_neg e] at hm; exact h.sound w hm hw
 ·by_cases e : r = v
  ·rw [e]; exact .inl hmv
  ·rcases h.root r hr with hm | hx
   ·by_cases h0 : 0 ≤ r
    ·exact .inl (up r h0 hm)
    ·refine .inl ?_
     have : r.toNat = 0 := by omega
     unfold mkd at hm ⊢
     rw [this] at hm ⊢
     rw [List.getD_eq_getElem?_getD] at hm ⊢
     rw [List.getElem?_set]
     split
     ·split
      ·rfl
      ·rename_i h5 h6; rw [List.getElem?_eq_none (by omega)] at hm; exact hm
     ·exact hm
   ·exact .inr ((h2 r hx).resolve_left e)
 ·have hw0 : 0 ≤ w := (outs_in hg hw).1
  rw [mkd_set hi ha] at hma
  by_cases e : a = v
  ·subst e; exact .inr (h3 w hw)
  ·rw [if_neg e] at hma
   rcases h.closed a ha hma w hw with hm | hx
   ·exact .inl (up w hw0 hm)
   ·rcases h2 w hx with e2 | hx2
    ·rw [e2]; exact .inl hmv
    ·exact .inr hx2
theorem Work.done {refs : List (List Int)} {roots : List Int} {seen : List Bool} (hr : AllIn refs.length roots) (hg : Graph refs) (h : Work refs roots seen []) (v : Int) (hv : 0 ≤ v) : mkd seen v = true ↔ Reach refs roots v := by
 refine ⟨fun hm => h.sound v hm hv, fun hR => ?_⟩
 have := hR (fun x => 0 ≤ x ∧ mkd seen x = true) (fun r hr' => ⟨(hr r hr').1, (h.root r hr').elim id (fun hx => by cases hx)⟩)
  (fun a b ha hb => ⟨(outs_in hg hb).1, (h.closed a ha.1 ha.2 b hb).elim id (fun hx => by cases hx)⟩)
 exact this.2
def nblank (seen : List Bool) : Nat := (seen.filter (fun b => !b)).length
theorem blank_set {seen : List Bool} {i : Nat} (hi : i < seen.length) (hm : seen.getD i false = false) : nblank (seen.set i true) + 1 = nblank seen := by
 unfold nblank
 induction seen generalizing i with
 | nil => simp at hi
 | cons b l ih =>
  cases i with
  | zero => simp at hm; subst hm; simp
  | succ i =>
   have := ih (i := i) (by simpa using hi) (by simpa using hm)
   simp only [List.set_cons_succ, List.filter_cons]
   cases b
   ·simp only [Bool.not_false, if_true, List.length_cons]; omega
   ·simpa using this
theorem blank_nil (n : Nat) : nblank (List.replicate n false) = n := by
 unfold nblank; simp
end Go.Proofs.Ytehhhlhedmfdiaa.Plain
end
