/- FnImportOrder holds of every input: without circles and failures each module that a whole module imports stands ahead of it; no condition. Part 4 of 7: what the proof needs. -/
import Derived.Test.YtehhhlhedmfdiaaZzImportOrder3
import Derived.Maps.OwnSet
import Derived.StringKeys
import Derived.WalkArith
import Derived.Lib.Strings
set_option maxHeartbeats 8000000
set_option maxRecDepth 100000
section
namespace Go.Proofs.Ytehhhlhedmfdiaa.PFnImportOrder
open Go.RowKit Go.Proofs.Yz0.PrintWords Go.Proofs.Yz0.PrintLast Go.Proofs.Yz0.PrintMore
attribute [local go_sem] max2_int min2_int max_two min_two max_three min_three max_four min_four
set_option linter.unusedVariables false
set_option linter.unusedSimpArgs false
def impl_ImportNeeds.j0 : Nat → List (S72) → Int → Bool → Option (List Int)
 | 0, _, _, _ => none
 | k + 1, x0, x1, x17 => if x17 = true then (some ([] : List Int)) else ((impl_importsOf.f k x0).bind fun t303 => ((impl_reached.f k t303 (([x1] : List Int))).bind fun t309 => ((impl_marked.f k t309 true).bind fun t312 => (some t312))))
def impl_ImportNeeds.f (k : Nat) (l0 : List (S72)) (a1 : Int) : Option (List Int) := (impl_ModsOk.f k l0).bind fun t302 => (if t302 = true then (if a1 < 0 then (impl_ImportNeeds.j0 k l0 a1 true) else (impl_ImportNeeds.j0 k l0 a1 (decide (a1 ≥ (l0.length : Int))))) else (impl_ImportNeeds.j0 k l0 a1 true))
theorem impl_ImportNeeds.calls (k : Nat) (A0 : Option Addr) (c0 : Nat) (l0 : List (S72)) (a1 : Int) (r : List Int) (w : World) (hr0 : Kd.C k72 w A0 l0.length l0) (hc0 : l0.length ≤ c0) (h : impl_ImportNeeds.f k l0 a1 = some r) :
  Calls Try.prog 17 #[.slice A0 l0.length c0, .int .i64 a1] w fun e w' => ∃ v0_ : Value, e = .returned (v0_) ∧ Kd.R (Kd.int .i64) 3 w' w.heap.size (fun _ => True) v0_ r ∧ Below w.heap.size w w' := by
 have HR0 := Az.mk hr0
 have HC0 := Az.mk hc0
 clear hr0 hc0
 have HB := Az.mk (Below.refl w.heap.size w)
 have H : ((impl_ModsOk.f k l0).bind fun t302 => (if t302 = true then (if a1 < 0 then (impl_ImportNeeds.j0 k l0 a1 true) else (impl_ImportNeeds.j0 k l0 a1 (decide (a1 ≥ (l0.length : Int))))) else (impl_ImportNeeds.j0 k l0 a1 true))) = some r := h
 clear h
 have HC3 := Az.mk H
 clear H
 go_enter Try.func17, Try.ntmps17
 go_upto_region 1 with (fail)
 go_cut [17] (fun v17 wc => ∃ (kq : Nat) (x17_2 : Bool), v17 = .bool x17_2 ∧ Az (impl_ImportNeeds.j0 kq l0 a1 x17_2 = some r) ∧ Az (kq ≤ k) ∧ Az (Below w.heap.size w wc))
 case first =>
  have H := HC3.out
  clear HC3
  replace H := Option.bind_eq_some_iff.mp H
  obtain ⟨t302, A40, H⟩ := H
  replace H : (if t302 = true then (if a1 < 0 then (impl_ImportNeeds.j0 k l0 a1 true) else (impl_ImportNeeds.j0 k l0 a1 (decide (a1 ≥ (l0.length : Int))))) else (impl_ImportNeeds.j0 k l0 a1 true)) = some r := H
  have A4 := Az.mk A40
  clear A40
  by_cases c5 : t302 = true
  ·subst c5
   have H1 : (if a1 < 0 then (impl_ImportNeeds.j0 k l0 a1 true) else (impl_ImportNeeds.j0 k l0 a1 (decide (a1 ≥ (l0.length : Int))))) = some r := by rw [if_pos rfl] at H; exact H
   clear H
   have H := H1
   clear H1
   by_cases c6 : a1 < 0
   ·rw [if_pos c6] at H
    have c6b0 : decide (a1 < 0) = true := decide_eq_true c6
    clear c6
    (first | rw [c6b0] | (simp only [i64_w, i32_w]; rw [c6b0]) | skip)
    have H' := Az.mk H
    clear H
    go_wp2_with (first | ((with_reducible refine gate_callee (f := 59) rfl ?_); refine goesL_ (some 6) rfl rfl Try.func59 (by kernel_rfl) rfl #[.slice A0 l0.length c0] rfl (by (try simp only [List.map_toArray, List.map_cons, List.map_nil]); first | done | rfl | (simp only [List.length_drop, List.length_take]; rfl)) ?_; (with_reducible refine (impl_ModsOk.calls k _ _ l0 true _ ?side1 ?side2 A4.out).mono ?_); (case side1 => repeat (first | exact (Kd.C_below HR0.out HB.out) | (with_reducible refine Kd.C_alloc ?_ _) | (with_reducible refine Kd.C_drewN ?_ _) | (with_reducible refine Kd.C_drew ?_))); (case side2 => exact HC0.out); rintro e w7 ⟨rfl, hb⟩; refine ⟨_, rfl, ?_⟩; have n0_ := Az.mk (below_step (by repeat (first | (with_reducible first | exact HB.out | apply bal | apply bdN | apply bdr) | exact HB.out)) hb); clear HB; have HB := n0_; clear n0_; (try clear hb); (try clear hb2); (try clear hk); (try clear hi)))
    go_meet
    case rel => exact ⟨_, (true), (by first | rfl | (simp; done) | (simp [*]; done)), H', ⟨by first | omega | exact Nat.le_refl _⟩, ⟨by repeat (first | (with_reducible first | exact HB.out | apply bal | apply bdN | apply bdr) | exact HB.out)⟩⟩
   ·rw [if_neg c6] at H
    have c6b0 : decide (a1 < 0) = false := decide_eq_false c6
    clear c6
    (first | rw [c6b0] | (simp only [i64_w, i32_w]; rw [c6b0]) | skip)
    have H' := Az.mk H
    clear H
    go_wp2_with (first | ((with_reducible refine gate_callee (f := 59) rfl ?_); refine goesL_ (some 6) rfl rfl Try.func59 (by kernel_rfl) rfl #[.slice A0 l0.length c0] rfl (by (try simp only [List.map_toArray, List.map_cons, List.map_nil]); first | done | rfl | (simp only [List.length_drop, List.length_take]; rfl)) ?_; (with_reducible refine (impl_ModsOk.calls k _ _ l0 true _ ?side1 ?side2 A4.out).mono ?_); (case side1 => repeat (first | exact (Kd.C_below HR0.out HB.out) | (with_reducible refine Kd.C_alloc ?_ _) | (with_reducible refine Kd.C_drewN ?_ _) | (with_reducible refine Kd.C_drew ?_))); (case side2 => exact HC0.out); rintro e w8 ⟨rfl, hb⟩; refine ⟨_, rfl, ?_⟩; have n0_ := Az.mk (below_step (by repeat (first | (with_reducible first | exact HB.out | apply bal | apply bdN | apply bdr) | exact HB.out)) hb); clear HB; have HB := n0_; clear n0_; (try clear hb); (try clear hb2); (try clear hk); (try clear hi)))
    go_meet
    case rel => exact ⟨_, (decide (a1 ≥ (l0.length : Int))), (by first | rfl | (simp; done) | (simp [*]; done)), H', ⟨by first | omega | exact Nat.le_refl _⟩, ⟨by repeat (first | (with_reducible first | exact HB.out | apply bal | apply bdN | apply bdr) | exact HB.out)⟩⟩
  ·replace c5 := Bool.eq_false_iff.mpr c5
   subst c5
   have H1 : (impl_ImportNeeds.j0 k l0 a1 true) = some r := by rw [if_neg (show ¬ (false = true) by decide)] at H; exact H
   clear H
   have H := H1
   clear H1
   have H' := Az.mk H
   clear H
   go_wp2_with (first | ((with_reducible refine gate_callee (f := 59) rfl ?_); refine goesL_ (some 6) rfl rfl Try.func59 (by kernel_rfl) rfl #[.slice A0 l0.length c0] rfl (by (try simp only [List.map_toArray, List.map_cons, List.map_nil]); first | done | rfl | (simp only [List.length_drop, List.length_take]; rfl)) ?_; (with_reducible refine (impl_ModsOk.calls k _ _ l0 false _ ?side1 ?side2 A4.out).mono ?_); (case side1 => repeat (first | exact (Kd.C_below HR0.out HB.out) | (with_reducible refine Kd.C_alloc ?_ _) | (with_reducible refine Kd.C_drewN ?_ _) | (with_reducible refine Kd.C_drew ?_))); (case side2 => exact HC0.out); rintro e w9 ⟨rfl, hb⟩; refine ⟨_, rfl, ?_⟩; have n0_ := Az.mk (below_step (by repeat (first | (with_reducible first | exact HB.out | apply bal | apply bdN | apply bdr) | exact HB.out)) hb); clear HB; have HB := n0_; clear n0_; (try clear hb); (try clear hb2); (try clear hk); (try clear hi)))
   go_meet
   case rel => exact ⟨_, (true), (by first | rfl | (simp; done) | (simp [*]; done)), H', ⟨by first | omega | exact Nat.le_refl _⟩, ⟨by repeat (first | (with_reducible first | exact HB.out | apply bal | apply bdN | apply bdr) | exact HB.out)⟩⟩
 case rest =>
  clear HC3
  try clear c1
  try clear p2
  try clear c5
  try clear c6
  try clear c6b0
  obtain ⟨kq, x17_2, rfl, HA, HJ2, HB⟩ := hcut
  cases kq with
  | zero => exact absurd HA.out (by simp [impl_ImportNeeds.j0])
  | succ kj2 =>
   have H := HA.out
   clear HA
   simp only [impl_ImportNeeds.j0] at H
   by_cases c10 : x17_2 = true
   ·subst c10
    have H1 : (some ([] : List Int)) = some r := by rw [if_pos rfl] at H; exact H
    clear H
    have H := H1
    clear H1
    obtain rfl := Option.some.inj H
    go_wp2
    go_ret
    exact ⟨_, by first | rfl | (simp [errW_none, errW_some] <;> rfl) | (simp [*, errW_none, errW_some] <;> rfl), by first | exact Kd.R_nil _ _ _ _ _ | exact Kd.N_nil _ _ _ _ _ | exact Kd.V_nil _ _ _ _ _ | exact Kd.Q_nil _ _ _ _ _ | exact Kd.S_nil _ _ _ _ _, by repeat (first | (with_reducible first | exact HB.out | apply bal | apply bdN | apply bdr) | exact HB.out)⟩
   ·replace c10 := Bool.eq_false_iff.mpr c10
    subst c10
    have H1 : ((impl_importsOf.f kj2 l0).bind fun t303 => ((impl_reached.f kj2 t303 (([a1] : List Int))).bind fun t309 => ((impl_marked.f kj2 t309 true).bind fun t312 => (some t312)))) = some r := by rw [if_neg (show ¬ (false = true) by decide)] at H; exact H
    clear H
    have H := H1
    clear H1
    replace H := Option.bind_eq_some_iff.mp H
    obtain ⟨t303, A110, H⟩ := H
    replace H : ((impl_reached.f kj2 t303 (([a1] : List Int))).bind fun t309 => ((impl_marked.f kj2 t309 true).bind fun t312 => (some t312))) = some r := H
    have A11 := Az.mk A110
    clear A110
    obtain ⟨y306, hy306⟩ : ∃ y_ : List Int, y_ = (([a1] : List Int)) := ⟨_, rfl⟩
    replace H : ((impl_reached.f kj2 t303 y306).bind fun t309 => ((impl_marked.f kj2 t309 true).bind fun t312 => (some t312))) = some r := by first | (rw [hy306]; with_reducible exact H) | (have H2_ := (Option.bind_some _ _).symm.trans H; rw [hy306]; with_reducible exact H2_) | (have H2_ := (Option.bind_some _ _).symm.trans H; with_reducible exact H2_) | with_reducible exact H | (rw [hy306]; exact H) | exact H
    have Ny306 := Az.mk hy306
    clear hy306
    replace H := Option.bind_eq_some_iff.mp H
    obtain ⟨t309, A120, H⟩ := H
    replace H : ((impl_marked.f kj2 t309 true).bind fun t312 => (some t312)) = some r := H
    have A12 := Az.mk A120
    clear A120
    replace H := Option.bind_eq_some_iff.mp H
    obtain ⟨t312, A130, H⟩ := H
    replace H : (some t312) = some r := H
    have A13 := Az.mk A130
    clear A130
    obtain rfl := Option.some.inj H
    go_wp2_with (first | ((with_reducible refine gate_callee (f := 62) rfl ?_); refine goesL_ (some 19) rfl rfl Try.func62 (by kernel_rfl) rfl #[.slice A0 l0.length c0] rfl (by (try simp only [List.map_toArray, List.map_cons, List.map_nil]); first | done | rfl | (simp only [List.length_drop, List.length_take]; rfl)) ?_; (with_reducible refine (impl_importsOf.calls kj2 _ _ l0 t303 _ ?side1 ?side2 A11.out).mono ?_); (case side1 => repeat (first | exact (Kd.C_below HR0.out HB.out) | (with_reducible refine Kd.C_alloc ?_ _) | (with_reducible refine Kd.C_drewN ?_ _) | (with_reducible refine Kd.C_drew ?_))); (case side2 => exact HC0.out); rintro e w14 ⟨v304, rfl, ho0, hb⟩; refine ⟨_, rfl, ?_⟩; have n0_ := Az.mk (Kd.S_lower ho0 (below_size (by repeat (first | (with_reducible first | exact HB.out | apply bal | apply bdN | apply bdr) | exact HB.out)))); have n1_ := Az.mk (below_step (by repeat (first | (with_reducible first | exact HB.out | apply bal | apply bdN | apply bdr) | exact HB.out)) hb); clear HB; have HO305 := n0_; have HB := n1_; clear n0_ n1_; (try clear hb); (try clear hb2); (try clear hk); (try clear hi); (try clear ho0)) | ((with_reducible refine gate_dst (N := 21) rfl ?_); (try (refine gate_guard (by rfl) ?_; dsimp only)); refine Kd.R_lit (Kd.int .i64) _ 3 ?hg (N := 21) ?hd (xs := ([a1] : List Int)) (inner := [.int .i64 a1]) (ok := fun _ => True) (okp := fun _ => True) ?hr ?hp (fun _ hk => hk) trivial (Below.refl _ _) (Nat.le_refl _) (by simp) ?_; (case hd => rfl); (case hg => rfl); (case hr => first | (go_simp; done) | (go_simp; rfl)); (case hp => exact (Reps.one (show Kd.M (Kd.int .i64) _ _ _ a1 [.int .i64 a1] from rfl) (Reps.none _ _))); intro v307 w15 ho16 hb hg_ hnew_; clear hg_ hnew_; (first | rw [← Ny306.out] at ho16 | (simp only [Int.reduceToNat] at ho16; rw [← Ny306.out] at ho16)); have n0_ := Az.mk (Kd.S_elder' (by (with_reducible repeat (first | apply Kd.S_alloc | apply Kd.S_drewN | apply Kd.S_drew)); exact HO305.out) (Kd.R_base ho16) hb); have n1_ := Az.mk (Kd.R_lower ho16 (below_size (by repeat (first | (with_reducible first | exact HB.out | apply bal | apply bdN | apply bdr) | exact HB.out)))); have n2_ := Az.mk (below_step (by repeat (first | (with_reducible first | exact HB.out | apply bal | apply bdN | apply bdr) | exact HB.out)) hb); clear HO305; clear HB; have HO305 := n0_; have HO308 := n1_; have HB := n2_; clear n0_ n1_ n2_; clear hb ho16; obtain ⟨Ao17, co17, eo17⟩ := Kd.S_slice HO305.out; subst eo17; obtain ⟨Ao18, co18, eo18⟩ := Kd.R_slice HO308.out; subst eo18) | ((with_reducible refine gate_callee (f := 61) rfl ?_); refine goesL_ (some 22) rfl rfl Try.func61 (by kernel_rfl) rfl #[.slice Ao17 t303.length co17, .slice Ao18 y306.length co18] rfl (by (try simp only [List.map_toArray, List.map_cons, List.map_nil]); first | done | rfl | (simp only [List.length_drop, List.length_take]; rfl)) ?_; (with_reducible refine (impl_reached.calls kj2 _ _ t303 _ _ y306 t309 _ ?side1 ?side2 ?side3 ?side4 A12.out).mono ?_); (case side1 => repeat (first | exact (Kd.S_reads' HO305.out).2.2 | (with_reducible refine Kd.C_alloc ?_ _) | (with_reducible refine Kd.C_drewN ?_ _) | (with_reducible refine Kd.C_drew ?_))); (case side2 => exact (Kd.S_reads' HO305.out).2.1); (case side3 => repeat (first | exact (Kd.R_reads' HO308.out).2.2 | (with_reducible refine Kd.C_alloc ?_ _) | (with_reducible refine Kd.C_drewN ?_ _) | (with_reducible refine Kd.C_drew ?_))); (case side4 => exact (Kd.R_reads' HO308.out).2.1); rintro e w19 ⟨v310, rfl, ho0, hb⟩; refine ⟨_, rfl, ?_⟩; have n0_ := Az.mk (Kd.S_below (by (with_reducible repeat (first | apply Kd.S_alloc | apply Kd.S_drewN | apply Kd.S_drew)); exact HO305.out) hb); have n1_ := Az.mk (Kd.R_below (by (with_reducible repeat (first | apply Kd.R_alloc | apply Kd.R_drewN | apply Kd.R_drew)); exact HO308.out) hb); have n2_ := Az.mk (Kd.R_lower ho0 (below_size (by repeat (first | (with_reducible first | exact HB.out | apply bal | apply bdN | apply bdr) | exact HB.out)))); have n3_ := Az.mk (below_step (by repeat (first | (with_reducible first | exact HB.out | apply bal | apply bdN | apply bdr) | exact HB.out)) hb); clear HO305; clear HO308; clear HB; have HO305 := n0_; have HO308 := n1_; have HO311 := n2_; have HB := n3_; clear n0_ n1_ n2_ n3_; (try clear hb); (try clear hb2); (try clear hk); (try clear hi); (try clear ho0); obtain ⟨Ao20, co20, eo20⟩ := Kd.R_slice HO311.out; subst eo20) | ((with_reducible refine gate_callee (f := 60) rfl ?_); refine goesL_ (some 23) rfl rfl Try.func60 (by kernel_rfl) rfl #[.slice Ao20 t309.length co20, .bool true] rfl (by (try simp only [List.map_toArray, List.map_cons, List.map_nil]); first | done | rfl | (simp only [List.length_drop, List.length_take]; rfl)) ?_; (with_reducible refine (impl_marked.calls kj2 _ _ t309 true t312 _ ?side1 ?side2 A13.out).mono ?_); (case side1 => repeat (first | exact (Kd.R_reads' HO311.out).2.2 | (with_reducible refine Kd.C_alloc ?_ _) | (with_reducible refine Kd.C_drewN ?_ _) | (with_reducible refine Kd.C_drew ?_))); (case side2 => exact (Kd.R_reads' HO311.out).2.1); rintro e w21 ⟨v313, rfl, ho0, hb⟩; refine ⟨_, rfl, ?_⟩; have n0_ := Az.mk (Kd.S_elder' (by (with_reducible repeat (first | apply Kd.S_alloc | apply Kd.S_drewN | apply Kd.S_drew)); exact HO305.out) (Kd.R_base ho0) hb); have n1_ := Az.mk (Kd.R_elder' (by (with_reducible repeat (first | apply Kd.R_alloc | apply Kd.R_drewN | apply Kd.R_drew)); exact HO308.out) (Kd.R_base ho0) hb); have n2_ := Az.mk (Kd.R_below (by (with_reducible repeat (first | apply Kd.R_alloc | apply Kd.R_drewN | apply Kd.R_drew)); exact HO311.out) hb); have n3_ := Az.mk (Kd.R_lower (Kd.R_new' ho0 (Kd.R_lt (by (with_reducible repeat (first | apply Kd.R_alloc | apply Kd.R_drewN | apply Kd.R_drew)); exact HO308.out))) (below_size (by repeat (first | (with_reducible first | exact HB.out | apply bal | apply bdN | apply bdr) | exact HB.out)))); have n4_ := Az.mk (below_step (by repeat (first | (with_reducible first | exact HB.out | apply bal | apply bdN | apply bdr) | exact HB.out)) hb); clear HO305; clear HO308; clear HO311; clear HB; have HO305 := n0_; have HO308 := n1_; have HO311 := n2_; have HO314 := n3_; have HB := n4_; clear n0_ n1_ n2_ n3_ n4_; (try clear hb); (try clear hb2); (try clear hk); (try clear hi); (try clear ho0)))
    go_ret
    exact ⟨_, by first | rfl | (simp [errW_none, errW_some] <;> rfl) | (simp [*, errW_none, errW_some] <;> rfl), by (with_reducible repeat (first | apply Kd.R_alloc | apply Kd.R_drewN | apply Kd.R_drew)); exact Kd.R_mono HO314.out (fun _ hk => trivial), by repeat (first | (with_reducible first | exact HB.out | apply bal | apply bdN | apply bdr) | exact HB.out)⟩
def impl_ImportCircle.l0 : Nat → List (S72) → List Int → Int → Int → Option (Bool)
 | 0, _, _, _, _ => none
 | k + 1, x0, x10, x11, x12 => if x12 < x11 then (if 0 ≤ x12 then (if x12 < (x10.length : Int) then ((impl_importsOf.f k x0).bind fun t319 => (if 0 ≤ (rd x10 x12) then (if (rd x10 x12) < (t319.length : Int) then ((impl_reached.f k t319 (rd_L6 t319 (rd x10 x12))).bind fun t323 => (if (rd x10 x12) < (t323.length : Int) then (if rdOf false t323 (rd x10 x12) = true then (some true) else (impl_ImportCircle.l0 k x0 x10 x11 (wrap64 (x12 + 1)))) else (none))) else (none)) else (none))) else (none)) else (none)) else (some false)
def impl_ImportCircle.f (k : Nat) (l0 : List (S72)) (a1 : Int) : Option (Bool) := (impl_ImportNeeds.f k l0 a1).bind fun t315 => (impl_ImportCircle.l0 k l0 t315 (t315.length : Int) 0)
theorem impl_ImportCircle.calls (k : Nat) (A0 : Option Addr) (c0 : Nat) (l0 : List (S72)) (a1 : Int) (r : Bool) (w : World) (hr0 : Kd.C k72 w A0 l0.length l0) (hc0 : l0.length ≤ c0) (h : impl_ImportCircle.f k l0 a1 = some r) :
  Calls Try.prog 43 #[.slice A0 l0.length c0, .int .i64 a1] w fun e w' => e = .returned (.bool r) ∧ Below w.heap.size w w' := by
 have HR0 := Az.mk hr0
 have HC0 := Az.mk hc0
 clear hr0 hc0
 have HB := Az.mk (Below.refl w.heap.size w)
 have H : ((impl_ImportNeeds.f k l0 a1).bind fun t315 => (impl_ImportCircle.l0 k l0 t315 (t315.length : Int) 0)) = some r := h
 clear h
 replace H := Option.bind_eq_some_iff.mp H
 obtain ⟨t315, A30, H⟩ := H
 replace H : (impl_ImportCircle.l0 k l0 t315 (t315.length : Int) 0) = some r := H
 have A3 := Az.mk A30
 clear A30
 have H' := Az.mk H
 clear H
 go_enter Try.func43, Try.ntmps43
 go_wp2_with (first | ((with_reducible refine gate_callee (f := 17) rfl ?_); refine goesL_ (some 10) rfl rfl Try.func17 (by kernel_rfl) rfl #[.slice A0 l0.length c0, .int .i64 a1] rfl (by (try simp only [List.map_toArray, List.map_cons, List.map_nil]); first | done | rfl | (simp only [List.length_drop, List.length_take]; rfl)) ?_; (with_reducible refine (impl_ImportNeeds.calls k _ _ l0 a1 t315 _ ?side1 ?side2 A3.out).mono ?_); (case side1 => repeat (first | exact HR0.out | (with_reducible refine Kd.C_alloc ?_ _) | (with_reducible refine Kd.C_drewN ?_ _) | (with_reducible refine Kd.C_drew ?_))); (case side2 => exact HC0.out); rintro e w4 ⟨v316, rfl, ho0, hb⟩; refine ⟨_, rfl, ?_⟩; have n0_ := Az.mk (Kd.R_lower ho0 (below_size (by repeat (first | (with_reducible first | exact HB.out | apply bal | apply bdN | apply bdr) | exact HB.out)))); have n1_ := Az.mk (below_step (by repeat (first | (with_reducible first | exact HB.out | apply bal | apply bdN | apply bdr) | exact HB.out)) hb); clear HB; have HO317 := n0_; have HB := n1_; clear n0_ n1_; (try clear hb); (try clear hb2); (try clear hk); (try clear hi); (try clear ho0); obtain ⟨Ao5, co5, eo5⟩ := Kd.R_slice HO317.out; subst eo5))
 go_loopg [12] k (fun kq v12 w' => ∃ (x12_1 : Int), v12 = .int .i64 x12_1 ∧ Az (impl_ImportCircle.l0 kq l0 t315 (t315.length : Int) x12_1 = some r) ∧ Az (kq ≤ k) ∧ Az (Kd.R (Kd.int .i64) 3 w' w.heap.size (fun _ => True) (.slice Ao5 t315.length co5) t315) ∧ Az (Below w.heap.size w w'))
 case atStart => exact ⟨(0), (by first | rfl | (simp; done) | (simp [*]; done)), H', ⟨Nat.le_refl _⟩, ⟨by (with_reducible repeat (first | apply Kd.R_alloc | apply Kd.R_drewN | apply Kd.R_drew)); exact HO317.out⟩, ⟨by repeat (first | (with_reducible first | exact HB.out | apply bal | apply bdN | apply bdr) | exact HB.out)⟩⟩
 case round =>
  clear H'
  try clear c1
  try clear p2
  try clear c4
  obtain ⟨x12_1, rfl, HA, HK1, HO_10, HB⟩ := hrel
  cases gk with
  | zero => exact absurd HA.out (by simp [impl_ImportCircle.l0])
  | succ k1 =>
   have H := HA.out
   clear HA
   simp only [impl_ImportCircle.l0] at H
   by_cases c6 : x12_1 < (t315.length : Int)
   ·rw [if_pos c6] at H
    have c6b0 : decide (x12_1 < (t315.length : Int)) = true := decide_eq_true c6
    clear c6
    by_cases c7 : 0 ≤ x12_1
    ·rw [if_pos c7] at H
     have c7b0 : decide (0 ≤ x12_1) = true := decide_eq_true c7
     clear c7
     by_cases c8 : x12_1 < (t315.length : Int)
     ·rw [if_pos c8] at H
      have c8b0 : decide (x12_1 < (t315.length : Int)) = true := decide_eq_true c8
      clear c8
      replace H := Option.bind_eq_some_iff.mp H
      obtain ⟨t319, A90, H⟩ := H
      replace H : (if 0 ≤ (rd t315 x12_1) then (if (rd t315 x12_1) < (t319.length : Int) then ((impl_reached.f k1 t319 (rd_L6 t319 (rd t315 x12_1))).bind fun t323 => (if (rd t315 x12_1) < (t323.length : Int) then (if rdOf false t323 (rd t315 x12_1) = true then (some true) else (impl_ImportCircle.l0 k1 l0 t315 (t315.length : Int) (wrap64 (x12_1 + 1)))) else (none))) else (none)) else (none)) = some r := H
      have A9 := Az.mk A90
      clear A90
      by_cases c10 : 0 ≤ (rd t315 x12_1)
      ·rw [if_pos c10] at H
       have c10b0 : decide (0 ≤ (rd t315 x12_1)) = true := decide_eq_true c10
       clear c10
       by_cases c11 : (rd t315 x12_1) < (t319.length : Int)
       ·rw [if_pos c11] at H
        have c11b0 : decide ((rd t315 x12_1) < (t319.length : Int)) = true := decide_eq_true c11
        clear c11
        replace H := Option.bind_eq_some_iff.mp H
        obtain ⟨t323, A120, H⟩ := H
        replace H : (if (rd t315 x12_1) < (t323.length : Int) then (if rdOf false t323 (rd t315 x12_1) = true then (some true) else (impl_ImportCircle.l0 k1 l0 t315 (t315.length : Int) (wrap64 (x12_1 + 1)))) else (none)) = some r := H
        have A12 := Az.mk A120
        clear A120
        by_cases c13 : (rd t315 x12_1) < (t323.length : Int)
        ·rw [if_pos c13] at H
         have c13b0 : decide ((rd t315 x12_1) < (t323.length : Int)) = true := decide_eq_true c13
         clear c13
         obtain ⟨bq14, hbq14⟩ : ∃ b_ : Bool, b_ = (rdOf false t323 (rd t315 x12_1)) := ⟨_, rfl⟩
         replace H : (if bq14 = true then (some true) else (impl_ImportCircle.l0 k1 l0 t315 (t315.length : Int) (wrap64 (x12_1 + 1)))) = some r := by rw [← hbq14] at H; exact H
         have Nbq14 := Az.mk hbq14
         clear hbq14
         by_cases c15 : bq14 = true
         ·subst c15
          have H1 : (some true) = some r := by rw [if_pos rfl] at H; exact H
          clear H
          have H := H1
          clear H1
          obtain rfl := Option.some.inj H
          have p318 : 0 ≤ (x12_1 : Int) := of_decide_eq_true (by first | (with_reducible assumption) | assumption)
          have q318 : x12_1 < (t315.length : Int) := of_decide_eq_true (by first | (with_reducible assumption) | assumption)
          obtain ⟨ad318, e318, hx318_0⟩ := Kd.at_int (Kd.R_reads' HO_10.out).2.2 x12_1 p318 q318
          cases e318
          replace p318 := eq_true p318
          replace q318 := eq_true q318
          go_wp2_with (first | ((with_reducible refine gate_callee (f := 62) rfl ?_); refine goesL_ (some 17) rfl rfl Try.func62 (by kernel_rfl) rfl #[.slice A0 l0.length c0] rfl (by (try simp only [List.map_toArray, List.map_cons, List.map_nil]); first | done | rfl | (simp only [List.length_drop, List.length_take]; rfl)) ?_; (with_reducible refine (impl_importsOf.calls k1 _ _ l0 t319 _ ?side1 ?side2 A9.out).mono ?_); (case side1 => repeat (first | exact (Kd.C_below HR0.out HB.out) | (with_reducible refine Kd.C_alloc ?_ _) | (with_reducible refine Kd.C_drewN ?_ _) | (with_reducible refine Kd.C_drew ?_))); (case side2 => exact HC0.out); rintro e w16 ⟨v320, rfl, ho0, hb⟩; refine ⟨_, rfl, ?_⟩; have n0_ := Az.mk (Kd.R_below (by (with_reducible repeat (first | apply Kd.R_alloc | apply Kd.R_drewN | apply Kd.R_drew)); exact HO_10.out) hb); have n1_ := Az.mk (Kd.S_lower (Kd.S_new' ho0 (Kd.R_lt (by (with_reducible repeat (first | apply Kd.R_alloc | apply Kd.R_drewN | apply Kd.R_drew)); exact HO_10.out))) (below_size (by repeat (first | (with_reducible first | exact HB.out | apply bal | apply bdN | apply bdr) | exact HB.out)))); have n2_ := Az.mk (below_step (by repeat (first | (with_reducible first | exact HB.out | apply bal | apply bdN | apply bdr) | exact HB.out)) hb); clear HO_10; clear HB; have HO_10 := n0_; have HO321 := n1_; have HB := n2_; clear n0_ n1_ n2_; (try clear hb); (try clear hb2); (try clear hk); (try clear hi); (try clear ho0); obtain ⟨Ao17, co17, eo17⟩ := Kd.S_slice HO321.out; subst eo17; have p322 : 0 ≤ ((rd t315 x12_1) : Int) := of_decide_eq_true (by first | (with_reducible assumption) | assumption); have q322 : (rd t315 x12_1) < (t319.length : Int) := of_decide_eq_true (by first | (with_reducible assumption) | assumption); obtain ⟨ad322, A322_0, c322_0, e322, hx322_0, hl322_0, hi322_0⟩ := at_L6 (Kd.S_reads' HO321.out).2.2 (rd t315 x12_1) p322 q322; cases e322; obtain ⟨ce322, hce322, hMe322, hcc322⟩ := Kd.S_get HO321.out [] (rd t315 x12_1) p322 (by first | exact q322 | exact of_decide_eq_true (by first | (with_reducible assumption) | assumption) | (have e_ := (Kd.S_reads' HO321.out).1; omega)); obtain ⟨ve322_0, rfl, ge322_0⟩ := hMe322; have hv322_0 := hcc322 0 _ rfl; rw [Nat.add_zero, show ((Kd.slice 3 (Kd.int .i64))).sz = 1 from rfl, Nat.mul_one] at hv322_0; replace hv322_0 := Option.some.inj (hv322_0.symm.trans hx322_0); rw [hv322_0] at ge322_0; have HL322_0 := Az.mk (show Kd.R (Kd.int .i64) 3 _ _ _ _ (rd_L6 t319 (rd t315 x12_1)) from ge322_0); clear hv322_0 ge322_0; clear hcc322 hce322; have HR322_0 := Az.mk hi322_0; have HC322_0 := Az.mk hl322_0; clear hi322_0 hl322_0; replace p322 := eq_true p322; replace q322 := eq_true q322) | ((with_reducible refine gate_callee (f := 61) rfl ?_); refine goesL_ (some 23) rfl rfl Try.func61 (by kernel_rfl) rfl #[.slice (some ad322) t319.length co17, .slice A322_0 (rd_L6 t319 (rd t315 x12_1)).length c322_0] rfl (by (try simp only [List.map_toArray, List.map_cons, List.map_nil]); first | done | rfl | (simp only [List.length_drop, List.length_take]; rfl)) ?_; (with_reducible refine (impl_reached.calls k1 _ _ t319 _ _ (rd_L6 t319 (rd t315 x12_1)) t323 _ ?side1 ?side2 ?side3 ?side4 A12.out).mono ?_); (case side1 => repeat (first | exact (Kd.S_reads' HO321.out).2.2 | (with_reducible refine Kd.C_alloc ?_ _) | (with_reducible refine Kd.C_drewN ?_ _) | (with_reducible refine Kd.C_drew ?_))); (case side2 => exact (Kd.S_reads' HO321.out).2.1); (case side3 => repeat (first | exact (by repeat (first | (with_reducible exact HR322_0.out) | (with_reducible refine Kd.C_alloc ?_ _) | (with_reducible refine Kd.C_drewN ?_ _) | (with_reducible refine Kd.C_drew ?_) | exact HR322_0.out)) | (with_reducible refine Kd.C_alloc ?_ _) | (with_reducible refine Kd.C_drewN ?_ _) | (with_reducible refine Kd.C_drew ?_))); (case side4 => exact HC322_0.out); rintro e w18 ⟨v324, rfl, ho0, hb⟩; refine ⟨_, rfl, ?_⟩; have n0_ := Az.mk (Kd.R_below (by (with_reducible repeat (first | apply Kd.R_alloc | apply Kd.R_drewN | apply Kd.R_drew)); exact HO_10.out) hb); have n1_ := Az.mk (Kd.S_below (by (with_reducible repeat (first | apply Kd.S_alloc | apply Kd.S_drewN | apply Kd.S_drew)); exact HO321.out) hb); have n2_ := Az.mk (Kd.R_below (by (with_reducible repeat (first | apply Kd.R_alloc | apply Kd.R_drewN | apply Kd.R_drew)); exact HL322_0.out) hb); have n3_ := Az.mk (Kd.R_lower ho0 (below_size (by repeat (first | (with_reducible first | exact HB.out | apply bal | apply bdN | apply bdr) | exact HB.out)))); have n4_ := Az.mk (Kd.C_below (by repeat (first | (with_reducible exact HR322_0.out) | (with_reducible refine Kd.C_alloc ?_ _) | (with_reducible refine Kd.C_drewN ?_ _) | (with_reducible refine Kd.C_drew ?_) | exact HR322_0.out)) hb); have n5_ := Az.mk (below_step (by repeat (first | (with_reducible first | exact HB.out | apply bal | apply bdN | apply bdr) | exact HB.out)) hb); clear HO_10; clear HO321; clear HL322_0; clear HR322_0; clear HB; have HO_10 := n0_; have HO321 := n1_; have HL322_0 := n2_; have HO325 := n3_; have HR322_0 := n4_; have HB := n5_; clear n0_ n1_ n2_ n3_ n4_ n5_; (try clear hb); (try clear hb2); (try clear hk); (try clear hi); (try clear ho0); obtain ⟨Ao19, co19, eo19⟩ := Kd.R_slice HO325.out; subst eo19; have p326 : 0 ≤ ((rd t315 x12_1) : Int) := of_decide_eq_true (by first | (with_reducible assumption) | assumption); have q326 : (rd t315 x12_1) < (t323.length : Int) := of_decide_eq_true (by first | (with_reducible assumption) | assumption); obtain ⟨ad326, e326, hx326_0⟩ := Kd.at_bool (Kd.R_reads' HO325.out).2.2 (rd t315 x12_1) p326 q326; (try rw [← Nbq14.out] at hx326_0); cases e326; replace p326 := eq_true p326; replace q326 := eq_true q326))
          go_ret
          exact ⟨by first | rfl | (simp [errW_none, errW_some] <;> rfl) | (simp [*, errW_none, errW_some] <;> rfl), by repeat (first | (with_reducible first | exact HB.out | apply bal | apply bdN | apply bdr) | exact HB.out)⟩
         ·replace c15 := Bool.eq_false_iff.mpr c15
          subst c15
          have H1 : (impl_ImportCircle.l0 k1 l0 t315 (t315.length : Int) (wrap64 (x12_1 + 1))) = some r := by rw [if_neg (show ¬ (false = true) by decide)] at H; exact H
          clear H
          have H := H1
          clear H1
          have H' := Az.mk H
          clear H
          have p318 : 0 ≤ (x12_1 : Int) := of_decide_eq_true (by first | (with_reducible assumption) | assumption)
          have q318 : x12_1 < (t315.length : Int) := of_decide_eq_true (by first | (with_reducible assumption) | assumption)
          obtain ⟨ad318, e318, hx318_0⟩ := Kd.at_int (Kd.R_reads' HO_10.out).2.2 x12_1 p318 q318
          cases e318
          replace p318 := eq_true p318
          replace q318 := eq_true q318
          go_wp2_with (first | ((with_reducible refine gate_callee (f := 62) rfl ?_); refine goesL_ (some 17) rfl rfl Try.func62 (by kernel_rfl) rfl #[.slice A0 l0.length c0] rfl (by (try simp only [List.map_toArray, List.map_cons, List.map_nil]); first | done | rfl | (simp only [List.length_drop, List.length_take]; rfl)) ?_; (with_reducible refine (impl_importsOf.calls k1 _ _ l0 t319 _ ?side1 ?side2 A9.out).mono ?_); (case side1 => repeat (first | exact (Kd.C_below HR0.out HB.out) | (with_reducible refine Kd.C_alloc ?_ _) | (with_reducible refine Kd.C_drewN ?_ _) | (with_reducible refine Kd.C_drew ?_))); (case side2 => exact HC0.out); rintro e w20 ⟨v320, rfl, ho0, hb⟩; refine ⟨_, rfl, ?_⟩; have n0_ := Az.mk (Kd.R_below (by (with_reducible repeat (first | apply Kd.R_alloc | apply Kd.R_drewN | apply Kd.R_drew)); exact HO_10.out) hb); have n1_ := Az.mk (Kd.S_lower (Kd.S_new' ho0 (Kd.R_lt (by (with_reducible repeat (first | apply Kd.R_alloc | apply Kd.R_drewN | apply Kd.R_drew)); exact HO_10.out))) (below_size (by repeat (first | (with_reducible first | exact HB.out | apply bal | apply bdN | apply bdr) | exact HB.out)))); have n2_ := Az.mk (below_step (by repeat (first | (with_reducible first | exact HB.out | apply bal | apply bdN | apply bdr) | exact HB.out)) hb); clear HO_10; clear HB; have HO_10 := n0_; have HO321 := n1_; have HB := n2_; clear n0_ n1_ n2_; (try clear hb); (try clear hb2); (try clear hk); (try clear hi); (try clear ho0); obtain ⟨Ao21, co21, eo21⟩ := Kd.S_slice HO321.out; subst eo21; have p322 : 0 ≤ ((rd t315 x12_1) : Int) := of_decide_eq_true (by first | (with_reducible assumption) | assumption); have q322 : (rd t315 x12_1) < (t319.length : Int) := of_decide_eq_true (by first | (with_reducible assumption) | assumption); obtain ⟨ad322, A322_0, c322_0, e322, hx322_0, hl322_0, hi322_0⟩ := at_L6 (Kd.S_reads' HO321.out).2.2 (rd t315 x12_1) p322 q322; cases e322; obtain ⟨ce322, hce322, hMe322, hcc322⟩ := Kd.S_get HO321.out [] (rd t315 x12_1) p322 (by first | exact q322 | exact of_decide_eq_true (by first | (with_reducible assumption) | assumption) | (have e_ := (Kd.S_reads' HO321.out).1; omega)); obtain ⟨ve322_0, rfl, ge322_0⟩ := hMe322; have hv322_0 := hcc322 0 _ rfl; rw [Nat.add_zero, show ((Kd.slice 3 (Kd.int .i64))).sz = 1 from rfl, Nat.mul_one] at hv322_0; replace hv322_0 := Option.some.inj (hv322_0.symm.trans hx322_0); rw [hv322_0] at ge322_0; have HL322_0 := Az.mk (show Kd.R (Kd.int .i64) 3 _ _ _ _ (rd_L6 t319 (rd t315 x12_1)) from ge322_0); clear hv322_0 ge322_0; clear hcc322 hce322; have HR322_0 := Az.mk hi322_0; have HC322_0 := Az.mk hl322_0; clear hi322_0 hl322_0; replace p322 := eq_true p322; replace q322 := eq_true q322) | ((with_reducible refine gate_callee (f := 61) rfl ?_); refine goesL_ (some 23) rfl rfl Try.func61 (by kernel_rfl) rfl #[.slice (some ad322) t319.length co21, .slice A322_0 (rd_L6 t319 (rd t315 x12_1)).length c322_0] rfl (by (try simp only [List.map_toArray, List.map_cons, List.map_nil]); first | done | rfl | (simp only [List.length_drop, List.length_take]; rfl)) ?_; (with_reducible refine (impl_reached.calls k1 _ _ t319 _ _ (rd_L6 t319 (rd t315 x12_1)) t323 _ ?side1 ?side2 ?side3 ?side4 A12.out).mono ?_); (case side1 => repeat (first | exact (Kd.S_reads' HO321.out).2.2 | (with_reducible refine Kd.C_alloc ?_ _) | (with_reducible refine Kd.C_drewN ?_ _) | (with_reducible refine Kd.C_drew ?_))); (case side2 => exact (Kd.S_reads' HO321.out).2.1); (case side3 => repeat (first | exact (by repeat (first | (with_reducible exact HR322_0.out) | (with_reducible refine Kd.C_alloc ?_ _) | (with_reducible refine Kd.C_drewN ?_ _) | (with_reducible refine Kd.C_drew ?_) | exact HR322_0.out)) | (with_reducible refine Kd.C_alloc ?_ _) | (with_reducible refine Kd.C_drewN ?_ _) | (with_reducible refine Kd.C_drew ?_))); (case side4 => exact HC322_0.out); rintro e w22 ⟨v324, rfl, ho0, hb⟩; refine ⟨_, rfl, ?_⟩; have n0_ := Az.mk (Kd.R_below (by (with_reducible repeat (first | apply Kd.R_alloc | apply Kd.R_drewN | apply Kd.R_drew)); exact HO_10.out) hb); have n1_ := Az.mk (Kd.S_below (by (with_reducible repeat (first | apply Kd.S_alloc | apply Kd.S_drewN | apply Kd.S_drew)); exact HO321.out) hb); have n2_ := Az.mk (Kd.R_below (by (with_reducible repeat (first | apply Kd.R_alloc | apply Kd.R_drewN | apply Kd.R_drew)); exact HL322_0.out) hb); have n3_ := Az.mk (Kd.R_lower ho0 (below_size (by repeat (first | (with_reducible first | exact HB.out | apply bal | apply bdN | apply bdr) | exact HB.out)))); have n4_ := Az.mk (Kd.C_below (by repeat (first | (with_reducible exact HR322_0.out) | (with_reducible refine Kd.C_alloc ?_ _) | (with_reducible refine Kd.C_drewN ?_ _) | (with_reducible refine Kd.C_drew ?_) | exact HR322_0.out)) hb); have n5_ := Az.mk (below_step (by repeat (first | (with_reducible first | exact HB.out | apply bal | apply bdN | apply bdr) | exact HB.out)) hb); clear HO_10; clear HO321; clear HL322_0; clear HR322_0; clear HB; have HO_10 := n0_; have HO321 := n1_; have HL322_0 := n2_; have HO325 := n3_; have HR322_0 := n4_; have HB := n5_; clear n0_ n1_ n2_ n3_ n4_ n5_; (try clear hb); (try clear hb2); (try clear hk); (try clear hi); (try clear ho0); obtain ⟨Ao23, co23, eo23⟩ := Kd.R_slice HO325.out; subst eo23; have p326 : 0 ≤ ((rd t315 x12_1) : Int) := of_decide_eq_true (by first | (with_reducible assumption) | assumption); have q326 : (rd t315 x12_1) < (t323.length : Int) := of_decide_eq_true (by first | (with_reducible assumption) | assumption); obtain ⟨ad326, e326, hx326_0⟩ := Kd.at_bool (Kd.R_reads' HO325.out).2.2 (rd t315 x12_1) p326 q326; (try rw [← Nbq14.out] at hx326_0); cases e326; replace p326 := eq_true p326; replace q326 := eq_true q326))
          go_roundg k1
          case measure => have := HK1.out; omega
          case rel => exact ⟨(wrap64 (x12_1 + 1)), (by first | rfl | (simp; done) | (simp [*]; done)), H', ⟨by have := HK1.out; omega⟩, ⟨by (with_reducible repeat (first | apply Kd.R_alloc | apply Kd.R_drewN | apply Kd.R_drew)); exact HO_10.out⟩, ⟨by repeat (first | (with_reducible first | exact HB.out | apply bal | apply bdN | apply bdr) | exact HB.out)⟩⟩
        ·rw [if_neg c13] at H
         exact absurd H (by simp)
       ·rw [if_neg c11] at H
        exact absurd H (by simp)
      ·rw [if_neg c10] at H
       exact absurd H (by simp)
     ·rw [if_neg c8] at H
      exact absurd H (by simp)
    ·rw [if_neg c7] at H
     exact absurd H (by simp)
   ·rw [if_neg c6] at H
    have c6b0 : decide (x12_1 < (t315.length : Int)) = false := decide_eq_false c6
    clear c6
    obtain rfl := Option.some.inj H
    go_wp2
    go_ret
    exact ⟨by first | rfl | (simp [errW_none, errW_some] <;> rfl) | (simp [*, errW_none, errW_some] <;> rfl), by repeat (first | (with_reducible first | exact HB.out | apply bal | apply bdN | apply bdr) | exact HB.out)⟩
end Go.Proofs.Ytehhhlhedmfdiaa.PFnImportOrder
end
section
namespace Go.Proofs.Ytehhhlhedmfdiaa.PFnImportOrder
open Go.RowKit Go.Proofs.Yz0.PrintWords Go.Proofs.Yz0.PrintLast Go.Proofs.Yz0.PrintMore
set_option linter.unusedVariables false
set_option linter.unusedSimpArgs false
structure IS where
 bg : List Int
 wh : List Int
 re : List ByteArray
 st : List Int
 nm : List (List (ByteArray × Int))
def look : List (ByteArray × Int) → ByteArray → Option Int
 | [], _ => none
 | (a, v) :: l, s => if a = s then some v else look l s
def IB : Nat := 1000000000000
def nms (s : IS) (i : Int) : List (ByteArray × Int) := s.nm.getD i.toNat []
def ldStart (i : Int) (s : IS) : IS := { s with bg := s.bg ++ [i], st := s.st.set i.toNat 1 }
def ldOk (i : Int) (s : IS) : IS := { s with wh := s.wh ++ [i], st := s.st.set i.toNat 2 }
def ldBad (i : Int) (s : IS) : IS := { s with st := s.st.set i.toNat 0, nm := s.nm.set i.toNat [] }
def ldSet (i : Int) (x : S74) (s : IS) : IS := { s with nm := s.nm.set i.toNat ((x.f2, x.f1) :: nms s i) }
def stp (dec : Int → ByteArray) (L : Int → IS → Option (Bool × IS)) (n : Nat) (i : Int) (x : S74) (s : IS) : Option (Bool × IS) :=
  if x.f0 = 1 then (if 0 ≤ x.f1 ∧ x.f1 < n then L x.f1 s else none)
  else if x.f0 = 2 then (if 0 ≤ x.f1 ∧ x.f1 < n then (L x.f1 s).bind fun r => some (true, r.2) else none)
  else if x.f0 = 3 then (if (0 ≤ x.f1 ∧ x.f1 ≤ 1000000 ∧ x.f2.size ≤ 1000) ∧ (nms s i).length < IB ∧ (s.nm.length = n ∧ s.st.length = n) ∧ (0 ≤ i ∧ i < n) ∧ rd s.st i ≠ 0 then some (true, ldSet i x s) else none)
  else if x.f0 = 4 then (if (0 ≤ x.f1 ∧ x.f1 < n ∧ x.f2.size ≤ 1000) ∧ s.nm.length = n ∧ (nms s x.f1).length < IB then
      (match look (nms s x.f1) x.f2 with
       | none => some (false, s)
       | some v => if (0 ≤ v ∧ v ≤ 1000000) ∧ s.re.length < IB then some (true, { s with re := s.re ++ [dec v] }) else none)
    else none)
  else if x.f0 = 5 then some (false, s) else none
def ldEnd (b : Bool) (i : Int) (s : IS) : IS := if b = true then ldOk i s else ldBad i s
def runs (f : S74 → IS → Option (Bool × IS)) : List S74 → IS → Option (Bool × IS)
 | [], s => some (true, s)
 | x :: xs, s => (f x s).bind fun r => if r.1 = true then runs f xs r.2 else some (false, r.2)
def ld (dec : Int → ByteArray) (M : List S72) : Nat → Int → IS → Option (Bool × IS)
 | 0, _, _ => none
 | k + 1, i, s =>
  if (0 ≤ i ∧ i < M.length) ∧ s.st.length = M.length ∧ s.nm.length = M.length then
   if rd s.st i = 0 then
    if s.bg.length < IB ∧ nms s i = [] then
     (runs (stp dec (ld dec M k) M.length i) (rX M i).f0 (ldStart i s)).bind fun r =>
      if (r.2.st.length = M.length ∧ r.2.nm.length = M.length) ∧ r.2.wh.length < IB ∧ rd r.2.st i ≠ 0 then
       some (r.1, ldEnd r.1 i r.2)
      else none
    else none
   else some (true, s)
  else none
def ldAll (dec : Int → ByteArray) (M : List S72) (k : Nat) : List Int → IS → List Int → Option (IS × List Int)
 | [], s, fa => some (s, fa)
 | i :: l, s, fa => (ld dec M k i s).bind fun r => if r.1 = true then ldAll dec M k l r.2 fa else if fa.length < IB then ldAll dec M k l r.2 (fa ++ [i]) else none
def is0 (n : Nat) : IS := ⟨[], [], [], List.replicate n 0, List.replicate n []⟩
def impAll (dec : Int → ByteArray) (M : List S72) (k : Nat) (l : List Int) : Option (List Int × List Int × List Int × List ByteArray × List Int) :=
 (ldAll dec M k l (is0 M.length) []).map fun r => (r.1.bg, r.1.wh, r.2, r.1.re, r.1.st)
end Go.Proofs.Ytehhhlhedmfdiaa.PFnImportOrder
end
section
namespace Go.Proofs.Ytehhhlhedmfdiaa.PFnImportOrder
open Go.RowKit Go.Proofs.Yz0.PrintWords Go.Proofs.Yz0.PrintLast Go.Proofs.Yz0.PrintMore
open Go.Maps
set_option linter.unusedVariables false
set_option linter.unusedSimpArgs false
theorem law9 : Keyed Try.prog 9 := string_keyed Try.underlying9
theorem zero3 (w : World) : (zeroValue 3).run Try.prog w = .ok (.int .i64 0) w := by kernel_rfl
abbrev klit (s : ByteArray) : Lit := .string s.data.toList
theorem klit_ne {s t : ByteArray} (h : ¬ s = t) : klit t ≠ klit s := by
 intro e
 injection e with e
 exact h (ByteArray.ext (Array.toList_inj.mp e.symm))
def MapIs (D : DataW Unit) (nm : List (ByteArray × Int)) : Prop :=
 IsMap D ∧ ∀ (s : ByteArray) (z : DataW Unit), D.atKey (klit s) z = match look nm s with
  | some v => .lit (.int .i64 v)
  | none => z
theorem mapIs_nil : MapIs (.map []) [] := ⟨⟨[], rfl⟩, fun s z => rfl⟩
theorem mapIs_put {D : DataW Unit} {nm : List (ByteArray × Int)} (h : MapIs D nm) (s : ByteArray) (v : Int) : MapIs (D.put (klit s) (.lit (.int .i64 v))) ((s, v) :: nm) := by
 obtain ⟨h1, h2⟩ := h
 refine ⟨h1.put _ _, fun t z => ?_⟩
 simp only [look]
 by_cases e : s = t
 ·subst e
  rw [if_pos rfl, atKey_put_same h1 (by simp [klit, WideAt.IsKeyLit])]
 ·rw [if_neg e, atKey_put_other (klit_ne e)]
  exact h2 t z
structure MapsI (base : Nat) (W : World) (mb : List (Option Nat)) (nm : List (List (ByteArray × Int))) : Prop where
 len : mb.length = nm.length
 some_ : ∀ (i b : Nat), mb[i]? = some (some b) → base ≤ b ∧ ∃ D, W.ownsMap Try.prog 9 (plainElem Try.prog 3) b (nm.getD i []).length D ∧ MapIs D (nm.getD i [])
 none_ : ∀ (i : Nat), mb[i]? = some none → nm.getD i [] = []
 apart : ∀ (i j b : Nat), mb[i]? = some (some b) → mb[j]? = some (some b) → i = j
theorem MapsI.step {base : Nat} {W w1 : World} {mb : List (Option Nat)} {nm : List (List (ByteArray × Int))} (h : MapsI base W mb nm) (hs : ∀ (b : Nat) es c, W.heap[b]? = some (Obj.map es c) → w1.heap[b]? = W.heap[b]?) : MapsI base w1 mb nm := by
 refine ⟨h.len, fun i b hb => ?_, h.none_, h.apart⟩
 obtain ⟨h1, D, ⟨es, c, h2, h3⟩, h4⟩ := h.some_ i b hb
 exact ⟨h1, D, ⟨es, c, (hs b es c h2).trans h2, h3⟩, h4⟩
theorem MapsI.below {base : Nat} {W w1 : World} {mb : List (Option Nat)} {nm : List (List (ByteArray × Int))} (h : MapsI base W mb nm) (hb : Below W.heap.size W w1) : MapsI base w1 mb nm := h.step (fun b es c e => hb.block b (Array.getElem?_eq_some_iff.1 e).1)
theorem MapsI.grown {base : Nat} {W w1 : World} {mb : List (Option Nat)} {nm : List (List (ByteArray × Int))} {row : Option Nat} (h : MapsI base W mb nm) (hg : W.grownBy w1 row) (hr : ∀ k, row = some k → ∃ cells e, W.heap[k]? = some (.cells cells e (0, 0))) : MapsI base w1 mb nm :=
 h.step (fun b es c e => hg.block b (Array.getElem?_eq_some_iff.1 e).1 (fun he => by
  obtain ⟨cs, t, h2⟩ := hr b he.symm
  rw [e] at h2; cases h2))
theorem MapsI.set {base g j t : Nat} {W : World} {cs : Array Value} {u : Value} {mb : List (Option Nat)} {nm : List (List (ByteArray × Int))} (h : MapsI base W mb nm) (hg : W.heap[g]? = some (.cells cs t (0, 0))) : MapsI base (W.setCell ⟨g, j, none⟩ u) mb nm :=
 h.step (fun b es c e => Below.heap_setCell W ⟨g, j, none⟩ u b (fun he => by
  dsimp only at he
  subst he
  rw [e] at hg; cases hg))
def kmap : Kd (Option Nat) := Kd.scalar Value.map (fun _ => rfl)
structure ImI (w0 W : World) (gI : Nat) (vM ub uw uf ur us un : Value) (bg wh fa : List Int) (re : List ByteArray) (st : List Int) (mb : List (Option Nat)) (nm : List (List (ByteArray × Int))) : Prop where
 rb : Kd.R (Kd.int .i64) 3 W w0.heap.size (fun k => some k ≠ uw.ownBlock ∧ some k ≠ uf.ownBlock ∧ some k ≠ us.ownBlock) ub bg
 rw_ : Kd.R (Kd.int .i64) 3 W w0.heap.size (fun k => some k ≠ ub.ownBlock ∧ some k ≠ uf.ownBlock ∧ some k ≠ us.ownBlock) uw wh
 rf : Kd.R (Kd.int .i64) 3 W w0.heap.size (fun k => some k ≠ ub.ownBlock ∧ some k ≠ uw.ownBlock ∧ some k ≠ us.ownBlock) uf fa
 rs : Kd.R (Kd.int .i64) 3 W w0.heap.size (fun k => some k ≠ ub.ownBlock ∧ some k ≠ uw.ownBlock ∧ some k ≠ uf.ownBlock) us st
 rr : Kd.R Kd.string 9 W w0.heap.size (fun _ => True) ur re
 rn : Kd.R kmap 140 W w0.heap.size (fun _ => True) un mb
 mp : MapsI w0.heap.size W mb nm
 bx : W.heap[gI]? = some (.cells #[vM, un, ub, uw, uf, ur, us] 104 (0, 0))
 be : Below w0.heap.size w0 W
 hg : w0.heap.size ≤ gI
variable {w0 W w1 : World} {gI : Nat} {vM ub uw uf ur us un v1 : Value} {bg wh fa : List Int} {re : List ByteArray} {st r' : List Int} {mb : List (Option Nat)} {nm : List (List (ByteArray × Int))}
theorem ImI.below (h : ImI w0 W gI vM ub uw uf ur us un bg wh fa re st mb nm) (hb : Below W.heap.size W w1) : ImI w0 w1 gI vM ub uw uf ur us un bg wh fa re st mb nm :=
 ⟨Kd.R_below h.rb hb, Kd.R_below h.rw_ hb, Kd.R_below h.rf hb, Kd.R_below h.rs hb, Kd.R_below h.rr hb, Kd.R_below h.rn hb, h.mp.below hb, blk_below h.bx hb, below_step h.be hb, h.hg⟩
theorem ImI.alloc (h : ImI w0 W gI vM ub uw uf ur us un bg wh fa re st mb nm) (o : Obj) : ImI w0 (W.alloc o) gI vM ub uw uf ur us un bg wh fa re st mb nm := h.below (bal (Below.refl _ _) o)
theorem ImI.drew (h : ImI w0 W gI vM ub uw uf ur us un bg wh fa re st mb nm) : ImI w0 W.drew gI vM ub uw uf ur us un bg wh fa re st mb nm := h.below (below_drew (Below.refl _ _))
theorem ImI.cells (h : ImI w0 W gI vM ub uw uf ur us un bg wh fa re st mb nm) : W.cell? ⟨gI, 0, none⟩ = some vM ∧ W.cell? ⟨gI, 1, none⟩ = some un ∧ W.cell? ⟨gI, 2, none⟩ = some ub ∧ W.cell? ⟨gI, 3, none⟩ = some uw ∧ W.cell? ⟨gI, 4, none⟩ = some uf ∧ W.cell? ⟨gI, 5, none⟩ = some ur ∧ W.cell? ⟨gI, 6, none⟩ = some us ∧ ∀ j, W.frozen? ⟨gI, j, none⟩ = false :=
 ⟨(bC h.bx 0).trans rfl, (bC h.bx 1).trans rfl, (bC h.bx 2).trans rfl, (bC h.bx 3).trans rfl, (bC h.bx 4).trans rfl, (bC h.bx 5).trans rfl, (bC h.bx 6).trans rfl, fun j => bF h.bx j⟩
theorem ImI.stateAt (h : ImI w0 W gI vM ub uw uf ur us un bg wh fa re st mb nm) {i : Nat} (hi : i < st.length) : ∃ g c, us = .slice (some ⟨g, 0, none⟩) st.length c ∧ W.cell? ⟨g, i, none⟩ = some (.int .i64 (rd st (i : Int))) ∧ W.frozen? ⟨g, i, none⟩ = false := by
 obtain ⟨g, c, rfl, _⟩ := Kd.R_form h.rs (by omega)
 obtain ⟨h1, h2⟩ := Kd.R_cell (0 : Int) h.rs (i : Int) (by omega) (by omega)
 exact ⟨g, c, rfl, h1, h2⟩
theorem ImI.stateN {n g c i : Nat} (h : ImI w0 W gI vM ub uw uf ur (.slice (some ⟨g, 0, none⟩) n c) un bg wh fa re st mb nm) (hn : st.length = n) (hi : i < n) :
  W.cell? ⟨g, i, none⟩ = some (.int .i64 (rd st (i : Int))) ∧ W.frozen? ⟨g, i, none⟩ = false := by
 obtain ⟨g2, c2, e, h1, h2⟩ := h.stateAt (i := i) (by omega)
 injection e with e _ _
 injection e with e
 injection e with e _ _
 subst e
 exact ⟨h1, h2⟩
theorem ImI.mapAt {n g c i : Nat} (h : ImI w0 W gI vM ub uw uf ur us (.slice (some ⟨g, 0, none⟩) n c) bg wh fa re st mb nm) (hn : mb.length = n) (hi : i < n) :
  W.cell? ⟨g, i, none⟩ = some (.map (mb.getD i none)) ∧ W.frozen? ⟨g, i, none⟩ = false := by
 subst hn
 exact Kd.R_cell (none : Option Nat) h.rn (i : Int) (by omega) (by omega)
theorem ImI.setStateN {n g c i : Nat} {x : Int} (h : ImI w0 W gI vM ub uw uf ur (.slice (some ⟨g, 0, none⟩) n c) un bg wh fa re st mb nm) (hn : st.length = n) (hi : i < n) :
  ImI w0 (W.setCell ⟨g, i, none⟩ (.int .i64 x)) gI vM ub uw uf ur (.slice (some ⟨g, 0, none⟩) n c) un bg wh fa re (st.set i x) mb nm := by
 subst hn
 have HP := Kd.R_put h.rs (i : Int) x
 have own : (Value.slice (some ⟨g, 0, none⟩) st.length c).ownBlock = some g := rfl
 obtain ⟨cells, hty⟩ := Kd.R_typed h.rs g own
 have hb2 := Kd.R_base h.rs g own
 have hg : W.grownBy (W.setCell ⟨g, i, none⟩ (.int .i64 x)) (Value.slice (some ⟨g, 0, none⟩) st.length c).ownBlock := HP.2
 exact ⟨Kd.R_far (p := ⟨g, i, none⟩) h.rb (fun k hk e => hk.2.2 (by rw [own, e])) _, Kd.R_far (p := ⟨g, i, none⟩) h.rw_ (fun k hk e => hk.2.2 (by rw [own, e])) _, Kd.R_far (p := ⟨g, i, none⟩) h.rf (fun k hk e => hk.2.2 (by rw [own, e])) _,
  HP.1, Kd.R_over' h.rr (Kd.R_typed h.rs) (by decide) hg, Kd.R_over' h.rn (Kd.R_typed h.rs) (by decide) hg, h.mp.set hty, blk_far h.bx (blk_ne h.bx hty (by decide)) _, bS h.be hb2, h.hg⟩
theorem ImI.putB (h : ImI w0 W gI vM ub uw uf ur us un bg wh fa re st mb nm) (ho : Kd.R (Kd.int .i64) 3 w1 w0.heap.size (fun k => some k ≠ uw.ownBlock ∧ some k ≠ uf.ownBlock ∧ some k ≠ us.ownBlock) v1 r') (hb : Below w0.heap.size w0 w1) (hg : W.grownBy w1 ub.ownBlock)
  (hat : v1.ownBlock = ub.ownBlock ∨ ∃ b, v1.ownBlock = some b ∧ W.heap.size ≤ b) : ImI w0 (w1.setCell ⟨gI, 2, none⟩ v1) gI vM v1 uw uf ur us un r' wh fa re st mb nm ∧ w1.cell? ⟨gI, 2, none⟩ = some ub ∧ w1.frozen? ⟨gI, 2, none⟩ = false := by
 have BX := blk_grown h.bx hg (Kd.R_ne h.rb h.bx (by decide))
 have S0 := Kd.R_after (ok := (fun k => some k ≠ uf.ownBlock ∧ some k ≠ us.ownBlock)) (Kd.R_mono h.rw_ (fun _ hk => ⟨hk.2, hk.1⟩)) hg hat
 have S1 := Kd.R_after (ok := (fun k => some k ≠ uw.ownBlock ∧ some k ≠ us.ownBlock)) (Kd.R_mono h.rf (fun _ hk => ⟨hk.2, hk.1⟩)) hg hat
 have S2 := Kd.R_after (ok := (fun k => some k ≠ uw.ownBlock ∧ some k ≠ uf.ownBlock)) (Kd.R_mono h.rs (fun _ hk => ⟨hk.2, hk.1⟩)) hg hat
 have S5 := Kd.R_over' h.rr (Kd.R_typed h.rb) (by decide) hg
 have S6 := Kd.R_over' h.rn (Kd.R_typed h.rb) (by decide) hg
 refine ⟨⟨Kd.R_mono (Kd.R_far (p := ⟨gI, 2, none⟩) (Kd.R_types ho BX (by decide)) (fun _ hk => hk.2) v1) (fun _ hk => hk.1), Kd.R_mono (Kd.R_far (p := ⟨gI, 2, none⟩) (Kd.R_types S0 BX (by decide)) (fun _ hk => hk.2) v1) (fun _ hk => ⟨hk.1.2, hk.1.1⟩), Kd.R_mono (Kd.R_far (p := ⟨gI, 2, none⟩) (Kd.R_types S1 BX (by decide)) (fun _ hk => hk.2) v1) (fun _ hk => ⟨hk.1.2, hk.1.1⟩), Kd.R_mono (Kd.R_far (p := ⟨gI, 2, none⟩) (Kd.R_types S2 BX (by decide)) (fun _ hk => hk.2) v1) (fun _ hk => ⟨hk.1.2, hk.1.1⟩), Kd.R_mono (Kd.R_far (p := ⟨gI, 2, none⟩) (Kd.R_types S5 BX (by decide)) (fun _ hk => hk.2) v1) (fun _ hk => trivial), Kd.R_mono (Kd.R_far (p := ⟨gI, 2, none⟩) (Kd.R_types S6 BX (by decide)) (fun _ hk => hk.2) v1) (fun _ hk => trivial),
  (h.mp.grown hg (fun k hk => let ⟨c, hc⟩ := Kd.R_typed h.rb k hk; ⟨c, 3, hc⟩)).set BX, blk_put (cs := #[vM, un, ub, uw, uf, ur, us]) BX 2 _ rfl, bS hb h.hg, h.hg⟩, (bC BX 2).trans rfl, bF BX 2⟩
theorem ImI.putW (h : ImI w0 W gI vM ub uw uf ur us un bg wh fa re st mb nm) (ho : Kd.R (Kd.int .i64) 3 w1 w0.heap.size (fun k => some k ≠ ub.ownBlock ∧ some k ≠ uf.ownBlock ∧ some k ≠ us.ownBlock) v1 r') (hb : Below w0.heap.size w0 w1) (hg : W.grownBy w1 uw.ownBlock)
  (hat : v1.ownBlock = uw.ownBlock ∨ ∃ b, v1.ownBlock = some b ∧ W.heap.size ≤ b) : ImI w0 (w1.setCell ⟨gI, 3, none⟩ v1) gI vM ub v1 uf ur us un bg r' fa re st mb nm ∧ w1.cell? ⟨gI, 3, none⟩ = some uw ∧ w1.frozen? ⟨gI, 3, none⟩ = false := by
 have BX := blk_grown h.bx hg (Kd.R_ne h.rw_ h.bx (by decide))
 have S0 := Kd.R_after (ok := (fun k => some k ≠ uf.ownBlock ∧ some k ≠ us.ownBlock)) (Kd.R_mono h.rb (fun _ hk => ⟨hk.2, hk.1⟩)) hg hat
 have S1 := Kd.R_after (ok := (fun k => some k ≠ ub.ownBlock ∧ some k ≠ us.ownBlock)) (Kd.R_mono h.rf (fun _ hk => ⟨⟨hk.1, hk.2.2⟩, hk.2.1⟩)) hg hat
 have S2 := Kd.R_after (ok := (fun k => some k ≠ ub.ownBlock ∧ some k ≠ uf.ownBlock)) (Kd.R_mono h.rs (fun _ hk => ⟨⟨hk.1, hk.2.2⟩, hk.2.1⟩)) hg hat
 have S5 := Kd.R_over' h.rr (Kd.R_typed h.rw_) (by decide) hg
 have S6 := Kd.R_over' h.rn (Kd.R_typed h.rw_) (by decide) hg
 refine ⟨⟨Kd.R_mono (Kd.R_far (p := ⟨gI, 3, none⟩) (Kd.R_types S0 BX (by decide)) (fun _ hk => hk.2) v1) (fun _ hk => ⟨hk.1.2, hk.1.1⟩), Kd.R_mono (Kd.R_far (p := ⟨gI, 3, none⟩) (Kd.R_types ho BX (by decide)) (fun _ hk => hk.2) v1) (fun _ hk => hk.1), Kd.R_mono (Kd.R_far (p := ⟨gI, 3, none⟩) (Kd.R_types S1 BX (by decide)) (fun _ hk => hk.2) v1) (fun _ hk => ⟨hk.1.1.1, hk.1.2, hk.1.1.2⟩), Kd.R_mono (Kd.R_far (p := ⟨gI, 3, none⟩) (Kd.R_types S2 BX (by decide)) (fun _ hk => hk.2) v1) (fun _ hk => ⟨hk.1.1.1, hk.1.2, hk.1.1.2⟩), Kd.R_mono (Kd.R_far (p := ⟨gI, 3, none⟩) (Kd.R_types S5 BX (by decide)) (fun _ hk => hk.2) v1) (fun _ hk => trivial), Kd.R_mono (Kd.R_far (p := ⟨gI, 3, none⟩) (Kd.R_types S6 BX (by decide)) (fun _ hk => hk.2) v1) (fun _ hk => trivial),
  (h.mp.grown hg (fun k hk => let ⟨c, hc⟩ := Kd.R_typed h.rw_ k hk; ⟨c, 3, hc⟩)).set BX, blk_put (cs := #[vM, un, ub, uw, uf, ur, us]) BX 3 _ rfl, bS hb h.hg, h.hg⟩, (bC BX 3).trans rfl, bF BX 3⟩
theorem ImI.putF (h : ImI w0 W gI vM ub uw uf ur us un bg wh fa re st mb nm) (ho : Kd.R (Kd.int .i64) 3 w1 w0.heap.size (fun k => some k ≠ ub.ownBlock ∧ some k ≠ uw.ownBlock ∧ some k ≠ us.ownBlock) v1 r') (hb : Below w0.heap.size w0 w1) (hg : W.grownBy w1 uf.ownBlock)
  (hat : v1.ownBlock = uf.ownBlock ∨ ∃ b, v1.ownBlock = some b ∧ W.heap.size ≤ b) : ImI w0 (w1.setCell ⟨gI, 4, none⟩ v1) gI vM ub uw v1 ur us un bg wh r' re st mb nm ∧ w1.cell? ⟨gI, 4, none⟩ = some uf ∧ w1.frozen? ⟨gI, 4, none⟩ = false := by
 have BX := blk_grown h.bx hg (Kd.R_ne h.rf h.bx (by decide))
 have S0 := Kd.R_after (ok := (fun k => some k ≠ uw.ownBlock ∧ some k ≠ us.ownBlock)) (Kd.R_mono h.rb (fun _ hk => ⟨⟨hk.1, hk.2.2⟩, hk.2.1⟩)) hg hat
 have S1 := Kd.R_after (ok := (fun k => some k ≠ ub.ownBlock ∧ some k ≠ us.ownBlock)) (Kd.R_mono h.rw_ (fun _ hk => ⟨⟨hk.1, hk.2.2⟩, hk.2.1⟩)) hg hat
 have S2 := Kd.R_after (ok := (fun k => some k ≠ ub.ownBlock ∧ some k ≠ uw.ownBlock)) (Kd.R_mono h.rs (fun _ hk => ⟨⟨hk.1, hk.2.1⟩, hk.2.2⟩)) hg hat
 have S5 := Kd.R_over' h.rr (Kd.R_typed h.rf) (by decide) hg
 have S6 := Kd.R_over' h.rn (Kd.R_typed h.rf) (by decide) hg
 refine ⟨⟨Kd.R_mono (Kd.R_far (p := ⟨gI, 4, none⟩) (Kd.R_types S0 BX (by decide)) (fun _ hk => hk.2) v1) (fun _ hk => ⟨hk.1.1.1, hk.1.2, hk.1.1.2⟩), Kd.R_mono (Kd.R_far (p := ⟨gI, 4, none⟩) (Kd.R_types S1 BX (by decide)) (fun _ hk => hk.2) v1) (fun _ hk => ⟨hk.1.1.1, hk.1.2, hk.1.1.2⟩), Kd.R_mono (Kd.R_far (p := ⟨gI, 4, none⟩) (Kd.R_types ho BX (by decide)) (fun _ hk => hk.2) v1) (fun _ hk => hk.1), Kd.R_mono (Kd.R_far (p := ⟨gI, 4, none⟩) (Kd.R_types S2 BX (by decide)) (fun _ hk => hk.2) v1) (fun _ hk => ⟨hk.1.1.1, hk.1.1.2, hk.1.2⟩), Kd.R_mono (Kd.R_far (p := ⟨gI, 4, none⟩) (Kd.R_types S5 BX (by decide)) (fun _ hk => hk.2) v1) (fun _ hk => trivial), Kd.R_mono (Kd.R_far (p := ⟨gI, 4, none⟩) (Kd.R_types S6 BX (by decide)) (fun _ hk => hk.2) v1) (fun _ hk => trivial),
  (h.mp.grown hg (fun k hk => let ⟨c, hc⟩ := Kd.R_typed h.rf k hk; ⟨c, 3, hc⟩)).set BX, blk_put (cs := #[vM, un, ub, uw, uf, ur, us]) BX 4 _ rfl, bS hb h.hg, h.hg⟩, (bC BX 4).trans rfl, bF BX 4⟩
theorem ImI.putR {r2 : List ByteArray} (h : ImI w0 W gI vM ub uw uf ur us un bg wh fa re st mb nm) (ho : Kd.R Kd.string 9 w1 w0.heap.size (fun _ => True) v1 r2) (hb : Below w0.heap.size w0 w1) (hg : W.grownBy w1 ur.ownBlock) :
  ImI w0 (w1.setCell ⟨gI, 5, none⟩ v1) gI vM ub uw uf v1 us un bg wh fa r2 st mb nm ∧ w1.cell? ⟨gI, 5, none⟩ = some ur ∧ w1.frozen? ⟨gI, 5, none⟩ = false := by
 have BX := blk_grown h.bx hg (Kd.R_ne h.rr h.bx (by decide))
 have R1 := Kd.R_over' h.rb (Kd.R_typed h.rr) (by decide) hg
 have R2 := Kd.R_over' h.rw_ (Kd.R_typed h.rr) (by decide) hg
 have R3 := Kd.R_over' h.rf (Kd.R_typed h.rr) (by decide) hg
 have R4 := Kd.R_over' h.rs (Kd.R_typed h.rr) (by decide) hg
 have R6 := Kd.R_over' h.rn (Kd.R_typed h.rr) (by decide) hg
 refine ⟨⟨Kd.R_mono (Kd.R_far (p := ⟨gI, 5, none⟩) (Kd.R_types R1 BX (by decide)) (fun _ hk => hk.2) v1) (fun _ hk => hk.1), Kd.R_mono (Kd.R_far (p := ⟨gI, 5, none⟩) (Kd.R_types R2 BX (by decide)) (fun _ hk => hk.2) v1) (fun _ hk => hk.1), Kd.R_mono (Kd.R_far (p := ⟨gI, 5, none⟩) (Kd.R_types R3 BX (by decide)) (fun _ hk => hk.2) v1) (fun _ hk => hk.1), Kd.R_mono (Kd.R_far (p := ⟨gI, 5, none⟩) (Kd.R_types R4 BX (by decide)) (fun _ hk => hk.2) v1) (fun _ hk => hk.1), Kd.R_mono (Kd.R_far (p := ⟨gI, 5, none⟩) (Kd.R_types ho BX (by decide)) (fun _ hk => hk.2) v1) (fun _ hk => trivial), Kd.R_mono (Kd.R_far (p := ⟨gI, 5, none⟩) (Kd.R_types R6 BX (by decide)) (fun _ hk => hk.2) v1) (fun _ hk => trivial),
  (h.mp.grown hg (fun k hk => let ⟨c, hc⟩ := Kd.R_typed h.rr k hk; ⟨c, 9, hc⟩)).set BX, blk_put (cs := #[vM, un, ub, uw, uf, ur, us]) BX 5 _ rfl, bS hb h.hg, h.hg⟩, (bC BX 5).trans rfl, bF BX 5⟩
theorem getD_set2 {α : Type} {l : List α} {i j : Nat} {x d : α} (hi : i < l.length) : (l.set i x).getD j d = if i = j then x else l.getD j d := by
 rw [List.getD_eq_getElem?_getD, List.getD_eq_getElem?_getD]
 by_cases h : i = j
 ·subst h; rw [if_pos rfl, List.getElem?_set_self hi]; rfl
 ·rw [if_neg h, List.getElem?_set_ne h]
theorem ImI.setMap {n g c i : Nat} {x : Option Nat} {y : List (ByteArray × Int)} (h : ImI w0 W gI vM ub uw uf ur us (.slice (some ⟨g, 0, none⟩) n c) bg wh fa re st mb nm) (hn : mb.length = n) (hi : i < n)
  (h0 : x = none → y = []) (h1 : ∀ b : Nat, x = some b → w0.heap.size ≤ b ∧ (∃ D, W.ownsMap Try.prog 9 (plainElem Try.prog 3) b y.length D ∧ MapIs D y) ∧ ∀ j : Nat, mb[j]? = some (some b) → j = i) :
  ImI w0 (W.setCell ⟨g, i, none⟩ (.map x)) gI vM ub uw uf ur us (.slice (some ⟨g, 0, none⟩) n c) bg wh fa re st (mb.set i x) (nm.set i y) := by
 subst hn
 have HP := Kd.R_put h.rn (i : Int) x
 have own : (Value.slice (some ⟨g, 0, none⟩) mb.length c).ownBlock = some g := rfl
 obtain ⟨cells, hty⟩ := Kd.R_typed h.rn g own
 have hb2 := Kd.R_base h.rn g own
 have hg : W.grownBy (W.setCell ⟨g, i, none⟩ (.map x)) (Value.slice (some ⟨g, 0, none⟩) mb.length c).ownBlock := HP.2
 have hni : i < nm.length := by have := h.mp.len; omega
 have hM : MapsI w0.heap.size W (mb.set i x) (nm.set i y) := by
  refine ⟨by simp [h.mp.len], fun j b hj => ?_, fun j hj => ?_, fun j k b hj hk => ?_⟩
  ·rw [getD_set2 hni]
   by_cases e : i = j
   ·subst e
    rw [List.getElem?_set_self hi] at hj
    injection hj with hj
    rw [if_pos rfl]
    obtain ⟨h2, h3, _⟩ := h1 b hj
    exact ⟨h2, h3⟩
   ·rw [List.getElem?_set_ne e] at hj
    rw [if_neg e]
    exact h.mp.some_ j b hj
  ·rw [getD_set2 hni]
   by_cases e : i = j
   ·subst e
    rw [List.getElem?_set_self hi] at hj
    injection hj with hj
    rw [if_pos rfl]
    exact h0 hj
   ·rw [List.getElem?_set_ne e] at hj
    rw [if_neg e]
    exact h.mp.none_ j hj
  ·by_cases e : i = j
   ·subst e
    rw [List.getElem?_set_self hi] at hj
    injection hj with hj
    by_cases e2 : i = k
    ·exact e2
    ·rw [List.getElem?_set_ne e2] at hk
     exact ((h1 b hj).2.2 k hk).symm
   ·rw [List.getElem?_set_ne e] at hj
    by_cases e2 : i = k
    ·subst e2
     rw [List.getElem?_set_self hi] at hk
     injection hk with hk
     exact (h1 b hk).2.2 j hj
    ·rw [List.getElem?_set_ne e2] at hk
     exact h.mp.apart j k b hj hk
 exact ⟨Kd.R_over' h.rb (Kd.R_typed h.rn) (by decide) hg, Kd.R_over' h.rw_ (Kd.R_typed h.rn) (by decide) hg, Kd.R_over' h.rf (Kd.R_typed h.rn) (by decide) hg, Kd.R_over' h.rs (Kd.R_typed h.rn) (by decide) hg, Kd.R_over' h.rr (Kd.R_typed h.rn) (by decide) hg,
  HP.1, hM.set hty, blk_far h.bx (blk_ne h.bx hty (by decide)) _, bS h.be hb2, h.hg⟩
theorem getD_none {mb : List (Option Nat)} {i : Nat} (hi : i < mb.length) : mb[i]? = some (mb.getD i none) := by
 rw [List.getD_eq_getElem?_getD, List.getElem?_eq_getElem hi]; rfl
theorem R_nomap {α : Type} {d : Kd α} {e b base : Nat} {w w1 : World} {ok : Nat → Prop} {v : Value} {xs : List α} {es : _} {c : _} (h : d.R e w base ok v xs) (hb : w.heap[b]? = some (Obj.map es c)) (hg : w.grownBy w1 (some b)) : d.R e w1 base ok v xs :=
 Kd.R_mono (Kd.R_grown (Kd.R_bound h) hg (fun k hk he => by
  obtain ⟨_, _, _, q, _, cells, h2⟩ := hk
  injection he with he
  subst he
  rw [hb] at h2; cases h2)) (fun _ hk => hk.1)
theorem ImI.mapPut {i b : Nat} {s : ByteArray} {v : Int} (h : ImI w0 W gI vM ub uw uf ur us un bg wh fa re st mb nm) (hi : mb[i]? = some (some b)) (hs : s.size ≤ 1000) (hv : 0 ≤ v ∧ v ≤ 1000000) (hl : (nm.getD i []).length < 1000000000000) :
  ∃ w1, (Instr.mapUpdate 140 (.map (some b)) (.string s) (.int .i64 v)).run Try.prog W = .ok () w1 ∧ ImI w0 w1 gI vM ub uw uf ur us un bg wh fa re st mb (nm.set i ((s, v) :: nm.getD i [])) := by
 obtain ⟨hbase, D, hown, hD⟩ := h.mp.some_ i b hi
 obtain ⟨w1, hrun, hown1, hg⟩ := hown.update law9 Try.underlying140 (by unfold maxLen; omega) (WideMaps.keyOf_string_mk (s := s) Try.underlying9 (by unfold maxLen; omega)) (plainElem_int (a := v) Try.underlying3 (WalkArith.wf_i64 ⟨by omega, by omega⟩))
 obtain ⟨es, c, hb0, _⟩ := hown
 have hlt : i < mb.length := (List.getElem?_eq_some_iff.1 hi).1
 have hni : i < nm.length := by have := h.mp.len; omega
 refine ⟨w1, hrun, ⟨R_nomap h.rb hb0 hg, R_nomap h.rw_ hb0 hg, R_nomap h.rf hb0 hg, R_nomap h.rs hb0 hg, R_nomap h.rr hb0 hg, R_nomap h.rn hb0 hg, ⟨by simp [h.mp.len], fun j b2 hj => ?_, fun j hj => ?_, h.mp.apart⟩, blk_grown h.bx hg (fun e => by injection e with e; subst e; rw [h.bx] at hb0; cases hb0), pw_below_grown h.be _ (below_size h.be) hg (fun k hk => by injection hk with hk; subst hk; exact hbase), h.hg⟩⟩
 ·rw [getD_set2 hni]
  by_cases e : i = j
  ·subst e
   rw [hi] at hj
   injection hj with hj
   injection hj with hj
   subst hj
   rw [if_pos rfl]
   exact ⟨hbase, _, hown1, mapIs_put hD s v⟩
  ·rw [if_neg e]
   obtain ⟨h2, D2, h3, h4⟩ := h.mp.some_ j b2 hj
   exact ⟨h2, D2, h3.kept hg (fun e2 => e (by injection e2 with e2; subst e2; exact h.mp.apart i j b2 hi hj)), h4⟩
 ·rw [getD_set2 hni]
  by_cases e : i = j
  ·subst e; rw [hi] at hj; cases hj
  ·rw [if_neg e]; exact h.mp.none_ j hj
theorem ImI.lookup {i : Nat} {s : ByteArray} (h : ImI w0 W gI vM ub uw uf ur us un bg wh fa re st mb nm) (hi : i < mb.length) (hs : s.size ≤ 1000) :
  (Instr.lookup 140 (.map (mb.getD i none)) (.string s) true).run Try.prog W = .ok (.tuple #[.int .i64 ((look (nm.getD i []) s).getD 0), .bool (look (nm.getD i []) s).isSome]) W := by
 have hk : keyOf Try.prog 9 (.string s) = some (klit s) := WideMaps.keyOf_string_mk (s := s) Try.underlying9 (by unfold maxLen; omega)
 have hi2 := getD_none hi
 cases hm : mb.getD i none with
 | none =>
  rw [hm] at hi2
  rw [h.mp.none_ i hi2]
  exact Maps.look_nil true law9 Try.underlying140 (zero3 W) hk
 | some b =>
  rw [hm] at hi2
  obtain ⟨_, D, hown, hD⟩ := h.mp.some_ i b hi2
  obtain ⟨v, ps, hrun, hv⟩ := hown.look_ok law9 Try.underlying140 (zero3 W) (plainElem_int Try.underlying3 (WalkArith.wf_i64 ⟨by omega, by omega⟩)) hk
  obtain ⟨c, rfl, hc, _⟩ := plainElem_int_inv Try.underlying3 hv
  have hc1 : D.atKey (klit s) (.lit (.int .i64 0)) = .lit (.int .i64 c) := congrArg Prod.fst hc
  have hat0 := hD.2 s
  rw [hrun]
  cases hl : look (nm.getD i []) s with
  | none =>
   have hat : ∀ z, D.atKey (klit s) z = z := fun z => by have := hat0 z; rw [hl] at this; exact this
   rw [has_false_of_atKey hat]
   rw [hat] at hc1
   injection hc1 with hc1
   injection hc1 with _ hc1
   subst hc1
   rfl
  | some u =>
   have hat : ∀ z, D.atKey (klit s) z = .lit (.int .i64 u) := fun z => by have := hat0 z; rw [hl] at this; exact this
   rw [has_true_of_atKey hat]
   rw [hat] at hc1
   injection hc1 with hc1
   injection hc1 with _ hc1
   subst hc1
   rfl
end Go.Proofs.Ytehhhlhedmfdiaa.PFnImportOrder
end
section
namespace Go.Proofs.Ytehhhlhedmfdiaa.PFnImportOrder
open Go.RowKit Go.Proofs.Yz0.PrintWords Go.Proofs.Yz0.PrintLast Go.Proofs.Yz0.PrintMore
set_option linter.unusedVariables false
set_option linter.unusedSimpArgs false
def MsOk (st : List Int) (mb : List (Option Nat)) : Prop := ∀ i : Nat, st.getD i 0 ≠ 0 → ∃ b : Nat, mb[i]? = some (some b)
def ImR (w0 W : World) (gI : Nat) (vM uf us un : Value) (fa : List Int) (s : IS) : Prop :=
 ∃ ub uw ur mb, ImI w0 W gI vM ub uw uf ur us un s.bg s.wh fa s.re s.st mb s.nm ∧ MsOk s.st mb
theorem ImR.below {w0 W w1 : World} {gI : Nat} {vM uf us un : Value} {fa : List Int} {s : IS} (h : ImR w0 W gI vM uf us un fa s) (hb : Below W.heap.size W w1) : ImR w0 w1 gI vM uf us un fa s := by
 obtain ⟨ub, uw, ur, mb, hI, hV⟩ := h
 exact ⟨ub, uw, ur, mb, hI.below hb, hV⟩
def ImPost (w0 : World) (gI : Nat) (vM uf us un : Value) (fa : List Int) (b : Bool) (s : IS) (e : Ending) (W : World) : Prop := e = .returned (.bool b) ∧ ImR w0 W gI vM uf us un fa s
def ImLoads (M : List S72) (A0 : Option Addr) (c0 : Nat) (w0 : World) (gI : Nat) (uf us un : Value) (fa : List Int) (L : Int → IS → Option (Bool × IS)) : Prop :=
 ∀ (i : Int) (s : IS) (b : Bool) (s' : IS) (W : World), L i s = some (b, s') → ImR w0 W gI (.slice A0 M.length c0) uf us un fa s →
  Calls Try.prog 69 #[.pointer (some ⟨gI, 0, none⟩), .int .i64 i] W (ImPost w0 gI (.slice A0 M.length c0) uf us un fa b s')
def ImSteps (M : List S72) (A0 : Option Addr) (c0 : Nat) (w0 : World) (gI : Nat) (uf us un : Value) (fa : List Int) (F : Int → S74 → IS → Option (Bool × IS)) : Prop :=
 ∀ (i : Int) (x : S74) (s : IS) (b : Bool) (s' : IS) (W : World), F i x s = some (b, s') → ImR w0 W gI (.slice A0 M.length c0) uf us un fa s →
  Calls Try.prog 109 #[.pointer (some ⟨gI, 0, none⟩), .int .i64 i, .agg #[.int .i64 x.f0, .int .i64 x.f1, .string x.f2]] W (ImPost w0 gI (.slice A0 M.length c0) uf us un fa b s')
theorem drop74 {l : List S74} {j : Nat} (h : j < l.length) : l.drop j = rY l (j : Int) :: l.drop (j + 1) := by
 unfold rY
 rw [show ((j : Int)).toNat = j from rfl, List.getD_eq_getElem?_getD, List.getElem?_eq_getElem h, List.drop_eq_getElem_cons h]
 rfl
theorem set_same {α : Type} {l : List α} {i : Nat} {d x : α} (h : l.getD i d = x) : l.set i x = l := by
 by_cases hi : i < l.length
 ·subst h
  rw [List.getD_eq_getElem?_getD, List.getElem?_eq_getElem hi]
  exact List.set_getElem_self hi
 ·exact List.set_eq_of_length_le (by omega)
theorem getD_setI {l : List Int} {i j : Nat} {x : Int} : (l.set i x).getD j 0 ≠ 0 → (i = j ∧ x ≠ 0) ∨ (i ≠ j ∧ l.getD j 0 ≠ 0) := by
 intro h
 by_cases e : i = j
 ·subst e
  refine .inl ⟨rfl, fun e2 => h ?_⟩
  subst e2
  rw [List.getD_eq_getElem?_getD, List.getElem?_set]
  split
  ·split <;> rfl
  ·contradiction
 ·refine .inr ⟨e, ?_⟩
  rw [List.getD_eq_getElem?_getD, List.getElem?_set_ne e, ← List.getD_eq_getElem?_getD] at h
  exact h
section
variable {P : Program} {ops : Array Oper} {rest : List Oper} {o : Oper} {a : Act} {Q : Exit → Act → World → Prop}
theorem map_event {W : World} (hgd : o.guard = none) (hrun : (execOp a.eval o).run P W = .ok (.value (.map (some W.heap.size))) (W.alloc (.map #[] 0)))
  (h : ∀ g, g = W.heap.size → ∀ w1, w1 = W.alloc (.map #[] 0) → wpList P ops Q rest (a.put o.dst (.map (some g))) w1) : wpList P ops Q (o :: rest) a W :=
 Kd.event_run hgd hrun (h _ rfl _ rfl)
end
theorem ImI.fresh {w0 W : World} {gI : Nat} {vM ub uw uf ur us un : Value} {bg wh fa : List Int} {re : List ByteArray} {st : List Int} {mb : List (Option Nat)} {nm : List (List (ByteArray × Int))} (h : ImI w0 W gI vM ub uw uf ur us un bg wh fa re st mb nm) (j : Nat) : mb[j]? ≠ some (some W.heap.size) := by
 intro e
 obtain ⟨_, D, hown, _⟩ := h.mp.some_ j _ e
 exact Nat.lt_irrefl _ hown.lt
variable {M : List S72} {A0 : Option Addr} {c0 : Nat} {w0 : World} {gI : Nat} {uf us un : Value} {fa : List Int}
theorem im_load1 (i : Nat) (s : IS) (W : World) (hi : i < M.length) (hs1 : s.st.length = M.length) (h0 : ¬ rd s.st (i : Int) = 0) (hR : ImR w0 W gI (.slice A0 M.length c0) uf us un fa s) :
  Calls Try.prog 69 #[.pointer (some ⟨gI, 0, none⟩), .int .i64 (i : Int)] W (ImPost w0 gI (.slice A0 M.length c0) uf us un fa true s) := by
 obtain ⟨ub, uw, ur, mb, hI, hV⟩ := hR
 obtain ⟨g, c, rfl, hx, hxf⟩ := hI.stateAt (i := i) (by omega)
 rw [hs1] at hI ⊢
 have HI := Az.mk hI
 have HV := Az.mk hV
 have hi1 : decide ((i : Int) < (M.length : Int)) = true := decide_eq_true (by omega)
 have hi2 : (i < M.length) = True := eq_true (by omega)
 have h1 : (rd s.st (i : Int) != 0) = true := bne_iff_ne.2 h0
 have h2 : (rd s.st (i : Int) = 0) = False := eq_false h0
 obtain ⟨hz0, hz1, hz2, hz3, hz4, hz5, hz6, hzf⟩ := hI.cells
 clear hI hV h0 hs1 hi
 go_enter Try.func69, Try.ntmps69
 go_wp2_with fail
 go_ret
 exact ⟨rfl, _, _, _, _, HI.out, HV.out⟩
theorem im_load (F : Int → S74 → IS → Option (Bool × IS)) (hF : ImSteps M A0 c0 w0 gI uf us un fa F) (hC : Kd.C k72 w0 A0 M.length M) (i : Nat) (s : IS) (W : World) (hi : i < M.length) (hs1 : s.st.length = M.length) (hs2 : s.nm.length = M.length)
  (h0 : rd s.st (i : Int) = 0) (h1 : s.bg.length < IB) (h2 : nms s (i : Int) = []) (b : Bool) (s1 : IS) (hr : runs (F (i : Int)) (rX M (i : Int)).f0 (ldStart (i : Int) s) = some (b, s1)) (h3 : s1.st.length = M.length) (h4 : s1.nm.length = M.length) (h5 : s1.wh.length < IB) (h6 : rd s1.st (i : Int) ≠ 0)
  (hR : ImR w0 W gI (.slice A0 M.length c0) uf us un fa s) :
  Calls Try.prog 69 #[.pointer (some ⟨gI, 0, none⟩), .int .i64 (i : Int)] W (ImPost w0 gI (.slice A0 M.length c0) uf us un fa b (ldEnd b (i : Int) s1)) := by
 obtain ⟨ub, uw, ur, mb, hI, hV⟩ := hR
 obtain ⟨g, c, rfl, hx, hxf⟩ := hI.stateAt (i := i) (by omega)
 rw [h0] at hx
 rw [hs1] at hI hF ⊢
 have hml : mb.length = M.length := hI.mp.len.trans hs2
 obtain ⟨gn, cn, eun, _⟩ := Kd.R_form hI.rn (by omega)
 rw [hml] at eun
 subst eun
 obtain ⟨L, hL⟩ : ∃ L, L = (rX M (i : Int)).f0 := ⟨_, rfl⟩
 obtain ⟨ad, A, cc, rfl, hm, hmc, hmC⟩ := at_T72 hC (i : Int) (by omega) (by omega)
 rw [← hL] at hm hmc hmC hr
 have HF := Az.mk hF
 have HC := Az.mk hmC
 have HM := Az.mk hm
 have HMC := Az.mk hmc
 have HI := Az.mk hI
 have HV := Az.mk hV
 have HR := Az.mk hr
 have H0 := Az.mk h0
 have H1 := Az.mk h1
 have H2 : Az (s.nm.getD i [] = []) := ⟨h2⟩
 have H3 := Az.mk h3
 have H4 := Az.mk h4
 have H5 := Az.mk h5
 have H6 := Az.mk h6
 have HS1 := Az.mk hs1
 have HS2 := Az.mk hs2
 have HIL := Az.mk hi
 have HML := Az.mk hml
 have hi1 : decide ((i : Int) < (M.length : Int)) = true := decide_eq_true (by omega)
 have hi2 : (i < M.length) = True := eq_true (by omega)
 obtain ⟨hz0, hz1, hz2, hz3, hz4, hz5, hz6, hzf⟩ := hI.cells
 clear hF hC hI hV hr h0 h1 h2 h3 h4 h5 h6 hs1 hs2 hi hmC hm hmc hL hml
 go_enter Try.func69, Try.ntmps69
 go_wp2_with (first | ((with_reducible refine gate_store (t := 3) (p := 22) rfl ?_); refine store_event (t := 3) (p := 22) (v := (.const (.int .i64 1))) (w1 := (W.setCell ⟨g, i, none⟩ (.int .i64 1))) ?hg ?ho ?hn ?hr ?_; (case ho => rfl); (case hg => rfl); (case hn => rfl); (case hr => first | (go_simp; done) | (go_simp; rfl)); intro w1 hw_; have n0_ := Az.mk (by rw [hw_]; exact ImI.setStateN HI.out HS1.out HIL.out : ImI w0 w1 gI (.slice (some ad) M.length c0) ub uw uf ur (.slice (some ⟨g, 0, none⟩) M.length c) (.slice (some ⟨gn, 0, none⟩) M.length cn) s.bg s.wh fa s.re (s.st.set i 1) mb s.nm); clear HI hw_ hz0 hz1 hz2 hz3 hz4 hz5 hz6 hzf hx hxf; have HI := n0_; clear n0_; obtain ⟨hz0, hz1, hz2, hz3, hz4, hz5, hz6, hzf⟩ := HI.out.cells) | ((with_reducible refine gate_builtin (b := .append) (xs := #[.tmp 28, .tmp 30]) rfl ?_); at_builtin; refine Kd.R_append (Kd.int .i64) (w0 := w0) w0.heap.size rfl (.tmp 28) (.tmp 30) 35 3 (.int .i64 0) 8 rfl Try.underlying35 info3 rfl (by decide) (by omega) ub s.bg (i : Int) [.int .i64 (i : Int)] (fun k => some k ≠ uw.ownBlock ∧ some k ≠ uf.ownBlock ∧ some k ≠ Value.ownBlock (.slice (some ⟨g, 0, none⟩) M.length c)) (fun _ => False) rfl rfl ?aP (fun _ hk => hk.elim) ?aF ?aO ?aB ?aS ?aL ?_; (case aP => exact rfl); (case aB => exact HI.out.be); (case aF => exact (fun k_ hk => ⟨Kd.fresh' (Kd.R_lt HI.out.rw_) k_ hk, Kd.fresh' (Kd.R_lt HI.out.rf) k_ hk, Kd.fresh' (Kd.R_lt HI.out.rs) k_ hk⟩)); (case aO => exact HI.out.rb); (case aS => exact below_size HI.out.be); (case aL => (first | (have := H1.out; unfold IB at this; omega) | (have := H5.out; unfold IB at this; omega))); intro v1 w2 ho hb hg hat; obtain ⟨A1, c1, e_⟩ := Kd.R_slice ho; simp only [List.length_append, List.length_cons, List.length_nil, Nat.zero_add] at e_; subst e_; obtain ⟨hI_, hy0, hyf⟩ := ImI.putB HI.out ho hb hg hat; have n0_ := Az.mk hI_; clear HI hI_ ho hb hg hat hz0 hz1 hz2 hz3 hz4 hz5 hz6 hzf; have HI := n0_; clear n0_) | ((with_reducible refine gate_store (t := 35) (p := 34) rfl ?_); refine store_event (t := 35) (p := 34) (v := (.tmp 31)) (w1 := (w2.setCell ⟨gI, 2, none⟩ (.slice A1 (s.bg.length + 1) c1))) ?hg ?ho ?hn ?hr ?_; (case ho => rfl); (case hg => rfl); (case hn => rfl); (case hr => first | (go_simp; done) | (go_simp; rfl)); intro w5 hw_; have n0_ := Az.mk (by rw [hw_]; exact HI.out : ImI w0 w5 gI (.slice (some ad) M.length c0) (.slice A1 (s.bg.length + 1) c1) uw uf ur (.slice (some ⟨g, 0, none⟩) M.length c) (.slice (some ⟨gn, 0, none⟩) M.length cn) (s.bg ++ [(i : Int)]) s.wh fa s.re (s.st.set i 1) mb s.nm); clear HI hw_ hy0 hyf; have HI := n0_; clear n0_; obtain ⟨hz0, hz1, hz2, hz3, hz4, hz5, hz6, hzf⟩ := HI.out.cells) | ((with_reducible refine gate_dst (N := 40) rfl ?_); refine map_event ?hg ?hr ?_; (case hg => rfl); (case hr => first | (go_simp; done) | (go_simp; rfl)); intro gB hgB w3 hw3; have HFR := Az.mk (ImI.fresh HI.out); have HGB : Az (w0.heap.size ≤ gB) := ⟨by rw [hgB]; exact below_size HI.out.be⟩; have HOW : Az (w3.ownsMap (H := Unit) Try.prog 9 (plainElem Try.prog 3) gB 0 (.map [])) := ⟨by rw [hw3, hgB]; exact World.ownsMap_made _ _ _ _⟩; clear hz0 hz1 hz2 hz3 hz4 hz5 hz6 hzf; rw [← hgB] at HFR; have n0_ := Az.mk (ImI.alloc HI.out (.map #[] 0)); rw [← hw3] at n0_; clear HI hw3 hgB; have HI := n0_; clear n0_; obtain ⟨hn0, hnf⟩ := HI.out.mapAt HML.out HIL.out) | ((with_reducible refine gate_store (t := 140) (p := 41) rfl ?_); refine store_event (t := 140) (p := 41) (v := (.tmp 40)) (w1 := (w3.setCell ⟨gn, i, none⟩ (.map (some gB)))) ?hg ?ho ?hn ?hr ?_; (case ho => rfl); (case hg => rfl); (case hn => rfl); (case hr => first | (go_simp; done) | (go_simp; rfl)); intro w4 hw_; have n0_ := Az.mk (by have h_ := ImI.setMap (x := some gB) (y := []) HI.out HML.out HIL.out (fun e => by cases e) (fun b e => by injection e with e; subst e; exact ⟨HGB.out, ⟨_, HOW.out, mapIs_nil⟩, fun j hj => absurd hj (HFR.out j)⟩); rw [set_same H2.out] at h_; rw [hw_]; exact h_ : ImI w0 w4 gI (.slice (some ad) M.length c0) (.slice A1 (s.bg.length + 1) c1) uw uf ur (.slice (some ⟨g, 0, none⟩) M.length c) (.slice (some ⟨gn, 0, none⟩) M.length cn) (s.bg ++ [(i : Int)]) s.wh fa s.re (s.st.set i 1) (mb.set i (some gB)) s.nm); clear HI hw_ hn0 hnf; have HI := n0_; clear n0_; obtain ⟨hz0, hz1, hz2, hz3, hz4, hz5, hz6, hzf⟩ := HI.out.cells; have hm : w4.cell? (ad.add i) = some (.slice A L.length cc) := (HI.out.be.cell (World.block_lt_of_cell? w0 _ HM.out)).trans HM.out))
 have HV4 : Az (MsOk (s.st.set i 1) (mb.set i (some gB))) := ⟨fun j hj => by
  rcases getD_setI hj with ⟨rfl, _⟩ | ⟨hne, h⟩
  ·exact ⟨gB, List.getElem?_set_self (by have := HML.out; have := HIL.out; omega)⟩
  ·rw [List.getElem?_set_ne hne]; exact HV.out j h⟩
 go_loopg [51] (L.length + 1) (fun kq v51 w' => ∃ (j : Nat) (t : IS), v51 = .int .i64 (j : Int) ∧ Az (j + kq = L.length + 1 ∧ j ≤ L.length) ∧ Az (runs (F (i : Int)) (L.drop j) t = some (b, s1)) ∧ Az (ImR w0 w' gI (.slice (some ad) M.length c0) uf (.slice (some ⟨g, 0, none⟩) M.length c) (.slice (some ⟨gn, 0, none⟩) M.length cn) fa t))
 case atStart => exact ⟨0, ldStart (i : Int) s, rfl, ⟨by omega, by omega⟩, ⟨by simpa using HR.out⟩, ⟨⟨_, _, _, _, HI.out, HV4.out⟩⟩⟩
 case round =>
  clear HI HR HV HV4 HOW HFR HGB hm hz0 hz1 hz2 hz3 hz4 hz5 hz6 hzf
  obtain ⟨j, t, rfl, HJ, HR, HS⟩ := hrel
  have hLm := Kd.C_max HC.out
  by_cases hj : j < L.length
  ·have hj1 : decide ((j : Int) < (L.length : Int)) = true := decide_eq_true (by omega)
   have hj2 : (j < L.length) = True := eq_true hj
   have HBW : Az (Below w0.heap.size w0 wr) := ⟨by obtain ⟨_, _, _, _, hI, _⟩ := HS.out; exact hI.be⟩
   obtain ⟨ad2, e2, hy0, hy1, hy2⟩ := at_T74 HC.out (j : Int) (by omega) (by omega)
   subst e2
   replace hy0 : wr.cell? (ad2.add (j * 3)) = _ := (HBW.out.cell (World.block_lt_of_cell? w0 _ hy0)).trans hy0
   replace hy1 : wr.cell? ⟨(ad2.add (j * 3)).block, (ad2.add (j * 3)).off + 1, none⟩ = _ := (HBW.out.cell (World.block_lt_of_cell? w0 _ hy1)).trans hy1
   replace hy2 : wr.cell? ⟨(ad2.add (j * 3)).block, (ad2.add (j * 3)).off + 2, none⟩ = _ := (HBW.out.cell (World.block_lt_of_cell? w0 _ hy2)).trans hy2
   have hw := HR.out
   rw [drop74 hj, runs] at hw
   have hwr : wrap64 ((j : Int) + 1) = ((j + 1 : Nat) : Int) := by unfold wrap64; omega
   clear HR
   cases hf : F (i : Int) (rY L (j : Int)) t with
   | none => rw [hf] at hw; cases hw
   | some r =>
    obtain ⟨b2, t2⟩ := r
    rw [hf] at hw
    dsimp only [Option.bind_some] at hw
    have HFF := Az.mk hf
    have HJL := Az.mk hj
    have HWR := Az.mk hwr
    have HLM := Az.mk hLm
    clear hf hj hwr hLm
    cases b2 with
    | true =>
     have HR := Az.mk hw
     clear hw
     go_wp2_with fail
     refine (HF.out (i : Int) _ t true t2 _ HFF.out (ImR.below HS.out (bal (Below.refl _ _) _))).mono ?_
     rintro e w5 ⟨rfl, hR2⟩
     have HS2 := Az.mk hR2
     clear hR2 hy0 hy1 hy2
     go_wp2_with fail
     go_roundg (gk - 1)
     case measure => have := HJ.out; omega
     case rel => exact ⟨j + 1, t2, (by first | rfl | (rw [HWR.out]) | (simp [HWR.out])), ⟨by have := HJ.out; omega, by have := HJL.out; omega⟩, HR, HS2⟩
    | false =>
     have HR := Az.mk hw
     clear hw
     go_wp2_with fail
     refine (HF.out (i : Int) _ t false t2 _ HFF.out (ImR.below HS.out (bal (Below.refl _ _) _))).mono ?_
     rintro e w5 ⟨rfl, hR2⟩
     clear hy0 hy1 hy2 HS
     have eb := Option.some.inj HR.out
     injection eb with eb es
     subst eb es
     clear HR HML
     obtain ⟨ub, uw, ur, mb, hI, hV⟩ := hR2
     have HI := Az.mk hI
     have HV := Az.mk hV
     have HML : Az (mb.length = M.length) := ⟨hI.mp.len.trans H4.out⟩
     obtain ⟨hz0, hz1, hz2, hz3, hz4, hz5, hz6, hzf⟩ := hI.cells
     obtain ⟨hx, hxf⟩ := hI.stateN H3.out HIL.out
     clear hI hV
     go_wp2_with (first | ((with_reducible refine gate_store (t := 3) (p := 66) rfl ?_); refine store_event (t := 3) (p := 66) (v := (.const (.int .i64 0))) (w1 := (w5.setCell ⟨g, i, none⟩ (.int .i64 0))) ?hg ?ho ?hn ?hr ?_; (case ho => rfl); (case hg => rfl); (case hn => rfl); (case hr => first | (go_simp; done) | (go_simp; rfl)); intro w6 hw_; have n0_ := Az.mk (by rw [hw_]; exact ImI.setStateN HI.out H3.out HIL.out : ImI w0 w6 gI (.slice (some ad) M.length c0) ub uw uf ur (.slice (some ⟨g, 0, none⟩) M.length c) (.slice (some ⟨gn, 0, none⟩) M.length cn) t2.bg t2.wh fa t2.re (t2.st.set i 0) mb t2.nm); clear HI hw_ hz0 hz1 hz2 hz3 hz4 hz5 hz6 hzf hx hxf; have HI := n0_; clear n0_; obtain ⟨hz0, hz1, hz2, hz3, hz4, hz5, hz6, hzf⟩ := HI.out.cells; obtain ⟨hn0, hnf⟩ := HI.out.mapAt HML.out HIL.out) | ((with_reducible refine gate_store (t := 140) (p := 72) rfl ?_); refine store_event (t := 140) (p := 72) (v := (.const (.map none))) (w1 := (w6.setCell ⟨gn, i, none⟩ (.map none))) ?hg ?ho ?hn ?hr ?_; (case ho => rfl); (case hg => rfl); (case hn => rfl); (case hr => first | (go_simp; done) | (go_simp; rfl)); intro w7 hw_; have n0_ := Az.mk (by rw [hw_]; exact ImI.setMap (x := none) (y := []) HI.out HML.out HIL.out (fun _ => rfl) (fun b e => by cases e) : ImI w0 w7 gI (.slice (some ad) M.length c0) ub uw uf ur (.slice (some ⟨g, 0, none⟩) M.length c) (.slice (some ⟨gn, 0, none⟩) M.length cn) t2.bg t2.wh fa t2.re (t2.st.set i 0) (mb.set i none) (t2.nm.set i [])); clear HI hw_ hn0 hnf hz0 hz1 hz2 hz3 hz4 hz5 hz6 hzf; have HI := n0_; clear n0_; skip))
     go_ret
     refine ⟨rfl, ub, uw, ur, mb.set i none, HI.out, fun j hj => ?_⟩
     rcases getD_setI hj with ⟨rfl, h⟩ | ⟨hne, h⟩
     ·exact absurd rfl h
     ·rw [List.getElem?_set_ne (show i ≠ j from hne)]; exact HV.out j h
  ·have hj1 : decide ((j : Int) < (L.length : Int)) = false := decide_eq_false (by omega)
   have hj2 : (j < L.length) = False := eq_false hj
   obtain ⟨ub, uw, ur, mb, hI, hV⟩ := HS.out
   obtain ⟨hz0, hz1, hz2, hz3, hz4, hz5, hz6, hzf⟩ := hI.cells
   have hw := HR.out
   rw [List.drop_of_length_le (by omega), runs] at hw
   injection hw with hw
   injection hw with hb hs
   subst hb hs
   obtain ⟨hx, hxf⟩ := hI.stateN H3.out HIL.out
   have HI := Az.mk hI
   have HV := Az.mk hV
   clear hI hV hj hLm HR HS
   go_wp2_with (first | ((with_reducible refine gate_store (t := 3) (p := 80) rfl ?_); refine store_event (t := 3) (p := 80) (v := (.const (.int .i64 2))) (w1 := (wr.setCell ⟨g, i, none⟩ (.int .i64 2))) ?hg ?ho ?hn ?hr ?_; (case ho => rfl); (case hg => rfl); (case hn => rfl); (case hr => first | (go_simp; done) | (go_simp; rfl)); intro w6 hw_; have n0_ := Az.mk (by rw [hw_]; exact ImI.setStateN HI.out H3.out HIL.out : ImI w0 w6 gI (.slice (some ad) M.length c0) ub uw uf ur (.slice (some ⟨g, 0, none⟩) M.length c) (.slice (some ⟨gn, 0, none⟩) M.length cn) t.bg t.wh fa t.re (t.st.set i 2) mb t.nm); clear HI hw_ hz0 hz1 hz2 hz3 hz4 hz5 hz6 hzf hx hxf; have HI := n0_; clear n0_; obtain ⟨hz0, hz1, hz2, hz3, hz4, hz5, hz6, hzf⟩ := HI.out.cells) | ((with_reducible refine gate_builtin (b := .append) (xs := #[.tmp 86, .tmp 88]) rfl ?_); at_builtin; refine Kd.R_append (Kd.int .i64) (w0 := w0) w0.heap.size rfl (.tmp 86) (.tmp 88) 35 3 (.int .i64 0) 8 rfl Try.underlying35 info3 rfl (by decide) (by omega) uw t.wh (i : Int) [.int .i64 (i : Int)] (fun k => some k ≠ ub.ownBlock ∧ some k ≠ uf.ownBlock ∧ some k ≠ Value.ownBlock (.slice (some ⟨g, 0, none⟩) M.length c)) (fun _ => False) rfl rfl ?aP (fun _ hk => hk.elim) ?aF ?aO ?aB ?aS ?aL ?_; (case aP => exact rfl); (case aB => exact HI.out.be); (case aF => exact (fun k_ hk => ⟨Kd.fresh' (Kd.R_lt HI.out.rb) k_ hk, Kd.fresh' (Kd.R_lt HI.out.rf) k_ hk, Kd.fresh' (Kd.R_lt HI.out.rs) k_ hk⟩)); (case aO => exact HI.out.rw_); (case aS => exact below_size HI.out.be); (case aL => (first | (have := H1.out; unfold IB at this; omega) | (have := H5.out; unfold IB at this; omega))); intro v1 w7 ho hb hg hat; obtain ⟨A1, c1, e_⟩ := Kd.R_slice ho; simp only [List.length_append, List.length_cons, List.length_nil, Nat.zero_add] at e_; subst e_; obtain ⟨hI_, hy0, hyf⟩ := ImI.putW HI.out ho hb hg hat; have n0_ := Az.mk hI_; clear HI hI_ ho hb hg hat hz0 hz1 hz2 hz3 hz4 hz5 hz6 hzf; have HI := n0_; clear n0_))
   go_ret
   refine ⟨rfl, _, _, _, _, HI.out, fun j hj => ?_⟩
   rcases getD_setI hj with ⟨rfl, h⟩ | ⟨hne, h⟩
   ·exact HV.out i H6.out
   ·exact HV.out j h
end Go.Proofs.Ytehhhlhedmfdiaa.PFnImportOrder
end
section
namespace Go.Proofs.Ytehhhlhedmfdiaa.PFnImportOrder
open Go.RowKit Go.Proofs.Yz0.PrintWords Go.Proofs.Yz0.PrintLast Go.Proofs.Yz0.PrintMore
set_option linter.unusedVariables false
set_option linter.unusedSimpArgs false
variable {dec : Int → ByteArray} {M : List S72} {A0 : Option Addr} {c0 : Nat} {w0 : World} {gI : Nat} {uf us un : Value} {fa : List Int}
theorem im_step1 (L : Int → IS → Option (Bool × IS)) (hL : ImLoads M A0 c0 w0 gI uf us un fa L) (i f1 : Int) (f2 : ByteArray) (s : IS) (b : Bool) (s' : IS) (W : World) (h : L f1 s = some (b, s')) (hR : ImR w0 W gI (.slice A0 M.length c0) uf us un fa s) :
  Calls Try.prog 109 #[.pointer (some ⟨gI, 0, none⟩), .int .i64 i, .agg #[.int .i64 1, .int .i64 f1, .string f2]] W (ImPost w0 gI (.slice A0 M.length c0) uf us un fa b s') := by
 have HL := Az.mk hL
 have H := Az.mk h
 have HR := Az.mk hR
 clear hL h hR
 go_enter Try.func109, Try.ntmps109
 go_wp2_with (first | ((with_reducible refine gate_dst (N := 5) rfl ?_); refine box_event ?hg (N := 5) ?hd (cs := #[.int .i64 1, .int .i64 f1, .string f2]) (t := 74) ?hr ?_; (case hd => rfl); (case hg => rfl); (case hr => first | (go_simp; done) | (go_simp; rfl)); intro gb hg w1 hbox hb; have n0_ := Az.mk (HR.out.below hb); have hb0 : w1.cell? ⟨gb, 0, none⟩ = some (.int .i64 1) := (bC hbox 0).trans rfl; have hb1 : w1.cell? ⟨gb, 1, none⟩ = some (.int .i64 f1) := (bC hbox 1).trans rfl; have hb2 : w1.cell? ⟨gb, 2, none⟩ = some (.string f2) := (bC hbox 2).trans rfl; have HBX := Az.mk hbox; clear HR hb hg hbox; have HR := n0_; clear n0_))
 refine (HL.out f1 s b s' _ H.out HR.out).mono ?_
 rintro e w2 ⟨rfl, hR2⟩
 have HR2 := Az.mk hR2
 clear hR2 hb0 hb1 hb2
 go_wp2_with fail
 go_ret
 exact ⟨rfl, HR2.out⟩
theorem im_step2 (L : Int → IS → Option (Bool × IS)) (hL : ImLoads M A0 c0 w0 gI uf us un fa L) (i f1 : Int) (f2 : ByteArray) (s : IS) (b : Bool) (s' : IS) (W : World) (h : L f1 s = some (b, s')) (hR : ImR w0 W gI (.slice A0 M.length c0) uf us un fa s) :
  Calls Try.prog 109 #[.pointer (some ⟨gI, 0, none⟩), .int .i64 i, .agg #[.int .i64 2, .int .i64 f1, .string f2]] W (ImPost w0 gI (.slice A0 M.length c0) uf us un fa true s') := by
 have HL := Az.mk hL
 have H := Az.mk h
 have HR := Az.mk hR
 clear hL h hR
 go_enter Try.func109, Try.ntmps109
 go_wp2_with (first | ((with_reducible refine gate_dst (N := 5) rfl ?_); refine box_event ?hg (N := 5) ?hd (cs := #[.int .i64 2, .int .i64 f1, .string f2]) (t := 74) ?hr ?_; (case hd => rfl); (case hg => rfl); (case hr => first | (go_simp; done) | (go_simp; rfl)); intro gb hg w1 hbox hb; have n0_ := Az.mk (HR.out.below hb); have hb0 : w1.cell? ⟨gb, 0, none⟩ = some (.int .i64 2) := (bC hbox 0).trans rfl; have hb1 : w1.cell? ⟨gb, 1, none⟩ = some (.int .i64 f1) := (bC hbox 1).trans rfl; have hb2 : w1.cell? ⟨gb, 2, none⟩ = some (.string f2) := (bC hbox 2).trans rfl; have HBX := Az.mk hbox; clear HR hb hg hbox; have HR := n0_; clear n0_))
 refine (HL.out f1 s b s' _ H.out HR.out).mono ?_
 rintro e w2 ⟨rfl, hR2⟩
 have HR2 := Az.mk hR2
 clear hR2 hb0 hb1 hb2
 go_wp2_with fail
 go_ret
 exact ⟨rfl, HR2.out⟩
theorem im_step5 (i f1 : Int) (f2 : ByteArray) (s : IS) (W : World) (hR : ImR w0 W gI (.slice A0 M.length c0) uf us un fa s) :
  Calls Try.prog 109 #[.pointer (some ⟨gI, 0, none⟩), .int .i64 i, .agg #[.int .i64 5, .int .i64 f1, .string f2]] W (ImPost w0 gI (.slice A0 M.length c0) uf us un fa false s) := by
 have HR := Az.mk hR
 clear hR
 go_enter Try.func109, Try.ntmps109
 go_wp2_with (first | ((with_reducible refine gate_dst (N := 5) rfl ?_); refine box_event ?hg (N := 5) ?hd (cs := #[.int .i64 5, .int .i64 f1, .string f2]) (t := 74) ?hr ?_; (case hd => rfl); (case hg => rfl); (case hr => first | (go_simp; done) | (go_simp; rfl)); intro gb hg w1 hbox hb; have n0_ := Az.mk (HR.out.below hb); have hb0 : w1.cell? ⟨gb, 0, none⟩ = some (.int .i64 5) := (bC hbox 0).trans rfl; have hb1 : w1.cell? ⟨gb, 1, none⟩ = some (.int .i64 f1) := (bC hbox 1).trans rfl; have hb2 : w1.cell? ⟨gb, 2, none⟩ = some (.string f2) := (bC hbox 2).trans rfl; have HBX := Az.mk hbox; clear HR hb hg hbox; have HR := n0_; clear n0_))
 go_ret
 exact ⟨rfl, HR.out⟩
theorem im_step3 (i : Nat) (f1 : Int) (f2 : ByteArray) (s : IS) (W : World) (hf1 : 0 ≤ f1 ∧ f1 ≤ 1000000) (hsz : f2.size ≤ 1000) (hi : i < M.length) (hn : s.nm.length = M.length) (hst : rd s.st (i : Int) ≠ 0) (hl : (nms s (i : Int)).length < IB) (hR : ImR w0 W gI (.slice A0 M.length c0) uf us un fa s) :
  Calls Try.prog 109 #[.pointer (some ⟨gI, 0, none⟩), .int .i64 (i : Int), .agg #[.int .i64 3, .int .i64 f1, .string f2]] W (ImPost w0 gI (.slice A0 M.length c0) uf us un fa true (ldSet (i : Int) ⟨3, f1, f2⟩ s)) := by
 have HR := Az.mk hR
 have HF1 := Az.mk hf1
 have HSZ := Az.mk hsz
 have HIL := Az.mk hi
 have HN := Az.mk hn
 have HST := Az.mk hst
 have HLN : Az ((s.nm.getD i []).length < 1000000000000) := ⟨hl⟩
 have hi1 : decide ((i : Int) < (M.length : Int)) = true := decide_eq_true (by omega)
 have hi2 : (i < M.length) = True := eq_true (by omega)
 clear hR hf1 hsz hi hn hst hl
 go_enter Try.func109, Try.ntmps109
 go_wp2_with (first | ((with_reducible refine gate_dst (N := 5) rfl ?_); refine box_event ?hg (N := 5) ?hd (cs := #[.int .i64 3, .int .i64 f1, .string f2]) (t := 74) ?hr ?_; (case hd => rfl); (case hg => rfl); (case hr => first | (go_simp; done) | (go_simp; rfl)); intro gb hg w1 hbox hb; have n0_ := Az.mk (HR.out.below hb); have hb0 : w1.cell? ⟨gb, 0, none⟩ = some (.int .i64 3) := (bC hbox 0).trans rfl; have hb1 : w1.cell? ⟨gb, 1, none⟩ = some (.int .i64 f1) := (bC hbox 1).trans rfl; have hb2 : w1.cell? ⟨gb, 2, none⟩ = some (.string f2) := (bC hbox 2).trans rfl; have HBX := Az.mk hbox; clear HR hb hg hbox; have HR := n0_; clear n0_))
 obtain ⟨ub, uw, ur, mb, hI, hV⟩ := HR.out
 have HML : Az (mb.length = M.length) := ⟨hI.mp.len.trans HN.out⟩
 obtain ⟨gn, cn, eun, _⟩ := Kd.R_form hI.rn (by have := HML.out; have := HIL.out; omega)
 rw [HML.out] at eun
 subst eun
 obtain ⟨b, hmb⟩ := hV i HST.out
 have hgd : mb.getD i none = some b := by rw [List.getD_eq_getElem?_getD, hmb]; rfl
 obtain ⟨hx, hxf⟩ := hI.mapAt HML.out HIL.out
 rw [hgd] at hx
 obtain ⟨hz0, hz1, hz2, hz3, hz4, hz5, hz6, hzf⟩ := hI.cells
 have HI := Az.mk hI
 have HV := Az.mk hV
 have HMB := Az.mk hmb
 clear hI hV hmb hgd hb0
 refine start_ (n := 12) (S := fun w' => w'.cell? ⟨gI, 1, none⟩ = some (.slice (some ⟨gn, 0, none⟩) M.length cn) ∧ w'.cell? ⟨gn, i, none⟩ = some (.map (some b)) ∧ w'.cell? ⟨gb, 2, none⟩ = some (.string f2) ∧ w'.cell? ⟨gb, 1, none⟩ = some (.int .i64 f1)) (ds := [11]) #[false, false, false, false, false, false, false, false, false, false, false, false] (by kernel_rfl) rfl rfl ⟨hz1, hx, hb2, hb1⟩ (fun hHeld => ?_)
 have n0_ := Az.mk (HI.out.drew)
 clear HI hz0 hz1 hz2 hz3 hz4 hz5 hz6 hzf hx hxf hb1 hb2
 have HI := n0_
 clear n0_
 generalize World.drew _ = w2 at HI hHeld ⊢
 refine pure_ (i := 0) (N := some 25) (v := ?_) (a' := ?_) #[true, false, false, false, false, false, false, false, false, false, false, false] rfl rfl (by kernel_rfl) (fun _ _ _ h => h) (Or.inl ⟨by rfl, ?_⟩) ?_ ?_
 rotate_left
 ·intro w'
  go_simp
  with_reducible rfl
 rotate_left
 ·simp only [Act.put, List.setIfInBounds_toArray, List.set_cons_zero, List.set_cons_succ, i64_w, i32_w]
  rfl
 refine pure_ (i := 1) (N := some 26) (v := ?_) (a' := ?_) #[true, true, false, false, false, false, false, false, false, false, false, false] rfl rfl (by kernel_rfl) (fun _ _ _ h => h) (Or.inl ⟨by rfl, ?_⟩) ?_ ?_
 rotate_left
 ·intro w'
  go_simp
  with_reducible rfl
 rotate_left
 ·simp only [Act.put, List.setIfInBounds_toArray, List.set_cons_zero, List.set_cons_succ, i64_w, i32_w]
  rfl
 refine pure_ (i := 2) (N := some 27) (v := ?_) (a' := ?_) #[true, true, true, false, false, false, false, false, false, false, false, false] rfl rfl (by kernel_rfl) (fun _ _ _ h => h) (Or.inl ⟨by rfl, ?_⟩) ?_ ?_
 rotate_left
 ·intro w'
  go_simp
  with_reducible rfl
 rotate_left
 ·simp only [Act.put, List.setIfInBounds_toArray, List.set_cons_zero, List.set_cons_succ, i64_w, i32_w]
  rfl
 refine pure_ (i := 4) (N := some 29) (v := ?_) (a' := ?_) #[true, true, true, false, true, false, false, false, false, false, false, false] rfl rfl (by kernel_rfl) (fun _ _ _ h => h) (Or.inl ⟨by rfl, ?_⟩) ?_ ?_
 rotate_left
 ·intro w'
  go_simp
  with_reducible rfl
 rotate_left
 ·simp only [Act.put, List.setIfInBounds_toArray, List.set_cons_zero, List.set_cons_succ, i64_w, i32_w]
  rfl
 refine pure_ (i := 7) (N := some 32) (v := ?_) (a' := ?_) #[true, true, true, false, true, false, false, true, false, false, false, false] rfl rfl (by kernel_rfl) (fun _ _ _ h => h) (Or.inl ⟨by rfl, ?_⟩) ?_ ?_
 rotate_left
 ·intro w'
  go_simp
  with_reducible rfl
 rotate_left
 ·simp only [Act.put, List.setIfInBounds_toArray, List.set_cons_zero, List.set_cons_succ, i64_w, i32_w]
  rfl
 refine pure_ (i := 9) (N := some 34) (v := ?_) (a' := ?_) #[true, true, true, false, true, false, false, true, false, true, false, false] rfl rfl (by kernel_rfl) (fun _ _ _ h => h) (Or.inl ⟨by rfl, ?_⟩) ?_ ?_
 rotate_left
 ·intro w'
  go_simp
  with_reducible rfl
 rotate_left
 ·simp only [Act.put, List.setIfInBounds_toArray, List.set_cons_zero, List.set_cons_succ, i64_w, i32_w]
  rfl
 refine take_ (i := 3) (N := some 28) (v := ?_) (a' := ?_) #[true, true, true, true, true, false, false, true, false, true, false, false] rfl rfl (by kernel_rfl) (fun _ _ _ h => h) (Or.inl ⟨by rfl, ?_⟩) hHeld ?_ ?_
 rotate_left
 ·rintro w' ⟨s0, s1, s2, s3⟩
  go_simp
  with_reducible rfl
 rotate_left
 ·simp only [Act.put, List.setIfInBounds_toArray, List.set_cons_zero, List.set_cons_succ, i64_w, i32_w]
  rfl
 refine pure_ (i := 5) (N := some 30) (v := ?_) (a' := ?_) #[true, true, true, true, true, true, false, true, false, true, false, false] rfl rfl (by kernel_rfl) (fun _ _ _ h => h) (Or.inl ⟨by rfl, ?_⟩) ?_ ?_
 rotate_left
 ·intro w'
  go_simp
  with_reducible rfl
 rotate_left
 ·simp only [Act.put, List.setIfInBounds_toArray, List.set_cons_zero, List.set_cons_succ, i64_w, i32_w]
  rfl
 refine take_ (i := 6) (N := some 31) (v := ?_) (a' := ?_) #[true, true, true, true, true, true, true, true, false, true, false, false] rfl rfl (by kernel_rfl) (fun _ _ _ h => h) (Or.inl ⟨by rfl, ?_⟩) hHeld ?_ ?_
 rotate_left
 ·rintro w' ⟨s0, s1, s2, s3⟩
  go_simp
  with_reducible rfl
 rotate_left
 ·simp only [Act.put, List.setIfInBounds_toArray, List.set_cons_zero, List.set_cons_succ, i64_w, i32_w]
  rfl
 refine take_ (i := 8) (N := some 33) (v := ?_) (a' := ?_) #[true, true, true, true, true, true, true, true, true, true, false, false] rfl rfl (by kernel_rfl) (fun _ _ _ h => h) (Or.inl ⟨by rfl, ?_⟩) hHeld ?_ ?_
 rotate_left
 ·rintro w' ⟨s0, s1, s2, s3⟩
  go_simp
  with_reducible rfl
 rotate_left
 ·simp only [Act.put, List.setIfInBounds_toArray, List.set_cons_zero, List.set_cons_succ, i64_w, i32_w]
  rfl
 refine take_ (i := 10) (N := some 35) (v := ?_) (a' := ?_) #[true, true, true, true, true, true, true, true, true, true, true, false] rfl rfl (by kernel_rfl) (fun _ _ _ h => h) (Or.inl ⟨by rfl, ?_⟩) hHeld ?_ ?_
 rotate_left
 ·rintro w' ⟨s0, s1, s2, s3⟩
  go_simp
  with_reducible rfl
 rotate_left
 ·simp only [Act.put, List.setIfInBounds_toArray, List.set_cons_zero, List.set_cons_succ, i64_w, i32_w]
  rfl
 refine last_ (i := 11) (N := none) #[true, true, true, true, true, true, true, true, true, true, true, true] rfl rfl (by kernel_rfl) (by decide) (fun K hK => ?_)
 obtain ⟨w3, hrun, hI_⟩ := ImI.mapPut (s := f2) (v := f1) HI.out HMB.out HSZ.out HF1.out HLN.out
 refine skip_ (w1 := w3) (by rfl) rfl ?_ ?_
 ·first | (go_simp; done) | (go_simp; rfl)
 have n0_ := Az.mk hI_
 clear HI hI_ hrun hHeld
 have HI := n0_
 clear n0_
 refine hK.out _ _ ?_
 clear hK K
 refine done_ (by kernel_rfl) ?_
 clear hi1 hi2
 go_wp2_with fail
 go_ret
 exact ⟨rfl, _, _, _, _, HI.out, HV.out⟩
theorem im_step4n (i : Int) (q : Nat) (f2 : ByteArray) (s : IS) (W : World) (hsz : f2.size ≤ 1000) (hi : q < M.length) (hn : s.nm.length = M.length) (hlk : look (nms s (q : Int)) f2 = none) (hR : ImR w0 W gI (.slice A0 M.length c0) uf us un fa s) :
  Calls Try.prog 109 #[.pointer (some ⟨gI, 0, none⟩), .int .i64 i, .agg #[.int .i64 4, .int .i64 (q : Int), .string f2]] W (ImPost w0 gI (.slice A0 M.length c0) uf us un fa false s) := by
 have HLK : Az (look (s.nm.getD q []) f2 = none) := ⟨hlk⟩
 clear hlk
 have HR := Az.mk hR
 have HSZ := Az.mk hsz
 have HIL := Az.mk hi
 have HN := Az.mk hn
 have hi1 : decide ((q : Int) < (M.length : Int)) = true := decide_eq_true (by omega)
 have hi2 : (q < M.length) = True := eq_true (by omega)
 clear hR hsz hi hn
 go_enter Try.func109, Try.ntmps109
 go_wp2_with (first | ((with_reducible refine gate_dst (N := 5) rfl ?_); refine box_event ?hg (N := 5) ?hd (cs := #[.int .i64 4, .int .i64 (q : Int), .string f2]) (t := 74) ?hr ?_; (case hd => rfl); (case hg => rfl); (case hr => first | (go_simp; done) | (go_simp; rfl)); intro gb hg w1 hbox hb; have n0_ := Az.mk (HR.out.below hb); have hb0 : w1.cell? ⟨gb, 0, none⟩ = some (.int .i64 4) := (bC hbox 0).trans rfl; have hb1 : w1.cell? ⟨gb, 1, none⟩ = some (.int .i64 (q : Int)) := (bC hbox 1).trans rfl; have hb2 : w1.cell? ⟨gb, 2, none⟩ = some (.string f2) := (bC hbox 2).trans rfl; have HBX := Az.mk hbox; clear HR hb hg hbox; have HR := n0_; clear n0_))
 obtain ⟨ub, uw, ur, mb, hI, hV⟩ := HR.out
 have HML : Az (mb.length = M.length) := ⟨hI.mp.len.trans HN.out⟩
 obtain ⟨gn, cn, eun, _⟩ := Kd.R_form hI.rn (by have := HML.out; have := HIL.out; omega)
 rw [HML.out] at eun
 subst eun
 obtain ⟨hx, hxf⟩ := hI.mapAt HML.out HIL.out
 obtain ⟨mbq, hmbq⟩ : ∃ y, y = mb.getD q none := ⟨_, rfl⟩
 rw [← hmbq] at hx
 have hlook := ImI.lookup hI.drew (i := q) (s := f2) (by have := HML.out; have := HIL.out; omega) HSZ.out
 rw [← hmbq, HLK.out] at hlook
 clear hmbq
 obtain ⟨hz0, hz1, hz2, hz3, hz4, hz5, hz6, hzf⟩ := hI.cells
 have HI := Az.mk hI
 have HV := Az.mk hV
 clear hI hV hb0
 refine start_ (n := 16) (S := fun w' => w'.cell? ⟨gI, 1, none⟩ = some (.slice (some ⟨gn, 0, none⟩) M.length cn) ∧ w'.cell? ⟨gb, 1, none⟩ = some (.int .i64 (q : Int)) ∧ w'.cell? ⟨gn, q, none⟩ = some (.map mbq) ∧ w'.cell? ⟨gb, 2, none⟩ = some (.string f2) ∧ (Instr.lookup 140 (.map mbq) (.string f2) true).run Try.prog w' = .ok (.tuple #[.int .i64 0, .bool false]) w') (ds := []) #[false, false, false, false, false, false, false, false, false, false, false, false, false, false, false, false] (by kernel_rfl) rfl rfl ⟨hz1, hb1, hx, hb2, hlook⟩ (fun hHeld => ?_)
 have n0_ := Az.mk (HI.out.drew)
 clear HI hlook hz0 hz1 hz2 hz3 hz4 hz5 hz6 hzf hx hxf hb1 hb2
 have HI := n0_
 clear n0_
 generalize World.drew _ = w2 at HI hHeld ⊢
 refine pure_ (i := 0) (N := some 39) (v := ?_) (a' := ?_) #[true, false, false, false, false, false, false, false, false, false, false, false, false, false, false, false] rfl rfl (by kernel_rfl) (fun _ _ _ h => h) (Or.inl ⟨by rfl, ?_⟩) ?_ ?_
 rotate_left
 ·intro w'
  go_simp
  with_reducible rfl
 rotate_left
 ·simp only [Act.put, List.setIfInBounds_toArray, List.set_cons_zero, List.set_cons_succ, i64_w, i32_w]
  rfl
 refine pure_ (i := 1) (N := some 40) (v := ?_) (a' := ?_) #[true, true, false, false, false, false, false, false, false, false, false, false, false, false, false, false] rfl rfl (by kernel_rfl) (fun _ _ _ h => h) (Or.inl ⟨by rfl, ?_⟩) ?_ ?_
 rotate_left
 ·intro w'
  go_simp
  with_reducible rfl
 rotate_left
 ·simp only [Act.put, List.setIfInBounds_toArray, List.set_cons_zero, List.set_cons_succ, i64_w, i32_w]
  rfl
 refine pure_ (i := 2) (N := some 41) (v := ?_) (a' := ?_) #[true, true, true, false, false, false, false, false, false, false, false, false, false, false, false, false] rfl rfl (by kernel_rfl) (fun _ _ _ h => h) (Or.inl ⟨by rfl, ?_⟩) ?_ ?_
 rotate_left
 ·intro w'
  go_simp
  with_reducible rfl
 rotate_left
 ·simp only [Act.put, List.setIfInBounds_toArray, List.set_cons_zero, List.set_cons_succ, i64_w, i32_w]
  rfl
 refine pure_ (i := 4) (N := some 43) (v := ?_) (a' := ?_) #[true, true, true, false, true, false, false, false, false, false, false, false, false, false, false, false] rfl rfl (by kernel_rfl) (fun _ _ _ h => h) (Or.inl ⟨by rfl, ?_⟩) ?_ ?_
 rotate_left
 ·intro w'
  go_simp
  with_reducible rfl
 rotate_left
 ·simp only [Act.put, List.setIfInBounds_toArray, List.set_cons_zero, List.set_cons_succ, i64_w, i32_w]
  rfl
 refine pure_ (i := 8) (N := some 47) (v := ?_) (a' := ?_) #[true, true, true, false, true, false, false, false, true, false, false, false, false, false, false, false] rfl rfl (by kernel_rfl) (fun _ _ _ h => h) (Or.inl ⟨by rfl, ?_⟩) ?_ ?_
 rotate_left
 ·intro w'
  go_simp
  with_reducible rfl
 rotate_left
 ·simp only [Act.put, List.setIfInBounds_toArray, List.set_cons_zero, List.set_cons_succ, i64_w, i32_w]
  rfl
 refine take_ (i := 3) (N := some 42) (v := ?_) (a' := ?_) #[true, true, true, true, true, false, false, false, true, false, false, false, false, false, false, false] rfl rfl (by kernel_rfl) (fun _ _ _ h => h) (Or.inl ⟨by rfl, ?_⟩) hHeld ?_ ?_
 rotate_left
 ·rintro w' ⟨s0, s1, s2, s3, s4⟩
  go_simp
  with_reducible rfl
 rotate_left
 ·simp only [Act.put, List.setIfInBounds_toArray, List.set_cons_zero, List.set_cons_succ, i64_w, i32_w]
  rfl
 refine take_ (i := 5) (N := some 44) (v := ?_) (a' := ?_) #[true, true, true, true, true, true, false, false, true, false, false, false, false, false, false, false] rfl rfl (by kernel_rfl) (fun _ _ _ h => h) (Or.inl ⟨by rfl, ?_⟩) hHeld ?_ ?_
 rotate_left
 ·rintro w' ⟨s0, s1, s2, s3, s4⟩
  go_simp
  with_reducible rfl
 rotate_left
 ·simp only [Act.put, List.setIfInBounds_toArray, List.set_cons_zero, List.set_cons_succ, i64_w, i32_w]
  rfl
 refine pure_ (i := 6) (N := some 45) (v := ?_) (a' := ?_) #[true, true, true, true, true, true, true, false, true, false, false, false, false, false, false, false] rfl rfl (by kernel_rfl) (fun _ _ _ h => h) (Or.inl ⟨by rfl, ?_⟩) ?_ ?_
 rotate_left
 ·intro w'
  go_simp
  with_reducible rfl
 rotate_left
 ·simp only [Act.put, List.setIfInBounds_toArray, List.set_cons_zero, List.set_cons_succ, i64_w, i32_w]
  rfl
 refine take_ (i := 7) (N := some 46) (v := ?_) (a' := ?_) #[true, true, true, true, true, true, true, true, true, false, false, false, false, false, false, false] rfl rfl (by kernel_rfl) (fun _ _ _ h => h) (Or.inl ⟨by rfl, ?_⟩) hHeld ?_ ?_
 rotate_left
 ·rintro w' ⟨s0, s1, s2, s3, s4⟩
  go_simp
  with_reducible rfl
 rotate_left
 ·simp only [Act.put, List.setIfInBounds_toArray, List.set_cons_zero, List.set_cons_succ, i64_w, i32_w]
  rfl
 refine take_ (i := 9) (N := some 48) (v := ?_) (a' := ?_) #[true, true, true, true, true, true, true, true, true, true, false, false, false, false, false, false] rfl rfl (by kernel_rfl) (fun _ _ _ h => h) (Or.inl ⟨by rfl, ?_⟩) hHeld ?_ ?_
 rotate_left
 ·rintro w' ⟨s0, s1, s2, s3, s4⟩
  go_simp
  with_reducible rfl
 rotate_left
 ·simp only [Act.put, List.setIfInBounds_toArray, List.set_cons_zero, List.set_cons_succ, i64_w, i32_w]
  rfl
 refine take_ (i := 10) (N := some 49) (v := ?_) (a' := ?_) #[true, true, true, true, true, true, true, true, true, true, true, false, false, false, false, false] rfl rfl (by kernel_rfl) (fun _ _ _ h => h) (Or.inl ⟨by rfl, ?_⟩) hHeld ?_ ?_
 rotate_left
 ·rintro w' ⟨s0, s1, s2, s3, s4⟩
  go_simp
  with_reducible rfl
 rotate_left
 ·simp only [Act.put, List.setIfInBounds_toArray, List.set_cons_zero, List.set_cons_succ, i64_w, i32_w]
  rfl
 refine pure_ (i := 11) (N := some 38) (v := ?_) (a' := ?_) #[true, true, true, true, true, true, true, true, true, true, true, true, false, false, false, false] rfl rfl (by kernel_rfl) (fun _ _ _ h => h) (Or.inl ⟨by rfl, ?_⟩) ?_ ?_
 rotate_left
 ·intro w'
  go_simp
  with_reducible rfl
 rotate_left
 ·simp only [Act.put, List.setIfInBounds_toArray, List.set_cons_zero, List.set_cons_succ, i64_w, i32_w]
  rfl
 refine pure_ (i := 12) (N := some 50) (v := ?_) (a' := ?_) #[true, true, true, true, true, true, true, true, true, true, true, true, true, false, false, false] rfl rfl (by kernel_rfl) (fun _ _ _ h => h) (Or.inl ⟨by rfl, ?_⟩) ?_ ?_
 rotate_left
 ·intro w'
  go_simp
  with_reducible rfl
 rotate_left
 ·simp only [Act.put, List.setIfInBounds_toArray, List.set_cons_zero, List.set_cons_succ, i64_w, i32_w]
  rfl
 refine pure_ (i := 13) (N := some 51) (v := ?_) (a' := ?_) #[true, true, true, true, true, true, true, true, true, true, true, true, true, true, false, false] rfl rfl (by kernel_rfl) (fun _ _ _ h => h) (Or.inl ⟨by rfl, ?_⟩) ?_ ?_
 rotate_left
 ·intro w'
  go_simp
  with_reducible rfl
 rotate_left
 ·simp only [Act.put, List.setIfInBounds_toArray, List.set_cons_zero, List.set_cons_succ, i64_w, i32_w]
  rfl
 refine pure_ (i := 14) (N := some 7) (v := ?_) (a' := ?_) #[true, true, true, true, true, true, true, true, true, true, true, true, true, true, true, false] rfl rfl (by kernel_rfl) (fun _ _ _ h => h) (Or.inl ⟨by rfl, ?_⟩) ?_ ?_
 rotate_left
 ·intro w'
  go_simp
  with_reducible rfl
 rotate_left
 ·simp only [Act.put, List.setIfInBounds_toArray, List.set_cons_zero, List.set_cons_succ, i64_w, i32_w]
  rfl
 refine pure_ (i := 15) (N := some 8) (v := ?_) (a' := ?_) #[true, true, true, true, true, true, true, true, true, true, true, true, true, true, true, true] rfl rfl (by kernel_rfl) (fun _ _ _ h => h) (Or.inl ⟨by rfl, ?_⟩) ?_ ?_
 rotate_left
 ·intro w'
  go_simp
  with_reducible rfl
 rotate_left
 ·simp only [Act.put, List.setIfInBounds_toArray, List.set_cons_zero, List.set_cons_succ, i64_w, i32_w]
  rfl
 refine done_ (by kernel_rfl) ?_
 clear hi1 hi2 hHeld
 go_wp2_with fail
 go_ret
 exact ⟨rfl, _, _, _, _, HI.out, HV.out⟩
theorem im_step4s (i : Int) (q : Nat) (f2 : ByteArray) (s : IS) (W : World) (k : Nat) (v : Int) (hd : impl_decimal.f k v = some (dec v)) (hre : s.re.length < IB) (hsz : f2.size ≤ 1000) (hi : q < M.length) (hn : s.nm.length = M.length) (hlk : look (nms s (q : Int)) f2 = some v) (hR : ImR w0 W gI (.slice A0 M.length c0) uf us un fa s) :
  Calls Try.prog 109 #[.pointer (some ⟨gI, 0, none⟩), .int .i64 i, .agg #[.int .i64 4, .int .i64 (q : Int), .string f2]] W (ImPost w0 gI (.slice A0 M.length c0) uf us un fa true { s with re := s.re ++ [dec v] }) := by
 have HLK : Az (look (s.nm.getD q []) f2 = some v) := ⟨hlk⟩
 have HD := Az.mk hd
 have HRE := Az.mk hre
 clear hlk hd hre
 have HR := Az.mk hR
 have HSZ := Az.mk hsz
 have HIL := Az.mk hi
 have HN := Az.mk hn
 have hi1 : decide ((q : Int) < (M.length : Int)) = true := decide_eq_true (by omega)
 have hi2 : (q < M.length) = True := eq_true (by omega)
 clear hR hsz hi hn
 go_enter Try.func109, Try.ntmps109
 go_wp2_with (first | ((with_reducible refine gate_dst (N := 5) rfl ?_); refine box_event ?hg (N := 5) ?hd (cs := #[.int .i64 4, .int .i64 (q : Int), .string f2]) (t := 74) ?hr ?_; (case hd => rfl); (case hg => rfl); (case hr => first | (go_simp; done) | (go_simp; rfl)); intro gb hg w1 hbox hb; have n0_ := Az.mk (HR.out.below hb); have hb0 : w1.cell? ⟨gb, 0, none⟩ = some (.int .i64 4) := (bC hbox 0).trans rfl; have hb1 : w1.cell? ⟨gb, 1, none⟩ = some (.int .i64 (q : Int)) := (bC hbox 1).trans rfl; have hb2 : w1.cell? ⟨gb, 2, none⟩ = some (.string f2) := (bC hbox 2).trans rfl; have HBX := Az.mk hbox; clear HR hb hg hbox; have HR := n0_; clear n0_))
 obtain ⟨ub, uw, ur, mb, hI, hV⟩ := HR.out
 have HML : Az (mb.length = M.length) := ⟨hI.mp.len.trans HN.out⟩
 obtain ⟨gn, cn, eun, _⟩ := Kd.R_form hI.rn (by have := HML.out; have := HIL.out; omega)
 rw [HML.out] at eun
 subst eun
 obtain ⟨hx, hxf⟩ := hI.mapAt HML.out HIL.out
 obtain ⟨mbq, hmbq⟩ : ∃ y, y = mb.getD q none := ⟨_, rfl⟩
 rw [← hmbq] at hx
 have hlook := ImI.lookup hI.drew (i := q) (s := f2) (by have := HML.out; have := HIL.out; omega) HSZ.out
 rw [← hmbq, HLK.out] at hlook
 clear hmbq
 obtain ⟨hz0, hz1, hz2, hz3, hz4, hz5, hz6, hzf⟩ := hI.cells
 have HI := Az.mk hI
 have HV := Az.mk hV
 clear hI hV hb0
 refine start_ (n := 16) (S := fun w' => w'.cell? ⟨gI, 1, none⟩ = some (.slice (some ⟨gn, 0, none⟩) M.length cn) ∧ w'.cell? ⟨gb, 1, none⟩ = some (.int .i64 (q : Int)) ∧ w'.cell? ⟨gn, q, none⟩ = some (.map mbq) ∧ w'.cell? ⟨gb, 2, none⟩ = some (.string f2) ∧ (Instr.lookup 140 (.map mbq) (.string f2) true).run Try.prog w' = .ok (.tuple #[.int .i64 v, .bool true]) w') (ds := []) #[false, false, false, false, false, false, false, false, false, false, false, false, false, false, false, false] (by kernel_rfl) rfl rfl ⟨hz1, hb1, hx, hb2, hlook⟩ (fun hHeld => ?_)
 have n0_ := Az.mk (HI.out.drew)
 clear HI hlook hz0 hz1 hz2 hz3 hz4 hz5 hz6 hzf hx hxf hb1 hb2
 have HI := n0_
 clear n0_
 generalize World.drew _ = w2 at HI hHeld ⊢
 refine pure_ (i := 0) (N := some 39) (v := ?_) (a' := ?_) #[true, false, false, false, false, false, false, false, false, false, false, false, false, false, false, false] rfl rfl (by kernel_rfl) (fun _ _ _ h => h) (Or.inl ⟨by rfl, ?_⟩) ?_ ?_
 rotate_left
 ·intro w'
  go_simp
  with_reducible rfl
 rotate_left
 ·simp only [Act.put, List.setIfInBounds_toArray, List.set_cons_zero, List.set_cons_succ, i64_w, i32_w]
  rfl
 refine pure_ (i := 1) (N := some 40) (v := ?_) (a' := ?_) #[true, true, false, false, false, false, false, false, false, false, false, false, false, false, false, false] rfl rfl (by kernel_rfl) (fun _ _ _ h => h) (Or.inl ⟨by rfl, ?_⟩) ?_ ?_
 rotate_left
 ·intro w'
  go_simp
  with_reducible rfl
 rotate_left
 ·simp only [Act.put, List.setIfInBounds_toArray, List.set_cons_zero, List.set_cons_succ, i64_w, i32_w]
  rfl
 refine pure_ (i := 2) (N := some 41) (v := ?_) (a' := ?_) #[true, true, true, false, false, false, false, false, false, false, false, false, false, false, false, false] rfl rfl (by kernel_rfl) (fun _ _ _ h => h) (Or.inl ⟨by rfl, ?_⟩) ?_ ?_
 rotate_left
 ·intro w'
  go_simp
  with_reducible rfl
 rotate_left
 ·simp only [Act.put, List.setIfInBounds_toArray, List.set_cons_zero, List.set_cons_succ, i64_w, i32_w]
  rfl
 refine pure_ (i := 4) (N := some 43) (v := ?_) (a' := ?_) #[true, true, true, false, true, false, false, false, false, false, false, false, false, false, false, false] rfl rfl (by kernel_rfl) (fun _ _ _ h => h) (Or.inl ⟨by rfl, ?_⟩) ?_ ?_
 rotate_left
 ·intro w'
  go_simp
  with_reducible rfl
 rotate_left
 ·simp only [Act.put, List.setIfInBounds_toArray, List.set_cons_zero, List.set_cons_succ, i64_w, i32_w]
  rfl
 refine pure_ (i := 8) (N := some 47) (v := ?_) (a' := ?_) #[true, true, true, false, true, false, false, false, true, false, false, false, false, false, false, false] rfl rfl (by kernel_rfl) (fun _ _ _ h => h) (Or.inl ⟨by rfl, ?_⟩) ?_ ?_
 rotate_left
 ·intro w'
  go_simp
  with_reducible rfl
 rotate_left
 ·simp only [Act.put, List.setIfInBounds_toArray, List.set_cons_zero, List.set_cons_succ, i64_w, i32_w]
  rfl
 refine take_ (i := 3) (N := some 42) (v := ?_) (a' := ?_) #[true, true, true, true, true, false, false, false, true, false, false, false, false, false, false, false] rfl rfl (by kernel_rfl) (fun _ _ _ h => h) (Or.inl ⟨by rfl, ?_⟩) hHeld ?_ ?_
 rotate_left
 ·rintro w' ⟨s0, s1, s2, s3, s4⟩
  go_simp
  with_reducible rfl
 rotate_left
 ·simp only [Act.put, List.setIfInBounds_toArray, List.set_cons_zero, List.set_cons_succ, i64_w, i32_w]
  rfl
 refine take_ (i := 5) (N := some 44) (v := ?_) (a' := ?_) #[true, true, true, true, true, true, false, false, true, false, false, false, false, false, false, false] rfl rfl (by kernel_rfl) (fun _ _ _ h => h) (Or.inl ⟨by rfl, ?_⟩) hHeld ?_ ?_
 rotate_left
 ·rintro w' ⟨s0, s1, s2, s3, s4⟩
  go_simp
  with_reducible rfl
 rotate_left
 ·simp only [Act.put, List.setIfInBounds_toArray, List.set_cons_zero, List.set_cons_succ, i64_w, i32_w]
  rfl
 refine pure_ (i := 6) (N := some 45) (v := ?_) (a' := ?_) #[true, true, true, true, true, true, true, false, true, false, false, false, false, false, false, false] rfl rfl (by kernel_rfl) (fun _ _ _ h => h) (Or.inl ⟨by rfl, ?_⟩) ?_ ?_
 rotate_left
 ·intro w'
  go_simp
  with_reducible rfl
 rotate_left
 ·simp only [Act.put, List.setIfInBounds_toArray, List.set_cons_zero, List.set_cons_succ, i64_w, i32_w]
  rfl
 refine take_ (i := 7) (N := some 46) (v := ?_) (a' := ?_) #[true, true, true, true, true, true, true, true, true, false, false, false, false, false, false, false] rfl rfl (by kernel_rfl) (fun _ _ _ h => h) (Or.inl ⟨by rfl, ?_⟩) hHeld ?_ ?_
 rotate_left
 ·rintro w' ⟨s0, s1, s2, s3, s4⟩
  go_simp
  with_reducible rfl
 rotate_left
 ·simp only [Act.put, List.setIfInBounds_toArray, List.set_cons_zero, List.set_cons_succ, i64_w, i32_w]
  rfl
 refine take_ (i := 9) (N := some 48) (v := ?_) (a' := ?_) #[true, true, true, true, true, true, true, true, true, true, false, false, false, false, false, false] rfl rfl (by kernel_rfl) (fun _ _ _ h => h) (Or.inl ⟨by rfl, ?_⟩) hHeld ?_ ?_
 rotate_left
 ·rintro w' ⟨s0, s1, s2, s3, s4⟩
  go_simp
  with_reducible rfl
 rotate_left
 ·simp only [Act.put, List.setIfInBounds_toArray, List.set_cons_zero, List.set_cons_succ, i64_w, i32_w]
  rfl
 refine take_ (i := 10) (N := some 49) (v := ?_) (a' := ?_) #[true, true, true, true, true, true, true, true, true, true, true, false, false, false, false, false] rfl rfl (by kernel_rfl) (fun _ _ _ h => h) (Or.inl ⟨by rfl, ?_⟩) hHeld ?_ ?_
 rotate_left
 ·rintro w' ⟨s0, s1, s2, s3, s4⟩
  go_simp
  with_reducible rfl
 rotate_left
 ·simp only [Act.put, List.setIfInBounds_toArray, List.set_cons_zero, List.set_cons_succ, i64_w, i32_w]
  rfl
 refine pure_ (i := 11) (N := some 38) (v := ?_) (a' := ?_) #[true, true, true, true, true, true, true, true, true, true, true, true, false, false, false, false] rfl rfl (by kernel_rfl) (fun _ _ _ h => h) (Or.inl ⟨by rfl, ?_⟩) ?_ ?_
 rotate_left
 ·intro w'
  go_simp
  with_reducible rfl
 rotate_left
 ·simp only [Act.put, List.setIfInBounds_toArray, List.set_cons_zero, List.set_cons_succ, i64_w, i32_w]
  rfl
 refine pure_ (i := 12) (N := some 50) (v := ?_) (a' := ?_) #[true, true, true, true, true, true, true, true, true, true, true, true, true, false, false, false] rfl rfl (by kernel_rfl) (fun _ _ _ h => h) (Or.inl ⟨by rfl, ?_⟩) ?_ ?_
 rotate_left
 ·intro w'
  go_simp
  with_reducible rfl
 rotate_left
 ·simp only [Act.put, List.setIfInBounds_toArray, List.set_cons_zero, List.set_cons_succ, i64_w, i32_w]
  rfl
 refine pure_ (i := 13) (N := some 51) (v := ?_) (a' := ?_) #[true, true, true, true, true, true, true, true, true, true, true, true, true, true, false, false] rfl rfl (by kernel_rfl) (fun _ _ _ h => h) (Or.inl ⟨by rfl, ?_⟩) ?_ ?_
 rotate_left
 ·intro w'
  go_simp
  with_reducible rfl
 rotate_left
 ·simp only [Act.put, List.setIfInBounds_toArray, List.set_cons_zero, List.set_cons_succ, i64_w, i32_w]
  rfl
 refine pure_ (i := 14) (N := some 7) (v := ?_) (a' := ?_) #[true, true, true, true, true, true, true, true, true, true, true, true, true, true, true, false] rfl rfl (by kernel_rfl) (fun _ _ _ h => h) (Or.inl ⟨by rfl, ?_⟩) ?_ ?_
 rotate_left
 ·intro w'
  go_simp
  with_reducible rfl
 rotate_left
 ·simp only [Act.put, List.setIfInBounds_toArray, List.set_cons_zero, List.set_cons_succ, i64_w, i32_w]
  rfl
 refine pure_ (i := 15) (N := some 8) (v := ?_) (a' := ?_) #[true, true, true, true, true, true, true, true, true, true, true, true, true, true, true, true] rfl rfl (by kernel_rfl) (fun _ _ _ h => h) (Or.inl ⟨by rfl, ?_⟩) ?_ ?_
 rotate_left
 ·intro w'
  go_simp
  with_reducible rfl
 rotate_left
 ·simp only [Act.put, List.setIfInBounds_toArray, List.set_cons_zero, List.set_cons_succ, i64_w, i32_w]
  rfl
 refine done_ (by kernel_rfl) ?_
 have hz5 := HI.out.cells.2.2.2.2.2.1
 clear hHeld
 go_wp2_with fail
 refine start_ (n := 14) (S := fun w' => w'.cell? ⟨gI, 5, none⟩ = some ur) (ds := [9, 13]) #[false, false, false, false, false, false, false, false, false, false, false, false, false, false] (by kernel_rfl) rfl rfl (hz5) (fun hHeld => ?_)
 have n0_ := Az.mk (HI.out.drew)
 clear HI hz5
 have HI := n0_
 clear n0_
 generalize World.drew _ = w4 at HI hHeld ⊢
 refine pure_ (i := 0) (N := some 53) (v := ?_) (a' := ?_) #[true, false, false, false, false, false, false, false, false, false, false, false, false, false] rfl rfl (by kernel_rfl) (fun _ _ _ h => h) (Or.inl ⟨by rfl, ?_⟩) ?_ ?_
 rotate_left
 ·intro w'
  go_simp
  with_reducible rfl
 rotate_left
 ·simp only [Act.put, List.setIfInBounds_toArray, List.set_cons_zero, List.set_cons_succ, i64_w, i32_w]
  rfl
 refine pure_ (i := 1) (N := some 54) (v := ?_) (a' := ?_) #[true, true, false, false, false, false, false, false, false, false, false, false, false, false] rfl rfl (by kernel_rfl) (fun _ _ _ h => h) (Or.inl ⟨by rfl, ?_⟩) ?_ ?_
 rotate_left
 ·intro w'
  go_simp
  with_reducible rfl
 rotate_left
 ·simp only [Act.put, List.setIfInBounds_toArray, List.set_cons_zero, List.set_cons_succ, i64_w, i32_w]
  rfl
 refine pure_ (i := 2) (N := some 55) (v := ?_) (a' := ?_) #[true, true, true, false, false, false, false, false, false, false, false, false, false, false] rfl rfl (by kernel_rfl) (fun _ _ _ h => h) (Or.inl ⟨by rfl, ?_⟩) ?_ ?_
 rotate_left
 ·intro w'
  go_simp
  with_reducible rfl
 rotate_left
 ·simp only [Act.put, List.setIfInBounds_toArray, List.set_cons_zero, List.set_cons_succ, i64_w, i32_w]
  rfl
 refine pure_ (i := 3) (N := some 56) (v := ?_) (a' := ?_) #[true, true, true, true, false, false, false, false, false, false, false, false, false, false] rfl rfl (by kernel_rfl) (fun _ _ _ h => h) (Or.inl ⟨by rfl, ?_⟩) ?_ ?_
 rotate_left
 ·intro w'
  go_simp
  with_reducible rfl
 rotate_left
 ·simp only [Act.put, List.setIfInBounds_toArray, List.set_cons_zero, List.set_cons_succ, i64_w, i32_w]
  rfl
 refine pure_ (i := 4) (N := some 57) (v := ?_) (a' := ?_) #[true, true, true, true, true, false, false, false, false, false, false, false, false, false] rfl rfl (by kernel_rfl) (fun _ _ _ h => h) (Or.inl ⟨by rfl, ?_⟩) ?_ ?_
 rotate_left
 ·intro w'
  go_simp
  with_reducible rfl
 rotate_left
 ·simp only [Act.put, List.setIfInBounds_toArray, List.set_cons_zero, List.set_cons_succ, i64_w, i32_w]
  rfl
 refine pure_ (i := 6) (N := some 59) (v := ?_) (a' := ?_) #[true, true, true, true, true, false, true, false, false, false, false, false, false, false] rfl rfl (by kernel_rfl) (fun _ _ _ h => h) (Or.inl ⟨by rfl, ?_⟩) ?_ ?_
 rotate_left
 ·intro w'
  go_simp
  with_reducible rfl
 rotate_left
 ·simp only [Act.put, List.setIfInBounds_toArray, List.set_cons_zero, List.set_cons_succ, i64_w, i32_w]
  rfl
 refine take_ (i := 5) (N := some 58) (v := ?_) (a' := ?_) #[true, true, true, true, true, true, true, false, false, false, false, false, false, false] rfl rfl (by kernel_rfl) (fun _ _ _ h => h) (Or.inl ⟨by rfl, ?_⟩) hHeld ?_ ?_
 rotate_left
 ·intro w' s0
  go_simp
  with_reducible rfl
 rotate_left
 ·simp only [Act.put, List.setIfInBounds_toArray, List.set_cons_zero, List.set_cons_succ, i64_w, i32_w]
  rfl
 refine one_ (i := 7) (N := some 60) #[true, true, true, true, true, true, true, true, false, false, false, false, false, false] rfl rfl (by kernel_rfl) (by decide) (fun K hK => ?_)
 refine goes_ Try.func130 (by kernel_rfl) rfl #[.int .i64 v] (by rfl) rfl rfl (by simp only [List.map_toArray, List.map_cons, List.map_nil]; rfl) ?_
 with_reducible refine (impl_decimal.calls k v (dec v) _ HD.out).mono ?_
 rintro e w5 ⟨rfl, hb⟩
 refine ⟨_, rfl, ?_⟩
 have n0_ := Az.mk (HI.out.below hb)
 clear HI
 have HI := n0_
 clear n0_
 refine hK.out _ _ (pw_cell_below hb hHeld) (fun hHeld => ?_)
 clear hK K
 refine norm_ (a' := ?_) ?_ ?_
 rotate_left
 ·show Act.put _ (some 60) _ = _
  simp only [Act.put, List.setIfInBounds_toArray, List.set_cons_zero, List.set_cons_succ, i64_w, i32_w]
  rfl
 refine one_ (i := 8) (N := some 61) #[true, true, true, true, true, true, true, true, true, false, false, false, false, false] rfl rfl (by kernel_rfl) (by decide) (fun K hK => ?_)
 refine value_ (w1 := ?_) (v := ?_) (by rfl) rfl ?_ ?_
 rotate_left 2
 ·go_simp
  constructor
  ·rfl
  ·rfl
 refine hK.out _ _ (pw_cell_below (bal (Below.refl _ _) _) hHeld) (fun hHeld => ?_)
 clear hK K
 refine norm_ (a' := ?_) ?_ ?_
 rotate_left
 ·show Act.put _ (some 61) _ = _
  simp only [Act.put, List.setIfInBounds_toArray, List.set_cons_zero, List.set_cons_succ, i64_w, i32_w]
  rfl
 refine last_ (i := 9) (N := some 62) #[true, true, true, true, true, true, true, true, true, true, false, false, false, false] rfl rfl (by kernel_rfl) (by decide) (fun K hK => ?_)
 refine Kd.R_append_step Kd.string (w0 := w0) w0.heap.size (by rfl) (.tmp 58) (.tmp 61) 46 9 (.string ⟨#[]⟩) 16 rfl Try.underlying46 info9 rfl (by decide) (by omega) ur s.re (dec v) [.string (dec v)] (fun _ => True) (fun _ => False) rfl rfl ?aP (fun _ hk => hk.elim) ?aF ?aO ?aB ?aS ?aL ?_
 (case aP => exact rfl)
 (case aB => exact HI.out.be)
 (case aF => exact (fun _ _ => trivial))
 (case aO => exact HI.out.rr)
 (case aS => exact below_size HI.out.be)
 (case aL => have := HRE.out; unfold IB at this; omega)
 intro v1 w6 ho hb hg hat
 obtain ⟨A1, c1, e_⟩ := Kd.R_slice ho
 simp only [List.length_append, List.length_cons, List.length_nil, Nat.zero_add] at e_
 subst e_
 obtain ⟨hI_, hy0, hyf⟩ := ImI.putR HI.out ho hb hg
 have n0_ := Az.mk hI_
 clear HI hI_ ho hb hg hat hHeld
 have HI := n0_
 clear n0_
 refine hK.out _ _ ?_
 clear hK K
 refine norm_ (a' := ?_) ?_ ?_
 rotate_left
 ·show Act.put _ (some 62) _ = _
  simp only [Act.put, List.setIfInBounds_toArray, List.set_cons_zero, List.set_cons_succ, i64_w, i32_w]
  rfl
 refine pure_ (i := 10) (N := some 63) (v := ?_) (a' := ?_) #[true, true, true, true, true, true, true, true, true, true, true, false, false, false] rfl rfl (by kernel_rfl) (fun _ _ _ h => h) (Or.inl ⟨by rfl, ?_⟩) ?_ ?_
 rotate_left
 ·intro w'
  go_simp
  with_reducible rfl
 rotate_left
 ·simp only [Act.put, List.setIfInBounds_toArray, List.set_cons_zero, List.set_cons_succ, i64_w, i32_w]
  rfl
 refine pure_ (i := 11) (N := some 64) (v := ?_) (a' := ?_) #[true, true, true, true, true, true, true, true, true, true, true, true, false, false] rfl rfl (by kernel_rfl) (fun _ _ _ h => h) (Or.inl ⟨by rfl, ?_⟩) ?_ ?_
 rotate_left
 ·intro w'
  go_simp
  with_reducible rfl
 rotate_left
 ·simp only [Act.put, List.setIfInBounds_toArray, List.set_cons_zero, List.set_cons_succ, i64_w, i32_w]
  rfl
 refine pure_ (i := 12) (N := some 65) (v := ?_) (a' := ?_) #[true, true, true, true, true, true, true, true, true, true, true, true, true, false] rfl rfl (by kernel_rfl) (fun _ _ _ h => h) (Or.inl ⟨by rfl, ?_⟩) ?_ ?_
 rotate_left
 ·intro w'
  go_simp
  with_reducible rfl
 rotate_left
 ·simp only [Act.put, List.setIfInBounds_toArray, List.set_cons_zero, List.set_cons_succ, i64_w, i32_w]
  rfl
 refine last_ (i := 13) (N := none) #[true, true, true, true, true, true, true, true, true, true, true, true, true, true] rfl rfl (by kernel_rfl) (by decide) (fun K hK => ?_)
 refine skip_ (w1 := ?_) (by rfl) rfl ?_ ?_
 rotate_left
 ·go_simp
  rfl
 refine hK.out _ _ ?_
 clear hK K
 refine done_ (by kernel_rfl) ?_
 clear hy0 hyf hi1 hi2
 go_wp2_with fail
 go_ret
 exact ⟨rfl, _, _, _, _, HI.out, HV.out⟩
end Go.Proofs.Ytehhhlhedmfdiaa.PFnImportOrder
end
section
namespace Go.Proofs.Ytehhhlhedmfdiaa.PFnImportOrder
open Go.RowKit Go.Proofs.Yz0.PrintWords Go.Proofs.Yz0.PrintLast Go.Proofs.Yz0.PrintMore
set_option linter.unusedVariables false
set_option linter.unusedSimpArgs false
structure SpI (w0 W : World) (gI : Nat) (vM ub uw uf ur us uv : Value) (bg wh fa : List Int) (re : List ByteArray) (st : List Int) (vs : List (List S177)) : Prop where
 rb : Kd.R (Kd.int .i64) 3 W w0.heap.size (fun k => some k ≠ uw.ownBlock ∧ some k ≠ uf.ownBlock ∧ some k ≠ us.ownBlock) ub bg
 rw_ : Kd.R (Kd.int .i64) 3 W w0.heap.size (fun k => some k ≠ ub.ownBlock ∧ some k ≠ uf.ownBlock ∧ some k ≠ us.ownBlock) uw wh
 rf : Kd.R (Kd.int .i64) 3 W w0.heap.size (fun k => some k ≠ ub.ownBlock ∧ some k ≠ uw.ownBlock ∧ some k ≠ us.ownBlock) uf fa
 rs : Kd.R (Kd.int .i64) 3 W w0.heap.size (fun k => some k ≠ ub.ownBlock ∧ some k ≠ uw.ownBlock ∧ some k ≠ uf.ownBlock) us st
 rr : Kd.R Kd.string 9 W w0.heap.size (fun _ => True) ur re
 rv : Kd.S (Kd.slice 177 k177) 168 W w0.heap.size (fun _ => True) uv vs
 bx : W.heap[gI]? = some (.cells #[vM, ub, uw, uf, ur, us, uv] 145 (0, 0))
 be : Below w0.heap.size w0 W
 hg : w0.heap.size ≤ gI
variable {w0 W w1 : World} {gI : Nat} {vM ub uw uf ur us uv v1 : Value} {bg wh fa : List Int} {re : List ByteArray} {st r' : List Int} {vs : List (List S177)}
theorem SpI.below (h : SpI w0 W gI vM ub uw uf ur us uv bg wh fa re st vs) (hb : Below W.heap.size W w1) : SpI w0 w1 gI vM ub uw uf ur us uv bg wh fa re st vs :=
 ⟨Kd.R_below h.rb hb, Kd.R_below h.rw_ hb, Kd.R_below h.rf hb, Kd.R_below h.rs hb, Kd.R_below h.rr hb, Kd.S_below h.rv hb, blk_below h.bx hb, below_step h.be hb, h.hg⟩
theorem SpI.alloc (h : SpI w0 W gI vM ub uw uf ur us uv bg wh fa re st vs) (o : Obj) : SpI w0 (W.alloc o) gI vM ub uw uf ur us uv bg wh fa re st vs := h.below (bal (Below.refl _ _) o)
theorem SpI.drewN (h : SpI w0 W gI vM ub uw uf ur us uv bg wh fa re st vs) (m : Nat) : SpI w0 (W.drewN m) gI vM ub uw uf ur us uv bg wh fa re st vs := h.below (bdN (Below.refl _ _) m)
theorem SpI.drew (h : SpI w0 W gI vM ub uw uf ur us uv bg wh fa re st vs) : SpI w0 W.drew gI vM ub uw uf ur us uv bg wh fa re st vs := h.below (below_drew (Below.refl _ _))
theorem SpI.cells (h : SpI w0 W gI vM ub uw uf ur us uv bg wh fa re st vs) : W.cell? ⟨gI, 0, none⟩ = some vM ∧ W.cell? ⟨gI, 1, none⟩ = some ub ∧ W.cell? ⟨gI, 2, none⟩ = some uw ∧ W.cell? ⟨gI, 3, none⟩ = some uf ∧ W.cell? ⟨gI, 4, none⟩ = some ur ∧ W.cell? ⟨gI, 5, none⟩ = some us ∧ W.cell? ⟨gI, 6, none⟩ = some uv ∧ ∀ j, W.frozen? ⟨gI, j, none⟩ = false :=
 ⟨(bC h.bx 0).trans rfl, (bC h.bx 1).trans rfl, (bC h.bx 2).trans rfl, (bC h.bx 3).trans rfl, (bC h.bx 4).trans rfl, (bC h.bx 5).trans rfl, (bC h.bx 6).trans rfl, fun j => bF h.bx j⟩
theorem SpI.stateAt (h : SpI w0 W gI vM ub uw uf ur us uv bg wh fa re st vs) {i : Nat} (hi : i < st.length) : ∃ g c, us = .slice (some ⟨g, 0, none⟩) st.length c ∧ W.cell? ⟨g, i, none⟩ = some (.int .i64 (rd st (i : Int))) ∧ W.frozen? ⟨g, i, none⟩ = false := by
 obtain ⟨g, c, rfl, _⟩ := Kd.R_form h.rs (by omega)
 obtain ⟨ce, hcl, hM, hcc, hfr⟩ := Kd.R_elem h.rs 0 (i : Int) (by omega) (by omega)
 have hM2 : ce = [.int .i64 (rd st (i : Int))] := hM
 subst hM2
 have h1 := hcc 0 _ rfl
 have h2 := hfr 0
 have e : (i : Int).toNat * (Kd.int .i64).sz + 0 = i := Nat.mul_one i
 rw [e] at h1 h2
 exact ⟨g, c, rfl, h1, h2⟩
theorem SpI.setState {g c i : Nat} {x : Int} (h : SpI w0 W gI vM ub uw uf ur (.slice (some ⟨g, 0, none⟩) st.length c) uv bg wh fa re st vs) (hi : i < st.length) :
  SpI w0 (W.setCell ⟨g, i, none⟩ (.int .i64 x)) gI vM ub uw uf ur (.slice (some ⟨g, 0, none⟩) st.length c) uv bg wh fa re (st.set i x) vs := by
 obtain ⟨ce, hcl, hM, hcc, hfr⟩ := Kd.R_elem h.rs 0 (i : Int) (by omega) (by omega)
 have hM2 : ce = [.int .i64 (rd st (i : Int))] := hM
 subst hM2
 have HP := Kd.R_seg h.rs (i : Int) (by omega) (by omega) (seg := [.int .i64 x]) (j := 0) (okp := fun k => False) hcl hcc (show 1 ≤ 1 from by decide) (x' := x) (show (Kd.int .i64).M _ _ _ x _ from rfl) (fun _ hk => hk.elim)
 have hw : W.setCells g ((i : Int).toNat * (Kd.int .i64).sz + 0) [.int .i64 x] = W.setCell ⟨g, i, none⟩ (.int .i64 x) := by
  rw [show (i : Int).toNat * (Kd.int .i64).sz + 0 = i from Nat.mul_one i]; rfl
 rw [hw] at HP
 have own : (Value.slice (some ⟨g, 0, none⟩) st.length c).ownBlock = some g := rfl
 obtain ⟨cells, hty⟩ := Kd.R_typed h.rs g own
 obtain ⟨g2, cap, e2, hb2, _⟩ := Kd.R_form h.rs (by omega)
 injection e2 with e3 _ _
 injection e3 with e3
 injection e3 with e3 _ _
 subst e3
 have hg : W.grownBy (W.setCell ⟨g, i, none⟩ (.int .i64 x)) (Value.slice (some ⟨g, 0, none⟩) st.length c).ownBlock := HP.2
 exact ⟨Kd.R_far (p := ⟨g, i, none⟩) h.rb (fun k hk e => hk.2.2 (by rw [own, e])) _, Kd.R_far (p := ⟨g, i, none⟩) h.rw_ (fun k hk e => hk.2.2 (by rw [own, e])) _, Kd.R_far (p := ⟨g, i, none⟩) h.rf (fun k hk e => hk.2.2 (by rw [own, e])) _,
  HP.1, Kd.R_over' h.rr (Kd.R_typed h.rs) (by decide) hg, Kd.S_set h.rv hty (by decide) _ _, blk_far h.bx (blk_ne h.bx hty (by decide)) _, bS h.be hb2, h.hg⟩
theorem SpI.putB (h : SpI w0 W gI vM ub uw uf ur us uv bg wh fa re st vs) (ho : Kd.R (Kd.int .i64) 3 w1 w0.heap.size (fun k => some k ≠ uw.ownBlock ∧ some k ≠ uf.ownBlock ∧ some k ≠ us.ownBlock) v1 r') (hb : Below w0.heap.size w0 w1) (hg : W.grownBy w1 ub.ownBlock)
  (hat : v1.ownBlock = ub.ownBlock ∨ ∃ b, v1.ownBlock = some b ∧ W.heap.size ≤ b) : SpI w0 (w1.setCell ⟨gI, 1, none⟩ v1) gI vM v1 uw uf ur us uv r' wh fa re st vs ∧ w1.cell? ⟨gI, 1, none⟩ = some ub ∧ w1.frozen? ⟨gI, 1, none⟩ = false := by
 have BX := blk_grown h.bx hg (Kd.R_ne h.rb h.bx (by decide))
 have R2 := Kd.R_after (ok := (fun k => some k ≠ uf.ownBlock ∧ some k ≠ us.ownBlock)) (Kd.R_mono h.rw_ (fun _ hk => ⟨hk.2, hk.1⟩)) hg hat
 have R3 := Kd.R_after (ok := (fun k => some k ≠ uw.ownBlock ∧ some k ≠ us.ownBlock)) (Kd.R_mono h.rf (fun _ hk => ⟨hk.2, hk.1⟩)) hg hat
 have R4 := Kd.R_after (ok := (fun k => some k ≠ uw.ownBlock ∧ some k ≠ uf.ownBlock)) (Kd.R_mono h.rs (fun _ hk => ⟨hk.2, hk.1⟩)) hg hat
 have R5 := Kd.R_over' h.rr (Kd.R_typed h.rb) (by decide) hg
 have R6 := Kd.S_over' h.rv (Kd.R_typed h.rb) (by decide) hg
 refine ⟨⟨Kd.R_mono (Kd.R_far (p := ⟨gI, 1, none⟩) (Kd.R_types ho BX (by decide)) (fun _ hk => hk.2) v1) (fun _ hk => hk.1), Kd.R_mono (Kd.R_far (p := ⟨gI, 1, none⟩) (Kd.R_types R2 BX (by decide)) (fun _ hk => hk.2) v1) (fun _ hk => ⟨hk.1.2, hk.1.1⟩),
  Kd.R_mono (Kd.R_far (p := ⟨gI, 1, none⟩) (Kd.R_types R3 BX (by decide)) (fun _ hk => hk.2) v1) (fun _ hk => ⟨hk.1.2, hk.1.1⟩), Kd.R_mono (Kd.R_far (p := ⟨gI, 1, none⟩) (Kd.R_types R4 BX (by decide)) (fun _ hk => hk.2) v1) (fun _ hk => ⟨hk.1.2, hk.1.1⟩),
  Kd.R_mono (Kd.R_far (p := ⟨gI, 1, none⟩) (Kd.R_types R5 BX (by decide)) (fun _ hk => hk.2) v1) (fun _ hk => trivial), Kd.S_set R6 BX (by decide) _ _,
  blk_put (cs := #[vM, ub, uw, uf, ur, us, uv]) BX 1 _ rfl, bS hb h.hg, h.hg⟩, (bC BX 1).trans rfl, bF BX 1⟩
theorem SpI.putW (h : SpI w0 W gI vM ub uw uf ur us uv bg wh fa re st vs) (ho : Kd.R (Kd.int .i64) 3 w1 w0.heap.size (fun k => some k ≠ ub.ownBlock ∧ some k ≠ uf.ownBlock ∧ some k ≠ us.ownBlock) v1 r') (hb : Below w0.heap.size w0 w1) (hg : W.grownBy w1 uw.ownBlock)
  (hat : v1.ownBlock = uw.ownBlock ∨ ∃ b, v1.ownBlock = some b ∧ W.heap.size ≤ b) : SpI w0 (w1.setCell ⟨gI, 2, none⟩ v1) gI vM ub v1 uf ur us uv bg r' fa re st vs ∧ w1.cell? ⟨gI, 2, none⟩ = some uw ∧ w1.frozen? ⟨gI, 2, none⟩ = false := by
 have BX := blk_grown h.bx hg (Kd.R_ne h.rw_ h.bx (by decide))
 have R2 := Kd.R_after (ok := (fun k => some k ≠ uf.ownBlock ∧ some k ≠ us.ownBlock)) (Kd.R_mono h.rb (fun _ hk => ⟨hk.2, hk.1⟩)) hg hat
 have R3 := Kd.R_after (ok := (fun k => some k ≠ ub.ownBlock ∧ some k ≠ us.ownBlock)) (Kd.R_mono h.rf (fun _ hk => ⟨⟨hk.1, hk.2.2⟩, hk.2.1⟩)) hg hat
 have R4 := Kd.R_after (ok := (fun k => some k ≠ ub.ownBlock ∧ some k ≠ uf.ownBlock)) (Kd.R_mono h.rs (fun _ hk => ⟨⟨hk.1, hk.2.2⟩, hk.2.1⟩)) hg hat
 have R5 := Kd.R_over' h.rr (Kd.R_typed h.rw_) (by decide) hg
 have R6 := Kd.S_over' h.rv (Kd.R_typed h.rw_) (by decide) hg
 refine ⟨⟨Kd.R_mono (Kd.R_far (p := ⟨gI, 2, none⟩) (Kd.R_types R2 BX (by decide)) (fun _ hk => hk.2) v1) (fun _ hk => ⟨hk.1.2, hk.1.1⟩), Kd.R_mono (Kd.R_far (p := ⟨gI, 2, none⟩) (Kd.R_types ho BX (by decide)) (fun _ hk => hk.2) v1) (fun _ hk => hk.1),
  Kd.R_mono (Kd.R_far (p := ⟨gI, 2, none⟩) (Kd.R_types R3 BX (by decide)) (fun _ hk => hk.2) v1) (fun _ hk => ⟨hk.1.1.1, hk.1.2, hk.1.1.2⟩), Kd.R_mono (Kd.R_far (p := ⟨gI, 2, none⟩) (Kd.R_types R4 BX (by decide)) (fun _ hk => hk.2) v1) (fun _ hk => ⟨hk.1.1.1, hk.1.2, hk.1.1.2⟩),
  Kd.R_mono (Kd.R_far (p := ⟨gI, 2, none⟩) (Kd.R_types R5 BX (by decide)) (fun _ hk => hk.2) v1) (fun _ hk => trivial), Kd.S_set R6 BX (by decide) _ _,
  blk_put (cs := #[vM, ub, uw, uf, ur, us, uv]) BX 2 _ rfl, bS hb h.hg, h.hg⟩, (bC BX 2).trans rfl, bF BX 2⟩
theorem SpI.putF (h : SpI w0 W gI vM ub uw uf ur us uv bg wh fa re st vs) (ho : Kd.R (Kd.int .i64) 3 w1 w0.heap.size (fun k => some k ≠ ub.ownBlock ∧ some k ≠ uw.ownBlock ∧ some k ≠ us.ownBlock) v1 r') (hb : Below w0.heap.size w0 w1) (hg : W.grownBy w1 uf.ownBlock)
  (hat : v1.ownBlock = uf.ownBlock ∨ ∃ b, v1.ownBlock = some b ∧ W.heap.size ≤ b) : SpI w0 (w1.setCell ⟨gI, 3, none⟩ v1) gI vM ub uw v1 ur us uv bg wh r' re st vs ∧ w1.cell? ⟨gI, 3, none⟩ = some uf ∧ w1.frozen? ⟨gI, 3, none⟩ = false := by
 have BX := blk_grown h.bx hg (Kd.R_ne h.rf h.bx (by decide))
 have R2 := Kd.R_after (ok := (fun k => some k ≠ uw.ownBlock ∧ some k ≠ us.ownBlock)) (Kd.R_mono h.rb (fun _ hk => ⟨⟨hk.1, hk.2.2⟩, hk.2.1⟩)) hg hat
 have R3 := Kd.R_after (ok := (fun k => some k ≠ ub.ownBlock ∧ some k ≠ us.ownBlock)) (Kd.R_mono h.rw_ (fun _ hk => ⟨⟨hk.1, hk.2.2⟩, hk.2.1⟩)) hg hat
 have R4 := Kd.R_after (ok := (fun k => some k ≠ ub.ownBlock ∧ some k ≠ uw.ownBlock)) (Kd.R_mono h.rs (fun _ hk => ⟨⟨hk.1, hk.2.1⟩, hk.2.2⟩)) hg hat
 have R5 := Kd.R_over' h.rr (Kd.R_typed h.rf) (by decide) hg
 have R6 := Kd.S_over' h.rv (Kd.R_typed h.rf) (by decide) hg
 refine ⟨⟨Kd.R_mono (Kd.R_far (p := ⟨gI, 3, none⟩) (Kd.R_types R2 BX (by decide)) (fun _ hk => hk.2) v1) (fun _ hk => ⟨hk.1.1.1, hk.1.2, hk.1.1.2⟩), Kd.R_mono (Kd.R_far (p := ⟨gI, 3, none⟩) (Kd.R_types R3 BX (by decide)) (fun _ hk => hk.2) v1) (fun _ hk => ⟨hk.1.1.1, hk.1.2, hk.1.1.2⟩),
  Kd.R_mono (Kd.R_far (p := ⟨gI, 3, none⟩) (Kd.R_types ho BX (by decide)) (fun _ hk => hk.2) v1) (fun _ hk => hk.1), Kd.R_mono (Kd.R_far (p := ⟨gI, 3, none⟩) (Kd.R_types R4 BX (by decide)) (fun _ hk => hk.2) v1) (fun _ hk => ⟨hk.1.1.1, hk.1.1.2, hk.1.2⟩),
  Kd.R_mono (Kd.R_far (p := ⟨gI, 3, none⟩) (Kd.R_types R5 BX (by decide)) (fun _ hk => hk.2) v1) (fun _ hk => trivial), Kd.S_set R6 BX (by decide) _ _,
  blk_put (cs := #[vM, ub, uw, uf, ur, us, uv]) BX 3 _ rfl, bS hb h.hg, h.hg⟩, (bC BX 3).trans rfl, bF BX 3⟩
theorem SpI.putR {r2 : List ByteArray} (h : SpI w0 W gI vM ub uw uf ur us uv bg wh fa re st vs) (ho : Kd.R Kd.string 9 w1 w0.heap.size (fun _ => True) v1 r2) (hb : Below w0.heap.size w0 w1) (hg : W.grownBy w1 ur.ownBlock) :
  SpI w0 (w1.setCell ⟨gI, 4, none⟩ v1) gI vM ub uw uf v1 us uv bg wh fa r2 st vs ∧ w1.cell? ⟨gI, 4, none⟩ = some ur ∧ w1.frozen? ⟨gI, 4, none⟩ = false := by
 have BX := blk_grown h.bx hg (Kd.R_ne h.rr h.bx (by decide))
 have R1 := Kd.R_over' h.rb (Kd.R_typed h.rr) (by decide) hg
 have R2 := Kd.R_over' h.rw_ (Kd.R_typed h.rr) (by decide) hg
 have R3 := Kd.R_over' h.rf (Kd.R_typed h.rr) (by decide) hg
 have R4 := Kd.R_over' h.rs (Kd.R_typed h.rr) (by decide) hg
 have R6 := Kd.S_over' h.rv (Kd.R_typed h.rr) (by decide) hg
 refine ⟨⟨Kd.R_mono (Kd.R_far (p := ⟨gI, 4, none⟩) (Kd.R_types R1 BX (by decide)) (fun _ hk => hk.2) v1) (fun _ hk => hk.1), Kd.R_mono (Kd.R_far (p := ⟨gI, 4, none⟩) (Kd.R_types R2 BX (by decide)) (fun _ hk => hk.2) v1) (fun _ hk => hk.1),
  Kd.R_mono (Kd.R_far (p := ⟨gI, 4, none⟩) (Kd.R_types R3 BX (by decide)) (fun _ hk => hk.2) v1) (fun _ hk => hk.1), Kd.R_mono (Kd.R_far (p := ⟨gI, 4, none⟩) (Kd.R_types R4 BX (by decide)) (fun _ hk => hk.2) v1) (fun _ hk => hk.1),
  Kd.R_mono (Kd.R_far (p := ⟨gI, 4, none⟩) (Kd.R_types ho BX (by decide)) (fun _ hk => hk.2) v1) (fun _ hk => trivial), Kd.S_set R6 BX (by decide) _ _,
  blk_put (cs := #[vM, ub, uw, uf, ur, us, uv]) BX 4 _ rfl, bS hb h.hg, h.hg⟩, (bC BX 4).trans rfl, bF BX 4⟩
theorem SpI.setNil {g c i : Nat} (h : SpI w0 W gI vM ub uw uf ur us (.slice (some ⟨g, 0, none⟩) vs.length c) bg wh fa re st vs) (hi : i < vs.length) :
  SpI w0 (W.setCell ⟨g, i, none⟩ (.slice none 0 0)) gI vM ub uw uf ur us (.slice (some ⟨g, 0, none⟩) vs.length c) bg wh fa re st (vs.set i []) ∧ (∃ v0, W.cell? ⟨g, i, none⟩ = some v0) ∧ W.frozen? ⟨g, i, none⟩ = false := by
 obtain ⟨oki, ce, hcl, hM, hcc, hfr, hoki, hH⟩ := Kd.S_elem (Kd.S_mono (ok' := fun k => True ∧ ¬ False) h.rv (fun _ _ => ⟨trivial, fun e => e⟩)) ([] : List S177) (i : Int) (by omega) (by omega)
 obtain ⟨v0, rfl, hR⟩ := hM
 have HP := Kd.S_seg (okg := fun _ => False) (ok := fun _ => True) hH (by omega) (by omega) (seg := [.slice none 0 0]) (j := 0) (show 1 ≤ 1 from by decide) (x' := ([] : List S177)) (okp := fun _ => False) (Kd.M_row (Kd.R_nil _ _ _ _ _)) (fun _ hk => hk.elim) (fun _ hk => hk.elim)
 have e1 : (i : Int).toNat * (Kd.slice 177 k177).sz + 0 = i := Nat.mul_one i
 have hw : W.setCells g ((i : Int).toNat * (Kd.slice 177 k177).sz + 0) [.slice none 0 0] = W.setCell ⟨g, i, none⟩ (.slice none 0 0) := by rw [e1]; rfl
 rw [hw] at HP
 have own : (Value.slice (some ⟨g, 0, none⟩) vs.length c).ownBlock = some g := rfl
 obtain ⟨cells, hty⟩ := Kd.S_typed h.rv g own
 have hgb := Kd.S_base h.rv g own
 have hx0 := hcc 0 _ rfl
 have hf0 := hfr 0
 rw [e1] at hx0 hf0
 have far : ∀ {α : Type} {d : Kd α} {e : TypeId} {ok : Nat → Prop} {v : Value} {xs : List α}, d.R e W w0.heap.size ok v xs → (∀ q, q ∈ e :: d.E → q ≠ 168) → d.R e (W.setCell ⟨g, i, none⟩ (.slice none 0 0)) w0.heap.size ok v xs := fun hr ht =>
  Kd.R_mono (Kd.R_far (p := ⟨g, i, none⟩) (Kd.R_types hr hty ht) (fun _ hk => hk.2) _) (fun _ hk => hk.1)
 exact ⟨⟨far h.rb (by decide), far h.rw_ (by decide), far h.rf (by decide), far h.rs (by decide), far h.rr (by decide), HP.1, blk_far h.bx (blk_ne h.bx hty (by decide)) _, bS h.be hgb, h.hg⟩, ⟨v0, hx0⟩, hf0⟩
def SpLent (w0 W : World) (g c i : Nat) (v0 : Value) (vs : List (List S177)) (W1 : World) : Prop :=
 ∃ oki : Nat → Prop, (∀ k, v0.ownBlock = some k → oki k) ∧ Kd.H (Kd.slice 177 k177) 168 W1 w0.heap.size (fun k => True ∧ ¬ W.heap.size ≤ k) (.slice (some ⟨g, 0, none⟩) vs.length c) vs (i : Int) oki [v0]
theorem SpI.lend {i : Nat} (h : SpI w0 W gI vM ub uw uf ur us uv bg wh fa re st vs) (hi : i < vs.length) : ∃ g c v0, uv = .slice (some ⟨g, 0, none⟩) vs.length c ∧ W.cell? ⟨g, i, none⟩ = some v0 ∧ W.frozen? ⟨g, i, none⟩ = false ∧
  Kd.R k177 177 W w0.heap.size (fun k => some k = v0.ownBlock) v0 (vs.getD i []) ∧ SpLent w0 W g c i v0 vs W := by
 obtain ⟨g, c, rfl, _⟩ := Kd.S_form h.rv (by omega)
 obtain ⟨oki, ce, hcl, hM, hcc, hfr, hoki, hH⟩ := Kd.S_elem (Kd.S_mono (ok' := fun k => True ∧ ¬ W.heap.size ≤ k) (Kd.S_bound h.rv) (fun _ hk => ⟨trivial, Nat.not_le.2 hk.2.2.1⟩)) ([] : List S177) (i : Int) (by omega) (by omega)
 obtain ⟨v0, rfl, hR⟩ := hM
 have e1 : (i : Int).toNat * (Kd.slice 177 k177).sz + 0 = i := Nat.mul_one i
 have hx0 := hcc 0 _ rfl
 have hf0 := hfr 0
 rw [e1] at hx0 hf0
 exact ⟨g, c, v0, rfl, hx0, hf0, Kd.R_tight rfl hR, oki, hR.1, hH⟩
theorem SpLent.below {W0 W1 W2 : World} {g c i : Nat} {v0 : Value} (h : SpLent w0 W0 g c i v0 vs W1) (hb : Below W1.heap.size W1 W2) : SpLent w0 W0 g c i v0 vs W2 := by
 obtain ⟨oki, h1, h2⟩ := h
 exact ⟨oki, h1, Kd.H_below h2 hb⟩
theorem SpI.back {W0 : World} {g c i : Nat} {v0 v2 : Value} {x0 r : List S177} (h : SpI w0 W gI vM ub uw uf ur us (.slice (some ⟨g, 0, none⟩) vs.length c) bg wh fa re st vs) (hl : SpLent w0 W0 g c i v0 vs W) (hW : W0.heap.size ≤ W.heap.size) (hg0 : g < W0.heap.size) (hi : i < vs.length)
  (h0 : Kd.R k177 177 W w0.heap.size (fun k => some k = v0.ownBlock) v0 x0) (hk : Kept W w1 (fun k => some k = v0.ownBlock)) (hb : Below w0.heap.size w0 w1) (hr : Kd.R k177 177 w1 w0.heap.size (fun k => some k = v0.ownBlock ∨ W.heap.size ≤ k) v2 r) :
  SpI w0 (w1.setCell ⟨g, i, none⟩ v2) gI vM ub uw uf ur us (.slice (some ⟨g, 0, none⟩) vs.length c) bg wh fa re st (vs.set i r) ∧ (∃ u, w1.cell? ⟨g, i, none⟩ = some u) ∧ w1.frozen? ⟨g, i, none⟩ = false := by
 obtain ⟨oki, ho, hH⟩ := hl
 have hty0 := Kd.R_typed h0
 have own : (Value.slice (some ⟨g, 0, none⟩) vs.length c).ownBlock = some g := rfl
 obtain ⟨cells, hty⟩ := Kd.S_typed h.rv g own
 have hgb := Kd.S_base h.rv g own
 have hgne : ¬ (some g = v0.ownBlock) := fun e => by
  obtain ⟨c2, h2⟩ := hty0 g e.symm
  rw [hty] at h2; injection h2 with h2; injection h2 with _ h2 _; exact absurd h2 (by decide)
 have hty1 := blk_kept hty hk hgne
 have hbx : ¬ (some gI = v0.ownBlock) := fun e => by
  obtain ⟨c2, h2⟩ := hty0 gI e.symm
  rw [h.bx] at h2; injection h2 with h2; injection h2 with _ h2 _; exact absurd h2 (by decide)
 have hbx1 := blk_kept h.bx hk hbx
 have hH1 := Kd.H_kept hH hk (fun k _ hn he => hn (ho k he.symm))
 have e1 : (i : Int).toNat * (Kd.slice 177 k177).sz + 0 = i := Nat.mul_one i
 have HP := Kd.S_seg (okg := fun k => W0.heap.size ≤ k) (ok := fun _ => True) hH1 (by omega) (by omega) (seg := [v2]) (j := 0) (show 1 ≤ 1 from by decide) (x' := r) (okp := fun k => some k = v0.ownBlock ∨ W.heap.size ≤ k) (Kd.M_row hr)
  (fun k hk2 => hk2.elim (fun e => Or.inl (ho k e.symm)) (fun e => Or.inr (Nat.le_trans hW e))) (fun k hk2 => ⟨trivial, fun e => by omega⟩)
 have hw : w1.setCells g ((i : Int).toNat * (Kd.slice 177 k177).sz + 0) [v2] = w1.setCell ⟨g, i, none⟩ v2 := by rw [e1]; rfl
 rw [hw] at HP
 have far : ∀ {α : Type} {d : Kd α} {e : TypeId} {ok : Nat → Prop} {v : Value} {xs : List α}, d.R e W w0.heap.size ok v xs → (∀ q, q ∈ e :: d.E → q ≠ 168) → (∀ q, q ∈ e :: d.E → q ≠ 177) → d.R e (w1.setCell ⟨g, i, none⟩ v2) w0.heap.size ok v xs := fun hr ht ht2 => by
  have h1 := Kd.R_kept (Kd.R_bound hr) hk (fun k hk2 he => by
   obtain ⟨_, _, _, q, hq, c3, h3⟩ := hk2
   obtain ⟨c2, h2⟩ := hty0 k he.symm
   rw [h3] at h2; injection h2 with h2; injection h2 with _ h2 _; exact ht2 q hq h2)
  exact Kd.R_mono (Kd.R_far (p := ⟨g, i, none⟩) (Kd.R_types h1 hty1 ht) (fun _ hk => hk.2) _) (fun _ hk => hk.1.1)
 obtain ⟨_, ce, hcl, hM, hcc, hfr, _, _⟩ := Kd.S_elem h.rv ([] : List S177) (i : Int) (by omega) (by omega)
 obtain ⟨u, rfl, _⟩ := hM
 have hx0 := hcc 0 _ rfl
 rw [e1] at hx0
 refine ⟨⟨far h.rb (by decide) (by decide), far h.rw_ (by decide) (by decide), far h.rf (by decide) (by decide), far h.rs (by decide) (by decide), far h.rr (by decide) (by decide), HP.1, blk_far hbx1 (blk_ne hbx1 hty1 (by decide)) _, bS hb hgb, h.hg⟩, ⟨u, ?_⟩, bF hty1 i⟩
 rw [bC hty1 i, ← bC hty i]; exact hx0
end Go.Proofs.Ytehhhlhedmfdiaa.PFnImportOrder
end
section
namespace Go.Proofs.Ytehhhlhedmfdiaa.PFnImportOrder
open Go.RowKit Go.Proofs.Yz0.PrintWords Go.Proofs.Yz0.PrintLast Go.Proofs.Yz0.PrintMore
set_option linter.unusedVariables false
set_option linter.unusedSimpArgs false
def fidx (s : ByteArray) : List S177 → Nat → Option Nat
 | [], _ => none
 | x :: l, i => if x.f0 = s then some i else fidx s l (i + 1)
theorem fidx_bd {s : ByteArray} : ∀ {l : List S177} {i j : Nat}, fidx s l i = some j → i ≤ j ∧ j < i + l.length ∧ (rd_T177 l ((j - i : Nat) : Int)).f0 = s := by
 intro l
 induction l with
 | nil => intro i j h; simp [fidx] at h
 | cons x l ih =>
  intro i j h
  unfold fidx at h
  split at h
  ·injection h with h; subst h; exact ⟨by omega, by simp, by simpa [rd_T177] using ‹x.f0 = s›⟩
  ·obtain ⟨h1, h2, h3⟩ := ih h
   refine ⟨by omega, by simp; omega, ?_⟩
   have e : j - i = (j - (i + 1)) + 1 := by omega
   rw [e]
   have : rd_T177 (x :: l) ((j - (i + 1) + 1 : Nat) : Int) = rd_T177 l ((j - (i + 1) : Nat) : Int) := by
    unfold rd_T177
    rw [show (((j - (i + 1) + 1 : Nat) : Int)).toNat = (j - (i + 1)) + 1 from rfl, show (((j - (i + 1) : Nat) : Int)).toNat = j - (i + 1) from rfl, List.getD_cons_succ]
   rw [this]; exact h3
def fval : Option Nat → Int
 | none => -1
 | some j => (j : Int)
theorem bytes_eq {a b : ByteArray} : a.toList = b.toList ↔ a = b := by
 constructor
 ·intro h
  rw [Lib.toList_data, Lib.toList_data] at h
  exact ByteArray.ext (Array.toList_inj.mp h)
 ·intro h; rw [h]
theorem rd177_cons (x : S177) (l : List S177) (n : Nat) : rd_T177 (x :: l) ((n + 1 : Nat) : Int) = rd_T177 l (n : Int) := by
 unfold rd_T177
 rw [show ((n + 1 : Nat) : Int).toNat = n + 1 from rfl, show ((n : Nat) : Int).toNat = n from rfl, List.getD_cons_succ]
theorem find_l0 (l : List S177) (s : ByteArray) : ∀ (d k i : Nat), i + d = l.length → d < k → l.length ≤ 9000000000000000000 → spec_find.l0 k l s (i : Int) = some (fval (fidx s (l.drop i) i)) := by
 intro d
 induction d with
 | zero =>
  intro k i hi hk _
  obtain ⟨k, rfl⟩ : ∃ m, k = m + 1 := ⟨k - 1, by omega⟩
  simp only [spec_find.l0]
  rw [if_neg (by omega), List.drop_of_length_le (by omega)]
  rfl
 | succ d ih =>
  intro k i hi hk hm
  obtain ⟨k, rfl⟩ : ∃ m, k = m + 1 := ⟨k - 1, by omega⟩
  simp only [spec_find.l0]
  rw [if_pos (by omega), if_pos (by omega)]
  have hlt : i < l.length := by omega
  have hd := List.drop_eq_getElem_cons hlt
  have hr : rd_T177 l (i : Int) = l[i] := by
   unfold rd_T177
   rw [show ((i : Nat) : Int).toNat = i from rfl, List.getD_eq_getElem?_getD, List.getElem?_eq_getElem hlt]; rfl
  rw [hd, hr]
  unfold fidx
  by_cases h : l[i].f0 = s
  ·rw [if_pos h, if_pos (by rw [h])]; rfl
  ·rw [if_neg h, if_neg (fun e => h (bytes_eq.1 e))]
   have hw : wrap64 ((i : Int) + 1) = ((i + 1 : Nat) : Int) := by unfold wrap64; omega
   rw [hw]
   exact ih k (i + 1) (by omega) (by omega) hm
theorem find_f {l : List S177} {s : ByteArray} (hm : l.length ≤ 9000000000000000000) : spec_find.f (l.length + 1) l s = some (fval (fidx s l 0)) := by
 unfold spec_find.f
 exact find_l0 l s l.length _ 0 (by omega) (by omega) hm
def putVs (l : List S177) (s : ByteArray) (v : S31) : List S177 :=
 match fidx s l 0 with
 | none => l ++ [⟨s, v, true⟩]
 | some j => l.set j ⟨(rd_T177 l (j : Int)).f0, v, true⟩
theorem rd177_set {l : List S177} {j : Nat} {y : S177} (h : j < l.length) : rd_T177 (l.set j y) (j : Int) = y := by
 unfold rd_T177
 rw [show ((j : Nat) : Int).toNat = j from rfl, List.getD_eq_getElem?_getD, List.getElem?_set_self h]; rfl
theorem rd177_set_ne {l : List S177} {i j : Nat} {y : S177} (h : i ≠ j) : rd_T177 (l.set i y) (j : Int) = rd_T177 l (j : Int) := by
 unfold rd_T177
 rw [show ((j : Nat) : Int).toNat = j from rfl, List.getD_eq_getElem?_getD, List.getD_eq_getElem?_getD, List.getElem?_set_ne h]
theorem put_f {l : List S177} {s b : ByteArray} {a c : Int} (hm : l.length < 1000000000000) : spec_put.f (l.length + 1) l s a b c = some (putVs l s ⟨a, b, c⟩) := by
 unfold spec_put.f putVs
 rw [find_f (by omega)]
 simp only [Option.bind_some]
 cases h : fidx s l 0 with
 | none =>
  rw [show fval none = -1 from rfl, if_pos (by omega), if_pos (by omega)]
 | some j =>
  obtain ⟨_, h2, _⟩ := fidx_bd h
  have h2 : j < l.length := by omega
  rw [show fval (some j) = (j : Int) from rfl, if_neg (by omega), if_pos (by omega), if_pos (by omega), show ((j : Nat) : Int).toNat = j from rfl, rd177_set h2, List.set_set]
theorem fidx_append {s : ByteArray} {y : S177} : ∀ {l : List S177} {i : Nat}, fidx s (l ++ [y]) i = match fidx s l i with | some j => some j | none => if y.f0 = s then some (i + l.length) else none := by
 intro l
 induction l with
 | nil => intro i; simp [fidx]
 | cons x l ih =>
  intro i
  simp only [List.cons_append, fidx]
  split
  ·rfl
  ·rw [ih]
   have : i + 1 + l.length = i + (x :: l).length := by simp; omega
   rw [this]
theorem fidx_set {s : ByteArray} {y : S177} : ∀ {l : List S177} {i j : Nat}, j < l.length → y.f0 = (rd_T177 l (j : Int)).f0 → fidx s (l.set j y) i = fidx s l i := by
 intro l
 induction l with
 | nil => intro i j h; simp at h
 | cons x l ih =>
  intro i j hj hy
  cases j with
  | zero =>
   have : (rd_T177 (x :: l) ((0 : Nat) : Int)) = x := rfl
   rw [this] at hy
   simp only [List.set_cons_zero, fidx, hy]
  | succ j =>
   rw [rd177_cons] at hy
   simp only [List.set_cons_succ, fidx]
   rw [ih (by simpa using hj) hy]
def VsIs (dec : Int → ByteArray) (vs : List S177) (nm : List (ByteArray × Int)) : Prop :=
 vs.length ≤ nm.length ∧ ∀ s, match look nm s with
  | none => fidx s vs 0 = none
  | some v => ∃ j, fidx s vs 0 = some j ∧ (rd_T177 vs (j : Int)).f1.f1 = dec v
def VsAll (dec : Int → ByteArray) (vs : List (List S177)) (nm : List (List (ByteArray × Int))) : Prop := vs.length = nm.length ∧ ∀ j, VsIs dec (vs.getD j []) (nm.getD j [])
theorem vsIs_nil (dec : Int → ByteArray) : VsIs dec [] [] := ⟨Nat.le_refl _, fun s => rfl⟩
theorem vsIs_put {dec : Int → ByteArray} {l : List S177} {nm : List (ByteArray × Int)} (h : VsIs dec l nm) (s : ByteArray) (v a c : Int) : VsIs dec (putVs l s ⟨a, dec v, c⟩) ((s, v) :: nm) := by
 obtain ⟨h1, h2⟩ := h
 unfold putVs
 cases hf : fidx s l 0 with
 | none =>
  dsimp only
  refine ⟨by simp; omega, fun t => ?_⟩
  have ht := h2 t
  simp only [look]
  by_cases e : s = t
  ·subst e
   rw [if_pos rfl]
   dsimp only
   refine ⟨l.length, ?_, ?_⟩
   ·rw [fidx_append, hf]; simp
   ·unfold rd_T177
    rw [show ((l.length : Nat) : Int).toNat = l.length from rfl, List.getD_eq_getElem?_getD, List.getElem?_append_right (Nat.le_refl _)]
    simp
  ·rw [if_neg e]
   revert ht
   cases hl : look nm t with
   | none => dsimp only; intro ht; rw [fidx_append, ht]; simp [e]
   | some u =>
    dsimp only
    rintro ⟨j, hj, hd⟩
    refine ⟨j, by rw [fidx_append, hj], ?_⟩
    obtain ⟨_, hb, _⟩ := fidx_bd hj
    rw [← hd]
    unfold rd_T177
    rw [show ((j : Nat) : Int).toNat = j from rfl, List.getD_eq_getElem?_getD, List.getD_eq_getElem?_getD, List.getElem?_append_left (by omega)]
 | some i =>
  dsimp only
  obtain ⟨_, hb, hs0⟩ := fidx_bd hf
  have hb : i < l.length := by omega
  have hset : ∀ t, fidx t (l.set i ⟨(rd_T177 l (i : Int)).f0, ⟨a, dec v, c⟩, true⟩) 0 = fidx t l 0 := fun t => fidx_set hb rfl
  refine ⟨by simp; omega, fun t => ?_⟩
  have ht := h2 t
  simp only [look]
  by_cases e : s = t
  ·subst e
   rw [if_pos rfl]
   dsimp only
   exact ⟨i, by rw [hset, hf], by rw [rd177_set hb]⟩
  ·rw [if_neg e]
   revert ht
   cases hl : look nm t with
   | none => dsimp only; intro ht; rw [hset, ht]
   | some u =>
    dsimp only
    rintro ⟨j, hj, hd⟩
    refine ⟨j, by rw [hset, hj], ?_⟩
    have hne : i ≠ j := by
     rintro rfl
     obtain ⟨_, _, hs1⟩ := fidx_bd hj
     exact e (hs0.symm.trans hs1)
    rw [rd177_set_ne hne]; exact hd
theorem getD_set {α : Type} {l : List α} {i j : Nat} {x d : α} (hi : i < l.length) : (l.set i x).getD j d = if i = j then x else l.getD j d := by
 rw [List.getD_eq_getElem?_getD, List.getD_eq_getElem?_getD]
 by_cases h : i = j
 ·subst h; rw [if_pos rfl, List.getElem?_set_self hi]; rfl
 ·rw [if_neg h, List.getElem?_set_ne h]
theorem vsAll_set {dec : Int → ByteArray} {vs : List (List S177)} {nm : List (List (ByteArray × Int))} (h : VsAll dec vs nm) {i : Nat} (hi : i < nm.length) {x : List S177} {y : List (ByteArray × Int)} (hx : VsIs dec x y) : VsAll dec (vs.set i x) (nm.set i y) := by
 obtain ⟨h1, h2⟩ := h
 refine ⟨by simpa using h1, fun j => ?_⟩
 rw [getD_set (by omega), getD_set hi]
 split
 ·exact hx
 ·exact h2 j
def SpR (dec : Int → ByteArray) (w0 W : World) (gI : Nat) (vM uf us uv : Value) (fa : List Int) (s : IS) : Prop :=
 ∃ ub uw ur vs, SpI w0 W gI vM ub uw uf ur us uv s.bg s.wh fa s.re s.st vs ∧ VsAll dec vs s.nm
def SpPost (dec : Int → ByteArray) (w0 : World) (gI : Nat) (vM uf us uv : Value) (fa : List Int) (b : Bool) (s : IS) (e : Ending) (W : World) : Prop := e = .returned (.bool b) ∧ SpR dec w0 W gI vM uf us uv fa s
end Go.Proofs.Ytehhhlhedmfdiaa.PFnImportOrder
end
section
namespace Go.Proofs.Ytehhhlhedmfdiaa.PFnImportOrder
open Go.RowKit Go.Proofs.Yz0.PrintWords Go.Proofs.Yz0.PrintLast Go.Proofs.Yz0.PrintMore
set_option linter.unusedVariables false
set_option linter.unusedSimpArgs false
def SpLoads (dec : Int → ByteArray) (M : List S72) (A0 : Option Addr) (c0 : Nat) (w0 : World) (gI : Nat) (uf us uv : Value) (fa : List Int) (L : Int → IS → Option (Bool × IS)) : Prop :=
 ∀ (i : Int) (s : IS) (b : Bool) (s' : IS) (W : World), L i s = some (b, s') → SpR dec w0 W gI (.slice A0 M.length c0) uf us uv fa s →
  Calls Try.prog 110 #[.pointer (some ⟨gI, 0, none⟩), .int .i64 i] W (SpPost dec w0 gI (.slice A0 M.length c0) uf us uv fa b s')
def SpSteps (dec : Int → ByteArray) (M : List S72) (A0 : Option Addr) (c0 : Nat) (w0 : World) (gI : Nat) (uf us uv : Value) (fa : List Int) (F : Int → S74 → IS → Option (Bool × IS)) : Prop :=
 ∀ (i : Int) (x : S74) (s : IS) (b : Bool) (s' : IS) (W : World), F i x s = some (b, s') → SpR dec w0 W gI (.slice A0 M.length c0) uf us uv fa s →
  Calls Try.prog 131 #[.pointer (some ⟨gI, 0, none⟩), .int .i64 i, .agg #[.int .i64 x.f0, .int .i64 x.f1, .string x.f2]] W (SpPost dec w0 gI (.slice A0 M.length c0) uf us uv fa b s')
theorem drop72 {l : List S74} {j : Nat} (h : j < l.length) : l.drop j = rY l (j : Int) :: l.drop (j + 1) := by
 unfold rY
 rw [show ((j : Int)).toNat = j from rfl, List.getD_eq_getElem?_getD, List.getElem?_eq_getElem h, List.drop_eq_getElem_cons h]
 rfl
variable {dec : Int → ByteArray} {M : List S72} {A0 : Option Addr} {c0 : Nat} {w0 : World} {gI : Nat} {uf us uv : Value} {fa : List Int}
theorem SpI.setStateN {W : World} {vM ub uw ur : Value} {bg wh : List Int} {re : List ByteArray} {st : List Int} {vs : List (List S177)} {n g c i : Nat} {x : Int} (h : SpI w0 W gI vM ub uw uf ur (.slice (some ⟨g, 0, none⟩) n c) uv bg wh fa re st vs) (hn : st.length = n) (hi : i < n) :
  SpI w0 (W.setCell ⟨g, i, none⟩ (.int .i64 x)) gI vM ub uw uf ur (.slice (some ⟨g, 0, none⟩) n c) uv bg wh fa re (st.set i x) vs := by
 subst hn
 exact h.setState hi
theorem SpI.stateN {W : World} {vM ub uw ur : Value} {bg wh : List Int} {re : List ByteArray} {st : List Int} {vs : List (List S177)} {n g c i : Nat} (h : SpI w0 W gI vM ub uw uf ur (.slice (some ⟨g, 0, none⟩) n c) uv bg wh fa re st vs) (hn : st.length = n) (hi : i < n) :
  W.cell? ⟨g, i, none⟩ = some (.int .i64 (rd st (i : Int))) ∧ W.frozen? ⟨g, i, none⟩ = false := by
 obtain ⟨g2, c2, e, h1, h2⟩ := h.stateAt (i := i) (by omega)
 injection e with e _ _
 injection e with e
 injection e with e _ _
 subst e
 exact ⟨h1, h2⟩
theorem SpI.setNilN {W : World} {vM ub uw ur : Value} {bg wh : List Int} {re : List ByteArray} {st : List Int} {vs : List (List S177)} {n g c i : Nat} (h : SpI w0 W gI vM ub uw uf ur us (.slice (some ⟨g, 0, none⟩) n c) bg wh fa re st vs) (hn : vs.length = n) (hi : i < n) :
  SpI w0 (W.setCell ⟨g, i, none⟩ (.slice none 0 0)) gI vM ub uw uf ur us (.slice (some ⟨g, 0, none⟩) n c) bg wh fa re st (vs.set i []) ∧ (∃ v0, W.cell? ⟨g, i, none⟩ = some v0) ∧ W.frozen? ⟨g, i, none⟩ = false := by
 subst hn
 exact h.setNil hi
theorem sp_load (F : Int → S74 → IS → Option (Bool × IS)) (hF : SpSteps dec M A0 c0 w0 gI uf us uv fa F) (hC : Kd.C k72 w0 A0 M.length M) (i : Nat) (s : IS) (W : World) (hi : i < M.length) (hs1 : s.st.length = M.length) (hs2 : s.nm.length = M.length)
  (h0 : rd s.st (i : Int) = 0) (h1 : s.bg.length < IB) (h2 : nms s (i : Int) = []) (b : Bool) (s1 : IS) (hr : runs (F (i : Int)) (rX M (i : Int)).f0 (ldStart (i : Int) s) = some (b, s1)) (h3 : s1.st.length = M.length) (h4 : s1.nm.length = M.length) (h5 : s1.wh.length < IB)
  (hR : SpR dec w0 W gI (.slice A0 M.length c0) uf us uv fa s) :
  Calls Try.prog 110 #[.pointer (some ⟨gI, 0, none⟩), .int .i64 (i : Int)] W (SpPost dec w0 gI (.slice A0 M.length c0) uf us uv fa b (ldEnd b (i : Int) s1)) := by
 obtain ⟨ub, uw, ur, vs, hI, hV⟩ := hR
 obtain ⟨g, c, rfl, hx, hxf⟩ := hI.stateAt (i := i) (by omega)
 rw [h0] at hx
 rw [hs1] at hI hF ⊢
 obtain ⟨gv, cv, euv, _⟩ := Kd.S_form hI.rv (by have := hV.1; omega)
 rw [hV.1, hs2] at euv
 subst euv
 obtain ⟨L, hL⟩ : ∃ L, L = (rX M (i : Int)).f0 := ⟨_, rfl⟩
 obtain ⟨ad, A, cc, rfl, hm, hmc, hmC⟩ := at_T72 hC (i : Int) (by omega) (by omega)
 rw [← hL] at hm hmc hmC hr
 have HF := Az.mk hF
 have HC := Az.mk hmC
 have HM := Az.mk hm
 have HMC := Az.mk hmc
 have HI := Az.mk hI
 have HV := Az.mk hV
 have HR := Az.mk hr
 have H0 := Az.mk h0
 have H1 := Az.mk h1
 have H2 := Az.mk h2
 have H3 := Az.mk h3
 have H4 := Az.mk h4
 have H5 := Az.mk h5
 have HS1 := Az.mk hs1
 have HS2 := Az.mk hs2
 have HIL := Az.mk hi
 have hi1 : decide ((i : Int) < (M.length : Int)) = true := decide_eq_true (by omega)
 have hi2 : (i < M.length) = True := eq_true (by omega)
 obtain ⟨hz0, hz1, hz2, hz3, hz4, hz5, hz6, hzf⟩ := hI.cells
 clear hF hC hI hV hr h0 h1 h2 h3 h4 h5 hs1 hs2 hi hmC hm hmc hL
 go_enter Try.func110, Try.ntmps110
 go_wp2_with (first | ((with_reducible refine gate_store (t := 3) (p := 21) rfl ?_); refine store_event (t := 3) (p := 21) (v := (.const (.int .i64 1))) (w1 := (W.setCell ⟨g, i, none⟩ (.int .i64 1))) ?hg ?ho ?hn ?hr ?_; (case ho => rfl); (case hg => rfl); (case hn => rfl); (case hr => first | (go_simp; done) | (go_simp; rfl)); intro w1 hw_; have n0_ := Az.mk (by rw [hw_]; exact SpI.setStateN HI.out HS1.out HIL.out : SpI w0 w1 gI (.slice (some ad) M.length c0) ub uw uf ur (.slice (some ⟨g, 0, none⟩) M.length c) (.slice (some ⟨gv, 0, none⟩) M.length cv) s.bg s.wh fa s.re (s.st.set i 1) vs); clear HI hw_ hz0 hz1 hz2 hz3 hz4 hz5 hz6 hzf hx hxf; have HI := n0_; clear n0_; obtain ⟨hz0, hz1, hz2, hz3, hz4, hz5, hz6, hzf⟩ := HI.out.cells) | ((with_reducible refine gate_builtin (b := .append) (xs := #[.tmp 27, .tmp 29]) rfl ?_); at_builtin; refine Kd.R_append (Kd.int .i64) (w0 := w0) w0.heap.size rfl (.tmp 27) (.tmp 29) 35 3 (.int .i64 0) 8 rfl Try.underlying35 info3 rfl (by decide) (by omega) ub s.bg (i : Int) [.int .i64 (i : Int)] (fun k => some k ≠ uw.ownBlock ∧ some k ≠ uf.ownBlock ∧ some k ≠ Value.ownBlock (.slice (some ⟨g, 0, none⟩) M.length c)) (fun _ => False) rfl rfl ?aP (fun _ hk => hk.elim) ?aF ?aO ?aB ?aS ?aL ?_; (case aP => exact rfl); (case aB => exact HI.out.be); (case aF => exact (fun k_ hk => ⟨Kd.fresh' (Kd.R_lt HI.out.rw_) k_ hk, Kd.fresh' (Kd.R_lt HI.out.rf) k_ hk, Kd.fresh' (Kd.R_lt HI.out.rs) k_ hk⟩)); (case aO => exact HI.out.rb); (case aS => exact below_size HI.out.be); (case aL => (first | (have := H1.out; unfold IB at this; omega) | (have := H5.out; unfold IB at this; omega))); intro v1 w2 ho hb hg hat; obtain ⟨A1, c1, e_⟩ := Kd.R_slice ho; simp only [List.length_append, List.length_cons, List.length_nil, Nat.zero_add] at e_; subst e_; obtain ⟨hI_, hy0, hyf⟩ := SpI.putB HI.out ho hb hg hat; have n0_ := Az.mk hI_; clear HI hI_ ho hb hg hat hz0 hz1 hz2 hz3 hz4 hz5 hz6 hzf; have HI := n0_; clear n0_))
 clear hy0 hyf
 go_loopg [5] (L.length + 1) (fun kq v5 w' => ∃ (j : Nat) (t : IS), v5 = .int .i64 (j : Int) ∧ Az (j + kq = L.length + 1 ∧ j ≤ L.length) ∧ Az (runs (F (i : Int)) (L.drop j) t = some (b, s1)) ∧ Az (SpR dec w0 w' gI (.slice (some ad) M.length c0) uf (.slice (some ⟨g, 0, none⟩) M.length c) (.slice (some ⟨gv, 0, none⟩) M.length cv) fa t))
 case atStart => exact ⟨0, ldStart (i : Int) s, rfl, ⟨by omega, by omega⟩, ⟨by simpa using HR.out⟩, ⟨⟨_, _, _, _, HI.out, HV.out⟩⟩⟩
 case round =>
  clear HI HR HV
  obtain ⟨j, t, rfl, HJ, HR, HS⟩ := hrel
  have hLm := Kd.C_max HC.out
  by_cases hj : j < L.length
  ·have hj1 : decide ((j : Int) < (L.length : Int)) = true := decide_eq_true (by omega)
   have hj2 : (j < L.length) = True := eq_true hj
   obtain ⟨ub, uw, ur, vs, hI, hV⟩ := HS.out
   obtain ⟨ad2, e2, hy0, hy1, hy2⟩ := at_T74 HC.out (j : Int) (by omega) (by omega)
   subst e2
   obtain ⟨hz0, hz1, hz2, hz3, hz4, hz5, hz6, hzf⟩ := hI.cells
   have hm : wr.cell? (ad.add i) = some (.slice (some ad2) L.length cc) := (hI.be.cell (World.block_lt_of_cell? w0 _ HM.out)).trans HM.out
   replace hy0 : wr.cell? (ad2.add (j * 3)) = _ := (hI.be.cell (World.block_lt_of_cell? w0 _ hy0)).trans hy0
   replace hy1 : wr.cell? ⟨(ad2.add (j * 3)).block, (ad2.add (j * 3)).off + 1, none⟩ = _ := (hI.be.cell (World.block_lt_of_cell? w0 _ hy1)).trans hy1
   replace hy2 : wr.cell? ⟨(ad2.add (j * 3)).block, (ad2.add (j * 3)).off + 2, none⟩ = _ := (hI.be.cell (World.block_lt_of_cell? w0 _ hy2)).trans hy2
   have hw := HR.out
   rw [drop72 hj, runs] at hw
   have hwr : wrap64 ((j : Int) + 1) = ((j + 1 : Nat) : Int) := by unfold wrap64; omega
   clear hI hV HR
   cases hf : F (i : Int) (rY L (j : Int)) t with
   | none => rw [hf] at hw; cases hw
   | some r =>
    obtain ⟨b2, t2⟩ := r
    rw [hf] at hw
    dsimp only [Option.bind_some] at hw
    have HFF := Az.mk hf
    have HJL := Az.mk hj
    have HWR := Az.mk hwr
    have HLM := Az.mk hLm
    clear hf hj hwr hLm
    cases b2 with
    | true =>
     have HR := Az.mk hw
     clear hw
     go_wp2_with fail
     refine (HF.out (i : Int) _ t true t2 _ HFF.out HS.out).mono ?_
     rintro e w3 ⟨rfl, hR2⟩
     have HS2 := Az.mk hR2
     clear hR2 hz0 hz1 hz2 hz3 hz4 hz5 hz6 hzf hm hy0 hy1 hy2
     go_wp2_with fail
     go_roundg (gk - 1)
     case measure => have := HJ.out; omega
     case rel => exact ⟨j + 1, t2, (by first | rfl | (rw [HWR.out]) | (simp [HWR.out])), ⟨by have := HJ.out; omega, by have := HJL.out; omega⟩, HR, HS2⟩
    | false =>
     have HR := Az.mk hw
     clear hw
     go_wp2_with fail
     refine (HF.out (i : Int) _ t false t2 _ HFF.out HS.out).mono ?_
     rintro e w3 ⟨rfl, hR2⟩
     clear hz0 hz1 hz2 hz3 hz4 hz5 hz6 hzf hm hy0 hy1 hy2 HS
     have eb := Option.some.inj HR.out
     injection eb with eb es
     subst eb es
     clear HR
     obtain ⟨ub, uw, ur, vs, hI, hV⟩ := hR2
     have HI := Az.mk hI
     have HV := Az.mk hV
     have HVL : Az (vs.length = M.length) := ⟨hV.1.trans H4.out⟩
     obtain ⟨hz0, hz1, hz2, hz3, hz4, hz5, hz6, hzf⟩ := hI.cells
     obtain ⟨hx, hxf⟩ := hI.stateN H3.out HIL.out
     clear hI hV
     go_wp2_with (first | ((with_reducible refine gate_store (t := 3) (p := 68) rfl ?_); refine store_event (t := 3) (p := 68) (v := (.const (.int .i64 0))) (w1 := (w3.setCell ⟨g, i, none⟩ (.int .i64 0))) ?hg ?ho ?hn ?hr ?_; (case ho => rfl); (case hg => rfl); (case hn => rfl); (case hr => first | (go_simp; done) | (go_simp; rfl)); intro w4 hw_; have n0_ := Az.mk (by rw [hw_]; exact SpI.setStateN HI.out H3.out HIL.out : SpI w0 w4 gI (.slice (some ad) M.length c0) ub uw uf ur (.slice (some ⟨g, 0, none⟩) M.length c) (.slice (some ⟨gv, 0, none⟩) M.length cv) t2.bg t2.wh fa t2.re (t2.st.set i 0) vs); clear HI hw_ hz0 hz1 hz2 hz3 hz4 hz5 hz6 hzf hx hxf; have HI := n0_; clear n0_; obtain ⟨hz0, hz1, hz2, hz3, hz4, hz5, hz6, hzf⟩ := HI.out.cells; obtain ⟨_, ⟨vn, hn⟩, hnf⟩ := SpI.setNilN HI.out HVL.out HIL.out) | ((with_reducible refine gate_store (t := 168) (p := 74) rfl ?_); refine store_event (t := 168) (p := 74) (v := (.const (.slice none 0 0))) (w1 := (w4.setCell ⟨gv, i, none⟩ (.slice none 0 0))) ?hg ?ho ?hn ?hr ?_; (case ho => rfl); (case hg => rfl); (case hn => rfl); (case hr => first | (go_simp; done) | (go_simp; rfl)); intro w5 hw_; have n0_ := Az.mk (by rw [hw_]; exact (SpI.setNilN HI.out HVL.out HIL.out).1 : SpI w0 w5 gI (.slice (some ad) M.length c0) ub uw uf ur (.slice (some ⟨g, 0, none⟩) M.length c) (.slice (some ⟨gv, 0, none⟩) M.length cv) t2.bg t2.wh fa t2.re (t2.st.set i 0) (vs.set i [])); clear HI hw_ hz0 hz1 hz2 hz3 hz4 hz5 hz6 hzf hn hnf; have HI := n0_; clear n0_; skip))
     go_ret
     exact ⟨rfl, ub, uw, ur, vs.set i [], HI.out, vsAll_set HV.out (by have := H4.out; have := HIL.out; omega) (vsIs_nil dec)⟩
  ·have hj1 : decide ((j : Int) < (L.length : Int)) = false := decide_eq_false (by omega)
   have hj2 : (j < L.length) = False := eq_false hj
   obtain ⟨ub, uw, ur, vs, hI, hV⟩ := HS.out
   obtain ⟨hz0, hz1, hz2, hz3, hz4, hz5, hz6, hzf⟩ := hI.cells
   have hm : wr.cell? (ad.add i) = some (.slice A L.length cc) := (hI.be.cell (World.block_lt_of_cell? w0 _ HM.out)).trans HM.out
   have hw := HR.out
   rw [List.drop_of_length_le (by omega), runs] at hw
   injection hw with hw
   injection hw with hb hs
   subst hb hs
   obtain ⟨hx, hxf⟩ := hI.stateN H3.out HIL.out
   have HI := Az.mk hI
   have HV := Az.mk hV
   clear hI hV hj hLm HR HS
   go_wp2_with (first | ((with_reducible refine gate_store (t := 3) (p := 81) rfl ?_); refine store_event (t := 3) (p := 81) (v := (.const (.int .i64 2))) (w1 := (wr.setCell ⟨g, i, none⟩ (.int .i64 2))) ?hg ?ho ?hn ?hr ?_; (case ho => rfl); (case hg => rfl); (case hn => rfl); (case hr => first | (go_simp; done) | (go_simp; rfl)); intro w4 hw_; have n0_ := Az.mk (by rw [hw_]; exact SpI.setStateN HI.out H3.out HIL.out : SpI w0 w4 gI (.slice (some ad) M.length c0) ub uw uf ur (.slice (some ⟨g, 0, none⟩) M.length c) (.slice (some ⟨gv, 0, none⟩) M.length cv) t.bg t.wh fa t.re (t.st.set i 2) vs); clear HI hw_ hz0 hz1 hz2 hz3 hz4 hz5 hz6 hzf hx hxf; have HI := n0_; clear n0_; obtain ⟨hz0, hz1, hz2, hz3, hz4, hz5, hz6, hzf⟩ := HI.out.cells) | ((with_reducible refine gate_builtin (b := .append) (xs := #[.tmp 87, .tmp 89]) rfl ?_); at_builtin; refine Kd.R_append (Kd.int .i64) (w0 := w0) w0.heap.size rfl (.tmp 87) (.tmp 89) 35 3 (.int .i64 0) 8 rfl Try.underlying35 info3 rfl (by decide) (by omega) uw t.wh (i : Int) [.int .i64 (i : Int)] (fun k => some k ≠ ub.ownBlock ∧ some k ≠ uf.ownBlock ∧ some k ≠ Value.ownBlock (.slice (some ⟨g, 0, none⟩) M.length c)) (fun _ => False) rfl rfl ?aP (fun _ hk => hk.elim) ?aF ?aO ?aB ?aS ?aL ?_; (case aP => exact rfl); (case aB => exact HI.out.be); (case aF => exact (fun k_ hk => ⟨Kd.fresh' (Kd.R_lt HI.out.rb) k_ hk, Kd.fresh' (Kd.R_lt HI.out.rf) k_ hk, Kd.fresh' (Kd.R_lt HI.out.rs) k_ hk⟩)); (case aO => exact HI.out.rw_); (case aS => exact below_size HI.out.be); (case aL => (first | (have := H1.out; unfold IB at this; omega) | (have := H5.out; unfold IB at this; omega))); intro v1 w2 ho hb hg hat; obtain ⟨A1, c1, e_⟩ := Kd.R_slice ho; simp only [List.length_append, List.length_cons, List.length_nil, Nat.zero_add] at e_; subst e_; obtain ⟨hI_, hy0, hyf⟩ := SpI.putW HI.out ho hb hg hat; have n0_ := Az.mk hI_; clear HI hI_ ho hb hg hat hz0 hz1 hz2 hz3 hz4 hz5 hz6 hzf; have HI := n0_; clear n0_))
   go_ret
   exact ⟨rfl, _, _, _, _, HI.out, HV.out⟩
theorem sp_load1 (i : Nat) (s : IS) (W : World) (hi : i < M.length) (hs1 : s.st.length = M.length) (h0 : ¬ rd s.st (i : Int) = 0) (hR : SpR dec w0 W gI (.slice A0 M.length c0) uf us uv fa s) :
  Calls Try.prog 110 #[.pointer (some ⟨gI, 0, none⟩), .int .i64 (i : Int)] W (SpPost dec w0 gI (.slice A0 M.length c0) uf us uv fa true s) := by
 obtain ⟨ub, uw, ur, vs, hI, hV⟩ := hR
 obtain ⟨g, c, rfl, hx, hxf⟩ := hI.stateAt (i := i) (by omega)
 rw [hs1] at hI ⊢
 have HI := Az.mk hI
 have HV := Az.mk hV
 have hi1 : decide ((i : Int) < (M.length : Int)) = true := decide_eq_true (by omega)
 have hi2 : (i < M.length) = True := eq_true (by omega)
 have h1 : (rd s.st (i : Int) != 0) = true := bne_iff_ne.2 h0
 have h2 : (rd s.st (i : Int) = 0) = False := eq_false h0
 obtain ⟨hz0, hz1, hz2, hz3, hz4, hz5, hz6, hzf⟩ := hI.cells
 clear hI hV h0 hs1 hi
 go_enter Try.func110, Try.ntmps110
 go_wp2_with fail
 go_ret
 exact ⟨rfl, _, _, _, _, HI.out, HV.out⟩
end Go.Proofs.Ytehhhlhedmfdiaa.PFnImportOrder
end
section
namespace Go.Proofs.Ytehhhlhedmfdiaa.PFnImportOrder
open Go.RowKit Go.Proofs.Yz0.PrintWords Go.Proofs.Yz0.PrintLast Go.Proofs.Yz0.PrintMore
set_option linter.unusedVariables false
set_option linter.unusedSimpArgs false
theorem vsAt {dec : Int → ByteArray} {vs : List (List S177)} {nm : List (List (ByteArray × Int))} (h : VsAll dec vs nm) (j : Nat) : VsIs dec (vs.getD j []) (nm.getD j []) := h.2 j
theorem SpR.below {dec : Int → ByteArray} {w0 W w1 : World} {gI : Nat} {vM uf us uv : Value} {fa : List Int} {s : IS} (h : SpR dec w0 W gI vM uf us uv fa s) (hb : Below W.heap.size W w1) : SpR dec w0 w1 gI vM uf us uv fa s := by
 obtain ⟨ub, uw, ur, vs, hI, hV⟩ := h
 exact ⟨ub, uw, ur, vs, hI.below hb, hV⟩
theorem kept_cell {W w1 : World} {g t base j : Nat} {cs : Array Value} {v0 u : Value} {x0 : List S177} {ok : Nat → Prop} (h : W.heap[g]? = some (.cells cs t (0, 0))) (h0 : Kd.R k177 177 W base ok v0 x0) (ht : 177 ≠ t) (hk : Kept W w1 (fun k => some k = v0.ownBlock)) (hc : W.cell? ⟨g, j, none⟩ = some u) : w1.cell? ⟨g, j, none⟩ = some u := by
 have hne : ¬ (some g = v0.ownBlock) := fun e => by
  obtain ⟨c2, h2⟩ := Kd.R_typed h0 g e.symm
  rw [h] at h2; injection h2 with h2; injection h2 with _ h2 _; exact ht h2.symm
 rw [bC (blk_kept h hk hne) j, ← bC h j]; exact hc
theorem SpI.backN {w0 W w1 W0 : World} {gI g c i n : Nat} {vM ub uw uf ur us : Value} {bg wh fa : List Int} {re : List ByteArray} {st : List Int} {vs : List (List S177)} {v0 v2 : Value} {x0 r : List S177} (h : SpI w0 W gI vM ub uw uf ur us (.slice (some ⟨g, 0, none⟩) n c) bg wh fa re st vs) (hl : SpLent w0 W0 g c i v0 vs W) (hW : W0.heap.size ≤ W.heap.size) (hg0 : g < W0.heap.size) (hn : vs.length = n) (hi : i < n)
  (h0 : Kd.R k177 177 W w0.heap.size (fun k => some k = v0.ownBlock) v0 x0) (hk : Kept W w1 (fun k => some k = v0.ownBlock)) (hb : Below w0.heap.size w0 w1) (hr : Kd.R k177 177 w1 w0.heap.size (fun k => some k = v0.ownBlock ∨ W.heap.size ≤ k) v2 r) :
  SpI w0 (w1.setCell ⟨g, i, none⟩ v2) gI vM ub uw uf ur us (.slice (some ⟨g, 0, none⟩) n c) bg wh fa re st (vs.set i r) ∧ (∃ u, w1.cell? ⟨g, i, none⟩ = some u) ∧ w1.frozen? ⟨g, i, none⟩ = false := by
 subst hn
 exact h.back hl hW hg0 hi h0 hk hb hr
variable {dec : Int → ByteArray} {M : List S72} {A0 : Option Addr} {c0 : Nat} {w0 : World} {gI : Nat} {uf us uv : Value} {fa : List Int}
theorem sp_step1 (L : Int → IS → Option (Bool × IS)) (hL : SpLoads dec M A0 c0 w0 gI uf us uv fa L) (i f1 : Int) (f2 : ByteArray) (s : IS) (b : Bool) (s' : IS) (W : World) (h : L f1 s = some (b, s')) (hR : SpR dec w0 W gI (.slice A0 M.length c0) uf us uv fa s) :
  Calls Try.prog 131 #[.pointer (some ⟨gI, 0, none⟩), .int .i64 i, .agg #[.int .i64 1, .int .i64 f1, .string f2]] W (SpPost dec w0 gI (.slice A0 M.length c0) uf us uv fa b s') := by
 have HL := Az.mk hL
 have H := Az.mk h
 have HR := Az.mk hR
 clear hL h hR
 go_enter Try.func131, Try.ntmps131
 go_wp2_with (first | ((with_reducible refine gate_dst (N := 5) rfl ?_); refine box_event ?hg (N := 5) ?hd (cs := #[.int .i64 1, .int .i64 f1, .string f2]) (t := 74) ?hr ?_; (case hd => rfl); (case hg => rfl); (case hr => first | (go_simp; done) | (go_simp; rfl)); intro gb hg w1 hbox hb; have n0_ := Az.mk (HR.out.below hb); have hb0 : w1.cell? ⟨gb, 0, none⟩ = some (.int .i64 1) := (bC hbox 0).trans rfl; have hb1 : w1.cell? ⟨gb, 1, none⟩ = some (.int .i64 f1) := (bC hbox 1).trans rfl; have hb2 : w1.cell? ⟨gb, 2, none⟩ = some (.string f2) := (bC hbox 2).trans rfl; have HBX := Az.mk hbox; clear HR hb hg hbox; have HR := n0_; clear n0_))
 refine (HL.out f1 s b s' _ H.out HR.out).mono ?_
 rintro e w2 ⟨rfl, hR2⟩
 have HR2 := Az.mk hR2
 clear hR2 hb0 hb1 hb2
 go_wp2_with fail
 go_ret
 exact ⟨rfl, HR2.out⟩
theorem sp_step2 (L : Int → IS → Option (Bool × IS)) (hL : SpLoads dec M A0 c0 w0 gI uf us uv fa L) (i f1 : Int) (f2 : ByteArray) (s : IS) (b : Bool) (s' : IS) (W : World) (h : L f1 s = some (b, s')) (hR : SpR dec w0 W gI (.slice A0 M.length c0) uf us uv fa s) :
  Calls Try.prog 131 #[.pointer (some ⟨gI, 0, none⟩), .int .i64 i, .agg #[.int .i64 2, .int .i64 f1, .string f2]] W (SpPost dec w0 gI (.slice A0 M.length c0) uf us uv fa true s') := by
 have HL := Az.mk hL
 have H := Az.mk h
 have HR := Az.mk hR
 clear hL h hR
 go_enter Try.func131, Try.ntmps131
 go_wp2_with (first | ((with_reducible refine gate_dst (N := 5) rfl ?_); refine box_event ?hg (N := 5) ?hd (cs := #[.int .i64 2, .int .i64 f1, .string f2]) (t := 74) ?hr ?_; (case hd => rfl); (case hg => rfl); (case hr => first | (go_simp; done) | (go_simp; rfl)); intro gb hg w1 hbox hb; have n0_ := Az.mk (HR.out.below hb); have hb0 : w1.cell? ⟨gb, 0, none⟩ = some (.int .i64 2) := (bC hbox 0).trans rfl; have hb1 : w1.cell? ⟨gb, 1, none⟩ = some (.int .i64 f1) := (bC hbox 1).trans rfl; have hb2 : w1.cell? ⟨gb, 2, none⟩ = some (.string f2) := (bC hbox 2).trans rfl; have HBX := Az.mk hbox; clear HR hb hg hbox; have HR := n0_; clear n0_))
 refine (HL.out f1 s b s' _ H.out HR.out).mono ?_
 rintro e w2 ⟨rfl, hR2⟩
 have HR2 := Az.mk hR2
 clear hR2 hb0 hb1 hb2
 go_wp2_with fail
 go_ret
 exact ⟨rfl, HR2.out⟩
theorem sp_step5 (i f1 : Int) (f2 : ByteArray) (s : IS) (W : World) (hR : SpR dec w0 W gI (.slice A0 M.length c0) uf us uv fa s) :
  Calls Try.prog 131 #[.pointer (some ⟨gI, 0, none⟩), .int .i64 i, .agg #[.int .i64 5, .int .i64 f1, .string f2]] W (SpPost dec w0 gI (.slice A0 M.length c0) uf us uv fa false s) := by
 have HR := Az.mk hR
 clear hR
 go_enter Try.func131, Try.ntmps131
 go_wp2_with (first | ((with_reducible refine gate_dst (N := 5) rfl ?_); refine box_event ?hg (N := 5) ?hd (cs := #[.int .i64 5, .int .i64 f1, .string f2]) (t := 74) ?hr ?_; (case hd => rfl); (case hg => rfl); (case hr => first | (go_simp; done) | (go_simp; rfl)); intro gb hg w1 hbox hb; have n0_ := Az.mk (HR.out.below hb); have hb0 : w1.cell? ⟨gb, 0, none⟩ = some (.int .i64 5) := (bC hbox 0).trans rfl; have hb1 : w1.cell? ⟨gb, 1, none⟩ = some (.int .i64 f1) := (bC hbox 1).trans rfl; have hb2 : w1.cell? ⟨gb, 2, none⟩ = some (.string f2) := (bC hbox 2).trans rfl; have HBX := Az.mk hbox; clear HR hb hg hbox; have HR := n0_; clear n0_))
 go_ret
 exact ⟨rfl, HR.out⟩
theorem sp_step3 (i : Nat) (f1 : Int) (f2 : ByteArray) (s : IS) (W : World) (k : Nat) (hd : spec_decimal.f k f1 = some (dec f1)) (hi : i < M.length) (hn : s.nm.length = M.length) (hl : (nms s (i : Int)).length < IB) (hR : SpR dec w0 W gI (.slice A0 M.length c0) uf us uv fa s) :
  Calls Try.prog 131 #[.pointer (some ⟨gI, 0, none⟩), .int .i64 (i : Int), .agg #[.int .i64 3, .int .i64 f1, .string f2]] W (SpPost dec w0 gI (.slice A0 M.length c0) uf us uv fa true (ldSet (i : Int) ⟨3, f1, f2⟩ s)) := by
 have HR := Az.mk hR
 have HD := Az.mk hd
 have HIL := Az.mk hi
 have HN := Az.mk hn
 have HLN := Az.mk hl
 have hi1 : decide ((i : Int) < (M.length : Int)) = true := decide_eq_true (by omega)
 have hi2 : (i < M.length) = True := eq_true (by omega)
 clear hR hd hi hn hl
 go_enter Try.func131, Try.ntmps131
 go_wp2_with (first | ((with_reducible refine gate_dst (N := 5) rfl ?_); refine box_event ?hg (N := 5) ?hd (cs := #[.int .i64 3, .int .i64 f1, .string f2]) (t := 74) ?hr ?_; (case hd => rfl); (case hg => rfl); (case hr => first | (go_simp; done) | (go_simp; rfl)); intro gb hg w1 hbox hb; have n0_ := Az.mk (HR.out.below hb); have hb0 : w1.cell? ⟨gb, 0, none⟩ = some (.int .i64 3) := (bC hbox 0).trans rfl; have hb1 : w1.cell? ⟨gb, 1, none⟩ = some (.int .i64 f1) := (bC hbox 1).trans rfl; have hb2 : w1.cell? ⟨gb, 2, none⟩ = some (.string f2) := (bC hbox 2).trans rfl; have HBX := Az.mk hbox; clear HR hb hg hbox; have HR := n0_; clear n0_))
 obtain ⟨ub, uw, ur, vs, hI, hV⟩ := HR.out
 have HVL : Az (vs.length = M.length) := ⟨hV.1.trans HN.out⟩
 obtain ⟨gv, cv, v0, euv, hx, hxf, hRv, hLent⟩ := hI.lend (i := i) (by rw [HVL.out]; exact HIL.out)
 rw [HVL.out] at euv
 subst euv
 obtain ⟨Av, cl, rfl⟩ := Kd.R_slice hRv
 obtain ⟨hz0, hz1, hz2, hz3, hz4, hz5, hz6, hzf⟩ := hI.cells
 have HI := Az.mk hI
 have HV := Az.mk hV
 have HRV := Az.mk hRv
 have HLE := Az.mk hLent
 have HGV : Az (gv < w1.heap.size) := ⟨World.block_lt_of_cell? _ _ hx⟩
 have HS0 : Az (w1.heap.size ≤ w1.heap.size) := ⟨Nat.le_refl _⟩
 have HLV : Az ((vs.getD i []).length < 1000000000000) := ⟨by
  obtain ⟨_, h2⟩ := hV
  obtain ⟨h3, _⟩ := h2 i
  have := HLN.out
  unfold IB nms at this
  exact Nat.lt_of_le_of_lt h3 this⟩
 clear hI hV hRv hLent hb0
 refine start_ (n := 21) (S := fun w' => w'.cell? ⟨gI, 6, none⟩ = some (.slice (some ⟨gv, 0, none⟩) M.length cv) ∧ w'.cell? ⟨gv, i, none⟩ = some (.slice Av (vs.getD i []).length cl) ∧ w'.cell? ⟨gb, 2, none⟩ = some (.string f2) ∧ w'.cell? ⟨gb, 1, none⟩ = some (.int .i64 f1)) (ds := [20]) #[false, false, false, false, false, false, false, false, false, false, false, false, false, false, false, false, false, false, false, false, false] (by kernel_rfl) rfl rfl ⟨hz6, hx, hb2, hb1⟩ (fun hHeld => ?_)
 have n0_ := Az.mk (HI.out.drew)
 have n1_ := Az.mk (Kd.R_drew HRV.out)
 have n2_ := Az.mk (HLE.out.below (below_drew (Below.refl _ _)))
 have n3_ : Az (w1.heap.size ≤ w1.drew.heap.size) := HS0
 have n4_ := Az.mk (blk_below HBX.out (below_drew (Below.refl _ _)))
 clear HI HRV HLE HS0 HBX hz0 hz1 hz2 hz3 hz4 hz5 hz6 hzf hx hxf hb1 hb2
 have HI := n0_
 have HRV := n1_
 have HLE := n2_
 have HS0 := n3_
 have HBX := n4_
 clear n0_ n1_ n2_ n3_ n4_
 generalize World.drew _ = w2 at HI HRV HLE HS0 HBX hHeld ⊢
 refine pure_ (i := 0) (N := some 24) (v := ?_) (a' := ?_) #[true, false, false, false, false, false, false, false, false, false, false, false, false, false, false, false, false, false, false, false, false] rfl rfl (by kernel_rfl) (fun _ _ _ h => h) (Or.inl ⟨by rfl, ?_⟩) ?_ ?_
 rotate_left
 ·intro w'
  go_simp
  with_reducible rfl
 rotate_left
 ·simp only [Act.put, List.setIfInBounds_toArray, List.set_cons_zero, List.set_cons_succ, i64_w, i32_w]
  rfl
 refine pure_ (i := 1) (N := some 25) (v := ?_) (a' := ?_) #[true, true, false, false, false, false, false, false, false, false, false, false, false, false, false, false, false, false, false, false, false] rfl rfl (by kernel_rfl) (fun _ _ _ h => h) (Or.inl ⟨by rfl, ?_⟩) ?_ ?_
 rotate_left
 ·intro w'
  go_simp
  with_reducible rfl
 rotate_left
 ·simp only [Act.put, List.setIfInBounds_toArray, List.set_cons_zero, List.set_cons_succ, i64_w, i32_w]
  rfl
 refine pure_ (i := 2) (N := some 26) (v := ?_) (a' := ?_) #[true, true, true, false, false, false, false, false, false, false, false, false, false, false, false, false, false, false, false, false, false] rfl rfl (by kernel_rfl) (fun _ _ _ h => h) (Or.inl ⟨by rfl, ?_⟩) ?_ ?_
 rotate_left
 ·intro w'
  go_simp
  with_reducible rfl
 rotate_left
 ·simp only [Act.put, List.setIfInBounds_toArray, List.set_cons_zero, List.set_cons_succ, i64_w, i32_w]
  rfl
 refine pure_ (i := 4) (N := some 28) (v := ?_) (a' := ?_) #[true, true, true, false, true, false, false, false, false, false, false, false, false, false, false, false, false, false, false, false, false] rfl rfl (by kernel_rfl) (fun _ _ _ h => h) (Or.inl ⟨by rfl, ?_⟩) ?_ ?_
 rotate_left
 ·intro w'
  go_simp
  with_reducible rfl
 rotate_left
 ·simp only [Act.put, List.setIfInBounds_toArray, List.set_cons_zero, List.set_cons_succ, i64_w, i32_w]
  rfl
 refine pure_ (i := 5) (N := some 29) (v := ?_) (a' := ?_) #[true, true, true, false, true, true, false, false, false, false, false, false, false, false, false, false, false, false, false, false, false] rfl rfl (by kernel_rfl) (fun _ _ _ h => h) (Or.inl ⟨by rfl, ?_⟩) ?_ ?_
 rotate_left
 ·intro w'
  go_simp
  with_reducible rfl
 rotate_left
 ·simp only [Act.put, List.setIfInBounds_toArray, List.set_cons_zero, List.set_cons_succ, i64_w, i32_w]
  rfl
 refine pure_ (i := 6) (N := some 30) (v := ?_) (a' := ?_) #[true, true, true, false, true, true, true, false, false, false, false, false, false, false, false, false, false, false, false, false, false] rfl rfl (by kernel_rfl) (fun _ _ _ h => h) (Or.inl ⟨by rfl, ?_⟩) ?_ ?_
 rotate_left
 ·intro w'
  go_simp
  with_reducible rfl
 rotate_left
 ·simp only [Act.put, List.setIfInBounds_toArray, List.set_cons_zero, List.set_cons_succ, i64_w, i32_w]
  rfl
 refine pure_ (i := 7) (N := some 31) (v := ?_) (a' := ?_) #[true, true, true, false, true, true, true, true, false, false, false, false, false, false, false, false, false, false, false, false, false] rfl rfl (by kernel_rfl) (fun _ _ _ h => h) (Or.inl ⟨by rfl, ?_⟩) ?_ ?_
 rotate_left
 ·intro w'
  go_simp
  with_reducible rfl
 rotate_left
 ·simp only [Act.put, List.setIfInBounds_toArray, List.set_cons_zero, List.set_cons_succ, i64_w, i32_w]
  rfl
 refine pure_ (i := 9) (N := some 33) (v := ?_) (a' := ?_) #[true, true, true, false, true, true, true, true, false, true, false, false, false, false, false, false, false, false, false, false, false] rfl rfl (by kernel_rfl) (fun _ _ _ h => h) (Or.inl ⟨by rfl, ?_⟩) ?_ ?_
 rotate_left
 ·intro w'
  go_simp
  with_reducible rfl
 rotate_left
 ·simp only [Act.put, List.setIfInBounds_toArray, List.set_cons_zero, List.set_cons_succ, i64_w, i32_w]
  rfl
 refine pure_ (i := 12) (N := some 36) (v := ?_) (a' := ?_) #[true, true, true, false, true, true, true, true, false, true, false, false, true, false, false, false, false, false, false, false, false] rfl rfl (by kernel_rfl) (fun _ _ _ h => h) (Or.inl ⟨by rfl, ?_⟩) ?_ ?_
 rotate_left
 ·intro w'
  go_simp
  with_reducible rfl
 rotate_left
 ·simp only [Act.put, List.setIfInBounds_toArray, List.set_cons_zero, List.set_cons_succ, i64_w, i32_w]
  rfl
 refine pure_ (i := 14) (N := some 38) (v := ?_) (a' := ?_) #[true, true, true, false, true, true, true, true, false, true, false, false, true, false, true, false, false, false, false, false, false] rfl rfl (by kernel_rfl) (fun _ _ _ h => h) (Or.inl ⟨by rfl, ?_⟩) ?_ ?_
 rotate_left
 ·intro w'
  go_simp
  with_reducible rfl
 rotate_left
 ·simp only [Act.put, List.setIfInBounds_toArray, List.set_cons_zero, List.set_cons_succ, i64_w, i32_w]
  rfl
 refine take_ (i := 3) (N := some 27) (v := ?_) (a' := ?_) #[true, true, true, true, true, true, true, true, false, true, false, false, true, false, true, false, false, false, false, false, false] rfl rfl (by kernel_rfl) (fun _ _ _ h => h) (Or.inl ⟨by rfl, ?_⟩) hHeld ?_ ?_
 rotate_left
 ·rintro w' ⟨s0, s1, s2, s3⟩
  go_simp
  with_reducible rfl
 rotate_left
 ·simp only [Act.put, List.setIfInBounds_toArray, List.set_cons_zero, List.set_cons_succ, i64_w, i32_w]
  rfl
 refine take_ (i := 8) (N := some 32) (v := ?_) (a' := ?_) #[true, true, true, true, true, true, true, true, true, true, false, false, true, false, true, false, false, false, false, false, false] rfl rfl (by kernel_rfl) (fun _ _ _ h => h) (Or.inl ⟨by rfl, ?_⟩) hHeld ?_ ?_
 rotate_left
 ·rintro w' ⟨s0, s1, s2, s3⟩
  go_simp
  with_reducible rfl
 rotate_left
 ·simp only [Act.put, List.setIfInBounds_toArray, List.set_cons_zero, List.set_cons_succ, i64_w, i32_w]
  rfl
 refine pure_ (i := 10) (N := some 34) (v := ?_) (a' := ?_) #[true, true, true, true, true, true, true, true, true, true, true, false, true, false, true, false, false, false, false, false, false] rfl rfl (by kernel_rfl) (fun _ _ _ h => h) (Or.inl ⟨by rfl, ?_⟩) ?_ ?_
 rotate_left
 ·intro w'
  go_simp
  with_reducible rfl
 rotate_left
 ·simp only [Act.put, List.setIfInBounds_toArray, List.set_cons_zero, List.set_cons_succ, i64_w, i32_w]
  rfl
 refine take_ (i := 11) (N := some 35) (v := ?_) (a' := ?_) #[true, true, true, true, true, true, true, true, true, true, true, true, true, false, true, false, false, false, false, false, false] rfl rfl (by kernel_rfl) (fun _ _ _ h => h) (Or.inl ⟨by rfl, ?_⟩) hHeld ?_ ?_
 rotate_left
 ·rintro w' ⟨s0, s1, s2, s3⟩
  go_simp
  with_reducible rfl
 rotate_left
 ·simp only [Act.put, List.setIfInBounds_toArray, List.set_cons_zero, List.set_cons_succ, i64_w, i32_w]
  rfl
 refine take_ (i := 13) (N := some 37) (v := ?_) (a' := ?_) #[true, true, true, true, true, true, true, true, true, true, true, true, true, true, true, false, false, false, false, false, false] rfl rfl (by kernel_rfl) (fun _ _ _ h => h) (Or.inl ⟨by rfl, ?_⟩) hHeld ?_ ?_
 rotate_left
 ·rintro w' ⟨s0, s1, s2, s3⟩
  go_simp
  with_reducible rfl
 rotate_left
 ·simp only [Act.put, List.setIfInBounds_toArray, List.set_cons_zero, List.set_cons_succ, i64_w, i32_w]
  rfl
 refine take_ (i := 15) (N := some 39) (v := ?_) (a' := ?_) #[true, true, true, true, true, true, true, true, true, true, true, true, true, true, true, true, false, false, false, false, false] rfl rfl (by kernel_rfl) (fun _ _ _ h => h) (Or.inl ⟨by rfl, ?_⟩) hHeld ?_ ?_
 rotate_left
 ·rintro w' ⟨s0, s1, s2, s3⟩
  go_simp
  with_reducible rfl
 rotate_left
 ·simp only [Act.put, List.setIfInBounds_toArray, List.set_cons_zero, List.set_cons_succ, i64_w, i32_w]
  rfl
 refine one_ (i := 16) (N := some 40) #[true, true, true, true, true, true, true, true, true, true, true, true, true, true, true, true, true, false, false, false, false] rfl rfl (by kernel_rfl) (by decide) (fun K hK => ?_)
 refine goes_ Try.func143 (by kernel_rfl) rfl #[.int .i64 f1] (by rfl) rfl rfl (by simp only [List.map_toArray, List.map_cons, List.map_nil]; rfl) ?_
 with_reducible refine (spec_decimal.calls k f1 (dec f1) _ HD.out).mono ?_
 rintro e w3 ⟨rfl, hb⟩
 refine ⟨_, rfl, ?_⟩
 have n0_ := Az.mk (HI.out.below hb)
 have n1_ := Az.mk (Kd.R_below HRV.out hb)
 have n2_ := Az.mk (HLE.out.below hb)
 have n3_ := Az.mk (Nat.le_trans HS0.out (Below.size hb))
 have n4_ := Az.mk (blk_below HBX.out hb)
 clear HI HRV HLE HS0 HBX
 have HI := n0_
 have HRV := n1_
 have HLE := n2_
 have HS0 := n3_
 have HBX := n4_
 clear n0_ n1_ n2_ n3_ n4_
 refine hK.out _ _ ⟨pw_cell_below hb hHeld.1, pw_cell_below hb hHeld.2.1, pw_cell_below hb hHeld.2.2.1, pw_cell_below hb hHeld.2.2.2⟩ (fun hHeld => ?_)
 clear hK K
 refine norm_ (a' := ?_) ?_ ?_
 rotate_left
 ·show Act.put _ (some 40) _ = _
  simp only [Act.put, List.setIfInBounds_toArray, List.set_cons_zero, List.set_cons_succ, i64_w, i32_w]
  rfl
 refine one_ (i := 17) (N := some 41) #[true, true, true, true, true, true, true, true, true, true, true, true, true, true, true, true, true, true, false, false, false] rfl rfl (by kernel_rfl) (by decide) (fun K hK => ?_)
 refine goes_ Try.func142 (by kernel_rfl) rfl #[.string (dec f1)] (by rfl) rfl rfl (by simp only [List.map_toArray, List.map_cons, List.map_nil]; rfl) ?_
 with_reducible refine (spec_intVal.calls (dec f1) 2 (dec f1) 0 _ rfl).mono ?_
 rintro e w4 ⟨rfl, hb⟩
 refine ⟨_, rfl, ?_⟩
 have n0_ := Az.mk (HI.out.below hb)
 have n1_ := Az.mk (Kd.R_below HRV.out hb)
 have n2_ := Az.mk (HLE.out.below hb)
 have n3_ := Az.mk (Nat.le_trans HS0.out (Below.size hb))
 have n4_ := Az.mk (blk_below HBX.out hb)
 clear HI HRV HLE HS0 HBX
 have HI := n0_
 have HRV := n1_
 have HLE := n2_
 have HS0 := n3_
 have HBX := n4_
 clear n0_ n1_ n2_ n3_ n4_
 refine hK.out _ _ ⟨pw_cell_below hb hHeld.1, pw_cell_below hb hHeld.2.1, pw_cell_below hb hHeld.2.2.1, pw_cell_below hb hHeld.2.2.2⟩ (fun hHeld => ?_)
 clear hK K
 refine norm_ (a' := ?_) ?_ ?_
 rotate_left
 ·show Act.put _ (some 41) _ = _
  simp only [Act.put, List.setIfInBounds_toArray, List.set_cons_zero, List.set_cons_succ, i64_w, i32_w]
  rfl
 refine one_ (i := 18) (N := some 42) #[true, true, true, true, true, true, true, true, true, true, true, true, true, true, true, true, true, true, true, false, false] rfl rfl (by kernel_rfl) (by decide) (fun K hK => ?_)
 refine goes_ Try.func141 (by kernel_rfl) rfl #[.slice Av (vs.getD i []).length cl, .string f2, .agg #[.int .i64 2, .string (dec f1), .int .i64 0]] (by rfl) rfl rfl (by simp only [List.map_toArray, List.map_cons, List.map_nil]; rfl) ?_
 with_reducible refine (spec_put.calls ((vs.getD i []).length + 1) (fun k_ => some k_ = Value.ownBlock (.slice Av (vs.getD i []).length cl)) _ (vs.getD i []) f2 2 (dec f1) 0 (putVs (vs.getD i []) f2 ⟨2, dec f1, 0⟩) w0 _ HI.out.be HRV.out (put_f HLV.out)).mono ?_
 rintro e w5 ⟨v2, rfl, ho, hb, hk⟩
 refine ⟨_, rfl, ?_⟩
 obtain ⟨A2, c2, e_⟩ := Kd.R_slice ho
 subst e_
 obtain ⟨hI_, ⟨uu, hy0⟩, hyf⟩ := SpI.backN HI.out HLE.out HS0.out HGV.out HVL.out HIL.out HRV.out hk hb ho
 have n0_ := Az.mk hI_
 have k0_ := kept_cell HI.out.bx HRV.out (by decide) hk (j := 6) hHeld.1
 obtain ⟨cx_, tx_⟩ := Kd.S_typed HI.out.rv gv rfl
 have k1_ := kept_cell tx_ HRV.out (by decide) hk hHeld.2.1
 have k2_ := kept_cell HBX.out HRV.out (by decide) hk (j := 2) hHeld.2.2.1
 have k3_ := kept_cell HBX.out HRV.out (by decide) hk (j := 1) hHeld.2.2.2
 clear HI hI_ HRV HLE HS0 ho hb hk hHeld tx_ HBX
 have HI := n0_
 clear n0_
 refine hK.out _ _ ⟨k0_, k1_, k2_, k3_⟩ (fun hHeld => ?_)
 clear hK K
 refine norm_ (a' := ?_) ?_ ?_
 rotate_left
 ·show Act.put _ (some 42) _ = _
  simp only [Act.put, List.setIfInBounds_toArray, List.set_cons_zero, List.set_cons_succ, i64_w, i32_w]
  rfl
 refine pure_ (i := 19) (N := some 43) (v := ?_) (a' := ?_) #[true, true, true, true, true, true, true, true, true, true, true, true, true, true, true, true, true, true, true, true, false] rfl rfl (by kernel_rfl) (fun _ _ _ h => h) (Or.inl ⟨by rfl, ?_⟩) ?_ ?_
 rotate_left
 ·intro w'
  go_simp
  with_reducible rfl
 rotate_left
 ·simp only [Act.put, List.setIfInBounds_toArray, List.set_cons_zero, List.set_cons_succ, i64_w, i32_w]
  rfl
 refine last_ (i := 20) (N := none) #[true, true, true, true, true, true, true, true, true, true, true, true, true, true, true, true, true, true, true, true, true] rfl rfl (by kernel_rfl) (by decide) (fun K hK => ?_)
 refine skip_ (w1 := ?_) (by rfl) rfl ?_ ?_
 rotate_left
 ·go_simp
  rfl
 refine hK.out _ _ ?_
 clear hK K
 refine done_ (by kernel_rfl) ?_
 clear hy0 hyf hi1 hi2
 go_wp2_with fail
 go_ret
 exact ⟨rfl, _, _, _, _, HI.out, vsAll_set HV.out (by have := HN.out; have := HIL.out; omega) (vsIs_put (vsAt HV.out i) f2 f1 2 0)⟩
theorem sp_step4n (i : Int) (q : Nat) (f2 : ByteArray) (s : IS) (W : World) (hi : q < M.length) (hn : s.nm.length = M.length) (hl : (nms s (q : Int)).length < IB) (hlk : look (nms s (q : Int)) f2 = none) (hR : SpR dec w0 W gI (.slice A0 M.length c0) uf us uv fa s) :
  Calls Try.prog 131 #[.pointer (some ⟨gI, 0, none⟩), .int .i64 i, .agg #[.int .i64 4, .int .i64 (q : Int), .string f2]] W (SpPost dec w0 gI (.slice A0 M.length c0) uf us uv fa false s) := by
 have HR := Az.mk hR
 have HIL := Az.mk hi
 have HN := Az.mk hn
 have HLN := Az.mk hl
 have HLK := Az.mk hlk
 have hi1 : decide ((q : Int) < (M.length : Int)) = true := decide_eq_true (by omega)
 have hi2 : (q < M.length) = True := eq_true (by omega)
 clear hR hi hn hl hlk
 go_enter Try.func131, Try.ntmps131
 go_wp2_with (first | ((with_reducible refine gate_dst (N := 5) rfl ?_); refine box_event ?hg (N := 5) ?hd (cs := #[.int .i64 4, .int .i64 (q : Int), .string f2]) (t := 74) ?hr ?_; (case hd => rfl); (case hg => rfl); (case hr => first | (go_simp; done) | (go_simp; rfl)); intro gb hg w1 hbox hb; have n0_ := Az.mk (HR.out.below hb); have hb0 : w1.cell? ⟨gb, 0, none⟩ = some (.int .i64 4) := (bC hbox 0).trans rfl; have hb1 : w1.cell? ⟨gb, 1, none⟩ = some (.int .i64 (q : Int)) := (bC hbox 1).trans rfl; have hb2 : w1.cell? ⟨gb, 2, none⟩ = some (.string f2) := (bC hbox 2).trans rfl; have HBX := Az.mk hbox; clear HR hb hg hbox; have HR := n0_; clear n0_))
 obtain ⟨ub, uw, ur, vs, hI, hV⟩ := HR.out
 have HVL : Az (vs.length = M.length) := ⟨hV.1.trans HN.out⟩
 obtain ⟨gv, cv, v0, euv, hx, hxf, hRv, _⟩ := hI.lend (i := q) (by rw [HVL.out]; exact HIL.out)
 rw [HVL.out] at euv
 subst euv
 have HVQ : Az (VsIs dec (vs.getD q []) (nms s (q : Int))) := ⟨vsAt hV q⟩
 generalize vs.getD q [] = lq at hRv HVQ
 have HLV : Az (lq.length < 1000000000000) := ⟨by
  obtain ⟨h3, _⟩ := HVQ.out
  have := HLN.out
  unfold IB at this
  omega⟩
 have HFX : Az (spec_find.f (lq.length + 1) lq f2 = some (-1)) := ⟨by
  rw [find_f (by have := HLV.out; omega)]
  obtain ⟨_, h4⟩ := HVQ.out
  have h5 := h4 f2
  rw [HLK.out] at h5
  dsimp only at h5
  rw [h5]
  rfl⟩
 obtain ⟨Av, cl, rfl⟩ := Kd.R_slice hRv
 obtain ⟨hz0, hz1, hz2, hz3, hz4, hz5, hz6, hzf⟩ := hI.cells
 have HI := Az.mk hI
 have HV := Az.mk hV
 have HRV := Az.mk hRv
 clear hI hV hRv hb0
 refine start_ (n := 12) (S := fun w' => w'.cell? ⟨gI, 6, none⟩ = some (.slice (some ⟨gv, 0, none⟩) M.length cv) ∧ w'.cell? ⟨gb, 1, none⟩ = some (.int .i64 (q : Int)) ∧ w'.cell? ⟨gv, q, none⟩ = some (.slice Av lq.length cl) ∧ w'.cell? ⟨gb, 2, none⟩ = some (.string f2)) (ds := []) #[false, false, false, false, false, false, false, false, false, false, false, false] (by kernel_rfl) rfl rfl ⟨hz6, hb1, hx, hb2⟩ (fun hHeld => ?_)
 have n0_ := Az.mk (HI.out.drew)
 have n1_ := Az.mk (Kd.R_drew HRV.out)
 clear HI HRV hz0 hz1 hz2 hz3 hz4 hz5 hz6 hzf hx hxf hb1 hb2
 have HI := n0_
 have HRV := n1_
 clear n0_ n1_
 generalize World.drew _ = w2 at HI HRV hHeld ⊢
 refine pure_ (i := 0) (N := some 46) (v := ?_) (a' := ?_) #[true, false, false, false, false, false, false, false, false, false, false, false] rfl rfl (by kernel_rfl) (fun _ _ _ h => h) (Or.inl ⟨by rfl, ?_⟩) ?_ ?_
 rotate_left
 ·intro w'
  go_simp
  with_reducible rfl
 rotate_left
 ·simp only [Act.put, List.setIfInBounds_toArray, List.set_cons_zero, List.set_cons_succ, i64_w, i32_w]
  rfl
 refine pure_ (i := 1) (N := some 47) (v := ?_) (a' := ?_) #[true, true, false, false, false, false, false, false, false, false, false, false] rfl rfl (by kernel_rfl) (fun _ _ _ h => h) (Or.inl ⟨by rfl, ?_⟩) ?_ ?_
 rotate_left
 ·intro w'
  go_simp
  with_reducible rfl
 rotate_left
 ·simp only [Act.put, List.setIfInBounds_toArray, List.set_cons_zero, List.set_cons_succ, i64_w, i32_w]
  rfl
 refine pure_ (i := 2) (N := some 48) (v := ?_) (a' := ?_) #[true, true, true, false, false, false, false, false, false, false, false, false] rfl rfl (by kernel_rfl) (fun _ _ _ h => h) (Or.inl ⟨by rfl, ?_⟩) ?_ ?_
 rotate_left
 ·intro w'
  go_simp
  with_reducible rfl
 rotate_left
 ·simp only [Act.put, List.setIfInBounds_toArray, List.set_cons_zero, List.set_cons_succ, i64_w, i32_w]
  rfl
 refine pure_ (i := 4) (N := some 50) (v := ?_) (a' := ?_) #[true, true, true, false, true, false, false, false, false, false, false, false] rfl rfl (by kernel_rfl) (fun _ _ _ h => h) (Or.inl ⟨by rfl, ?_⟩) ?_ ?_
 rotate_left
 ·intro w'
  go_simp
  with_reducible rfl
 rotate_left
 ·simp only [Act.put, List.setIfInBounds_toArray, List.set_cons_zero, List.set_cons_succ, i64_w, i32_w]
  rfl
 refine pure_ (i := 8) (N := some 54) (v := ?_) (a' := ?_) #[true, true, true, false, true, false, false, false, true, false, false, false] rfl rfl (by kernel_rfl) (fun _ _ _ h => h) (Or.inl ⟨by rfl, ?_⟩) ?_ ?_
 rotate_left
 ·intro w'
  go_simp
  with_reducible rfl
 rotate_left
 ·simp only [Act.put, List.setIfInBounds_toArray, List.set_cons_zero, List.set_cons_succ, i64_w, i32_w]
  rfl
 refine take_ (i := 3) (N := some 49) (v := ?_) (a' := ?_) #[true, true, true, true, true, false, false, false, true, false, false, false] rfl rfl (by kernel_rfl) (fun _ _ _ h => h) (Or.inl ⟨by rfl, ?_⟩) hHeld ?_ ?_
 rotate_left
 ·rintro w' ⟨s0, s1, s2, s3⟩
  go_simp
  with_reducible rfl
 rotate_left
 ·simp only [Act.put, List.setIfInBounds_toArray, List.set_cons_zero, List.set_cons_succ, i64_w, i32_w]
  rfl
 refine take_ (i := 5) (N := some 51) (v := ?_) (a' := ?_) #[true, true, true, true, true, true, false, false, true, false, false, false] rfl rfl (by kernel_rfl) (fun _ _ _ h => h) (Or.inl ⟨by rfl, ?_⟩) hHeld ?_ ?_
 rotate_left
 ·rintro w' ⟨s0, s1, s2, s3⟩
  go_simp
  with_reducible rfl
 rotate_left
 ·simp only [Act.put, List.setIfInBounds_toArray, List.set_cons_zero, List.set_cons_succ, i64_w, i32_w]
  rfl
 refine pure_ (i := 6) (N := some 52) (v := ?_) (a' := ?_) #[true, true, true, true, true, true, true, false, true, false, false, false] rfl rfl (by kernel_rfl) (fun _ _ _ h => h) (Or.inl ⟨by rfl, ?_⟩) ?_ ?_
 rotate_left
 ·intro w'
  go_simp
  with_reducible rfl
 rotate_left
 ·simp only [Act.put, List.setIfInBounds_toArray, List.set_cons_zero, List.set_cons_succ, i64_w, i32_w]
  rfl
 refine take_ (i := 7) (N := some 53) (v := ?_) (a' := ?_) #[true, true, true, true, true, true, true, true, true, false, false, false] rfl rfl (by kernel_rfl) (fun _ _ _ h => h) (Or.inl ⟨by rfl, ?_⟩) hHeld ?_ ?_
 rotate_left
 ·rintro w' ⟨s0, s1, s2, s3⟩
  go_simp
  with_reducible rfl
 rotate_left
 ·simp only [Act.put, List.setIfInBounds_toArray, List.set_cons_zero, List.set_cons_succ, i64_w, i32_w]
  rfl
 refine take_ (i := 9) (N := some 55) (v := ?_) (a' := ?_) #[true, true, true, true, true, true, true, true, true, true, false, false] rfl rfl (by kernel_rfl) (fun _ _ _ h => h) (Or.inl ⟨by rfl, ?_⟩) hHeld ?_ ?_
 rotate_left
 ·rintro w' ⟨s0, s1, s2, s3⟩
  go_simp
  with_reducible rfl
 rotate_left
 ·simp only [Act.put, List.setIfInBounds_toArray, List.set_cons_zero, List.set_cons_succ, i64_w, i32_w]
  rfl
 refine one_ (i := 10) (N := some 56) #[true, true, true, true, true, true, true, true, true, true, true, false] rfl rfl (by kernel_rfl) (by decide) (fun K hK => ?_)
 refine goes_ Try.func144 (by kernel_rfl) rfl #[.slice Av lq.length cl, .string f2] (by rfl) rfl rfl (by simp only [List.map_toArray, List.map_cons, List.map_nil]; rfl) ?_
 with_reducible refine (spec_find.calls (lq.length + 1) (Av) cl lq f2 (-1) _ (Kd.R_reads' HRV.out).2.2 (Kd.R_reads' HRV.out).2.1 HFX.out).mono ?_
 rintro e w3 ⟨rfl, hd⟩
 refine ⟨_, rfl, ?_⟩
 have hb := hd.below
 clear hd
 have n0_ := Az.mk (HI.out.below hb)
 have n1_ := Az.mk (Kd.R_below HRV.out hb)
 clear HI HRV
 have HI := n0_
 have HRV := n1_
 clear n0_ n1_
 refine hK.out _ _ ⟨pw_cell_below hb hHeld.1, pw_cell_below hb hHeld.2.1, pw_cell_below hb hHeld.2.2.1, pw_cell_below hb hHeld.2.2.2⟩ (fun hHeld => ?_)
 clear hK K
 refine norm_ (a' := ?_) ?_ ?_
 rotate_left
 ·show Act.put _ (some 56) _ = _
  simp only [Act.put, List.setIfInBounds_toArray, List.set_cons_zero, List.set_cons_succ, i64_w, i32_w]
  rfl
 refine pure_ (i := 11) (N := some 7) (v := ?_) (a' := ?_) #[true, true, true, true, true, true, true, true, true, true, true, true] rfl rfl (by kernel_rfl) (fun _ _ _ h => h) (Or.inl ⟨by rfl, ?_⟩) ?_ ?_
 rotate_left
 ·intro w'
  go_simp
  with_reducible rfl
 rotate_left
 ·simp only [Act.put, List.setIfInBounds_toArray, List.set_cons_zero, List.set_cons_succ, i64_w, i32_w]
  rfl
 refine done_ (by kernel_rfl) ?_
 clear hi1 hi2 hHeld
 go_wp2_with fail
 go_ret
 exact ⟨rfl, _, _, _, _, HI.out, HV.out⟩
theorem sp_step4s (i : Int) (q : Nat) (f2 : ByteArray) (s : IS) (W : World) (hi : q < M.length) (hn : s.nm.length = M.length) (hl : (nms s (q : Int)).length < IB) (v : Int) (hlk : look (nms s (q : Int)) f2 = some v) (hre : s.re.length < IB) (hR : SpR dec w0 W gI (.slice A0 M.length c0) uf us uv fa s) :
  Calls Try.prog 131 #[.pointer (some ⟨gI, 0, none⟩), .int .i64 i, .agg #[.int .i64 4, .int .i64 (q : Int), .string f2]] W (SpPost dec w0 gI (.slice A0 M.length c0) uf us uv fa true { s with re := s.re ++ [dec v] }) := by
 have HR := Az.mk hR
 have HIL := Az.mk hi
 have HN := Az.mk hn
 have HLN := Az.mk hl
 have HLK := Az.mk hlk
 have HRE := Az.mk hre
 have hi1 : decide ((q : Int) < (M.length : Int)) = true := decide_eq_true (by omega)
 have hi2 : (q < M.length) = True := eq_true (by omega)
 clear hR hi hn hl hlk hre
 go_enter Try.func131, Try.ntmps131
 go_wp2_with (first | ((with_reducible refine gate_dst (N := 5) rfl ?_); refine box_event ?hg (N := 5) ?hd (cs := #[.int .i64 4, .int .i64 (q : Int), .string f2]) (t := 74) ?hr ?_; (case hd => rfl); (case hg => rfl); (case hr => first | (go_simp; done) | (go_simp; rfl)); intro gb hg w1 hbox hb; have n0_ := Az.mk (HR.out.below hb); have hb0 : w1.cell? ⟨gb, 0, none⟩ = some (.int .i64 4) := (bC hbox 0).trans rfl; have hb1 : w1.cell? ⟨gb, 1, none⟩ = some (.int .i64 (q : Int)) := (bC hbox 1).trans rfl; have hb2 : w1.cell? ⟨gb, 2, none⟩ = some (.string f2) := (bC hbox 2).trans rfl; have HBX := Az.mk hbox; clear HR hb hg hbox; have HR := n0_; clear n0_))
 obtain ⟨ub, uw, ur, vs, hI, hV⟩ := HR.out
 have HVL : Az (vs.length = M.length) := ⟨hV.1.trans HN.out⟩
 obtain ⟨gv, cv, v0, euv, hx, hxf, hRv, _⟩ := hI.lend (i := q) (by rw [HVL.out]; exact HIL.out)
 rw [HVL.out] at euv
 subst euv
 have HVQ : Az (VsIs dec (vs.getD q []) (nms s (q : Int))) := ⟨vsAt hV q⟩
 generalize vs.getD q [] = lq at hRv HVQ
 have HLV : Az (lq.length < 1000000000000) := ⟨by
  obtain ⟨h3, _⟩ := HVQ.out
  have := HLN.out
  unfold IB at this
  omega⟩
 obtain ⟨j, HJ⟩ : ∃ j : Nat, Az (fidx f2 lq 0 = some j ∧ (rd_T177 lq (j : Int)).f1.f1 = dec v) := by
  obtain ⟨_, h4⟩ := HVQ.out
  have h5 := h4 f2
  rw [HLK.out] at h5
  dsimp only at h5
  obtain ⟨j, h6, h7⟩ := h5
  exact ⟨j, ⟨h6, h7⟩⟩
 have HJL : Az (j < lq.length) := ⟨by obtain ⟨_, h, _⟩ := fidx_bd HJ.out.1; omega⟩
 have HFX : Az (spec_find.f (lq.length + 1) lq f2 = some (j : Int)) := ⟨by
  rw [find_f (by have := HLV.out; omega), HJ.out.1]; rfl⟩
 obtain ⟨ga, cl, rfl, _⟩ := Kd.R_form hRv (by have := HJL.out; omega)
 obtain ⟨hz0, hz1, hz2, hz3, hz4, hz5, hz6, hzf⟩ := hI.cells
 have HI := Az.mk hI
 have HV := Az.mk hV
 have HRV := Az.mk hRv
 clear hI hV hRv hb0
 refine start_ (n := 12) (S := fun w' => w'.cell? ⟨gI, 6, none⟩ = some (.slice (some ⟨gv, 0, none⟩) M.length cv) ∧ w'.cell? ⟨gb, 1, none⟩ = some (.int .i64 (q : Int)) ∧ w'.cell? ⟨gv, q, none⟩ = some (.slice (some ⟨ga, 0, none⟩) lq.length cl) ∧ w'.cell? ⟨gb, 2, none⟩ = some (.string f2)) (ds := []) #[false, false, false, false, false, false, false, false, false, false, false, false] (by kernel_rfl) rfl rfl ⟨hz6, hb1, hx, hb2⟩ (fun hHeld => ?_)
 have n0_ := Az.mk (HI.out.drew)
 have n1_ := Az.mk (Kd.R_drew HRV.out)
 clear HI HRV hz0 hz1 hz2 hz3 hz4 hz5 hz6 hzf hx hxf hb1 hb2
 have HI := n0_
 have HRV := n1_
 clear n0_ n1_
 generalize World.drew _ = w2 at HI HRV hHeld ⊢
 refine pure_ (i := 0) (N := some 46) (v := ?_) (a' := ?_) #[true, false, false, false, false, false, false, false, false, false, false, false] rfl rfl (by kernel_rfl) (fun _ _ _ h => h) (Or.inl ⟨by rfl, ?_⟩) ?_ ?_
 rotate_left
 ·intro w'
  go_simp
  with_reducible rfl
 rotate_left
 ·simp only [Act.put, List.setIfInBounds_toArray, List.set_cons_zero, List.set_cons_succ, i64_w, i32_w]
  rfl
 refine pure_ (i := 1) (N := some 47) (v := ?_) (a' := ?_) #[true, true, false, false, false, false, false, false, false, false, false, false] rfl rfl (by kernel_rfl) (fun _ _ _ h => h) (Or.inl ⟨by rfl, ?_⟩) ?_ ?_
 rotate_left
 ·intro w'
  go_simp
  with_reducible rfl
 rotate_left
 ·simp only [Act.put, List.setIfInBounds_toArray, List.set_cons_zero, List.set_cons_succ, i64_w, i32_w]
  rfl
 refine pure_ (i := 2) (N := some 48) (v := ?_) (a' := ?_) #[true, true, true, false, false, false, false, false, false, false, false, false] rfl rfl (by kernel_rfl) (fun _ _ _ h => h) (Or.inl ⟨by rfl, ?_⟩) ?_ ?_
 rotate_left
 ·intro w'
  go_simp
  with_reducible rfl
 rotate_left
 ·simp only [Act.put, List.setIfInBounds_toArray, List.set_cons_zero, List.set_cons_succ, i64_w, i32_w]
  rfl
 refine pure_ (i := 4) (N := some 50) (v := ?_) (a' := ?_) #[true, true, true, false, true, false, false, false, false, false, false, false] rfl rfl (by kernel_rfl) (fun _ _ _ h => h) (Or.inl ⟨by rfl, ?_⟩) ?_ ?_
 rotate_left
 ·intro w'
  go_simp
  with_reducible rfl
 rotate_left
 ·simp only [Act.put, List.setIfInBounds_toArray, List.set_cons_zero, List.set_cons_succ, i64_w, i32_w]
  rfl
 refine pure_ (i := 8) (N := some 54) (v := ?_) (a' := ?_) #[true, true, true, false, true, false, false, false, true, false, false, false] rfl rfl (by kernel_rfl) (fun _ _ _ h => h) (Or.inl ⟨by rfl, ?_⟩) ?_ ?_
 rotate_left
 ·intro w'
  go_simp
  with_reducible rfl
 rotate_left
 ·simp only [Act.put, List.setIfInBounds_toArray, List.set_cons_zero, List.set_cons_succ, i64_w, i32_w]
  rfl
 refine take_ (i := 3) (N := some 49) (v := ?_) (a' := ?_) #[true, true, true, true, true, false, false, false, true, false, false, false] rfl rfl (by kernel_rfl) (fun _ _ _ h => h) (Or.inl ⟨by rfl, ?_⟩) hHeld ?_ ?_
 rotate_left
 ·rintro w' ⟨s0, s1, s2, s3⟩
  go_simp
  with_reducible rfl
 rotate_left
 ·simp only [Act.put, List.setIfInBounds_toArray, List.set_cons_zero, List.set_cons_succ, i64_w, i32_w]
  rfl
 refine take_ (i := 5) (N := some 51) (v := ?_) (a' := ?_) #[true, true, true, true, true, true, false, false, true, false, false, false] rfl rfl (by kernel_rfl) (fun _ _ _ h => h) (Or.inl ⟨by rfl, ?_⟩) hHeld ?_ ?_
 rotate_left
 ·rintro w' ⟨s0, s1, s2, s3⟩
  go_simp
  with_reducible rfl
 rotate_left
 ·simp only [Act.put, List.setIfInBounds_toArray, List.set_cons_zero, List.set_cons_succ, i64_w, i32_w]
  rfl
 refine pure_ (i := 6) (N := some 52) (v := ?_) (a' := ?_) #[true, true, true, true, true, true, true, false, true, false, false, false] rfl rfl (by kernel_rfl) (fun _ _ _ h => h) (Or.inl ⟨by rfl, ?_⟩) ?_ ?_
 rotate_left
 ·intro w'
  go_simp
  with_reducible rfl
 rotate_left
 ·simp only [Act.put, List.setIfInBounds_toArray, List.set_cons_zero, List.set_cons_succ, i64_w, i32_w]
  rfl
 refine take_ (i := 7) (N := some 53) (v := ?_) (a' := ?_) #[true, true, true, true, true, true, true, true, true, false, false, false] rfl rfl (by kernel_rfl) (fun _ _ _ h => h) (Or.inl ⟨by rfl, ?_⟩) hHeld ?_ ?_
 rotate_left
 ·rintro w' ⟨s0, s1, s2, s3⟩
  go_simp
  with_reducible rfl
 rotate_left
 ·simp only [Act.put, List.setIfInBounds_toArray, List.set_cons_zero, List.set_cons_succ, i64_w, i32_w]
  rfl
 refine take_ (i := 9) (N := some 55) (v := ?_) (a' := ?_) #[true, true, true, true, true, true, true, true, true, true, false, false] rfl rfl (by kernel_rfl) (fun _ _ _ h => h) (Or.inl ⟨by rfl, ?_⟩) hHeld ?_ ?_
 rotate_left
 ·rintro w' ⟨s0, s1, s2, s3⟩
  go_simp
  with_reducible rfl
 rotate_left
 ·simp only [Act.put, List.setIfInBounds_toArray, List.set_cons_zero, List.set_cons_succ, i64_w, i32_w]
  rfl
 refine one_ (i := 10) (N := some 56) #[true, true, true, true, true, true, true, true, true, true, true, false] rfl rfl (by kernel_rfl) (by decide) (fun K hK => ?_)
 refine goes_ Try.func144 (by kernel_rfl) rfl #[.slice (some ⟨ga, 0, none⟩) lq.length cl, .string f2] (by rfl) rfl rfl (by simp only [List.map_toArray, List.map_cons, List.map_nil]; rfl) ?_
 with_reducible refine (spec_find.calls (lq.length + 1) (some ⟨ga, 0, none⟩) cl lq f2 ((j : Int)) _ (Kd.R_reads' HRV.out).2.2 (Kd.R_reads' HRV.out).2.1 HFX.out).mono ?_
 rintro e w3 ⟨rfl, hd⟩
 refine ⟨_, rfl, ?_⟩
 have hb := hd.below
 clear hd
 have n0_ := Az.mk (HI.out.below hb)
 have n1_ := Az.mk (Kd.R_below HRV.out hb)
 clear HI HRV
 have HI := n0_
 have HRV := n1_
 clear n0_ n1_
 refine hK.out _ _ ⟨pw_cell_below hb hHeld.1, pw_cell_below hb hHeld.2.1, pw_cell_below hb hHeld.2.2.1, pw_cell_below hb hHeld.2.2.2⟩ (fun hHeld => ?_)
 clear hK K
 refine norm_ (a' := ?_) ?_ ?_
 rotate_left
 ·show Act.put _ (some 56) _ = _
  simp only [Act.put, List.setIfInBounds_toArray, List.set_cons_zero, List.set_cons_succ, i64_w, i32_w]
  rfl
 refine pure_ (i := 11) (N := some 7) (v := ?_) (a' := ?_) #[true, true, true, true, true, true, true, true, true, true, true, true] rfl rfl (by kernel_rfl) (fun _ _ _ h => h) (Or.inl ⟨by rfl, ?_⟩) ?_ ?_
 rotate_left
 ·intro w'
  go_simp
  with_reducible rfl
 rotate_left
 ·simp only [Act.put, List.setIfInBounds_toArray, List.set_cons_zero, List.set_cons_succ, i64_w, i32_w]
  rfl
 refine done_ (by kernel_rfl) ?_
 have hb1 := hHeld.2.1
 have hx := hHeld.2.2.1
 have hz6 := hHeld.1
 have hz4 := HI.out.cells.2.2.2.2.1
 obtain ⟨ce, hcl, hM, hcc, hfr⟩ := Kd.R_elem HRV.out z177 (j : Int) (by omega) (by have := HJL.out; omega)
 obtain rfl := k177_openM hM
 have ht : w3.cell? ⟨ga, j * 5 + 2, none⟩ = some (.string (rd_T177 lq (j : Int)).f1.f1) := hcc 2 _ rfl
 rw [HJ.out.2] at ht
 have hj0 : decide ((j : Int) < 0) = false := decide_eq_false (by omega)
 have hj1 : decide ((j : Int) < (lq.length : Int)) = true := decide_eq_true (by have := HJL.out; omega)
 have hj2 : (j < lq.length) = True := eq_true HJL.out
 clear hcl hM hcc hfr hHeld
 go_wp2_with fail
 refine start_ (n := 25) (S := fun w' => w'.cell? ⟨gI, 4, none⟩ = some ur ∧ w'.cell? ⟨gI, 6, none⟩ = some (.slice (some ⟨gv, 0, none⟩) M.length cv) ∧ w'.cell? ⟨gb, 1, none⟩ = some (.int .i64 (q : Int)) ∧ w'.cell? ⟨gv, q, none⟩ = some (.slice (some ⟨ga, 0, none⟩) lq.length cl) ∧ w'.cell? ⟨ga, j * 5 + 2, none⟩ = some (.string (dec v))) (ds := [20, 24]) #[false, false, false, false, false, false, false, false, false, false, false, false, false, false, false, false, false, false, false, false, false, false, false, false, false] (by kernel_rfl) rfl rfl ⟨hz4, hz6, hb1, hx, ht⟩ (fun hHeld => ?_)
 have n0_ := Az.mk (HI.out.drew)
 clear HI hz4 hz6 hx hb1 ht
 have HI := n0_
 clear n0_
 generalize World.drew _ = w4 at HI hHeld ⊢
 refine pure_ (i := 0) (N := some 59) (v := ?_) (a' := ?_) #[true, false, false, false, false, false, false, false, false, false, false, false, false, false, false, false, false, false, false, false, false, false, false, false, false] rfl rfl (by kernel_rfl) (fun _ _ _ h => h) (Or.inl ⟨by rfl, ?_⟩) ?_ ?_
 rotate_left
 ·intro w'
  go_simp
  with_reducible rfl
 rotate_left
 ·simp only [Act.put, List.setIfInBounds_toArray, List.set_cons_zero, List.set_cons_succ, i64_w, i32_w]
  rfl
 refine pure_ (i := 1) (N := some 60) (v := ?_) (a' := ?_) #[true, true, false, false, false, false, false, false, false, false, false, false, false, false, false, false, false, false, false, false, false, false, false, false, false] rfl rfl (by kernel_rfl) (fun _ _ _ h => h) (Or.inl ⟨by rfl, ?_⟩) ?_ ?_
 rotate_left
 ·intro w'
  go_simp
  with_reducible rfl
 rotate_left
 ·simp only [Act.put, List.setIfInBounds_toArray, List.set_cons_zero, List.set_cons_succ, i64_w, i32_w]
  rfl
 refine pure_ (i := 2) (N := some 61) (v := ?_) (a' := ?_) #[true, true, true, false, false, false, false, false, false, false, false, false, false, false, false, false, false, false, false, false, false, false, false, false, false] rfl rfl (by kernel_rfl) (fun _ _ _ h => h) (Or.inl ⟨by rfl, ?_⟩) ?_ ?_
 rotate_left
 ·intro w'
  go_simp
  with_reducible rfl
 rotate_left
 ·simp only [Act.put, List.setIfInBounds_toArray, List.set_cons_zero, List.set_cons_succ, i64_w, i32_w]
  rfl
 refine pure_ (i := 3) (N := some 62) (v := ?_) (a' := ?_) #[true, true, true, true, false, false, false, false, false, false, false, false, false, false, false, false, false, false, false, false, false, false, false, false, false] rfl rfl (by kernel_rfl) (fun _ _ _ h => h) (Or.inl ⟨by rfl, ?_⟩) ?_ ?_
 rotate_left
 ·intro w'
  go_simp
  with_reducible rfl
 rotate_left
 ·simp only [Act.put, List.setIfInBounds_toArray, List.set_cons_zero, List.set_cons_succ, i64_w, i32_w]
  rfl
 refine pure_ (i := 4) (N := some 63) (v := ?_) (a' := ?_) #[true, true, true, true, true, false, false, false, false, false, false, false, false, false, false, false, false, false, false, false, false, false, false, false, false] rfl rfl (by kernel_rfl) (fun _ _ _ h => h) (Or.inl ⟨by rfl, ?_⟩) ?_ ?_
 rotate_left
 ·intro w'
  go_simp
  with_reducible rfl
 rotate_left
 ·simp only [Act.put, List.setIfInBounds_toArray, List.set_cons_zero, List.set_cons_succ, i64_w, i32_w]
  rfl
 refine pure_ (i := 6) (N := some 65) (v := ?_) (a' := ?_) #[true, true, true, true, true, false, true, false, false, false, false, false, false, false, false, false, false, false, false, false, false, false, false, false, false] rfl rfl (by kernel_rfl) (fun _ _ _ h => h) (Or.inl ⟨by rfl, ?_⟩) ?_ ?_
 rotate_left
 ·intro w'
  go_simp
  with_reducible rfl
 rotate_left
 ·simp only [Act.put, List.setIfInBounds_toArray, List.set_cons_zero, List.set_cons_succ, i64_w, i32_w]
  rfl
 refine pure_ (i := 7) (N := some 66) (v := ?_) (a' := ?_) #[true, true, true, true, true, false, true, true, false, false, false, false, false, false, false, false, false, false, false, false, false, false, false, false, false] rfl rfl (by kernel_rfl) (fun _ _ _ h => h) (Or.inl ⟨by rfl, ?_⟩) ?_ ?_
 rotate_left
 ·intro w'
  go_simp
  with_reducible rfl
 rotate_left
 ·simp only [Act.put, List.setIfInBounds_toArray, List.set_cons_zero, List.set_cons_succ, i64_w, i32_w]
  rfl
 refine pure_ (i := 8) (N := some 67) (v := ?_) (a' := ?_) #[true, true, true, true, true, false, true, true, true, false, false, false, false, false, false, false, false, false, false, false, false, false, false, false, false] rfl rfl (by kernel_rfl) (fun _ _ _ h => h) (Or.inl ⟨by rfl, ?_⟩) ?_ ?_
 rotate_left
 ·intro w'
  go_simp
  with_reducible rfl
 rotate_left
 ·simp only [Act.put, List.setIfInBounds_toArray, List.set_cons_zero, List.set_cons_succ, i64_w, i32_w]
  rfl
 refine pure_ (i := 10) (N := some 69) (v := ?_) (a' := ?_) #[true, true, true, true, true, false, true, true, true, false, true, false, false, false, false, false, false, false, false, false, false, false, false, false, false] rfl rfl (by kernel_rfl) (fun _ _ _ h => h) (Or.inl ⟨by rfl, ?_⟩) ?_ ?_
 rotate_left
 ·intro w'
  go_simp
  with_reducible rfl
 rotate_left
 ·simp only [Act.put, List.setIfInBounds_toArray, List.set_cons_zero, List.set_cons_succ, i64_w, i32_w]
  rfl
 refine pure_ (i := 14) (N := some 73) (v := ?_) (a' := ?_) #[true, true, true, true, true, false, true, true, true, false, true, false, false, false, true, false, false, false, false, false, false, false, false, false, false] rfl rfl (by kernel_rfl) (fun _ _ _ h => h) (Or.inl ⟨by rfl, ?_⟩) ?_ ?_
 rotate_left
 ·intro w'
  go_simp
  with_reducible rfl
 rotate_left
 ·simp only [Act.put, List.setIfInBounds_toArray, List.set_cons_zero, List.set_cons_succ, i64_w, i32_w]
  rfl
 refine take_ (i := 5) (N := some 64) (v := ?_) (a' := ?_) #[true, true, true, true, true, true, true, true, true, false, true, false, false, false, true, false, false, false, false, false, false, false, false, false, false] rfl rfl (by kernel_rfl) (fun _ _ _ h => h) (Or.inl ⟨by rfl, ?_⟩) hHeld ?_ ?_
 rotate_left
 ·rintro w' ⟨s0, s1, s2, s3, s4⟩
  go_simp
  with_reducible rfl
 rotate_left
 ·simp only [Act.put, List.setIfInBounds_toArray, List.set_cons_zero, List.set_cons_succ, i64_w, i32_w]
  rfl
 refine take_ (i := 9) (N := some 68) (v := ?_) (a' := ?_) #[true, true, true, true, true, true, true, true, true, true, true, false, false, false, true, false, false, false, false, false, false, false, false, false, false] rfl rfl (by kernel_rfl) (fun _ _ _ h => h) (Or.inl ⟨by rfl, ?_⟩) hHeld ?_ ?_
 rotate_left
 ·rintro w' ⟨s0, s1, s2, s3, s4⟩
  go_simp
  with_reducible rfl
 rotate_left
 ·simp only [Act.put, List.setIfInBounds_toArray, List.set_cons_zero, List.set_cons_succ, i64_w, i32_w]
  rfl
 refine take_ (i := 11) (N := some 70) (v := ?_) (a' := ?_) #[true, true, true, true, true, true, true, true, true, true, true, true, false, false, true, false, false, false, false, false, false, false, false, false, false] rfl rfl (by kernel_rfl) (fun _ _ _ h => h) (Or.inl ⟨by rfl, ?_⟩) hHeld ?_ ?_
 rotate_left
 ·rintro w' ⟨s0, s1, s2, s3, s4⟩
  go_simp
  with_reducible rfl
 rotate_left
 ·simp only [Act.put, List.setIfInBounds_toArray, List.set_cons_zero, List.set_cons_succ, i64_w, i32_w]
  rfl
 refine pure_ (i := 12) (N := some 71) (v := ?_) (a' := ?_) #[true, true, true, true, true, true, true, true, true, true, true, true, true, false, true, false, false, false, false, false, false, false, false, false, false] rfl rfl (by kernel_rfl) (fun _ _ _ h => h) (Or.inl ⟨by rfl, ?_⟩) ?_ ?_
 rotate_left
 ·intro w'
  go_simp
  with_reducible rfl
 rotate_left
 ·simp only [Act.put, List.setIfInBounds_toArray, List.set_cons_zero, List.set_cons_succ, i64_w, i32_w]
  rfl
 refine take_ (i := 13) (N := some 72) (v := ?_) (a' := ?_) #[true, true, true, true, true, true, true, true, true, true, true, true, true, true, true, false, false, false, false, false, false, false, false, false, false] rfl rfl (by kernel_rfl) (fun _ _ _ h => h) (Or.inl ⟨by rfl, ?_⟩) hHeld ?_ ?_
 rotate_left
 ·rintro w' ⟨s0, s1, s2, s3, s4⟩
  go_simp
  with_reducible rfl
 rotate_left
 ·simp only [Act.put, List.setIfInBounds_toArray, List.set_cons_zero, List.set_cons_succ, i64_w, i32_w]
  rfl
 refine pure_ (i := 15) (N := some 74) (v := ?_) (a' := ?_) #[true, true, true, true, true, true, true, true, true, true, true, true, true, true, true, true, false, false, false, false, false, false, false, false, false] rfl rfl (by kernel_rfl) (fun _ _ _ h => h) (Or.inl ⟨by rfl, ?_⟩) ?_ ?_
 rotate_left
 ·intro w'
  go_simp
  with_reducible rfl
 rotate_left
 ·simp only [Act.put, List.setIfInBounds_toArray, List.set_cons_zero, List.set_cons_succ, i64_w, i32_w]
  rfl
 refine pure_ (i := 16) (N := some 75) (v := ?_) (a' := ?_) #[true, true, true, true, true, true, true, true, true, true, true, true, true, true, true, true, true, false, false, false, false, false, false, false, false] rfl rfl (by kernel_rfl) (fun _ _ _ h => h) (Or.inl ⟨by rfl, ?_⟩) ?_ ?_
 rotate_left
 ·intro w'
  go_simp
  with_reducible rfl
 rotate_left
 ·simp only [Act.put, List.setIfInBounds_toArray, List.set_cons_zero, List.set_cons_succ, i64_w, i32_w]
  rfl
 refine pure_ (i := 17) (N := some 76) (v := ?_) (a' := ?_) #[true, true, true, true, true, true, true, true, true, true, true, true, true, true, true, true, true, true, false, false, false, false, false, false, false] rfl rfl (by kernel_rfl) (fun _ _ _ h => h) (Or.inl ⟨by rfl, ?_⟩) ?_ ?_
 rotate_left
 ·intro w'
  go_simp
  with_reducible rfl
 rotate_left
 ·simp only [Act.put, List.setIfInBounds_toArray, List.set_cons_zero, List.set_cons_succ, i64_w, i32_w]
  rfl
 refine take_ (i := 18) (N := some 77) (v := ?_) (a' := ?_) #[true, true, true, true, true, true, true, true, true, true, true, true, true, true, true, true, true, true, true, false, false, false, false, false, false] rfl rfl (by kernel_rfl) (fun _ _ _ h => h) (Or.inl ⟨by rfl, ?_⟩) hHeld ?_ ?_
 rotate_left
 ·rintro w' ⟨s0, s1, s2, s3, s4⟩
  go_simp
  with_reducible rfl
 rotate_left
 ·simp only [Act.put, List.setIfInBounds_toArray, List.set_cons_zero, List.set_cons_succ, i64_w, i32_w]
  rfl
 refine one_ (i := 19) (N := some 78) #[true, true, true, true, true, true, true, true, true, true, true, true, true, true, true, true, true, true, true, true, false, false, false, false, false] rfl rfl (by kernel_rfl) (by decide) (fun K hK => ?_)
 refine value_ (w1 := ?_) (v := ?_) (by rfl) rfl ?_ ?_
 rotate_left 2
 ·go_simp
  constructor
  ·rfl
  ·rfl
 refine hK.out _ _ ⟨(World.cell?_alloc_past _ _ _ (World.block_lt_of_cell? _ _ hHeld.1)).trans hHeld.1, (World.cell?_alloc_past _ _ _ (World.block_lt_of_cell? _ _ hHeld.2.1)).trans hHeld.2.1, (World.cell?_alloc_past _ _ _ (World.block_lt_of_cell? _ _ hHeld.2.2.1)).trans hHeld.2.2.1, (World.cell?_alloc_past _ _ _ (World.block_lt_of_cell? _ _ hHeld.2.2.2.1)).trans hHeld.2.2.2.1, (World.cell?_alloc_past _ _ _ (World.block_lt_of_cell? _ _ hHeld.2.2.2.2)).trans hHeld.2.2.2.2⟩ (fun hHeld => ?_)
 clear hK K
 refine norm_ (a' := ?_) ?_ ?_
 rotate_left
 ·show Act.put _ (some 78) _ = _
  simp only [Act.put, List.setIfInBounds_toArray, List.set_cons_zero, List.set_cons_succ, i64_w, i32_w]
  rfl
 refine last_ (i := 20) (N := some 79) #[true, true, true, true, true, true, true, true, true, true, true, true, true, true, true, true, true, true, true, true, true, false, false, false, false] rfl rfl (by kernel_rfl) (by decide) (fun K hK => ?_)
 refine Kd.R_append_step Kd.string (w0 := w0) w0.heap.size (by rfl) (.tmp 64) (.tmp 78) 46 9 (.string ⟨#[]⟩) 16 rfl Try.underlying46 info9 rfl (by decide) (by omega) ur s.re (dec v) [.string (dec v)] (fun _ => True) (fun _ => False) rfl rfl ?aP (fun _ hk => hk.elim) ?aF ?aO ?aB ?aS ?aL ?_
 (case aP => exact rfl)
 (case aB => exact HI.out.be)
 (case aF => exact (fun _ _ => trivial))
 (case aO => exact HI.out.rr)
 (case aS => exact below_size HI.out.be)
 (case aL => have := HRE.out; unfold IB at this; omega)
 intro v1 w5 ho hb hg hat
 obtain ⟨A1, c1, e_⟩ := Kd.R_slice ho
 simp only [List.length_append, List.length_cons, List.length_nil, Nat.zero_add] at e_
 subst e_
 obtain ⟨hI_, hy0, hyf⟩ := SpI.putR HI.out ho hb hg
 have n0_ := Az.mk hI_
 clear HI hI_ HRV ho hb hg hat hHeld
 have HI := n0_
 clear n0_
 refine hK.out _ _ ?_
 clear hK K
 refine norm_ (a' := ?_) ?_ ?_
 rotate_left
 ·show Act.put _ (some 79) _ = _
  simp only [Act.put, List.setIfInBounds_toArray, List.set_cons_zero, List.set_cons_succ, i64_w, i32_w]
  rfl
 refine pure_ (i := 21) (N := some 80) (v := ?_) (a' := ?_) #[true, true, true, true, true, true, true, true, true, true, true, true, true, true, true, true, true, true, true, true, true, true, false, false, false] rfl rfl (by kernel_rfl) (fun _ _ _ h => h) (Or.inl ⟨by rfl, ?_⟩) ?_ ?_
 rotate_left
 ·intro w'
  go_simp
  with_reducible rfl
 rotate_left
 ·simp only [Act.put, List.setIfInBounds_toArray, List.set_cons_zero, List.set_cons_succ, i64_w, i32_w]
  rfl
 refine pure_ (i := 22) (N := some 81) (v := ?_) (a' := ?_) #[true, true, true, true, true, true, true, true, true, true, true, true, true, true, true, true, true, true, true, true, true, true, true, false, false] rfl rfl (by kernel_rfl) (fun _ _ _ h => h) (Or.inl ⟨by rfl, ?_⟩) ?_ ?_
 rotate_left
 ·intro w'
  go_simp
  with_reducible rfl
 rotate_left
 ·simp only [Act.put, List.setIfInBounds_toArray, List.set_cons_zero, List.set_cons_succ, i64_w, i32_w]
  rfl
 refine pure_ (i := 23) (N := some 82) (v := ?_) (a' := ?_) #[true, true, true, true, true, true, true, true, true, true, true, true, true, true, true, true, true, true, true, true, true, true, true, true, false] rfl rfl (by kernel_rfl) (fun _ _ _ h => h) (Or.inl ⟨by rfl, ?_⟩) ?_ ?_
 rotate_left
 ·intro w'
  go_simp
  with_reducible rfl
 rotate_left
 ·simp only [Act.put, List.setIfInBounds_toArray, List.set_cons_zero, List.set_cons_succ, i64_w, i32_w]
  rfl
 refine last_ (i := 24) (N := none) #[true, true, true, true, true, true, true, true, true, true, true, true, true, true, true, true, true, true, true, true, true, true, true, true, true] rfl rfl (by kernel_rfl) (by decide) (fun K hK => ?_)
 refine skip_ (w1 := ?_) (by rfl) rfl ?_ ?_
 rotate_left
 ·go_simp
  rfl
 refine hK.out _ _ ?_
 clear hK K
 refine done_ (by kernel_rfl) ?_
 clear hy0 hyf hi1 hi2 hj0 hj1 hj2
 go_wp2_with fail
 go_ret
 exact ⟨rfl, _, _, _, _, HI.out, HV.out⟩
end Go.Proofs.Ytehhhlhedmfdiaa.PFnImportOrder
end
section
namespace Go.Proofs.Ytehhhlhedmfdiaa.PFnImportOrder
open Go.RowKit Go.Proofs.Yz0.PrintWords Go.Proofs.Yz0.PrintLast Go.Proofs.Yz0.PrintMore
set_option linter.unusedVariables false
set_option linter.unusedSimpArgs false
theorem info168 : (Try.prog.info? 168).map (fun i => (i.zero, i.size, i.bytes)) = some (some (.slice none 0 0), 1, 24) := by kernel_rfl
section
variable {dec : Int → ByteArray} {M : List S72} {A0 : Option Addr} {c0 : Nat} {w0 : World} {gI : Nat} {uf us uv : Value} {fa : List Int}
theorem sp_steps (hdec : ∀ v, 0 ≤ v → v ≤ 1000000 → ∃ k, spec_decimal.f k v = some (dec v)) (L : Int → IS → Option (Bool × IS)) (hL : SpLoads dec M A0 c0 w0 gI uf us uv fa L) : SpSteps dec M A0 c0 w0 gI uf us uv fa (stp dec L M.length) := by
 intro i x s b s' W h hR
 obtain ⟨f0, f1, f2⟩ := x
 unfold stp at h
 dsimp only at h ⊢
 split at h
 ·rename_i e; subst e
  split at h
  ·exact sp_step1 L hL i f1 f2 s b s' W h hR
  ·cases h
 split at h
 ·rename_i e; subst e
  split at h
  ·cases hf : L f1 s with
   | none => rw [hf] at h; cases h
   | some r =>
    obtain ⟨b2, t⟩ := r
    rw [hf] at h
    injection h with h
    injection h with h1 h2
    subst h1 h2
    exact sp_step2 L hL i f1 f2 s b2 t W hf hR
  ·cases h
 split at h
 ·rename_i e; subst e
  split at h
  ·rename_i hg
   obtain ⟨⟨g1, g2, g3⟩, g4, ⟨g5, g6⟩, ⟨g7, g8⟩, g9⟩ := hg
   injection h with h
   injection h with h1 h2
   subst h1 h2
   obtain ⟨n, rfl⟩ := Int.eq_ofNat_of_zero_le g7
   obtain ⟨k, hk⟩ := hdec f1 g1 g2
   exact sp_step3 n f1 f2 s W k hk (by omega) g5 g4 hR
  ·cases h
 split at h
 ·rename_i e; subst e
  split at h
  ·rename_i hg
   obtain ⟨⟨g1, g2, g3⟩, g4, g5⟩ := hg
   obtain ⟨q, rfl⟩ := Int.eq_ofNat_of_zero_le g1
   cases hlk : look (nms s (q : Int)) f2 with
   | none =>
    rw [hlk] at h
    injection h with h
    injection h with h1 h2
    subst h1 h2
    exact sp_step4n i q f2 _ W (by omega) g4 g5 hlk hR
   | some v =>
    rw [hlk] at h
    dsimp only at h
    split at h
    ·rename_i hg2
     injection h with h
     injection h with h1 h2
     subst h1 h2
     exact sp_step4s i q f2 _ W (by omega) g4 g5 v hlk hg2.2 hR
    ·cases h
  ·cases h
 split at h
 ·rename_i e; subst e
  injection h with h
  injection h with h1 h2
  subst h1 h2
  exact sp_step5 i f1 f2 _ W hR
 ·cases h
theorem sp_all (hdec : ∀ v, 0 ≤ v → v ≤ 1000000 → ∃ k, spec_decimal.f k v = some (dec v)) (hC : Kd.C k72 w0 A0 M.length M) : ∀ k, SpLoads dec M A0 c0 w0 gI uf us uv fa (ld dec M k) := by
 intro k
 induction k with
 | zero => intro i s b s' W h; cases h
 | succ k ih =>
  intro i s b s' W h hR
  simp only [ld] at h
  split at h
  ·rename_i hg
   obtain ⟨⟨g1, g2⟩, g3, g4⟩ := hg
   obtain ⟨n, rfl⟩ := Int.eq_ofNat_of_zero_le g1
   split at h
   ·rename_i h0
    split at h
    ·rename_i hg2
     cases hr : runs (stp dec (ld dec M k) M.length (n : Int)) (rX M (n : Int)).f0 (ldStart (n : Int) s) with
     | none => rw [hr] at h; cases h
     | some r =>
      obtain ⟨b2, t⟩ := r
      rw [hr] at h
      dsimp only [Option.bind_some] at h
      split at h
      ·rename_i hg3
       injection h with h
       injection h with h1 h2
       subst h1 h2
       exact sp_load (stp dec (ld dec M k) M.length) (sp_steps hdec _ ih) hC n s W (by omega) g3 g4 h0 hg2.1 hg2.2 b2 t hr hg3.1.1 hg3.1.2 hg3.2.1 hR
      ·cases h
    ·cases h
   ·rename_i h0
    injection h with h
    injection h with h1 h2
    subst h1 h2
    exact sp_load1 n s W (by omega) g3 h0 hR
  ·cases h
theorem put5 {W : World} {g : Nat} {a b c d f x0 x1 x2 x3 x4 : Value} (h : W.heap[g]? = some (.cells #[x0, x1, x2, x3, x4] 48 (0, 0))) :
  (((((W.setCell ⟨g, 0, none⟩ a).setCell ⟨g, 1, none⟩ b).setCell ⟨g, 2, none⟩ c).setCell ⟨g, 3, none⟩ d).setCell ⟨g, 4, none⟩ f).heap[g]? = some (.cells #[a, b, c, d, f] 48 (0, 0)) :=
 blk_put (cs := #[a, b, c, d, x4]) (blk_put (cs := #[a, b, c, x3, x4]) (blk_put (cs := #[a, b, x2, x3, x4]) (blk_put (cs := #[a, x1, x2, x3, x4]) (blk_put (cs := #[x0, x1, x2, x3, x4]) h 0 _ rfl) 1 _ rfl) 2 _ rfl) 3 _ rfl) 4 _ rfl
theorem farG {α : Type} {d : Kd α} {W : World} {g : Nat} {cs : Array Value} {e : TypeId} {base base' : Nat} {ok : Nat → Prop} {v : Value} {xs : List α} (hG : W.heap[g]? = some (.cells cs 48 (0, 0))) (hr : d.R e W base ok v xs) (hb : base' ≤ base) (ht : ∀ q, q ∈ e :: d.E → q ≠ 48) {x0 x1 x2 x3 x4 : Value} :
  d.R e (((((W.setCell ⟨g, 0, none⟩ x0).setCell ⟨g, 1, none⟩ x1).setCell ⟨g, 2, none⟩ x2).setCell ⟨g, 3, none⟩ x3).setCell ⟨g, 4, none⟩ x4) base' ok v xs := by
 have h1 := Kd.R_lower (Kd.R_types hr hG ht) hb
 exact Kd.R_mono (Kd.R_far (p := ⟨g, 4, none⟩) (Kd.R_far (p := ⟨g, 3, none⟩) (Kd.R_far (p := ⟨g, 2, none⟩) (Kd.R_far (p := ⟨g, 1, none⟩) (Kd.R_far (p := ⟨g, 0, none⟩) h1 (fun _ hk => hk.2) x0) (fun _ hk => hk.2) x1) (fun _ hk => hk.2) x2) (fun _ hk => hk.2) x3) (fun _ hk => hk.2) x4) (fun _ hk => hk.1)
def Five (w : World) (r1 r2 r3 : List Int) (r4 : List ByteArray) (r5 : List Int) (e : Ending) (w' : World) : Prop := ∃ v0 v1 v2 v3 v4 : Value, e = .returned (.agg #[v0, v1, v2, v3, v4]) ∧
 Kd.R (Kd.int .i64) 3 w' w.heap.size (fun k => some k ≠ v1.ownBlock ∧ some k ≠ v2.ownBlock ∧ some k ≠ v4.ownBlock) v0 r1 ∧ Kd.R (Kd.int .i64) 3 w' w.heap.size (fun k => some k ≠ v0.ownBlock ∧ some k ≠ v2.ownBlock ∧ some k ≠ v4.ownBlock) v1 r2 ∧
 Kd.R (Kd.int .i64) 3 w' w.heap.size (fun k => some k ≠ v0.ownBlock ∧ some k ≠ v1.ownBlock ∧ some k ≠ v4.ownBlock) v2 r3 ∧ Kd.R Kd.string 9 w' w.heap.size (fun _ => True) v3 r4 ∧
 Kd.R (Kd.int .i64) 3 w' w.heap.size (fun k => some k ≠ v0.ownBlock ∧ some k ≠ v1.ownBlock ∧ some k ≠ v2.ownBlock) v4 r5 ∧ Below w.heap.size w w'
theorem rdI_drop {l : List Int} {j : Nat} (h : j < l.length) : l.drop j = rd l (j : Int) :: l.drop (j + 1) := by
 unfold rd
 rw [show ((j : Int)).toNat = j from rfl, List.getD_eq_getElem?_getD, List.getElem?_eq_getElem h, List.drop_eq_getElem_cons h]
 rfl
end
theorem vsAll0 (dec : Int → ByteArray) (n : Nat) : VsAll dec (List.replicate n []) (List.replicate n []) := by
 refine ⟨by simp, fun j => ?_⟩
 have h1 : ∀ {α : Type}, (List.replicate n ([] : List α)).getD j [] = [] := by
  intro α
  rw [List.getD_eq_getElem?_getD, List.getElem?_replicate]
  split <;> rfl
 rw [h1, h1]
 exact vsIs_nil dec
theorem sp_imported (dec : Int → ByteArray) (hdec : ∀ v, 0 ≤ v → v ≤ 1000000 → ∃ k, spec_decimal.f k v = some (dec v)) (k : Nat) (A0 : Option Addr) (c0 : Nat) (M : List S72) (A1 : Option Addr) (c1 : Nat) (l1 : List Int) (r1 r2 r3 : List Int) (r4 : List ByteArray) (r5 : List Int) (w : World)
  (hr0 : Kd.C k72 w A0 M.length M) (hr1 : Kd.C (Kd.int .i64) w A1 l1.length l1) (hm : M.length ≤ 1000) (h : impAll dec M k l1 = some (r1, r2, r3, r4, r5)) :
  Calls Try.prog 73 #[.slice A0 M.length c0, .slice A1 l1.length c1] w (Five w r1 r2 r3 r4 r5) := by
 obtain ⟨⟨s1, fa1⟩, hall, heq⟩ := Option.map_eq_some_iff.1 h
 injection heq with e1 e2
 injection e2 with e2 e3
 injection e3 with e3 e4
 injection e4 with e4 e5
 subst e1 e2 e3 e4 e5
 dsimp only
 have HD := Az.mk hdec
 have HR0 := Az.mk hr0
 have HR1 := Az.mk hr1
 have HML := Az.mk hm
 have HALL := Az.mk hall
 have hu48 := Try.underlying48
 have hu145 := Try.underlying145
 have hm0 : decide ((0 : Int) ≤ (M.length : Int)) = true := decide_eq_true (by omega)
 clear hdec hr0 hr1 hm hall h
 go_enter Try.func73, Try.ntmps73
 go_wp2_with (first | ((with_reducible refine gate_dst (N := 4) rfl ?_); refine box_event ?hg (N := 4) ?hd (cs := #[.slice none 0 0, .slice none 0 0, .slice none 0 0, .slice none 0 0, .slice none 0 0]) (t := 48) ?hr ?_; (case hd => rfl); (case hg => rfl); (case hr => first | (go_simp; done) | (go_simp; rfl)); intro gR hg wA hbox hb; have HBR := Az.mk hbox; have HB := Az.mk hb; have HGR : Az (gR = w.heap.size) := ⟨hg⟩; clear hbox hb hg) | ((with_reducible refine gate_dst (N := 10) rfl ?_); refine Kd.S_make (Kd.slice 177 k177) (w0 := wA) wA.heap.size 168 rfl (N := 10) rfl 143 _ _ rfl (M.length : Int) rfl rfl Try.underlying143 (.slice none 0 0) 24 info168 rfl (by decide) (by omega) [] (ok := fun _ => True) (okp := fun _ => True) ⟨_, rfl, Kd.R_nil _ _ _ _ _⟩ (fun _ hk => hk) trivial (of_decide_eq_true hm0) ?bd (Below.refl _ _) (Nat.le_refl _) ?_; (case bd => have := HML.out; omega); intro uv w1 ho hb hg_ hnew_; clear hg_ hnew_; have HV : Az (Kd.S (Kd.slice 177 k177) 168 w1 wA.heap.size (fun _ => True) uv (List.replicate M.length ([] : List S177))) := ⟨ho⟩; have HBA := Az.mk hb; clear ho hb; obtain ⟨gv, cv, ev⟩ := Kd.S_slice HV.out; simp only [List.length_replicate] at ev; subst ev) | ((with_reducible refine gate_dst (N := 12) rfl ?_); refine box_event ?hg (N := 12) ?hd (cs := #[.slice A0 M.length c0, .slice none 0 0, .slice none 0 0, .slice none 0 0, .slice none 0 0, .slice none 0 0, .slice gv M.length cv]) (t := 145) ?hr ?_; (case hd => rfl); (case hg => rfl); (case hr => first | (go_simp; done) | (go_simp; rfl)); intro gI hg w2 hbox hb; have HBI := Az.mk hbox; have HGI : Az (gI = w1.heap.size) := ⟨hg⟩; have HGS : Az (wA.heap.size ≤ w1.heap.size) := ⟨HBA.out.size⟩; have n0_ := Az.mk (below_step HBA.out hb); have n1_ := Az.mk (Kd.S_below HV.out hb); clear HBA HV hbox hb hg; have HBA := n0_; have HV := n1_; clear n0_ n1_) | ((with_reducible refine gate_dst (N := 16) rfl ?_); refine Kd.R_make (Kd.int .i64) (w0 := wA) wA.heap.size 3 rfl (N := 16) rfl 35 _ _ rfl (M.length : Int) rfl rfl Try.underlying35 (.int .i64 0) 8 info3 rfl (by decide) (by omega) (0 : Int) (ok := fun _ => True) (okp := fun _ => True) rfl (fun _ hk => hk) trivial (of_decide_eq_true hm0) ?bd HBA.out (below_size HBA.out) ?_; (case bd => have := HML.out; omega); intro us w3 ho hb hg_ hnew_; have HS : Az (Kd.R (Kd.int .i64) 3 w3 wA.heap.size (fun _ => True) us (List.replicate M.length (0 : Int))) := ⟨ho⟩; obtain ⟨gs, cs, es⟩ := Kd.R_slice HS.out; simp only [List.length_replicate] at es; subst es; have n0_ := Az.mk hb; have n1_ := Az.mk (Kd.S_grown HV.out hg_ (by simp)); have n2_ := Az.mk (blk_grown HBI.out hg_ (by simp)); clear HBA HV HBI ho hb hg_ hnew_; have HBA := n0_; have HV := n1_; have HBI := n2_; clear n0_ n1_ n2_; have hq5 : w3.cell? ⟨gI, 5, none⟩ = some (.slice none 0 0) := (bC HBI.out 5).trans rfl; have hqf := bF HBI.out 5))
 have HI : Az (SpI wA (w3.setCell ⟨gI, 5, none⟩ (.slice gs M.length cs)) gI (.slice A0 M.length c0) (.slice none 0 0) (.slice none 0 0) (.slice none 0 0) (.slice none 0 0) (.slice gs M.length cs) (.slice gv M.length cv) [] [] [] [] (List.replicate M.length 0) (List.replicate M.length [])) :=
  ⟨⟨Kd.R_nil _ _ _ _ _, Kd.R_nil _ _ _ _ _, Kd.R_nil _ _ _ _ _, Kd.R_mono (Kd.R_far (p := ⟨gI, 5, none⟩) (Kd.R_types HS.out HBI.out (by decide)) (fun _ hk => hk.2) _) (fun _ _ => by simp [Value.ownBlock]), Kd.R_nil _ _ _ _ _, Kd.S_set HV.out HBI.out (by decide) _ _,
   blk_put (cs := #[.slice A0 M.length c0, .slice none 0 0, .slice none 0 0, .slice none 0 0, .slice none 0 0, .slice none 0 0, .slice gv M.length cv]) HBI.out 5 _ rfl, bS HBA.out (by have := HGI.out; have := HGS.out; omega), by have := HGI.out; have := HGS.out; omega⟩⟩
 clear hq5 hqf
 generalize World.setCell _ _ _ = w4 at HI ⊢
 have HR1A := Az.mk (Kd.C_below HR1.out HB.out)
 have HR0A := Az.mk (Kd.C_below HR0.out HB.out)
 have HLM := Az.mk (Kd.C_max HR1.out)
 clear HR0 HR1 HS HV HBI HBA
 go_loopg [6] (l1.length + 1) (fun kq v6 w' => ∃ (j : Nat) (t : IS) (fa : List Int) (uf : Value), v6 = .int .i64 (j : Int) ∧ Az (j + kq = l1.length + 1 ∧ j ≤ l1.length) ∧ Az (ldAll dec M k (l1.drop j) t fa = some (s1, fa1)) ∧ Az (SpR dec wA w' gI (.slice A0 M.length c0) uf (.slice gs M.length cs) (.slice gv M.length cv) fa t))
 case atStart => exact ⟨0, is0 M.length, [], _, rfl, ⟨by omega, by omega⟩, ⟨by simpa using HALL.out⟩, ⟨⟨_, _, _, _, HI.out, vsAll0 dec M.length⟩⟩⟩
 case round =>
  clear HI HALL
  obtain ⟨j, t, fa, uf, rfl, HJ, HA, HS⟩ := hrel
  by_cases hj : j < l1.length
  ·have hj1 : decide ((j : Int) < (l1.length : Int)) = true := decide_eq_true (by omega)
   have hj2 : (j < l1.length) = True := eq_true hj
   obtain ⟨ad1, e1, hx⟩ := Kd.at_int HR1A.out (j : Int) (by omega) (by omega)
   subst e1
   have HBW : Az (Below wA.heap.size wA wr) := ⟨by obtain ⟨_, _, _, _, hI, _⟩ := HS.out; exact hI.be⟩
   have HX := Az.mk hx
   replace hx : wr.cell? (ad1.add j) = some (.int .i64 (rd l1 (j : Int))) := (HBW.out.cell (World.block_lt_of_cell? wA _ hx)).trans hx
   have hw := HA.out
   rw [rdI_drop hj, ldAll] at hw
   have hwr : wrap64 ((j : Int) + 1) = ((j + 1 : Nat) : Int) := by have := HLM.out; unfold wrap64; omega
   clear HA
   cases hf : ld dec M k (rd l1 (j : Int)) t with
   | none => rw [hf] at hw; cases hw
   | some r =>
    obtain ⟨b2, t2⟩ := r
    rw [hf] at hw
    dsimp only [Option.bind_some] at hw
    have HFF := Az.mk hf
    have HJL := Az.mk hj
    have HWR := Az.mk hwr
    clear hf hj hwr
    cases b2 with
    | true =>
     have HR := Az.mk hw
     clear hw
     go_wp2_with fail
     refine (sp_all HD.out HR0A.out k _ t true t2 _ HFF.out HS.out).mono ?_
     rintro e w5 ⟨rfl, hR2⟩
     have HS2 := Az.mk hR2
     clear hR2 hx
     go_wp2_with fail
     go_roundg (gk - 1)
     case measure => have := HJ.out; omega
     case rel => exact ⟨j + 1, t2, fa, uf, (by first | rfl | (rw [HWR.out]) | (simp [HWR.out])), ⟨by have := HJ.out; omega, by have := HJL.out; omega⟩, HR, HS2⟩
    | false =>
     rw [if_neg (by decide)] at hw
     split at hw
     ·rename_i hfl
      have HR := Az.mk hw
      have HFL := Az.mk hfl
      clear hw hfl
      go_wp2_with fail
      refine (sp_all HD.out HR0A.out k _ t false t2 _ HFF.out HS.out).mono ?_
      rintro e w5 ⟨rfl, hR2⟩
      obtain ⟨ub, uw, ur, vs, hI, hV⟩ := hR2
      have hx5 : w5.cell? (ad1.add j) = some (.int .i64 (rd l1 (j : Int))) := (hI.be.cell (World.block_lt_of_cell? wA _ HX.out)).trans HX.out
      have HI := Az.mk hI
      have HV := Az.mk hV
      obtain ⟨hz0, hz1, hz2, hz3, hz4, hz5, hz6, hzf⟩ := hI.cells
      clear hI hV hx HS
      go_wp2_with fail
      refine start_ (n := 16) (S := fun w' => w'.cell? ⟨gI, 3, none⟩ = some uf ∧ w'.cell? (ad1.add j) = some (.int .i64 (rd l1 (j : Int)))) (ds := [11, 15]) #[false, false, false, false, false, false, false, false, false, false, false, false, false, false, false, false] (by kernel_rfl) rfl rfl ⟨hz3, hx5⟩ (fun hHeld => ?_)
      have n0_ := Az.mk (HI.out.drew)
      clear HI hz0 hz1 hz2 hz3 hz4 hz5 hz6 hzf hx5
      have HI := n0_
      clear n0_
      generalize World.drew _ = w7 at HI hHeld ⊢
      refine pure_ (i := 0) (N := some 33) (v := ?_) (a' := ?_) #[true, false, false, false, false, false, false, false, false, false, false, false, false, false, false, false] rfl rfl (by kernel_rfl) (fun _ _ _ h => h) (Or.inl ⟨by rfl, ?_⟩) ?_ ?_
      rotate_left
      ·intro w'
       go_simp
       with_reducible rfl
      rotate_left
      ·simp only [Act.put, List.setIfInBounds_toArray, List.set_cons_zero, List.set_cons_succ, i64_w, i32_w]
       rfl
      refine pure_ (i := 1) (N := some 34) (v := ?_) (a' := ?_) #[true, true, false, false, false, false, false, false, false, false, false, false, false, false, false, false] rfl rfl (by kernel_rfl) (fun _ _ _ h => h) (Or.inl ⟨by rfl, ?_⟩) ?_ ?_
      rotate_left
      ·intro w'
       go_simp
       with_reducible rfl
      rotate_left
      ·simp only [Act.put, List.setIfInBounds_toArray, List.set_cons_zero, List.set_cons_succ, i64_w, i32_w]
       rfl
      refine pure_ (i := 2) (N := some 35) (v := ?_) (a' := ?_) #[true, true, true, false, false, false, false, false, false, false, false, false, false, false, false, false] rfl rfl (by kernel_rfl) (fun _ _ _ h => h) (Or.inl ⟨by rfl, ?_⟩) ?_ ?_
      rotate_left
      ·intro w'
       go_simp
       with_reducible rfl
      rotate_left
      ·simp only [Act.put, List.setIfInBounds_toArray, List.set_cons_zero, List.set_cons_succ, i64_w, i32_w]
       rfl
      refine pure_ (i := 3) (N := some 36) (v := ?_) (a' := ?_) #[true, true, true, true, false, false, false, false, false, false, false, false, false, false, false, false] rfl rfl (by kernel_rfl) (fun _ _ _ h => h) (Or.inl ⟨by rfl, ?_⟩) ?_ ?_
      rotate_left
      ·intro w'
       go_simp
       with_reducible rfl
      rotate_left
      ·simp only [Act.put, List.setIfInBounds_toArray, List.set_cons_zero, List.set_cons_succ, i64_w, i32_w]
       rfl
      refine pure_ (i := 4) (N := some 37) (v := ?_) (a' := ?_) #[true, true, true, true, true, false, false, false, false, false, false, false, false, false, false, false] rfl rfl (by kernel_rfl) (fun _ _ _ h => h) (Or.inl ⟨by rfl, ?_⟩) ?_ ?_
      rotate_left
      ·intro w'
       go_simp
       with_reducible rfl
      rotate_left
      ·simp only [Act.put, List.setIfInBounds_toArray, List.set_cons_zero, List.set_cons_succ, i64_w, i32_w]
       rfl
      refine pure_ (i := 6) (N := some 39) (v := ?_) (a' := ?_) #[true, true, true, true, true, false, true, false, false, false, false, false, false, false, false, false] rfl rfl (by kernel_rfl) (fun _ _ _ h => h) (Or.inl ⟨by rfl, ?_⟩) ?_ ?_
      rotate_left
      ·intro w'
       go_simp
       with_reducible rfl
      rotate_left
      ·simp only [Act.put, List.setIfInBounds_toArray, List.set_cons_zero, List.set_cons_succ, i64_w, i32_w]
       rfl
      refine pure_ (i := 7) (N := some 40) (v := ?_) (a' := ?_) #[true, true, true, true, true, false, true, true, false, false, false, false, false, false, false, false] rfl rfl (by kernel_rfl) (fun _ _ _ h => h) (Or.inl ⟨by rfl, ?_⟩) ?_ ?_
      rotate_left
      ·intro w'
       go_simp
       with_reducible rfl
      rotate_left
      ·simp only [Act.put, List.setIfInBounds_toArray, List.set_cons_zero, List.set_cons_succ, i64_w, i32_w]
       rfl
      refine pure_ (i := 8) (N := some 41) (v := ?_) (a' := ?_) #[true, true, true, true, true, false, true, true, true, false, false, false, false, false, false, false] rfl rfl (by kernel_rfl) (fun _ _ _ h => h) (Or.inl ⟨by rfl, ?_⟩) ?_ ?_
      rotate_left
      ·intro w'
       go_simp
       with_reducible rfl
      rotate_left
      ·simp only [Act.put, List.setIfInBounds_toArray, List.set_cons_zero, List.set_cons_succ, i64_w, i32_w]
       rfl
      refine take_ (i := 5) (N := some 38) (v := ?_) (a' := ?_) #[true, true, true, true, true, true, true, true, true, false, false, false, false, false, false, false] rfl rfl (by kernel_rfl) (fun _ _ _ h => h) (Or.inl ⟨by rfl, ?_⟩) hHeld ?_ ?_
      rotate_left
      ·rintro w' ⟨s0, s1⟩
       go_simp
       with_reducible rfl
      rotate_left
      ·simp only [Act.put, List.setIfInBounds_toArray, List.set_cons_zero, List.set_cons_succ, i64_w, i32_w]
       rfl
      refine take_ (i := 9) (N := some 42) (v := ?_) (a' := ?_) #[true, true, true, true, true, true, true, true, true, true, false, false, false, false, false, false] rfl rfl (by kernel_rfl) (fun _ _ _ h => h) (Or.inl ⟨by rfl, ?_⟩) hHeld ?_ ?_
      rotate_left
      ·rintro w' ⟨s0, s1⟩
       go_simp
       with_reducible rfl
      rotate_left
      ·simp only [Act.put, List.setIfInBounds_toArray, List.set_cons_zero, List.set_cons_succ, i64_w, i32_w]
       rfl
      refine one_ (i := 10) (N := some 43) #[true, true, true, true, true, true, true, true, true, true, true, false, false, false, false, false] rfl rfl (by kernel_rfl) (by decide) (fun K hK => ?_)
      refine value_ (w1 := ?_) (v := ?_) (by rfl) rfl ?_ ?_
      rotate_left 2
      ·go_simp
       constructor
       ·rfl
       ·rfl
      refine hK.out _ _ ⟨pw_cell_below (bal (Below.refl _ _) _) hHeld.1, pw_cell_below (bal (Below.refl _ _) _) hHeld.2⟩ (fun hHeld => ?_)
      clear hK K
      refine norm_ (a' := ?_) ?_ ?_
      rotate_left
      ·show Act.put _ (some 43) _ = _
       simp only [Act.put, List.setIfInBounds_toArray, List.set_cons_zero, List.set_cons_succ, i64_w, i32_w]
       rfl
      refine last_ (i := 11) (N := some 44) #[true, true, true, true, true, true, true, true, true, true, true, true, false, false, false, false] rfl rfl (by kernel_rfl) (by decide) (fun K hK => ?_)
      refine Kd.R_append_step (Kd.int .i64) (w0 := wA) wA.heap.size (by rfl) (.tmp 38) (.tmp 43) 35 3 (.int .i64 0) 8 rfl Try.underlying35 info3 rfl (by decide) (by omega) uf fa (rd l1 (j : Int)) [.int .i64 (rd l1 (j : Int))] (fun k => some k ≠ ub.ownBlock ∧ some k ≠ uw.ownBlock ∧ some k ≠ Value.ownBlock (.slice gs M.length cs)) (fun _ => False) rfl rfl ?aP (fun _ hk => hk.elim) ?aF ?aO ?aB ?aS ?aL ?_
      (case aP => exact rfl)
      (case aB => exact HI.out.be)
      (case aF => exact (fun k_ hk => ⟨Kd.fresh' (Kd.R_lt HI.out.rb) k_ hk, Kd.fresh' (Kd.R_lt HI.out.rw_) k_ hk, Kd.fresh' (Kd.R_lt HI.out.rs) k_ hk⟩))
      (case aO => exact HI.out.rf)
      (case aS => exact below_size HI.out.be)
      (case aL => have := HFL.out; unfold IB at this; omega)
      intro v1 w6 ho hb hg hat
      obtain ⟨A1_, c1_, e_⟩ := Kd.R_slice ho
      simp only [List.length_append, List.length_cons, List.length_nil, Nat.zero_add] at e_
      subst e_
      obtain ⟨hI_, hy0, hyf⟩ := SpI.putF HI.out ho hb hg hat
      have n0_ := Az.mk hI_
      clear HI hI_ ho hb hg hat hHeld
      have HI := n0_
      clear n0_
      refine hK.out _ _ ?_
      clear hK K
      refine norm_ (a' := ?_) ?_ ?_
      rotate_left
      ·show Act.put _ (some 44) _ = _
       simp only [Act.put, List.setIfInBounds_toArray, List.set_cons_zero, List.set_cons_succ, i64_w, i32_w]
       rfl
      refine pure_ (i := 12) (N := some 45) (v := ?_) (a' := ?_) #[true, true, true, true, true, true, true, true, true, true, true, true, true, false, false, false] rfl rfl (by kernel_rfl) (fun _ _ _ h => h) (Or.inl ⟨by rfl, ?_⟩) ?_ ?_
      rotate_left
      ·intro w'
       go_simp
       with_reducible rfl
      rotate_left
      ·simp only [Act.put, List.setIfInBounds_toArray, List.set_cons_zero, List.set_cons_succ, i64_w, i32_w]
       rfl
      refine pure_ (i := 13) (N := some 46) (v := ?_) (a' := ?_) #[true, true, true, true, true, true, true, true, true, true, true, true, true, true, false, false] rfl rfl (by kernel_rfl) (fun _ _ _ h => h) (Or.inl ⟨by rfl, ?_⟩) ?_ ?_
      rotate_left
      ·intro w'
       go_simp
       with_reducible rfl
      rotate_left
      ·simp only [Act.put, List.setIfInBounds_toArray, List.set_cons_zero, List.set_cons_succ, i64_w, i32_w]
       rfl
      refine pure_ (i := 14) (N := some 47) (v := ?_) (a' := ?_) #[true, true, true, true, true, true, true, true, true, true, true, true, true, true, true, false] rfl rfl (by kernel_rfl) (fun _ _ _ h => h) (Or.inl ⟨by rfl, ?_⟩) ?_ ?_
      rotate_left
      ·intro w'
       go_simp
       with_reducible rfl
      rotate_left
      ·simp only [Act.put, List.setIfInBounds_toArray, List.set_cons_zero, List.set_cons_succ, i64_w, i32_w]
       rfl
      refine last_ (i := 15) (N := none) #[true, true, true, true, true, true, true, true, true, true, true, true, true, true, true, true] rfl rfl (by kernel_rfl) (by decide) (fun K hK => ?_)
      refine skip_ (w1 := ?_) (by rfl) rfl ?_ ?_
      rotate_left
      ·go_simp
       rfl
      refine hK.out _ _ ?_
      clear hK K
      refine done_ (by kernel_rfl) ?_
      clear hy0 hyf
      go_wp2_with fail
      go_roundg (gk - 1)
      case measure => have := HJ.out; omega
      case rel => exact ⟨j + 1, t2, fa ++ [rd l1 (j : Int)], _, (by first | rfl | (rw [HWR.out]) | (simp [HWR.out])), ⟨by have := HJ.out; omega, by have := HJL.out; omega⟩, HR, ⟨_, _, _, _, HI.out, HV.out⟩⟩
     ·cases hw
  ·have hj1 : decide ((j : Int) < (l1.length : Int)) = false := decide_eq_false (by omega)
   have hj2 : (j < l1.length) = False := eq_false hj
   have hw := HA.out
   rw [List.drop_of_length_le (by omega), ldAll] at hw
   injection hw with hw
   injection hw with ha hs
   subst ha hs
   obtain ⟨ub, uw, ur, vs, hI, hV⟩ := HS.out
   obtain ⟨Xb, Yb, eb⟩ := Kd.R_slice hI.rb
   subst eb
   obtain ⟨Xw, Yw, ew⟩ := Kd.R_slice hI.rw_
   subst ew
   obtain ⟨Xf, Yf, ef⟩ := Kd.R_slice hI.rf
   subst ef
   obtain ⟨Xr, Yr, er⟩ := Kd.R_slice hI.rr
   subst er
   obtain ⟨hz0, hz1, hz2, hz3, hz4, hz5, hz6, hzf⟩ := hI.cells
   have HI := Az.mk hI
   have HBR2 := Az.mk ((hI.be.block gR (blk_lt HBR.out)).trans HBR.out)
   have hq0 : wr.cell? ⟨gR, 0, none⟩ = some (.slice none 0 0) := (bC HBR2.out 0).trans rfl
   have hq1 : wr.cell? ⟨gR, 1, none⟩ = some (.slice none 0 0) := (bC HBR2.out 1).trans rfl
   have hq2 : wr.cell? ⟨gR, 2, none⟩ = some (.slice none 0 0) := (bC HBR2.out 2).trans rfl
   have hq3 : wr.cell? ⟨gR, 3, none⟩ = some (.slice none 0 0) := (bC HBR2.out 3).trans rfl
   have hq4 : wr.cell? ⟨gR, 4, none⟩ = some (.slice none 0 0) := (bC HBR2.out 4).trans rfl
   have hqf : ∀ j, wr.frozen? ⟨gR, j, none⟩ = false := fun j => bF HBR2.out j
   clear hI hV HS HA
   go_wp2_with fail
   refine bodyPost_ret (results_cell_row rfl _ _ gR 48 #[.slice Xb t.bg.length Yb, .slice Xw t.wh.length Yw, .slice Xf fa.length Yf, .slice Xr t.re.length Yr, .slice gs M.length cs] (0, 0) _ rfl (put5 HBR2.out) Try.underlying48 rfl (by kernel_rfl)) rfl ?_
   have hle : w.heap.size ≤ wA.heap.size := HB.out.size
   have hbw := below_step HB.out HI.out.be
   have hge : w.heap.size ≤ gR := by have := HGR.out; omega
   exact ⟨_, _, _, _, _, rfl, farG HBR2.out HI.out.rb hle (by decide), farG HBR2.out HI.out.rw_ hle (by decide), farG HBR2.out HI.out.rf hle (by decide), farG HBR2.out HI.out.rr hle (by decide), farG HBR2.out HI.out.rs hle (by decide),
    bS (bS (bS (bS (bS hbw hge) hge) hge) hge) hge⟩
end Go.Proofs.Ytehhhlhedmfdiaa.PFnImportOrder
end
section
namespace Go.Proofs.Ytehhhlhedmfdiaa.PFnImportOrder
open Go.RowKit Go.Proofs.Yz0.PrintWords Go.Proofs.Yz0.PrintLast Go.Proofs.Yz0.PrintMore
set_option linter.unusedVariables false
set_option linter.unusedSimpArgs false
def dg (d : Nat) : ByteArray := strOfNums [(wrap64 (48 + (d : Int))) % 256]
def digs : Nat → Nat → ByteArray
 | 0, _ => ⟨#[]⟩
 | f + 1, n => if n < 10 then dg n else digs f (n / 10) ++ dg (n % 10)
def decT (v : Int) : ByteArray := digs 7 v.toNat
theorem dg_size (d : Nat) : (dg d).size = 1 := by
 unfold dg strOfNums; rfl
theorem digs_size : ∀ f n, (digs f n).size ≤ f
 | 0, _ => Nat.le_refl _
 | f + 1, n => by
  simp only [digs]
  split
  ·rw [dg_size]; omega
  ·rw [ByteArray.size_append, dg_size]; have := digs_size f (n / 10); omega
theorem impl_dec : ∀ (f k n : Nat), f + 1 < k → n < 10 ^ (f + 1) → n < 1000000000000000000 → f ≤ 100 → impl_decimal.f k (n : Int) = some (digs (f + 1) n) := by
 have one : ∀ (k n : Nat), n < 10 → impl_decimal.f (k + 1) (n : Int) = some (dg n) := by
  intro k n h
  simp only [impl_decimal.f]
  rw [if_neg (by omega), if_pos (by omega)]
  rfl
 intro f
 induction f with
 | zero =>
  intro k n hk h _ _
  obtain ⟨k, rfl⟩ : ∃ m, k = m + 1 := ⟨k - 1, by omega⟩
  have h : n < 10 := by simpa using h
  rw [one k n h, digs, if_pos h]
 | succ f ih =>
  intro k n hk h h18 hf
  obtain ⟨k, rfl⟩ : ∃ m, k = m + 1 := ⟨k - 1, by omega⟩
  by_cases hn : n < 10
  ·rw [one k n hn, digs, if_pos hn]
  ·simp only [impl_decimal.f]
   rw [if_neg (by omega), if_neg (by omega)]
   have e1 : wrap64 (Int.tdiv (n : Int) 10) = ((n / 10 : Nat) : Int) := by
    rw [show Int.tdiv (n : Int) 10 = ((n / 10 : Nat) : Int) from rfl]; unfold wrap64; omega
   have e2 : Int.tmod (n : Int) 10 = ((n % 10 : Nat) : Int) := rfl
   rw [e1, e2]
   have h3 : n / 10 < 10 ^ (f + 1) := by
    rw [Nat.pow_succ] at h
    omega
   have i1 := ih k (n / 10) (by omega) h3 (by omega) (by omega)
   have i2 : impl_decimal.f k ((n % 10 : Nat) : Int) = some (dg (n % 10)) := by
    obtain ⟨j, rfl⟩ : ∃ m, k = m + 1 := ⟨k - 1, by omega⟩
    exact one j (n % 10) (by omega)
   rw [i1, i2]
   simp only [Option.bind_some]
   have h4 := digs_size (f + 1) (n / 10)
   have h5 := dg_size (n % 10)
   rw [if_pos (by omega)]
   conv => rhs; rw [digs, if_neg hn]
theorem spec_pos : ∀ (f k n : Nat) (acc : ByteArray), f + 1 < k → n < 10 ^ (f + 1) → n < 1000000000000000000 → f ≤ 100 → acc.size ≤ 1000 - 2 * f → spec_positive.l0 k (n : Int) acc = some (digs (f + 1) n ++ acc) := by
 intro f
 induction f with
 | zero =>
  intro k n acc hk h _ _ ha
  obtain ⟨k, rfl⟩ : ∃ m, k = m + 1 := ⟨k - 1, by omega⟩
  have h : n < 10 := by simpa using h
  simp only [spec_positive.l0]
  have e1 : wrap64 (Int.tdiv (n : Int) 10) = 0 := by
   rw [show Int.tdiv (n : Int) 10 = ((n / 10 : Nat) : Int) from rfl]; unfold wrap64; omega
  have e2 : Int.tmod (n : Int) 10 = (n : Int) := by
   rw [show Int.tmod (n : Int) 10 = ((n % 10 : Nat) : Int) from rfl]; omega
  rw [e1, e2, if_neg (by omega)]
  simp only [Option.bind_some]
  have h5 := dg_size n
  unfold dg at h5
  rw [if_pos (by omega), if_pos trivial, digs, if_pos h]
  rfl
 | succ f ih =>
  intro k n acc hk h h18 hf ha
  obtain ⟨k, rfl⟩ : ∃ m, k = m + 1 := ⟨k - 1, by omega⟩
  simp only [spec_positive.l0]
  have e1 : wrap64 (Int.tdiv (n : Int) 10) = ((n / 10 : Nat) : Int) := by
   rw [show Int.tdiv (n : Int) 10 = ((n / 10 : Nat) : Int) from rfl]; unfold wrap64; omega
  have e2 : Int.tmod (n : Int) 10 = ((n % 10 : Nat) : Int) := rfl
  rw [e1, e2, if_neg (by omega)]
  simp only [Option.bind_some]
  have h5 := dg_size (n % 10)
  unfold dg at h5
  rw [if_pos (by omega)]
  by_cases hn : n < 10
  ·rw [if_pos (by omega), digs, if_pos hn, show n % 10 = n from by omega]
   rfl
  ·rw [if_neg (by omega)]
   have h3 : n / 10 < 10 ^ (f + 1) := by
    rw [Nat.pow_succ] at h
    omega
   have i1 := ih k (n / 10) (strOfNums [(wrap64 (48 + ((n % 10 : Nat) : Int))) % 256] ++ acc) (by omega) h3 (by omega) (by omega) (by rw [ByteArray.size_append]; omega)
   rw [i1]
   conv => rhs; rw [digs, if_neg hn]
   rw [ByteArray.append_assoc]
   rfl
theorem dec_impl (v : Int) (h0 : 0 ≤ v) (h1 : v ≤ 1000000) : ∃ k, impl_decimal.f k v = some (decT v) := by
 obtain ⟨n, rfl⟩ := Int.eq_ofNat_of_zero_le h0
 exact ⟨8, impl_dec 6 8 n (by omega) (by omega) (by omega) (by omega)⟩
theorem dec_spec (v : Int) (h0 : 0 ≤ v) (h1 : v ≤ 1000000) : ∃ k, spec_decimal.f k v = some (decT v) := by
 obtain ⟨n, rfl⟩ := Int.eq_ofNat_of_zero_le h0
 refine ⟨8, ?_⟩
 unfold spec_decimal.f spec_positive.f
 rw [if_neg (by omega), spec_pos 6 8 n _ (by omega) (by omega) (by omega) (by omega) (by decide)]
 simp only [Option.bind_some]
 unfold decT
 rw [show ((n : Int)).toNat = n from rfl]
 congr 1
 exact ByteArray.append_empty
end Go.Proofs.Ytehhhlhedmfdiaa.PFnImportOrder
end
