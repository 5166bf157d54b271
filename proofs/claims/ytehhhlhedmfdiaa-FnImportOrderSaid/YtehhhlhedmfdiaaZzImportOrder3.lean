/- FnImportOrder holds of every input: without circles and failures each module that a whole module imports stands ahead of it; no condition. Part 3 of 7: what the proof needs. -/
import Derived.Test.YtehhhlhedmfdiaaZzImportOrder2
import Derived.Lib.SliceRun
set_option maxHeartbeats 8000000
set_option maxRecDepth 100000
section
namespace Go.Proofs.Ytehhhlhedmfdiaa.PFnImportOrder
open Go.RowKit Go.Proofs.Yz0.PrintWords Go.Proofs.Yz0.PrintLast Go.Proofs.Yz0.PrintMore
attribute [local go_sem] max2_int min2_int max_two min_two max_three min_three max_four min_four
set_option linter.unusedVariables false
set_option linter.unusedSimpArgs false
def impl_indicesOk.l0 : Nat → Int → List Int → Int → Int → Option (Bool)
 | 0, _, _, _, _ => none
 | k + 1, x1, x7, x8, x9 => if x9 < x8 then (if 0 ≤ x9 then (if x9 < (x7.length : Int) then (if (rd x7 x9) < 0 then (some false) else (if (rd x7 x9) ≥ x1 then (some false) else (impl_indicesOk.l0 k x1 x7 x8 (wrap64 (x9 + 1))))) else (none)) else (none)) else (some true)
def impl_indicesOk.f (k : Nat) (l0 : List Int) (a1 : Int) : Option (Bool) := impl_indicesOk.l0 k a1 l0 (l0.length : Int) 0
theorem impl_indicesOk.calls (k : Nat) (A0 : Option Addr) (c0 : Nat) (l0 : List Int) (a1 : Int) (r : Bool) (w : World) (hr0 : Kd.C (Kd.int .i64) w A0 l0.length l0) (hc0 : l0.length ≤ c0) (h : impl_indicesOk.f k l0 a1 = some r) :
  Calls Try.prog 68 #[.slice A0 l0.length c0, .int .i64 a1] w fun e w' => e = .returned (.bool r) ∧ Drawn0 w w' := by
 have HR0 := Az.mk hr0
 have HC0 := Az.mk hc0
 clear hr0 hc0
 have H : (impl_indicesOk.l0 k a1 l0 (l0.length : Int) 0) = some r := h
 clear h
 have H' := Az.mk H
 clear H
 go_enter Try.func68, Try.ntmps68
 go_wp2
 go_loopg [9] k (fun kq v9 w' => ∃ (x9_1 : Int), v9 = .int .i64 x9_1 ∧ Az (impl_indicesOk.l0 kq a1 l0 (l0.length : Int) x9_1 = some r) ∧ Az (kq ≤ k) ∧ Drawn0 w w')
 case atStart => exact ⟨(0), (by first | rfl | (simp; done) | (simp [*]; done)), H', ⟨Nat.le_refl _⟩, by repeat (first | exact Drawn0.refl _ | apply Drawn0.step)⟩
 case round =>
  clear H'
  try clear p2
  obtain ⟨x9_1, rfl, HA, HK1, ⟨m1, rfl⟩⟩ := hrel
  cases gk with
  | zero => exact absurd HA.out (by simp [impl_indicesOk.l0])
  | succ k1 =>
   have H := HA.out
   clear HA
   simp only [impl_indicesOk.l0] at H
   by_cases c3 : x9_1 < (l0.length : Int)
   ·rw [if_pos c3] at H
    have c3b0 : decide (x9_1 < (l0.length : Int)) = true := decide_eq_true c3
    clear c3
    by_cases c4 : 0 ≤ x9_1
    ·rw [if_pos c4] at H
     have c4b0 : decide (0 ≤ x9_1) = true := decide_eq_true c4
     clear c4
     by_cases c5 : x9_1 < (l0.length : Int)
     ·rw [if_pos c5] at H
      have c5b0 : decide (x9_1 < (l0.length : Int)) = true := decide_eq_true c5
      clear c5
      by_cases c6 : (rd l0 x9_1) < 0
      ·rw [if_pos c6] at H
       have c6b0 : decide ((rd l0 x9_1) < 0) = true := decide_eq_true c6
       clear c6
       obtain rfl := Option.some.inj H
       have p205 : 0 ≤ (x9_1 : Int) := of_decide_eq_true (by first | (with_reducible assumption) | assumption)
       have q205 : x9_1 < (l0.length : Int) := of_decide_eq_true (by first | (with_reducible assumption) | assumption)
       obtain ⟨ad205, e205, hx205_0⟩ := Kd.at_int HR0.out x9_1 p205 q205
       cases e205
       replace p205 := eq_true p205
       replace q205 := eq_true q205
       go_wp2
       go_ret
       exact ⟨by first | rfl | (simp; done) | (simp [*]; done), by repeat (first | exact Drawn0.refl _ | apply Drawn0.step)⟩
      ·rw [if_neg c6] at H
       have c6b0 : decide ((rd l0 x9_1) < 0) = false := decide_eq_false c6
       clear c6
       by_cases c7 : (rd l0 x9_1) ≥ a1
       ·rw [if_pos c7] at H
        have c7b0 : decide (a1 ≤ (rd l0 x9_1)) = true := decide_eq_true c7
        clear c7
        obtain rfl := Option.some.inj H
        have p205 : 0 ≤ (x9_1 : Int) := of_decide_eq_true (by first | (with_reducible assumption) | assumption)
        have q205 : x9_1 < (l0.length : Int) := of_decide_eq_true (by first | (with_reducible assumption) | assumption)
        obtain ⟨ad205, e205, hx205_0⟩ := Kd.at_int HR0.out x9_1 p205 q205
        cases e205
        replace p205 := eq_true p205
        replace q205 := eq_true q205
        go_wp2
        go_ret
        exact ⟨by first | rfl | (simp; done) | (simp [*]; done), by repeat (first | exact Drawn0.refl _ | apply Drawn0.step)⟩
       ·rw [if_neg c7] at H
        have c7b0 : decide (a1 ≤ (rd l0 x9_1)) = false := decide_eq_false c7
        clear c7
        have H' := Az.mk H
        clear H
        have p205 : 0 ≤ (x9_1 : Int) := of_decide_eq_true (by first | (with_reducible assumption) | assumption)
        have q205 : x9_1 < (l0.length : Int) := of_decide_eq_true (by first | (with_reducible assumption) | assumption)
        obtain ⟨ad205, e205, hx205_0⟩ := Kd.at_int HR0.out x9_1 p205 q205
        cases e205
        replace p205 := eq_true p205
        replace q205 := eq_true q205
        go_wp2
        go_roundg k1
        case measure => have := HK1.out; omega
        case rel => exact ⟨(wrap64 (x9_1 + 1)), (by first | rfl | (simp; done) | (simp [*]; done)), H', ⟨by have := HK1.out; omega⟩, by repeat (first | exact Drawn0.refl _ | apply Drawn0.step)⟩
     ·rw [if_neg c5] at H
      exact absurd H (by simp)
    ·rw [if_neg c4] at H
     exact absurd H (by simp)
   ·rw [if_neg c3] at H
    have c3b0 : decide (x9_1 < (l0.length : Int)) = false := decide_eq_false c3
    clear c3
    obtain rfl := Option.some.inj H
    go_wp2
    go_ret
    exact ⟨by first | rfl | (simp; done) | (simp [*]; done), by repeat (first | exact Drawn0.refl _ | apply Drawn0.step)⟩
def impl_decimal.f : Nat → Int → Option (ByteArray)
 | 0, _ => none
 | k + 1, a0 => if a0 < 0 then ((impl_decimal.f k (wrap64 (-a0))).bind fun t206 => (if 1 + t206.size ≤ 9223372036854775807 then (some ((⟨#[45]⟩ : ByteArray) ++ t206)) else (none))) else (if a0 < 10 then (some (strOfNums (([(wrap64 (48 + a0)) % 256] : List Int)))) else ((impl_decimal.f k (wrap64 (Int.tdiv a0 10))).bind fun t210 => ((impl_decimal.f k (Int.tmod a0 10)).bind fun t211 => (if t210.size + t211.size ≤ 9223372036854775807 then (some (t210 ++ t211)) else (none)))))
theorem impl_decimal.calls (k : Nat) : ∀ (a0 : Int) (r : ByteArray) (w : World) (h : impl_decimal.f k a0 = some r),
  Calls Try.prog 130 #[.int .i64 a0] w fun e w' => e = .returned (.string r) ∧ Below w.heap.size w w' := by
 induction k using Nat.strongRecOn with
 | _ k ih =>
 intro a0 r w h
 cases k with
 | zero => exact absurd h (by simp [impl_decimal.f])
 | succ k =>
 simp only [impl_decimal.f] at h
 have HB := Az.mk (Below.refl w.heap.size w)
 have H : (if a0 < 0 then ((impl_decimal.f k (wrap64 (-a0))).bind fun t206 => (if 1 + t206.size ≤ 9223372036854775807 then (some ((⟨#[45]⟩ : ByteArray) ++ t206)) else (none))) else (if a0 < 10 then (some (strOfNums (([(wrap64 (48 + a0)) % 256] : List Int)))) else ((impl_decimal.f k (wrap64 (Int.tdiv a0 10))).bind fun t210 => ((impl_decimal.f k (Int.tmod a0 10)).bind fun t211 => (if t210.size + t211.size ≤ 9223372036854775807 then (some (t210 ++ t211)) else (none)))))) = some r := h
 clear h
 by_cases c2 : a0 < 0
 ·rw [if_pos c2] at H
  have c2b0 : decide (a0 < 0) = true := decide_eq_true c2
  clear c2
  replace H := Option.bind_eq_some_iff.mp H
  obtain ⟨t206, A30, H⟩ := H
  replace H : (if 1 + t206.size ≤ 9223372036854775807 then (some ((⟨#[45]⟩ : ByteArray) ++ t206)) else (none)) = some r := H
  have A3 := Az.mk A30
  clear A30
  by_cases c4 : 1 + t206.size ≤ 9223372036854775807
  ·rw [if_pos c4] at H
   have c4b0 := eq_true c4
   have c4b1 : decide (1 + t206.size ≤ 9223372036854775807) = true := decide_eq_true c4
   try have c4b2 : (9223372036854775807 < 1 + t206.size) = False := eq_false (Nat.not_lt.2 c4)
   obtain rfl := Option.some.inj H
   go_enter Try.func130, Try.ntmps130
   go_wp2_with (first | ((with_reducible refine gate_callee (f := 130) rfl ?_); refine goesL_ (some 7) rfl rfl Try.func130 (by kernel_rfl) rfl #[.int .i64 (wrap64 (-a0))] rfl (by (try simp only [List.map_toArray, List.map_cons, List.map_nil]); first | done | rfl | (simp only [List.length_drop, List.length_take]; rfl)) ?_; (with_reducible refine (ih k (by omega) (wrap64 (-a0)) t206 _ A3.out).mono ?_); rintro e w5 ⟨rfl, hb⟩; refine ⟨_, rfl, ?_⟩; have n0_ := Az.mk (below_step (by repeat (first | (with_reducible first | exact HB.out | apply bal | apply bdN | apply bdr) | exact HB.out)) hb); clear HB; have HB := n0_; clear n0_; (try clear hb); (try clear hb2); (try clear hk); (try clear hi)))
   go_ret
   exact ⟨by first | rfl | (simp [errW_none, errW_some] <;> rfl) | (simp [*, errW_none, errW_some] <;> rfl), by repeat (first | (with_reducible first | exact HB.out | apply bal | apply bdN | apply bdr) | exact HB.out)⟩
  ·rw [if_neg c4] at H
   exact absurd H (by simp)
 ·rw [if_neg c2] at H
  have c2b0 : decide (a0 < 0) = false := decide_eq_false c2
  clear c2
  by_cases c6 : a0 < 10
  ·rw [if_pos c6] at H
   have c6b0 : decide (a0 < 10) = true := decide_eq_true c6
   clear c6
   obtain ⟨y207, hy207⟩ : ∃ y_ : List Int, y_ = (([(wrap64 (48 + a0)) % 256] : List Int)) := ⟨_, rfl⟩
   replace H : (some (strOfNums y207)) = some r := by first | (rw [hy207]; with_reducible exact H) | (have H2_ := (Option.bind_some _ _).symm.trans H; rw [hy207]; with_reducible exact H2_) | (have H2_ := (Option.bind_some _ _).symm.trans H; with_reducible exact H2_) | with_reducible exact H | (rw [hy207]; exact H) | exact H
   have Ny207 := Az.mk hy207
   clear hy207
   obtain rfl := Option.some.inj H
   go_enter Try.func130, Try.ntmps130
   go_wp2_with (first | ((with_reducible refine gate_dst (N := 14) rfl ?_); refine Kd.R_lit (Kd.int .u8) _ 5 ?hg (N := 14) ?hd (xs := ([(wrap64 (48 + a0)) % 256] : List Int)) (inner := [.int .u8 ((wrap64 (48 + a0)) % 256)]) (ok := fun _ => True) (okp := fun _ => True) ?hr ?hp (fun _ hk => hk) trivial (Below.refl _ _) (Nat.le_refl _) (by simp) ?_; (case hd => rfl); (case hg => rfl); (case hr => first | (go_simp; done) | (go_simp; rfl)); (case hp => exact (Reps.one (show Kd.M (Kd.int .u8) _ _ _ ((wrap64 (48 + a0)) % 256) [.int .u8 ((wrap64 (48 + a0)) % 256)] from rfl) (Reps.none _ _))); intro v208 w7 ho8 hb hg_ hnew_; clear hg_ hnew_; (first | rw [← Ny207.out] at ho8 | (simp only [Int.reduceToNat] at ho8; rw [← Ny207.out] at ho8)); have n0_ := Az.mk (Kd.R_lower ho8 (below_size (by repeat (first | (with_reducible first | exact HB.out | apply bal | apply bdN | apply bdr) | exact HB.out)))); have n1_ := Az.mk (below_step (by repeat (first | (with_reducible first | exact HB.out | apply bal | apply bdN | apply bdr) | exact HB.out)) hb); clear HB; have HO209 := n0_; have HB := n1_; clear n0_ n1_; clear hb ho8; have hcv9 := own_string (P := Try.prog) Try.underlying22 Try.underlying5 Try.underlying9 (Kd.own_of_R HO209.out)))
   go_ret
   exact ⟨by first | rfl | (simp [errW_none, errW_some] <;> rfl) | (simp [*, errW_none, errW_some] <;> rfl), by repeat (first | (with_reducible first | exact HB.out | apply bal | apply bdN | apply bdr) | exact HB.out)⟩
  ·rw [if_neg c6] at H
   have c6b0 : decide (a0 < 10) = false := decide_eq_false c6
   clear c6
   replace H := Option.bind_eq_some_iff.mp H
   obtain ⟨t210, A100, H⟩ := H
   replace H : ((impl_decimal.f k (Int.tmod a0 10)).bind fun t211 => (if t210.size + t211.size ≤ 9223372036854775807 then (some (t210 ++ t211)) else (none))) = some r := H
   have A10 := Az.mk A100
   clear A100
   replace H := Option.bind_eq_some_iff.mp H
   obtain ⟨t211, A110, H⟩ := H
   replace H : (if t210.size + t211.size ≤ 9223372036854775807 then (some (t210 ++ t211)) else (none)) = some r := H
   have A11 := Az.mk A110
   clear A110
   by_cases c12 : t210.size + t211.size ≤ 9223372036854775807
   ·rw [if_pos c12] at H
    have c12b0 := eq_true c12
    have c12b1 : decide (t210.size + t211.size ≤ 9223372036854775807) = true := decide_eq_true c12
    try have c12b2 : (9223372036854775807 < t210.size + t211.size) = False := eq_false (Nat.not_lt.2 c12)
    obtain rfl := Option.some.inj H
    go_enter Try.func130, Try.ntmps130
    go_wp2_with (first | ((with_reducible refine gate_callee (f := 130) rfl ?_); refine goesL_ (some 18) rfl rfl Try.func130 (by kernel_rfl) rfl #[.int .i64 (wrap64 (Int.tdiv a0 10))] rfl (by (try simp only [List.map_toArray, List.map_cons, List.map_nil]); first | done | rfl | (simp only [List.length_drop, List.length_take]; rfl)) ?_; (with_reducible refine (ih k (by omega) (wrap64 (Int.tdiv a0 10)) t210 _ A10.out).mono ?_); rintro e w13 ⟨rfl, hb⟩; refine ⟨_, rfl, ?_⟩; have n0_ := Az.mk (below_step (by repeat (first | (with_reducible first | exact HB.out | apply bal | apply bdN | apply bdr) | exact HB.out)) hb); clear HB; have HB := n0_; clear n0_; (try clear hb); (try clear hb2); (try clear hk); (try clear hi)) | ((with_reducible refine gate_callee (f := 130) rfl ?_); refine goesL_ (some 21) rfl rfl Try.func130 (by kernel_rfl) rfl #[.int .i64 (Int.tmod a0 10)] rfl (by (try simp only [List.map_toArray, List.map_cons, List.map_nil]); first | done | rfl | (simp only [List.length_drop, List.length_take]; rfl)) ?_; (with_reducible refine (ih k (by omega) (Int.tmod a0 10) t211 _ A11.out).mono ?_); rintro e w14 ⟨rfl, hb⟩; refine ⟨_, rfl, ?_⟩; have n0_ := Az.mk (below_step (by repeat (first | (with_reducible first | exact HB.out | apply bal | apply bdN | apply bdr) | exact HB.out)) hb); clear HB; have HB := n0_; clear n0_; (try clear hb); (try clear hb2); (try clear hk); (try clear hi)))
    go_ret
    exact ⟨by first | rfl | (simp [errW_none, errW_some] <;> rfl) | (simp [*, errW_none, errW_some] <;> rfl), by repeat (first | (with_reducible first | exact HB.out | apply bal | apply bdN | apply bdr) | exact HB.out)⟩
   ·rw [if_neg c12] at H
    exact absurd H (by simp)
def spec_sameNums.l0 : Nat → List Int → List Int → Int → Option (Bool)
 | 0, _, _, _ => none
 | k + 1, x0, x1, x5 => if x5 < (x0.length : Int) then (if 0 ≤ x5 then (if x5 < (x1.length : Int) then (if (rd x0 x5) = (rd x1 x5) then (spec_sameNums.l0 k x0 x1 (wrap64 (x5 + 1))) else (some false)) else (none)) else (none)) else (some true)
def spec_sameNums.f (k : Nat) (l0 : List Int) (l1 : List Int) : Option (Bool) := if (l0.length : Int) = (l1.length : Int) then (spec_sameNums.l0 k l0 l1 0) else (some false)
theorem spec_sameNums.calls (k : Nat) (A0 : Option Addr) (c0 : Nat) (l0 : List Int) (A1 : Option Addr) (c1 : Nat) (l1 : List Int) (r : Bool) (w : World) (hr0 : Kd.C (Kd.int .i64) w A0 l0.length l0) (hc0 : l0.length ≤ c0) (hr1 : Kd.C (Kd.int .i64) w A1 l1.length l1) (hc1 : l1.length ≤ c1) (h : spec_sameNums.f k l0 l1 = some r) :
  Calls Try.prog 70 #[.slice A0 l0.length c0, .slice A1 l1.length c1] w fun e w' => e = .returned (.bool r) ∧ Drawn0 w w' := by
 have HR0 := Az.mk hr0
 have HC0 := Az.mk hc0
 clear hr0 hc0
 have HR1 := Az.mk hr1
 have HC1 := Az.mk hc1
 clear hr1 hc1
 have H : (if (l0.length : Int) = (l1.length : Int) then (spec_sameNums.l0 k l0 l1 0) else (some false)) = some r := h
 clear h
 by_cases c3 : (l0.length : Int) = (l1.length : Int)
 ·rw [if_pos c3] at H
  have c3b0 : ((l0.length : Int) == (l1.length : Int)) = true := beq_iff_eq.mpr c3
  have c3b1 : ((l0.length : Int) != (l1.length : Int)) = false := bne_eq_false_iff_eq.mpr c3
  have c3b2 : (l0.length == l1.length) = true := by first | simpa using c3 | (simp at c3 ⊢; omega)
  clear c3
  have H' := Az.mk H
  clear H
  go_enter Try.func70, Try.ntmps70
  go_wp2
  repeat (go_quiet (fail); try go_wp2)
  go_loopg [5] k (fun kq v5 w' => ∃ (x5_1 : Int), v5 = .int .i64 x5_1 ∧ Az (spec_sameNums.l0 kq l0 l1 x5_1 = some r) ∧ Az (kq ≤ k) ∧ Drawn0 w w')
  case atStart => exact ⟨(0), (by first | rfl | (simp; done) | (simp [*]; done)), H', ⟨Nat.le_refl _⟩, by repeat (first | exact Drawn0.refl _ | apply Drawn0.step)⟩
  case round =>
   clear H'
   try clear c1
   try clear p2
   try clear c3
   try clear c3b0
   try clear c3b1
   try clear c3b2
   obtain ⟨x5_1, rfl, HA, HK1, ⟨m1, rfl⟩⟩ := hrel
   cases gk with
   | zero => exact absurd HA.out (by simp [spec_sameNums.l0])
   | succ k1 =>
    have H := HA.out
    clear HA
    simp only [spec_sameNums.l0] at H
    by_cases c4 : x5_1 < (l0.length : Int)
    ·rw [if_pos c4] at H
     have c4b0 : decide (x5_1 < (l0.length : Int)) = true := decide_eq_true c4
     clear c4
     by_cases c5 : 0 ≤ x5_1
     ·rw [if_pos c5] at H
      have c5b0 : decide (0 ≤ x5_1) = true := decide_eq_true c5
      clear c5
      by_cases c6 : x5_1 < (l1.length : Int)
      ·rw [if_pos c6] at H
       have c6b0 : decide (x5_1 < (l1.length : Int)) = true := decide_eq_true c6
       clear c6
       by_cases c7 : (rd l0 x5_1) = (rd l1 x5_1)
       ·rw [if_pos c7] at H
        have c7b0 : ((rd l0 x5_1) == (rd l1 x5_1)) = true := beq_iff_eq.mpr c7
        have c7b1 : ((rd l0 x5_1) != (rd l1 x5_1)) = false := bne_eq_false_iff_eq.mpr c7
        clear c7
        have H' := Az.mk H
        clear H
        have p212 : 0 ≤ (x5_1 : Int) := of_decide_eq_true (by first | (with_reducible assumption) | assumption)
        have q212 : x5_1 < (l0.length : Int) := of_decide_eq_true (by first | (with_reducible assumption) | assumption)
        obtain ⟨ad212, e212, hx212_0⟩ := Kd.at_int HR0.out x5_1 p212 q212
        cases e212
        replace p212 := eq_true p212
        replace q212 := eq_true q212
        have p213 : 0 ≤ (x5_1 : Int) := of_decide_eq_true (by first | (with_reducible assumption) | assumption)
        have q213 : x5_1 < (l1.length : Int) := of_decide_eq_true (by first | (with_reducible assumption) | assumption)
        obtain ⟨ad213, e213, hx213_0⟩ := Kd.at_int HR1.out x5_1 p213 q213
        cases e213
        replace p213 := eq_true p213
        replace q213 := eq_true q213
        go_wp2
        repeat (go_quiet (fail); try go_wp2)
        go_roundg k1
        case measure => have := HK1.out; omega
        case rel => exact ⟨(wrap64 (x5_1 + 1)), (by first | rfl | (simp; done) | (simp [*]; done)), H', ⟨by have := HK1.out; omega⟩, by repeat (first | exact Drawn0.refl _ | apply Drawn0.step)⟩
       ·rw [if_neg c7] at H
        have c7b0 : ((rd l0 x5_1) == (rd l1 x5_1)) = false := beq_eq_false_iff_ne.mpr c7
        have c7b1 : ((rd l0 x5_1) != (rd l1 x5_1)) = true := bne_iff_ne.mpr c7
        obtain rfl := Option.some.inj H
        have p212 : 0 ≤ (x5_1 : Int) := of_decide_eq_true (by first | (with_reducible assumption) | assumption)
        have q212 : x5_1 < (l0.length : Int) := of_decide_eq_true (by first | (with_reducible assumption) | assumption)
        obtain ⟨ad212, e212, hx212_0⟩ := Kd.at_int HR0.out x5_1 p212 q212
        cases e212
        replace p212 := eq_true p212
        replace q212 := eq_true q212
        have p213 : 0 ≤ (x5_1 : Int) := of_decide_eq_true (by first | (with_reducible assumption) | assumption)
        have q213 : x5_1 < (l1.length : Int) := of_decide_eq_true (by first | (with_reducible assumption) | assumption)
        obtain ⟨ad213, e213, hx213_0⟩ := Kd.at_int HR1.out x5_1 p213 q213
        cases e213
        replace p213 := eq_true p213
        replace q213 := eq_true q213
        go_wp2
        repeat (go_quiet (fail); try go_wp2)
        go_ret
        exact ⟨by first | rfl | (simp; done) | (simp [*]; done), by repeat (first | exact Drawn0.refl _ | apply Drawn0.step)⟩
      ·rw [if_neg c6] at H
       exact absurd H (by simp)
     ·rw [if_neg c5] at H
      exact absurd H (by simp)
    ·rw [if_neg c4] at H
     have c4b0 : decide (x5_1 < (l0.length : Int)) = false := decide_eq_false c4
     clear c4
     obtain rfl := Option.some.inj H
     go_wp2
     repeat (go_quiet (fail); try go_wp2)
     go_ret
     exact ⟨by first | rfl | (simp; done) | (simp [*]; done), by repeat (first | exact Drawn0.refl _ | apply Drawn0.step)⟩
 ·rw [if_neg c3] at H
  have c3b0 : ((l0.length : Int) == (l1.length : Int)) = false := beq_eq_false_iff_ne.mpr c3
  have c3b1 : ((l0.length : Int) != (l1.length : Int)) = true := bne_iff_ne.mpr c3
  have c3b2 : (l0.length == l1.length) = false := by first | simpa using c3 | (simp at c3 ⊢; omega)
  obtain rfl := Option.some.inj H
  go_enter Try.func70, Try.ntmps70
  go_wp2
  repeat (go_quiet (fail); try go_wp2)
  go_ret
  exact ⟨by first | rfl | (simp; done) | (simp [*]; done), by repeat (first | exact Drawn0.refl _ | apply Drawn0.step)⟩
def spec_sameTexts.l0 : Nat → List ByteArray → List ByteArray → Int → Option (Bool)
 | 0, _, _, _ => none
 | k + 1, x0, x1, x5 => if x5 < (x0.length : Int) then (if 0 ≤ x5 then (if x5 < (x1.length : Int) then (if (rdOf ByteArray.empty x0 x5).toList = (rdOf ByteArray.empty x1 x5).toList then (spec_sameTexts.l0 k x0 x1 (wrap64 (x5 + 1))) else (some false)) else (none)) else (none)) else (some true)
def spec_sameTexts.f (k : Nat) (l0 : List ByteArray) (l1 : List ByteArray) : Option (Bool) := if (l0.length : Int) = (l1.length : Int) then (spec_sameTexts.l0 k l0 l1 0) else (some false)
theorem spec_sameTexts.calls (k : Nat) (A0 : Option Addr) (c0 : Nat) (l0 : List ByteArray) (A1 : Option Addr) (c1 : Nat) (l1 : List ByteArray) (r : Bool) (w : World) (hr0 : Kd.C Kd.string w A0 l0.length l0) (hc0 : l0.length ≤ c0) (hr1 : Kd.C Kd.string w A1 l1.length l1) (hc1 : l1.length ≤ c1) (h : spec_sameTexts.f k l0 l1 = some r) :
  Calls Try.prog 71 #[.slice A0 l0.length c0, .slice A1 l1.length c1] w fun e w' => e = .returned (.bool r) ∧ Drawn0 w w' := by
 have HR0 := Az.mk hr0
 have HC0 := Az.mk hc0
 clear hr0 hc0
 have HR1 := Az.mk hr1
 have HC1 := Az.mk hc1
 clear hr1 hc1
 have H : (if (l0.length : Int) = (l1.length : Int) then (spec_sameTexts.l0 k l0 l1 0) else (some false)) = some r := h
 clear h
 by_cases c3 : (l0.length : Int) = (l1.length : Int)
 ·rw [if_pos c3] at H
  have c3b0 : ((l0.length : Int) == (l1.length : Int)) = true := beq_iff_eq.mpr c3
  have c3b1 : ((l0.length : Int) != (l1.length : Int)) = false := bne_eq_false_iff_eq.mpr c3
  have c3b2 : (l0.length == l1.length) = true := by first | simpa using c3 | (simp at c3 ⊢; omega)
  clear c3
  have H' := Az.mk H
  clear H
  go_enter Try.func71, Try.ntmps71
  go_wp2
  repeat (go_quiet (fail); try go_wp2)
  go_loopg [5] k (fun kq v5 w' => ∃ (x5_1 : Int), v5 = .int .i64 x5_1 ∧ Az (spec_sameTexts.l0 kq l0 l1 x5_1 = some r) ∧ Az (kq ≤ k) ∧ Drawn0 w w')
  case atStart => exact ⟨(0), (by first | rfl | (simp; done) | (simp [*]; done)), H', ⟨Nat.le_refl _⟩, by repeat (first | exact Drawn0.refl _ | apply Drawn0.step)⟩
  case round =>
   clear H'
   try clear c1
   try clear p2
   try clear c3
   try clear c3b0
   try clear c3b1
   try clear c3b2
   obtain ⟨x5_1, rfl, HA, HK1, ⟨m1, rfl⟩⟩ := hrel
   cases gk with
   | zero => exact absurd HA.out (by simp [spec_sameTexts.l0])
   | succ k1 =>
    have H := HA.out
    clear HA
    simp only [spec_sameTexts.l0] at H
    by_cases c4 : x5_1 < (l0.length : Int)
    ·rw [if_pos c4] at H
     have c4b0 : decide (x5_1 < (l0.length : Int)) = true := decide_eq_true c4
     clear c4
     by_cases c5 : 0 ≤ x5_1
     ·rw [if_pos c5] at H
      have c5b0 : decide (0 ≤ x5_1) = true := decide_eq_true c5
      clear c5
      by_cases c6 : x5_1 < (l1.length : Int)
      ·rw [if_pos c6] at H
       have c6b0 : decide (x5_1 < (l1.length : Int)) = true := decide_eq_true c6
       clear c6
       by_cases c7 : (rdOf ByteArray.empty l0 x5_1).toList = (rdOf ByteArray.empty l1 x5_1).toList
       ·rw [if_pos c7] at H
        have c7b0 : ((rdOf ByteArray.empty l0 x5_1).toList == (rdOf ByteArray.empty l1 x5_1).toList) = true := beq_iff_eq.mpr c7
        have c7b1 : ((rdOf ByteArray.empty l0 x5_1).toList != (rdOf ByteArray.empty l1 x5_1).toList) = false := bne_eq_false_iff_eq.mpr c7
        clear c7
        have H' := Az.mk H
        clear H
        have p214 : 0 ≤ (x5_1 : Int) := of_decide_eq_true (by first | (with_reducible assumption) | assumption)
        have q214 : x5_1 < (l0.length : Int) := of_decide_eq_true (by first | (with_reducible assumption) | assumption)
        obtain ⟨ad214, e214, hx214_0⟩ := Kd.at_string HR0.out x5_1 p214 q214
        cases e214
        replace p214 := eq_true p214
        replace q214 := eq_true q214
        have p215 : 0 ≤ (x5_1 : Int) := of_decide_eq_true (by first | (with_reducible assumption) | assumption)
        have q215 : x5_1 < (l1.length : Int) := of_decide_eq_true (by first | (with_reducible assumption) | assumption)
        obtain ⟨ad215, e215, hx215_0⟩ := Kd.at_string HR1.out x5_1 p215 q215
        cases e215
        replace p215 := eq_true p215
        replace q215 := eq_true q215
        go_wp2
        repeat (go_quiet (fail); try go_wp2)
        go_roundg k1
        case measure => have := HK1.out; omega
        case rel => exact ⟨(wrap64 (x5_1 + 1)), (by first | rfl | (simp; done) | (simp [*]; done)), H', ⟨by have := HK1.out; omega⟩, by repeat (first | exact Drawn0.refl _ | apply Drawn0.step)⟩
       ·rw [if_neg c7] at H
        have c7b0 : ((rdOf ByteArray.empty l0 x5_1).toList == (rdOf ByteArray.empty l1 x5_1).toList) = false := beq_eq_false_iff_ne.mpr c7
        have c7b1 : ((rdOf ByteArray.empty l0 x5_1).toList != (rdOf ByteArray.empty l1 x5_1).toList) = true := bne_iff_ne.mpr c7
        obtain rfl := Option.some.inj H
        have p214 : 0 ≤ (x5_1 : Int) := of_decide_eq_true (by first | (with_reducible assumption) | assumption)
        have q214 : x5_1 < (l0.length : Int) := of_decide_eq_true (by first | (with_reducible assumption) | assumption)
        obtain ⟨ad214, e214, hx214_0⟩ := Kd.at_string HR0.out x5_1 p214 q214
        cases e214
        replace p214 := eq_true p214
        replace q214 := eq_true q214
        have p215 : 0 ≤ (x5_1 : Int) := of_decide_eq_true (by first | (with_reducible assumption) | assumption)
        have q215 : x5_1 < (l1.length : Int) := of_decide_eq_true (by first | (with_reducible assumption) | assumption)
        obtain ⟨ad215, e215, hx215_0⟩ := Kd.at_string HR1.out x5_1 p215 q215
        cases e215
        replace p215 := eq_true p215
        replace q215 := eq_true q215
        go_wp2
        repeat (go_quiet (fail); try go_wp2)
        go_ret
        exact ⟨by first | rfl | (simp; done) | (simp [*]; done), by repeat (first | exact Drawn0.refl _ | apply Drawn0.step)⟩
      ·rw [if_neg c6] at H
       exact absurd H (by simp)
     ·rw [if_neg c5] at H
      exact absurd H (by simp)
    ·rw [if_neg c4] at H
     have c4b0 : decide (x5_1 < (l0.length : Int)) = false := decide_eq_false c4
     clear c4
     obtain rfl := Option.some.inj H
     go_wp2
     repeat (go_quiet (fail); try go_wp2)
     go_ret
     exact ⟨by first | rfl | (simp; done) | (simp [*]; done), by repeat (first | exact Drawn0.refl _ | apply Drawn0.step)⟩
 ·rw [if_neg c3] at H
  have c3b0 : ((l0.length : Int) == (l1.length : Int)) = false := beq_eq_false_iff_ne.mpr c3
  have c3b1 : ((l0.length : Int) != (l1.length : Int)) = true := bne_iff_ne.mpr c3
  have c3b2 : (l0.length == l1.length) = false := by first | simpa using c3 | (simp at c3 ⊢; omega)
  obtain rfl := Option.some.inj H
  go_enter Try.func71, Try.ntmps71
  go_wp2
  repeat (go_quiet (fail); try go_wp2)
  go_ret
  exact ⟨by first | rfl | (simp; done) | (simp [*]; done), by repeat (first | exact Drawn0.refl _ | apply Drawn0.step)⟩
def spec_SameImports.f (k : Nat) (l0_0 : List Int) (l0_1 : List Int) (l0_2 : List Int) (l0_3 : List ByteArray) (l0_4 : List Int) (l1_0 : List Int) (l1_1 : List Int) (l1_2 : List Int) (l1_3 : List ByteArray) (l1_4 : List Int) : Option (Bool) := (spec_sameNums.f k l0_0 l1_0).bind fun t218 => (if t218 = true then ((spec_sameNums.f k l0_1 l1_1).bind fun t219 => (if t219 = true then ((spec_sameNums.f k l0_2 l1_2).bind fun t220 => (if t220 = true then ((spec_sameTexts.f k l0_3 l1_3).bind fun t221 => (if t221 = true then ((spec_sameNums.f k l0_4 l1_4).bind fun t222 => (some t222)) else (some false))) else (some false))) else (some false))) else (some false))
theorem spec_SameImports.calls (k : Nat) (A0_0 : Option Addr) (c0_0 : Nat) (l0_0 : List Int) (A0_1 : Option Addr) (c0_1 : Nat) (l0_1 : List Int) (A0_2 : Option Addr) (c0_2 : Nat) (l0_2 : List Int) (A0_3 : Option Addr) (c0_3 : Nat) (l0_3 : List ByteArray) (A0_4 : Option Addr) (c0_4 : Nat) (l0_4 : List Int) (A1_0 : Option Addr) (c1_0 : Nat) (l1_0 : List Int) (A1_1 : Option Addr) (c1_1 : Nat) (l1_1 : List Int) (A1_2 : Option Addr) (c1_2 : Nat) (l1_2 : List Int) (A1_3 : Option Addr) (c1_3 : Nat) (l1_3 : List ByteArray) (A1_4 : Option Addr) (c1_4 : Nat) (l1_4 : List Int) (r : Bool) (w : World) (hr0_0 : Kd.C (Kd.int .i64) w A0_0 l0_0.length l0_0) (hc0_0 : l0_0.length ≤ c0_0) (hr0_1 : Kd.C (Kd.int .i64) w A0_1 l0_1.length l0_1) (hc0_1 : l0_1.length ≤ c0_1) (hr0_2 : Kd.C (Kd.int .i64) w A0_2 l0_2.length l0_2) (hc0_2 : l0_2.length ≤ c0_2) (hr0_3 : Kd.C Kd.string w A0_3 l0_3.length l0_3) (hc0_3 : l0_3.length ≤ c0_3) (hr0_4 : Kd.C (Kd.int .i64) w A0_4 l0_4.length l0_4) (hc0_4 : l0_4.length ≤ c0_4) (hr1_0 : Kd.C (Kd.int .i64) w A1_0 l1_0.length l1_0) (hc1_0 : l1_0.length ≤ c1_0) (hr1_1 : Kd.C (Kd.int .i64) w A1_1 l1_1.length l1_1) (hc1_1 : l1_1.length ≤ c1_1) (hr1_2 : Kd.C (Kd.int .i64) w A1_2 l1_2.length l1_2) (hc1_2 : l1_2.length ≤ c1_2) (hr1_3 : Kd.C Kd.string w A1_3 l1_3.length l1_3) (hc1_3 : l1_3.length ≤ c1_3) (hr1_4 : Kd.C (Kd.int .i64) w A1_4 l1_4.length l1_4) (hc1_4 : l1_4.length ≤ c1_4) (h : spec_SameImports.f k l0_0 l0_1 l0_2 l0_3 l0_4 l1_0 l1_1 l1_2 l1_3 l1_4 = some r) :
  Calls Try.prog 25 #[.agg #[.slice A0_0 l0_0.length c0_0, .slice A0_1 l0_1.length c0_1, .slice A0_2 l0_2.length c0_2, .slice A0_3 l0_3.length c0_3, .slice A0_4 l0_4.length c0_4], .agg #[.slice A1_0 l1_0.length c1_0, .slice A1_1 l1_1.length c1_1, .slice A1_2 l1_2.length c1_2, .slice A1_3 l1_3.length c1_3, .slice A1_4 l1_4.length c1_4]] w fun e w' => e = .returned (.bool r) ∧ Below w.heap.size w w' := by
 have hu48 := Try.underlying48
 have HR0_0 := Az.mk hr0_0
 have HC0_0 := Az.mk hc0_0
 clear hr0_0 hc0_0
 have HR0_1 := Az.mk hr0_1
 have HC0_1 := Az.mk hc0_1
 clear hr0_1 hc0_1
 have HR0_2 := Az.mk hr0_2
 have HC0_2 := Az.mk hc0_2
 clear hr0_2 hc0_2
 have HR0_3 := Az.mk hr0_3
 have HC0_3 := Az.mk hc0_3
 clear hr0_3 hc0_3
 have HR0_4 := Az.mk hr0_4
 have HC0_4 := Az.mk hc0_4
 clear hr0_4 hc0_4
 have HR1_0 := Az.mk hr1_0
 have HC1_0 := Az.mk hc1_0
 clear hr1_0 hc1_0
 have HR1_1 := Az.mk hr1_1
 have HC1_1 := Az.mk hc1_1
 clear hr1_1 hc1_1
 have HR1_2 := Az.mk hr1_2
 have HC1_2 := Az.mk hc1_2
 clear hr1_2 hc1_2
 have HR1_3 := Az.mk hr1_3
 have HC1_3 := Az.mk hc1_3
 clear hr1_3 hc1_3
 have HR1_4 := Az.mk hr1_4
 have HC1_4 := Az.mk hc1_4
 clear hr1_4 hc1_4
 have HB := Az.mk (Below.refl w.heap.size w)
 have H : ((spec_sameNums.f k l0_0 l1_0).bind fun t218 => (if t218 = true then ((spec_sameNums.f k l0_1 l1_1).bind fun t219 => (if t219 = true then ((spec_sameNums.f k l0_2 l1_2).bind fun t220 => (if t220 = true then ((spec_sameTexts.f k l0_3 l1_3).bind fun t221 => (if t221 = true then ((spec_sameNums.f k l0_4 l1_4).bind fun t222 => (some t222)) else (some false))) else (some false))) else (some false))) else (some false))) = some r := h
 clear h
 replace H := Option.bind_eq_some_iff.mp H
 obtain ⟨t218, A30, H⟩ := H
 replace H : (if t218 = true then ((spec_sameNums.f k l0_1 l1_1).bind fun t219 => (if t219 = true then ((spec_sameNums.f k l0_2 l1_2).bind fun t220 => (if t220 = true then ((spec_sameTexts.f k l0_3 l1_3).bind fun t221 => (if t221 = true then ((spec_sameNums.f k l0_4 l1_4).bind fun t222 => (some t222)) else (some false))) else (some false))) else (some false))) else (some false)) = some r := H
 have A3 := Az.mk A30
 clear A30
 by_cases c4 : t218 = true
 ·subst c4
  have H1 : ((spec_sameNums.f k l0_1 l1_1).bind fun t219 => (if t219 = true then ((spec_sameNums.f k l0_2 l1_2).bind fun t220 => (if t220 = true then ((spec_sameTexts.f k l0_3 l1_3).bind fun t221 => (if t221 = true then ((spec_sameNums.f k l0_4 l1_4).bind fun t222 => (some t222)) else (some false))) else (some false))) else (some false))) = some r := by rw [if_pos rfl] at H; exact H
  clear H
  have H := H1
  clear H1
  replace H := Option.bind_eq_some_iff.mp H
  obtain ⟨t219, A50, H⟩ := H
  replace H : (if t219 = true then ((spec_sameNums.f k l0_2 l1_2).bind fun t220 => (if t220 = true then ((spec_sameTexts.f k l0_3 l1_3).bind fun t221 => (if t221 = true then ((spec_sameNums.f k l0_4 l1_4).bind fun t222 => (some t222)) else (some false))) else (some false))) else (some false)) = some r := H
  have A5 := Az.mk A50
  clear A50
  by_cases c6 : t219 = true
  ·subst c6
   have H1 : ((spec_sameNums.f k l0_2 l1_2).bind fun t220 => (if t220 = true then ((spec_sameTexts.f k l0_3 l1_3).bind fun t221 => (if t221 = true then ((spec_sameNums.f k l0_4 l1_4).bind fun t222 => (some t222)) else (some false))) else (some false))) = some r := by rw [if_pos rfl] at H; exact H
   clear H
   have H := H1
   clear H1
   replace H := Option.bind_eq_some_iff.mp H
   obtain ⟨t220, A70, H⟩ := H
   replace H : (if t220 = true then ((spec_sameTexts.f k l0_3 l1_3).bind fun t221 => (if t221 = true then ((spec_sameNums.f k l0_4 l1_4).bind fun t222 => (some t222)) else (some false))) else (some false)) = some r := H
   have A7 := Az.mk A70
   clear A70
   by_cases c8 : t220 = true
   ·subst c8
    have H1 : ((spec_sameTexts.f k l0_3 l1_3).bind fun t221 => (if t221 = true then ((spec_sameNums.f k l0_4 l1_4).bind fun t222 => (some t222)) else (some false))) = some r := by rw [if_pos rfl] at H; exact H
    clear H
    have H := H1
    clear H1
    replace H := Option.bind_eq_some_iff.mp H
    obtain ⟨t221, A90, H⟩ := H
    replace H : (if t221 = true then ((spec_sameNums.f k l0_4 l1_4).bind fun t222 => (some t222)) else (some false)) = some r := H
    have A9 := Az.mk A90
    clear A90
    by_cases c10 : t221 = true
    ·subst c10
     have H1 : ((spec_sameNums.f k l0_4 l1_4).bind fun t222 => (some t222)) = some r := by rw [if_pos rfl] at H; exact H
     clear H
     have H := H1
     clear H1
     replace H := Option.bind_eq_some_iff.mp H
     obtain ⟨t222, A110, H⟩ := H
     replace H : (some t222) = some r := H
     have A11 := Az.mk A110
     clear A110
     obtain rfl := Option.some.inj H
     go_enter Try.func25, Try.ntmps25
     go_wp2_with (first | ((with_reducible refine gate_dst (N := 2) rfl ?_); refine box_event ?hg (N := 2) ?hd (cs := #[.slice A0_0 l0_0.length c0_0, .slice A0_1 l0_1.length c0_1, .slice A0_2 l0_2.length c0_2, .slice A0_3 l0_3.length c0_3, .slice A0_4 l0_4.length c0_4]) (t := 48) ?hr ?_; (case hd => rfl); (case hg => rfl); (case hr => first | (go_simp; done) | (go_simp; rfl)); intro gb216 hg w12 hbox hb; have n0_ := Az.mk (below_step (by repeat (first | (with_reducible first | exact HB.out | apply bal | apply bdN | apply bdr) | exact HB.out)) hb); have n1_ := Az.mk (hbox); have n2_ := Az.mk ((by rw [hg]; exact (below_size (by repeat (first | (with_reducible first | exact HB.out | apply bal | apply bdN | apply bdr) | exact HB.out))) : w.heap.size ≤ gb216)); have n3_ := Az.mk ((by rw [hg]; exact (below_size (by repeat (first | (with_reducible first | exact HB.out | apply bal | apply bdN | apply bdr) | exact HB.out))) : w.heap.size ≤ gb216)); clear HB; have HB := n0_; have BK216 := n1_; have GW216 := n2_; have GE216 := n3_; clear n0_ n1_ n2_ n3_; clear hb hbox hg) | ((with_reducible refine gate_dst (N := 3) rfl ?_); refine box_event ?hg (N := 3) ?hd (cs := #[.slice A1_0 l1_0.length c1_0, .slice A1_1 l1_1.length c1_1, .slice A1_2 l1_2.length c1_2, .slice A1_3 l1_3.length c1_3, .slice A1_4 l1_4.length c1_4]) (t := 48) ?hr ?_; (case hd => rfl); (case hg => rfl); (case hr => first | (go_simp; done) | (go_simp; rfl)); intro gb217 hg w13 hbox hb; have n0_ := Az.mk (blk_below (g := gb216) (o := .cells #[.slice A0_0 l0_0.length c0_0, .slice A0_1 l0_1.length c0_1, .slice A0_2 l0_2.length c0_2, .slice A0_3 l0_3.length c0_3, .slice A0_4 l0_4.length c0_4] 48 (0, 0)) (by (with_reducible repeat (first | refine blk_drewN ?_ _ | refine blk_drew ?_ | refine blk_alloc ?_ _)); exact BK216.out) hb); have n1_ := Az.mk (below_step (by repeat (first | (with_reducible first | exact HB.out | apply bal | apply bdN | apply bdr | refine bS ?_ GE216.out) | exact HB.out)) hb); have n2_ := Az.mk (hbox); have n3_ := Az.mk ((by rw [hg]; exact (below_size (by repeat (first | (with_reducible first | exact HB.out | apply bal | apply bdN | apply bdr | refine bS ?_ GE216.out) | exact HB.out))) : w.heap.size ≤ gb217)); have n4_ := Az.mk ((by rw [hg]; exact (below_size (by repeat (first | (with_reducible first | exact HB.out | apply bal | apply bdN | apply bdr | refine bS ?_ GE216.out) | exact HB.out))) : w.heap.size ≤ gb217)); have n5_ := Az.mk ((by rw [hg]; exact Nat.ne_of_lt (blk_lt (g := gb216) (o := .cells #[.slice A0_0 l0_0.length c0_0, .slice A0_1 l0_1.length c0_1, .slice A0_2 l0_2.length c0_2, .slice A0_3 l0_3.length c0_3, .slice A0_4 l0_4.length c0_4] 48 (0, 0)) (by (with_reducible repeat (first | refine blk_drewN ?_ _ | refine blk_drew ?_ | refine blk_alloc ?_ _)); exact BK216.out)) : gb216 ≠ gb217)); have n6_ := Az.mk ((by rw [hg]; exact Nat.ne_of_gt (blk_lt (g := gb216) (o := .cells #[.slice A0_0 l0_0.length c0_0, .slice A0_1 l0_1.length c0_1, .slice A0_2 l0_2.length c0_2, .slice A0_3 l0_3.length c0_3, .slice A0_4 l0_4.length c0_4] 48 (0, 0)) (by (with_reducible repeat (first | refine blk_drewN ?_ _ | refine blk_drew ?_ | refine blk_alloc ?_ _)); exact BK216.out)) : gb217 ≠ gb216)); clear BK216; clear HB; have BK216 := n0_; have HB := n1_; have BK217 := n2_; have GW217 := n3_; have GE217 := n4_; have NB216_217 := n5_; have NB217_216 := n6_; clear n0_ n1_ n2_ n3_ n4_ n5_ n6_; clear hb hbox hg; have hnb14 := NB216_217.out; have hnc14 := NB217_216.out; have hcz15_0 : w13.cell? ⟨gb216, 0, none⟩ = some (.slice A0_0 l0_0.length c0_0) := (bC BK216.out 0).trans rfl; have hcz15_1 : w13.cell? ⟨gb216, 1, none⟩ = some (.slice A0_1 l0_1.length c0_1) := (bC BK216.out 1).trans rfl; have hcz15_2 : w13.cell? ⟨gb216, 2, none⟩ = some (.slice A0_2 l0_2.length c0_2) := (bC BK216.out 2).trans rfl; have hcz15_3 : w13.cell? ⟨gb216, 3, none⟩ = some (.slice A0_3 l0_3.length c0_3) := (bC BK216.out 3).trans rfl; have hcz15_4 : w13.cell? ⟨gb216, 4, none⟩ = some (.slice A0_4 l0_4.length c0_4) := (bC BK216.out 4).trans rfl; have hfz15_0 := bF BK216.out 0; have hfz15_1 := bF BK216.out 1; have hfz15_2 := bF BK216.out 2; have hfz15_3 := bF BK216.out 3; have hfz15_4 := bF BK216.out 4; have hcz16_0 : w13.cell? ⟨gb217, 0, none⟩ = some (.slice A1_0 l1_0.length c1_0) := (bC BK217.out 0).trans rfl; have hcz16_1 : w13.cell? ⟨gb217, 1, none⟩ = some (.slice A1_1 l1_1.length c1_1) := (bC BK217.out 1).trans rfl; have hcz16_2 : w13.cell? ⟨gb217, 2, none⟩ = some (.slice A1_2 l1_2.length c1_2) := (bC BK217.out 2).trans rfl; have hcz16_3 : w13.cell? ⟨gb217, 3, none⟩ = some (.slice A1_3 l1_3.length c1_3) := (bC BK217.out 3).trans rfl; have hcz16_4 : w13.cell? ⟨gb217, 4, none⟩ = some (.slice A1_4 l1_4.length c1_4) := (bC BK217.out 4).trans rfl; have hfz16_0 := bF BK217.out 0; have hfz16_1 := bF BK217.out 1; have hfz16_2 := bF BK217.out 2; have hfz16_3 := bF BK217.out 3; have hfz16_4 := bF BK217.out 4) | ((with_reducible refine gate_callee (f := 70) rfl ?_); refine goesL_ (some 9) rfl rfl Try.func70 (by kernel_rfl) rfl #[.slice A0_0 l0_0.length c0_0, .slice A1_0 l1_0.length c1_0] rfl (by (try simp only [List.map_toArray, List.map_cons, List.map_nil]); first | done | rfl | (simp only [List.length_drop, List.length_take]; rfl)) ?_; (with_reducible refine (spec_sameNums.calls k _ _ l0_0 _ _ l1_0 true _ ?side1 ?side2 ?side3 ?side4 A3.out).mono ?_); (case side1 => repeat (first | exact (Kd.C_below HR0_0.out HB.out) | (with_reducible refine Kd.C_alloc ?_ _) | (with_reducible refine Kd.C_drewN ?_ _) | (with_reducible refine Kd.C_drew ?_))); (case side2 => exact HC0_0.out); (case side3 => repeat (first | exact (Kd.C_below HR1_0.out HB.out) | (with_reducible refine Kd.C_alloc ?_ _) | (with_reducible refine Kd.C_drewN ?_ _) | (with_reducible refine Kd.C_drew ?_))); (case side4 => exact HC1_0.out); rintro e w' ⟨rfl, ⟨nd, rfl⟩⟩; refine ⟨_, rfl, ?_⟩) | (go_at_call 70; (with_reducible refine (spec_sameNums.calls k _ _ l0_1 _ _ l1_1 true _ ?side1 ?side2 ?side3 ?side4 A5.out).mono ?_); (case side1 => repeat (first | exact (Kd.C_below HR0_1.out (by repeat (first | (with_reducible first | exact HB.out | apply bal | apply bdN | apply bdr | refine bS ?_ GE216.out | refine bS ?_ GE217.out) | exact HB.out))) | (with_reducible refine Kd.C_alloc ?_ _) | (with_reducible refine Kd.C_drewN ?_ _) | (with_reducible refine Kd.C_drew ?_))); (case side2 => exact HC0_1.out); (case side3 => repeat (first | exact (Kd.C_below HR1_1.out (by repeat (first | (with_reducible first | exact HB.out | apply bal | apply bdN | apply bdr | refine bS ?_ GE216.out | refine bS ?_ GE217.out) | exact HB.out))) | (with_reducible refine Kd.C_alloc ?_ _) | (with_reducible refine Kd.C_drewN ?_ _) | (with_reducible refine Kd.C_drew ?_))); (case side4 => exact HC1_1.out); rintro e w' ⟨rfl, ⟨nd, rfl⟩⟩) | (go_at_call 70; (with_reducible refine (spec_sameNums.calls k _ _ l0_2 _ _ l1_2 true _ ?side1 ?side2 ?side3 ?side4 A7.out).mono ?_); (case side1 => repeat (first | exact (Kd.C_below HR0_2.out (by repeat (first | (with_reducible first | exact HB.out | apply bal | apply bdN | apply bdr | refine bS ?_ GE216.out | refine bS ?_ GE217.out) | exact HB.out))) | (with_reducible refine Kd.C_alloc ?_ _) | (with_reducible refine Kd.C_drewN ?_ _) | (with_reducible refine Kd.C_drew ?_))); (case side2 => exact HC0_2.out); (case side3 => repeat (first | exact (Kd.C_below HR1_2.out (by repeat (first | (with_reducible first | exact HB.out | apply bal | apply bdN | apply bdr | refine bS ?_ GE216.out | refine bS ?_ GE217.out) | exact HB.out))) | (with_reducible refine Kd.C_alloc ?_ _) | (with_reducible refine Kd.C_drewN ?_ _) | (with_reducible refine Kd.C_drew ?_))); (case side4 => exact HC1_2.out); rintro e w' ⟨rfl, ⟨nd, rfl⟩⟩) | (go_at_call 71; (with_reducible refine (spec_sameTexts.calls k _ _ l0_3 _ _ l1_3 true _ ?side1 ?side2 ?side3 ?side4 A9.out).mono ?_); (case side1 => repeat (first | exact (Kd.C_below HR0_3.out (by repeat (first | (with_reducible first | exact HB.out | apply bal | apply bdN | apply bdr | refine bS ?_ GE216.out | refine bS ?_ GE217.out) | exact HB.out))) | (with_reducible refine Kd.C_alloc ?_ _) | (with_reducible refine Kd.C_drewN ?_ _) | (with_reducible refine Kd.C_drew ?_))); (case side2 => exact HC0_3.out); (case side3 => repeat (first | exact (Kd.C_below HR1_3.out (by repeat (first | (with_reducible first | exact HB.out | apply bal | apply bdN | apply bdr | refine bS ?_ GE216.out | refine bS ?_ GE217.out) | exact HB.out))) | (with_reducible refine Kd.C_alloc ?_ _) | (with_reducible refine Kd.C_drewN ?_ _) | (with_reducible refine Kd.C_drew ?_))); (case side4 => exact HC1_3.out); rintro e w' ⟨rfl, ⟨nd, rfl⟩⟩) | (go_at_call 70; (with_reducible refine (spec_sameNums.calls k _ _ l0_4 _ _ l1_4 t222 _ ?side1 ?side2 ?side3 ?side4 A11.out).mono ?_); (case side1 => repeat (first | exact (Kd.C_below HR0_4.out (by repeat (first | (with_reducible first | exact HB.out | apply bal | apply bdN | apply bdr | refine bS ?_ GE216.out | refine bS ?_ GE217.out) | exact HB.out))) | (with_reducible refine Kd.C_alloc ?_ _) | (with_reducible refine Kd.C_drewN ?_ _) | (with_reducible refine Kd.C_drew ?_))); (case side2 => exact HC0_4.out); (case side3 => repeat (first | exact (Kd.C_below HR1_4.out (by repeat (first | (with_reducible first | exact HB.out | apply bal | apply bdN | apply bdr | refine bS ?_ GE216.out | refine bS ?_ GE217.out) | exact HB.out))) | (with_reducible refine Kd.C_alloc ?_ _) | (with_reducible refine Kd.C_drewN ?_ _) | (with_reducible refine Kd.C_drew ?_))); (case side4 => exact HC1_4.out); rintro e w' ⟨rfl, ⟨nd, rfl⟩⟩))
     go_ret
     exact ⟨by first | rfl | (simp [errW_none, errW_some] <;> rfl) | (simp [*, errW_none, errW_some] <;> rfl), by repeat (first | (with_reducible first | exact HB.out | apply bal | apply bdN | apply bdr | refine bS ?_ GE216.out | refine bS ?_ GE217.out) | exact HB.out)⟩
    ·replace c10 := Bool.eq_false_iff.mpr c10
     subst c10
     have H1 : (some false) = some r := by rw [if_neg (show ¬ (false = true) by decide)] at H; exact H
     clear H
     have H := H1
     clear H1
     obtain rfl := Option.some.inj H
     go_enter Try.func25, Try.ntmps25
     go_wp2_with (first | ((with_reducible refine gate_dst (N := 2) rfl ?_); refine box_event ?hg (N := 2) ?hd (cs := #[.slice A0_0 l0_0.length c0_0, .slice A0_1 l0_1.length c0_1, .slice A0_2 l0_2.length c0_2, .slice A0_3 l0_3.length c0_3, .slice A0_4 l0_4.length c0_4]) (t := 48) ?hr ?_; (case hd => rfl); (case hg => rfl); (case hr => first | (go_simp; done) | (go_simp; rfl)); intro gb216 hg w17 hbox hb; have n0_ := Az.mk (below_step (by repeat (first | (with_reducible first | exact HB.out | apply bal | apply bdN | apply bdr) | exact HB.out)) hb); have n1_ := Az.mk (hbox); have n2_ := Az.mk ((by rw [hg]; exact (below_size (by repeat (first | (with_reducible first | exact HB.out | apply bal | apply bdN | apply bdr) | exact HB.out))) : w.heap.size ≤ gb216)); have n3_ := Az.mk ((by rw [hg]; exact (below_size (by repeat (first | (with_reducible first | exact HB.out | apply bal | apply bdN | apply bdr) | exact HB.out))) : w.heap.size ≤ gb216)); clear HB; have HB := n0_; have BK216 := n1_; have GW216 := n2_; have GE216 := n3_; clear n0_ n1_ n2_ n3_; clear hb hbox hg) | ((with_reducible refine gate_dst (N := 3) rfl ?_); refine box_event ?hg (N := 3) ?hd (cs := #[.slice A1_0 l1_0.length c1_0, .slice A1_1 l1_1.length c1_1, .slice A1_2 l1_2.length c1_2, .slice A1_3 l1_3.length c1_3, .slice A1_4 l1_4.length c1_4]) (t := 48) ?hr ?_; (case hd => rfl); (case hg => rfl); (case hr => first | (go_simp; done) | (go_simp; rfl)); intro gb217 hg w18 hbox hb; have n0_ := Az.mk (blk_below (g := gb216) (o := .cells #[.slice A0_0 l0_0.length c0_0, .slice A0_1 l0_1.length c0_1, .slice A0_2 l0_2.length c0_2, .slice A0_3 l0_3.length c0_3, .slice A0_4 l0_4.length c0_4] 48 (0, 0)) (by (with_reducible repeat (first | refine blk_drewN ?_ _ | refine blk_drew ?_ | refine blk_alloc ?_ _)); exact BK216.out) hb); have n1_ := Az.mk (below_step (by repeat (first | (with_reducible first | exact HB.out | apply bal | apply bdN | apply bdr | refine bS ?_ GE216.out) | exact HB.out)) hb); have n2_ := Az.mk (hbox); have n3_ := Az.mk ((by rw [hg]; exact (below_size (by repeat (first | (with_reducible first | exact HB.out | apply bal | apply bdN | apply bdr | refine bS ?_ GE216.out) | exact HB.out))) : w.heap.size ≤ gb217)); have n4_ := Az.mk ((by rw [hg]; exact (below_size (by repeat (first | (with_reducible first | exact HB.out | apply bal | apply bdN | apply bdr | refine bS ?_ GE216.out) | exact HB.out))) : w.heap.size ≤ gb217)); have n5_ := Az.mk ((by rw [hg]; exact Nat.ne_of_lt (blk_lt (g := gb216) (o := .cells #[.slice A0_0 l0_0.length c0_0, .slice A0_1 l0_1.length c0_1, .slice A0_2 l0_2.length c0_2, .slice A0_3 l0_3.length c0_3, .slice A0_4 l0_4.length c0_4] 48 (0, 0)) (by (with_reducible repeat (first | refine blk_drewN ?_ _ | refine blk_drew ?_ | refine blk_alloc ?_ _)); exact BK216.out)) : gb216 ≠ gb217)); have n6_ := Az.mk ((by rw [hg]; exact Nat.ne_of_gt (blk_lt (g := gb216) (o := .cells #[.slice A0_0 l0_0.length c0_0, .slice A0_1 l0_1.length c0_1, .slice A0_2 l0_2.length c0_2, .slice A0_3 l0_3.length c0_3, .slice A0_4 l0_4.length c0_4] 48 (0, 0)) (by (with_reducible repeat (first | refine blk_drewN ?_ _ | refine blk_drew ?_ | refine blk_alloc ?_ _)); exact BK216.out)) : gb217 ≠ gb216)); clear BK216; clear HB; have BK216 := n0_; have HB := n1_; have BK217 := n2_; have GW217 := n3_; have GE217 := n4_; have NB216_217 := n5_; have NB217_216 := n6_; clear n0_ n1_ n2_ n3_ n4_ n5_ n6_; clear hb hbox hg; have hnb19 := NB216_217.out; have hnc19 := NB217_216.out; have hcz20_0 : w18.cell? ⟨gb216, 0, none⟩ = some (.slice A0_0 l0_0.length c0_0) := (bC BK216.out 0).trans rfl; have hcz20_1 : w18.cell? ⟨gb216, 1, none⟩ = some (.slice A0_1 l0_1.length c0_1) := (bC BK216.out 1).trans rfl; have hcz20_2 : w18.cell? ⟨gb216, 2, none⟩ = some (.slice A0_2 l0_2.length c0_2) := (bC BK216.out 2).trans rfl; have hcz20_3 : w18.cell? ⟨gb216, 3, none⟩ = some (.slice A0_3 l0_3.length c0_3) := (bC BK216.out 3).trans rfl; have hcz20_4 : w18.cell? ⟨gb216, 4, none⟩ = some (.slice A0_4 l0_4.length c0_4) := (bC BK216.out 4).trans rfl; have hfz20_0 := bF BK216.out 0; have hfz20_1 := bF BK216.out 1; have hfz20_2 := bF BK216.out 2; have hfz20_3 := bF BK216.out 3; have hfz20_4 := bF BK216.out 4; have hcz21_0 : w18.cell? ⟨gb217, 0, none⟩ = some (.slice A1_0 l1_0.length c1_0) := (bC BK217.out 0).trans rfl; have hcz21_1 : w18.cell? ⟨gb217, 1, none⟩ = some (.slice A1_1 l1_1.length c1_1) := (bC BK217.out 1).trans rfl; have hcz21_2 : w18.cell? ⟨gb217, 2, none⟩ = some (.slice A1_2 l1_2.length c1_2) := (bC BK217.out 2).trans rfl; have hcz21_3 : w18.cell? ⟨gb217, 3, none⟩ = some (.slice A1_3 l1_3.length c1_3) := (bC BK217.out 3).trans rfl; have hcz21_4 : w18.cell? ⟨gb217, 4, none⟩ = some (.slice A1_4 l1_4.length c1_4) := (bC BK217.out 4).trans rfl; have hfz21_0 := bF BK217.out 0; have hfz21_1 := bF BK217.out 1; have hfz21_2 := bF BK217.out 2; have hfz21_3 := bF BK217.out 3; have hfz21_4 := bF BK217.out 4) | ((with_reducible refine gate_callee (f := 70) rfl ?_); refine goesL_ (some 9) rfl rfl Try.func70 (by kernel_rfl) rfl #[.slice A0_0 l0_0.length c0_0, .slice A1_0 l1_0.length c1_0] rfl (by (try simp only [List.map_toArray, List.map_cons, List.map_nil]); first | done | rfl | (simp only [List.length_drop, List.length_take]; rfl)) ?_; (with_reducible refine (spec_sameNums.calls k _ _ l0_0 _ _ l1_0 true _ ?side1 ?side2 ?side3 ?side4 A3.out).mono ?_); (case side1 => repeat (first | exact (Kd.C_below HR0_0.out HB.out) | (with_reducible refine Kd.C_alloc ?_ _) | (with_reducible refine Kd.C_drewN ?_ _) | (with_reducible refine Kd.C_drew ?_))); (case side2 => exact HC0_0.out); (case side3 => repeat (first | exact (Kd.C_below HR1_0.out HB.out) | (with_reducible refine Kd.C_alloc ?_ _) | (with_reducible refine Kd.C_drewN ?_ _) | (with_reducible refine Kd.C_drew ?_))); (case side4 => exact HC1_0.out); rintro e w' ⟨rfl, ⟨nd, rfl⟩⟩; refine ⟨_, rfl, ?_⟩) | (go_at_call 70; (with_reducible refine (spec_sameNums.calls k _ _ l0_1 _ _ l1_1 true _ ?side1 ?side2 ?side3 ?side4 A5.out).mono ?_); (case side1 => repeat (first | exact (Kd.C_below HR0_1.out (by repeat (first | (with_reducible first | exact HB.out | apply bal | apply bdN | apply bdr | refine bS ?_ GE216.out | refine bS ?_ GE217.out) | exact HB.out))) | (with_reducible refine Kd.C_alloc ?_ _) | (with_reducible refine Kd.C_drewN ?_ _) | (with_reducible refine Kd.C_drew ?_))); (case side2 => exact HC0_1.out); (case side3 => repeat (first | exact (Kd.C_below HR1_1.out (by repeat (first | (with_reducible first | exact HB.out | apply bal | apply bdN | apply bdr | refine bS ?_ GE216.out | refine bS ?_ GE217.out) | exact HB.out))) | (with_reducible refine Kd.C_alloc ?_ _) | (with_reducible refine Kd.C_drewN ?_ _) | (with_reducible refine Kd.C_drew ?_))); (case side4 => exact HC1_1.out); rintro e w' ⟨rfl, ⟨nd, rfl⟩⟩) | (go_at_call 70; (with_reducible refine (spec_sameNums.calls k _ _ l0_2 _ _ l1_2 true _ ?side1 ?side2 ?side3 ?side4 A7.out).mono ?_); (case side1 => repeat (first | exact (Kd.C_below HR0_2.out (by repeat (first | (with_reducible first | exact HB.out | apply bal | apply bdN | apply bdr | refine bS ?_ GE216.out | refine bS ?_ GE217.out) | exact HB.out))) | (with_reducible refine Kd.C_alloc ?_ _) | (with_reducible refine Kd.C_drewN ?_ _) | (with_reducible refine Kd.C_drew ?_))); (case side2 => exact HC0_2.out); (case side3 => repeat (first | exact (Kd.C_below HR1_2.out (by repeat (first | (with_reducible first | exact HB.out | apply bal | apply bdN | apply bdr | refine bS ?_ GE216.out | refine bS ?_ GE217.out) | exact HB.out))) | (with_reducible refine Kd.C_alloc ?_ _) | (with_reducible refine Kd.C_drewN ?_ _) | (with_reducible refine Kd.C_drew ?_))); (case side4 => exact HC1_2.out); rintro e w' ⟨rfl, ⟨nd, rfl⟩⟩) | (go_at_call 71; (with_reducible refine (spec_sameTexts.calls k _ _ l0_3 _ _ l1_3 false _ ?side1 ?side2 ?side3 ?side4 A9.out).mono ?_); (case side1 => repeat (first | exact (Kd.C_below HR0_3.out (by repeat (first | (with_reducible first | exact HB.out | apply bal | apply bdN | apply bdr | refine bS ?_ GE216.out | refine bS ?_ GE217.out) | exact HB.out))) | (with_reducible refine Kd.C_alloc ?_ _) | (with_reducible refine Kd.C_drewN ?_ _) | (with_reducible refine Kd.C_drew ?_))); (case side2 => exact HC0_3.out); (case side3 => repeat (first | exact (Kd.C_below HR1_3.out (by repeat (first | (with_reducible first | exact HB.out | apply bal | apply bdN | apply bdr | refine bS ?_ GE216.out | refine bS ?_ GE217.out) | exact HB.out))) | (with_reducible refine Kd.C_alloc ?_ _) | (with_reducible refine Kd.C_drewN ?_ _) | (with_reducible refine Kd.C_drew ?_))); (case side4 => exact HC1_3.out); rintro e w' ⟨rfl, ⟨nd, rfl⟩⟩))
     go_ret
     exact ⟨by first | rfl | (simp [errW_none, errW_some] <;> rfl) | (simp [*, errW_none, errW_some] <;> rfl), by repeat (first | (with_reducible first | exact HB.out | apply bal | apply bdN | apply bdr | refine bS ?_ GE216.out | refine bS ?_ GE217.out) | exact HB.out)⟩
   ·replace c8 := Bool.eq_false_iff.mpr c8
    subst c8
    have H1 : (some false) = some r := by rw [if_neg (show ¬ (false = true) by decide)] at H; exact H
    clear H
    have H := H1
    clear H1
    obtain rfl := Option.some.inj H
    go_enter Try.func25, Try.ntmps25
    go_wp2_with (first | ((with_reducible refine gate_dst (N := 2) rfl ?_); refine box_event ?hg (N := 2) ?hd (cs := #[.slice A0_0 l0_0.length c0_0, .slice A0_1 l0_1.length c0_1, .slice A0_2 l0_2.length c0_2, .slice A0_3 l0_3.length c0_3, .slice A0_4 l0_4.length c0_4]) (t := 48) ?hr ?_; (case hd => rfl); (case hg => rfl); (case hr => first | (go_simp; done) | (go_simp; rfl)); intro gb216 hg w22 hbox hb; have n0_ := Az.mk (below_step (by repeat (first | (with_reducible first | exact HB.out | apply bal | apply bdN | apply bdr) | exact HB.out)) hb); have n1_ := Az.mk (hbox); have n2_ := Az.mk ((by rw [hg]; exact (below_size (by repeat (first | (with_reducible first | exact HB.out | apply bal | apply bdN | apply bdr) | exact HB.out))) : w.heap.size ≤ gb216)); have n3_ := Az.mk ((by rw [hg]; exact (below_size (by repeat (first | (with_reducible first | exact HB.out | apply bal | apply bdN | apply bdr) | exact HB.out))) : w.heap.size ≤ gb216)); clear HB; have HB := n0_; have BK216 := n1_; have GW216 := n2_; have GE216 := n3_; clear n0_ n1_ n2_ n3_; clear hb hbox hg) | ((with_reducible refine gate_dst (N := 3) rfl ?_); refine box_event ?hg (N := 3) ?hd (cs := #[.slice A1_0 l1_0.length c1_0, .slice A1_1 l1_1.length c1_1, .slice A1_2 l1_2.length c1_2, .slice A1_3 l1_3.length c1_3, .slice A1_4 l1_4.length c1_4]) (t := 48) ?hr ?_; (case hd => rfl); (case hg => rfl); (case hr => first | (go_simp; done) | (go_simp; rfl)); intro gb217 hg w23 hbox hb; have n0_ := Az.mk (blk_below (g := gb216) (o := .cells #[.slice A0_0 l0_0.length c0_0, .slice A0_1 l0_1.length c0_1, .slice A0_2 l0_2.length c0_2, .slice A0_3 l0_3.length c0_3, .slice A0_4 l0_4.length c0_4] 48 (0, 0)) (by (with_reducible repeat (first | refine blk_drewN ?_ _ | refine blk_drew ?_ | refine blk_alloc ?_ _)); exact BK216.out) hb); have n1_ := Az.mk (below_step (by repeat (first | (with_reducible first | exact HB.out | apply bal | apply bdN | apply bdr | refine bS ?_ GE216.out) | exact HB.out)) hb); have n2_ := Az.mk (hbox); have n3_ := Az.mk ((by rw [hg]; exact (below_size (by repeat (first | (with_reducible first | exact HB.out | apply bal | apply bdN | apply bdr | refine bS ?_ GE216.out) | exact HB.out))) : w.heap.size ≤ gb217)); have n4_ := Az.mk ((by rw [hg]; exact (below_size (by repeat (first | (with_reducible first | exact HB.out | apply bal | apply bdN | apply bdr | refine bS ?_ GE216.out) | exact HB.out))) : w.heap.size ≤ gb217)); have n5_ := Az.mk ((by rw [hg]; exact Nat.ne_of_lt (blk_lt (g := gb216) (o := .cells #[.slice A0_0 l0_0.length c0_0, .slice A0_1 l0_1.length c0_1, .slice A0_2 l0_2.length c0_2, .slice A0_3 l0_3.length c0_3, .slice A0_4 l0_4.length c0_4] 48 (0, 0)) (by (with_reducible repeat (first | refine blk_drewN ?_ _ | refine blk_drew ?_ | refine blk_alloc ?_ _)); exact BK216.out)) : gb216 ≠ gb217)); have n6_ := Az.mk ((by rw [hg]; exact Nat.ne_of_gt (blk_lt (g := gb216) (o := .cells #[.slice A0_0 l0_0.length c0_0, .slice A0_1 l0_1.length c0_1, .slice A0_2 l0_2.length c0_2, .slice A0_3 l0_3.length c0_3, .slice A0_4 l0_4.length c0_4] 48 (0, 0)) (by (with_reducible repeat (first | refine blk_drewN ?_ _ | refine blk_drew ?_ | refine blk_alloc ?_ _)); exact BK216.out)) : gb217 ≠ gb216)); clear BK216; clear HB; have BK216 := n0_; have HB := n1_; have BK217 := n2_; have GW217 := n3_; have GE217 := n4_; have NB216_217 := n5_; have NB217_216 := n6_; clear n0_ n1_ n2_ n3_ n4_ n5_ n6_; clear hb hbox hg; have hnb24 := NB216_217.out; have hnc24 := NB217_216.out; have hcz25_0 : w23.cell? ⟨gb216, 0, none⟩ = some (.slice A0_0 l0_0.length c0_0) := (bC BK216.out 0).trans rfl; have hcz25_1 : w23.cell? ⟨gb216, 1, none⟩ = some (.slice A0_1 l0_1.length c0_1) := (bC BK216.out 1).trans rfl; have hcz25_2 : w23.cell? ⟨gb216, 2, none⟩ = some (.slice A0_2 l0_2.length c0_2) := (bC BK216.out 2).trans rfl; have hcz25_3 : w23.cell? ⟨gb216, 3, none⟩ = some (.slice A0_3 l0_3.length c0_3) := (bC BK216.out 3).trans rfl; have hcz25_4 : w23.cell? ⟨gb216, 4, none⟩ = some (.slice A0_4 l0_4.length c0_4) := (bC BK216.out 4).trans rfl; have hfz25_0 := bF BK216.out 0; have hfz25_1 := bF BK216.out 1; have hfz25_2 := bF BK216.out 2; have hfz25_3 := bF BK216.out 3; have hfz25_4 := bF BK216.out 4; have hcz26_0 : w23.cell? ⟨gb217, 0, none⟩ = some (.slice A1_0 l1_0.length c1_0) := (bC BK217.out 0).trans rfl; have hcz26_1 : w23.cell? ⟨gb217, 1, none⟩ = some (.slice A1_1 l1_1.length c1_1) := (bC BK217.out 1).trans rfl; have hcz26_2 : w23.cell? ⟨gb217, 2, none⟩ = some (.slice A1_2 l1_2.length c1_2) := (bC BK217.out 2).trans rfl; have hcz26_3 : w23.cell? ⟨gb217, 3, none⟩ = some (.slice A1_3 l1_3.length c1_3) := (bC BK217.out 3).trans rfl; have hcz26_4 : w23.cell? ⟨gb217, 4, none⟩ = some (.slice A1_4 l1_4.length c1_4) := (bC BK217.out 4).trans rfl; have hfz26_0 := bF BK217.out 0; have hfz26_1 := bF BK217.out 1; have hfz26_2 := bF BK217.out 2; have hfz26_3 := bF BK217.out 3; have hfz26_4 := bF BK217.out 4) | ((with_reducible refine gate_callee (f := 70) rfl ?_); refine goesL_ (some 9) rfl rfl Try.func70 (by kernel_rfl) rfl #[.slice A0_0 l0_0.length c0_0, .slice A1_0 l1_0.length c1_0] rfl (by (try simp only [List.map_toArray, List.map_cons, List.map_nil]); first | done | rfl | (simp only [List.length_drop, List.length_take]; rfl)) ?_; (with_reducible refine (spec_sameNums.calls k _ _ l0_0 _ _ l1_0 true _ ?side1 ?side2 ?side3 ?side4 A3.out).mono ?_); (case side1 => repeat (first | exact (Kd.C_below HR0_0.out HB.out) | (with_reducible refine Kd.C_alloc ?_ _) | (with_reducible refine Kd.C_drewN ?_ _) | (with_reducible refine Kd.C_drew ?_))); (case side2 => exact HC0_0.out); (case side3 => repeat (first | exact (Kd.C_below HR1_0.out HB.out) | (with_reducible refine Kd.C_alloc ?_ _) | (with_reducible refine Kd.C_drewN ?_ _) | (with_reducible refine Kd.C_drew ?_))); (case side4 => exact HC1_0.out); rintro e w' ⟨rfl, ⟨nd, rfl⟩⟩; refine ⟨_, rfl, ?_⟩) | (go_at_call 70; (with_reducible refine (spec_sameNums.calls k _ _ l0_1 _ _ l1_1 true _ ?side1 ?side2 ?side3 ?side4 A5.out).mono ?_); (case side1 => repeat (first | exact (Kd.C_below HR0_1.out (by repeat (first | (with_reducible first | exact HB.out | apply bal | apply bdN | apply bdr | refine bS ?_ GE216.out | refine bS ?_ GE217.out) | exact HB.out))) | (with_reducible refine Kd.C_alloc ?_ _) | (with_reducible refine Kd.C_drewN ?_ _) | (with_reducible refine Kd.C_drew ?_))); (case side2 => exact HC0_1.out); (case side3 => repeat (first | exact (Kd.C_below HR1_1.out (by repeat (first | (with_reducible first | exact HB.out | apply bal | apply bdN | apply bdr | refine bS ?_ GE216.out | refine bS ?_ GE217.out) | exact HB.out))) | (with_reducible refine Kd.C_alloc ?_ _) | (with_reducible refine Kd.C_drewN ?_ _) | (with_reducible refine Kd.C_drew ?_))); (case side4 => exact HC1_1.out); rintro e w' ⟨rfl, ⟨nd, rfl⟩⟩) | (go_at_call 70; (with_reducible refine (spec_sameNums.calls k _ _ l0_2 _ _ l1_2 false _ ?side1 ?side2 ?side3 ?side4 A7.out).mono ?_); (case side1 => repeat (first | exact (Kd.C_below HR0_2.out (by repeat (first | (with_reducible first | exact HB.out | apply bal | apply bdN | apply bdr | refine bS ?_ GE216.out | refine bS ?_ GE217.out) | exact HB.out))) | (with_reducible refine Kd.C_alloc ?_ _) | (with_reducible refine Kd.C_drewN ?_ _) | (with_reducible refine Kd.C_drew ?_))); (case side2 => exact HC0_2.out); (case side3 => repeat (first | exact (Kd.C_below HR1_2.out (by repeat (first | (with_reducible first | exact HB.out | apply bal | apply bdN | apply bdr | refine bS ?_ GE216.out | refine bS ?_ GE217.out) | exact HB.out))) | (with_reducible refine Kd.C_alloc ?_ _) | (with_reducible refine Kd.C_drewN ?_ _) | (with_reducible refine Kd.C_drew ?_))); (case side4 => exact HC1_2.out); rintro e w' ⟨rfl, ⟨nd, rfl⟩⟩))
    go_ret
    exact ⟨by first | rfl | (simp [errW_none, errW_some] <;> rfl) | (simp [*, errW_none, errW_some] <;> rfl), by repeat (first | (with_reducible first | exact HB.out | apply bal | apply bdN | apply bdr | refine bS ?_ GE216.out | refine bS ?_ GE217.out) | exact HB.out)⟩
  ·replace c6 := Bool.eq_false_iff.mpr c6
   subst c6
   have H1 : (some false) = some r := by rw [if_neg (show ¬ (false = true) by decide)] at H; exact H
   clear H
   have H := H1
   clear H1
   obtain rfl := Option.some.inj H
   go_enter Try.func25, Try.ntmps25
   go_wp2_with (first | ((with_reducible refine gate_dst (N := 2) rfl ?_); refine box_event ?hg (N := 2) ?hd (cs := #[.slice A0_0 l0_0.length c0_0, .slice A0_1 l0_1.length c0_1, .slice A0_2 l0_2.length c0_2, .slice A0_3 l0_3.length c0_3, .slice A0_4 l0_4.length c0_4]) (t := 48) ?hr ?_; (case hd => rfl); (case hg => rfl); (case hr => first | (go_simp; done) | (go_simp; rfl)); intro gb216 hg w27 hbox hb; have n0_ := Az.mk (below_step (by repeat (first | (with_reducible first | exact HB.out | apply bal | apply bdN | apply bdr) | exact HB.out)) hb); have n1_ := Az.mk (hbox); have n2_ := Az.mk ((by rw [hg]; exact (below_size (by repeat (first | (with_reducible first | exact HB.out | apply bal | apply bdN | apply bdr) | exact HB.out))) : w.heap.size ≤ gb216)); have n3_ := Az.mk ((by rw [hg]; exact (below_size (by repeat (first | (with_reducible first | exact HB.out | apply bal | apply bdN | apply bdr) | exact HB.out))) : w.heap.size ≤ gb216)); clear HB; have HB := n0_; have BK216 := n1_; have GW216 := n2_; have GE216 := n3_; clear n0_ n1_ n2_ n3_; clear hb hbox hg) | ((with_reducible refine gate_dst (N := 3) rfl ?_); refine box_event ?hg (N := 3) ?hd (cs := #[.slice A1_0 l1_0.length c1_0, .slice A1_1 l1_1.length c1_1, .slice A1_2 l1_2.length c1_2, .slice A1_3 l1_3.length c1_3, .slice A1_4 l1_4.length c1_4]) (t := 48) ?hr ?_; (case hd => rfl); (case hg => rfl); (case hr => first | (go_simp; done) | (go_simp; rfl)); intro gb217 hg w28 hbox hb; have n0_ := Az.mk (blk_below (g := gb216) (o := .cells #[.slice A0_0 l0_0.length c0_0, .slice A0_1 l0_1.length c0_1, .slice A0_2 l0_2.length c0_2, .slice A0_3 l0_3.length c0_3, .slice A0_4 l0_4.length c0_4] 48 (0, 0)) (by (with_reducible repeat (first | refine blk_drewN ?_ _ | refine blk_drew ?_ | refine blk_alloc ?_ _)); exact BK216.out) hb); have n1_ := Az.mk (below_step (by repeat (first | (with_reducible first | exact HB.out | apply bal | apply bdN | apply bdr | refine bS ?_ GE216.out) | exact HB.out)) hb); have n2_ := Az.mk (hbox); have n3_ := Az.mk ((by rw [hg]; exact (below_size (by repeat (first | (with_reducible first | exact HB.out | apply bal | apply bdN | apply bdr | refine bS ?_ GE216.out) | exact HB.out))) : w.heap.size ≤ gb217)); have n4_ := Az.mk ((by rw [hg]; exact (below_size (by repeat (first | (with_reducible first | exact HB.out | apply bal | apply bdN | apply bdr | refine bS ?_ GE216.out) | exact HB.out))) : w.heap.size ≤ gb217)); have n5_ := Az.mk ((by rw [hg]; exact Nat.ne_of_lt (blk_lt (g := gb216) (o := .cells #[.slice A0_0 l0_0.length c0_0, .slice A0_1 l0_1.length c0_1, .slice A0_2 l0_2.length c0_2, .slice A0_3 l0_3.length c0_3, .slice A0_4 l0_4.length c0_4] 48 (0, 0)) (by (with_reducible repeat (first | refine blk_drewN ?_ _ | refine blk_drew ?_ | refine blk_alloc ?_ _)); exact BK216.out)) : gb216 ≠ gb217)); have n6_ := Az.mk ((by rw [hg]; exact Nat.ne_of_gt (blk_lt (g := gb216) (o := .cells #[.slice A0_0 l0_0.length c0_0, .slice A0_1 l0_1.length c0_1, .slice A0_2 l0_2.length c0_2, .slice A0_3 l0_3.length c0_3, .slice A0_4 l0_4.length c0_4] 48 (0, 0)) (by (with_reducible repeat (first | refine blk_drewN ?_ _ | refine blk_drew ?_ | refine blk_alloc ?_ _)); exact BK216.out)) : gb217 ≠ gb216)); clear BK216; clear HB; have BK216 := n0_; have HB := n1_; have BK217 := n2_; have GW217 := n3_; have GE217 := n4_; have NB216_217 := n5_; have NB217_216 := n6_; clear n0_ n1_ n2_ n3_ n4_ n5_ n6_; clear hb hbox hg; have hnb29 := NB216_217.out; have hnc29 := NB217_216.out; have hcz30_0 : w28.cell? ⟨gb216, 0, none⟩ = some (.slice A0_0 l0_0.length c0_0) := (bC BK216.out 0).trans rfl; have hcz30_1 : w28.cell? ⟨gb216, 1, none⟩ = some (.slice A0_1 l0_1.length c0_1) := (bC BK216.out 1).trans rfl; have hcz30_2 : w28.cell? ⟨gb216, 2, none⟩ = some (.slice A0_2 l0_2.length c0_2) := (bC BK216.out 2).trans rfl; have hcz30_3 : w28.cell? ⟨gb216, 3, none⟩ = some (.slice A0_3 l0_3.length c0_3) := (bC BK216.out 3).trans rfl; have hcz30_4 : w28.cell? ⟨gb216, 4, none⟩ = some (.slice A0_4 l0_4.length c0_4) := (bC BK216.out 4).trans rfl; have hfz30_0 := bF BK216.out 0; have hfz30_1 := bF BK216.out 1; have hfz30_2 := bF BK216.out 2; have hfz30_3 := bF BK216.out 3; have hfz30_4 := bF BK216.out 4; have hcz31_0 : w28.cell? ⟨gb217, 0, none⟩ = some (.slice A1_0 l1_0.length c1_0) := (bC BK217.out 0).trans rfl; have hcz31_1 : w28.cell? ⟨gb217, 1, none⟩ = some (.slice A1_1 l1_1.length c1_1) := (bC BK217.out 1).trans rfl; have hcz31_2 : w28.cell? ⟨gb217, 2, none⟩ = some (.slice A1_2 l1_2.length c1_2) := (bC BK217.out 2).trans rfl; have hcz31_3 : w28.cell? ⟨gb217, 3, none⟩ = some (.slice A1_3 l1_3.length c1_3) := (bC BK217.out 3).trans rfl; have hcz31_4 : w28.cell? ⟨gb217, 4, none⟩ = some (.slice A1_4 l1_4.length c1_4) := (bC BK217.out 4).trans rfl; have hfz31_0 := bF BK217.out 0; have hfz31_1 := bF BK217.out 1; have hfz31_2 := bF BK217.out 2; have hfz31_3 := bF BK217.out 3; have hfz31_4 := bF BK217.out 4) | ((with_reducible refine gate_callee (f := 70) rfl ?_); refine goesL_ (some 9) rfl rfl Try.func70 (by kernel_rfl) rfl #[.slice A0_0 l0_0.length c0_0, .slice A1_0 l1_0.length c1_0] rfl (by (try simp only [List.map_toArray, List.map_cons, List.map_nil]); first | done | rfl | (simp only [List.length_drop, List.length_take]; rfl)) ?_; (with_reducible refine (spec_sameNums.calls k _ _ l0_0 _ _ l1_0 true _ ?side1 ?side2 ?side3 ?side4 A3.out).mono ?_); (case side1 => repeat (first | exact (Kd.C_below HR0_0.out HB.out) | (with_reducible refine Kd.C_alloc ?_ _) | (with_reducible refine Kd.C_drewN ?_ _) | (with_reducible refine Kd.C_drew ?_))); (case side2 => exact HC0_0.out); (case side3 => repeat (first | exact (Kd.C_below HR1_0.out HB.out) | (with_reducible refine Kd.C_alloc ?_ _) | (with_reducible refine Kd.C_drewN ?_ _) | (with_reducible refine Kd.C_drew ?_))); (case side4 => exact HC1_0.out); rintro e w' ⟨rfl, ⟨nd, rfl⟩⟩; refine ⟨_, rfl, ?_⟩) | (go_at_call 70; (with_reducible refine (spec_sameNums.calls k _ _ l0_1 _ _ l1_1 false _ ?side1 ?side2 ?side3 ?side4 A5.out).mono ?_); (case side1 => repeat (first | exact (Kd.C_below HR0_1.out (by repeat (first | (with_reducible first | exact HB.out | apply bal | apply bdN | apply bdr | refine bS ?_ GE216.out | refine bS ?_ GE217.out) | exact HB.out))) | (with_reducible refine Kd.C_alloc ?_ _) | (with_reducible refine Kd.C_drewN ?_ _) | (with_reducible refine Kd.C_drew ?_))); (case side2 => exact HC0_1.out); (case side3 => repeat (first | exact (Kd.C_below HR1_1.out (by repeat (first | (with_reducible first | exact HB.out | apply bal | apply bdN | apply bdr | refine bS ?_ GE216.out | refine bS ?_ GE217.out) | exact HB.out))) | (with_reducible refine Kd.C_alloc ?_ _) | (with_reducible refine Kd.C_drewN ?_ _) | (with_reducible refine Kd.C_drew ?_))); (case side4 => exact HC1_1.out); rintro e w' ⟨rfl, ⟨nd, rfl⟩⟩))
   go_ret
   exact ⟨by first | rfl | (simp [errW_none, errW_some] <;> rfl) | (simp [*, errW_none, errW_some] <;> rfl), by repeat (first | (with_reducible first | exact HB.out | apply bal | apply bdN | apply bdr | refine bS ?_ GE216.out | refine bS ?_ GE217.out) | exact HB.out)⟩
 ·replace c4 := Bool.eq_false_iff.mpr c4
  subst c4
  have H1 : (some false) = some r := by rw [if_neg (show ¬ (false = true) by decide)] at H; exact H
  clear H
  have H := H1
  clear H1
  obtain rfl := Option.some.inj H
  go_enter Try.func25, Try.ntmps25
  go_wp2_with (first | ((with_reducible refine gate_dst (N := 2) rfl ?_); refine box_event ?hg (N := 2) ?hd (cs := #[.slice A0_0 l0_0.length c0_0, .slice A0_1 l0_1.length c0_1, .slice A0_2 l0_2.length c0_2, .slice A0_3 l0_3.length c0_3, .slice A0_4 l0_4.length c0_4]) (t := 48) ?hr ?_; (case hd => rfl); (case hg => rfl); (case hr => first | (go_simp; done) | (go_simp; rfl)); intro gb216 hg w32 hbox hb; have n0_ := Az.mk (below_step (by repeat (first | (with_reducible first | exact HB.out | apply bal | apply bdN | apply bdr) | exact HB.out)) hb); have n1_ := Az.mk (hbox); have n2_ := Az.mk ((by rw [hg]; exact (below_size (by repeat (first | (with_reducible first | exact HB.out | apply bal | apply bdN | apply bdr) | exact HB.out))) : w.heap.size ≤ gb216)); have n3_ := Az.mk ((by rw [hg]; exact (below_size (by repeat (first | (with_reducible first | exact HB.out | apply bal | apply bdN | apply bdr) | exact HB.out))) : w.heap.size ≤ gb216)); clear HB; have HB := n0_; have BK216 := n1_; have GW216 := n2_; have GE216 := n3_; clear n0_ n1_ n2_ n3_; clear hb hbox hg) | ((with_reducible refine gate_dst (N := 3) rfl ?_); refine box_event ?hg (N := 3) ?hd (cs := #[.slice A1_0 l1_0.length c1_0, .slice A1_1 l1_1.length c1_1, .slice A1_2 l1_2.length c1_2, .slice A1_3 l1_3.length c1_3, .slice A1_4 l1_4.length c1_4]) (t := 48) ?hr ?_; (case hd => rfl); (case hg => rfl); (case hr => first | (go_simp; done) | (go_simp; rfl)); intro gb217 hg w33 hbox hb; have n0_ := Az.mk (blk_below (g := gb216) (o := .cells #[.slice A0_0 l0_0.length c0_0, .slice A0_1 l0_1.length c0_1, .slice A0_2 l0_2.length c0_2, .slice A0_3 l0_3.length c0_3, .slice A0_4 l0_4.length c0_4] 48 (0, 0)) (by (with_reducible repeat (first | refine blk_drewN ?_ _ | refine blk_drew ?_ | refine blk_alloc ?_ _)); exact BK216.out) hb); have n1_ := Az.mk (below_step (by repeat (first | (with_reducible first | exact HB.out | apply bal | apply bdN | apply bdr | refine bS ?_ GE216.out) | exact HB.out)) hb); have n2_ := Az.mk (hbox); have n3_ := Az.mk ((by rw [hg]; exact (below_size (by repeat (first | (with_reducible first | exact HB.out | apply bal | apply bdN | apply bdr | refine bS ?_ GE216.out) | exact HB.out))) : w.heap.size ≤ gb217)); have n4_ := Az.mk ((by rw [hg]; exact (below_size (by repeat (first | (with_reducible first | exact HB.out | apply bal | apply bdN | apply bdr | refine bS ?_ GE216.out) | exact HB.out))) : w.heap.size ≤ gb217)); have n5_ := Az.mk ((by rw [hg]; exact Nat.ne_of_lt (blk_lt (g := gb216) (o := .cells #[.slice A0_0 l0_0.length c0_0, .slice A0_1 l0_1.length c0_1, .slice A0_2 l0_2.length c0_2, .slice A0_3 l0_3.length c0_3, .slice A0_4 l0_4.length c0_4] 48 (0, 0)) (by (with_reducible repeat (first | refine blk_drewN ?_ _ | refine blk_drew ?_ | refine blk_alloc ?_ _)); exact BK216.out)) : gb216 ≠ gb217)); have n6_ := Az.mk ((by rw [hg]; exact Nat.ne_of_gt (blk_lt (g := gb216) (o := .cells #[.slice A0_0 l0_0.length c0_0, .slice A0_1 l0_1.length c0_1, .slice A0_2 l0_2.length c0_2, .slice A0_3 l0_3.length c0_3, .slice A0_4 l0_4.length c0_4] 48 (0, 0)) (by (with_reducible repeat (first | refine blk_drewN ?_ _ | refine blk_drew ?_ | refine blk_alloc ?_ _)); exact BK216.out)) : gb217 ≠ gb216)); clear BK216; clear HB; have BK216 := n0_; have HB := n1_; have BK217 := n2_; have GW217 := n3_; have GE217 := n4_; have NB216_217 := n5_; have NB217_216 := n6_; clear n0_ n1_ n2_ n3_ n4_ n5_ n6_; clear hb hbox hg; have hnb34 := NB216_217.out; have hnc34 := NB217_216.out; have hcz35_0 : w33.cell? ⟨gb216, 0, none⟩ = some (.slice A0_0 l0_0.length c0_0) := (bC BK216.out 0).trans rfl; have hcz35_1 : w33.cell? ⟨gb216, 1, none⟩ = some (.slice A0_1 l0_1.length c0_1) := (bC BK216.out 1).trans rfl; have hcz35_2 : w33.cell? ⟨gb216, 2, none⟩ = some (.slice A0_2 l0_2.length c0_2) := (bC BK216.out 2).trans rfl; have hcz35_3 : w33.cell? ⟨gb216, 3, none⟩ = some (.slice A0_3 l0_3.length c0_3) := (bC BK216.out 3).trans rfl; have hcz35_4 : w33.cell? ⟨gb216, 4, none⟩ = some (.slice A0_4 l0_4.length c0_4) := (bC BK216.out 4).trans rfl; have hfz35_0 := bF BK216.out 0; have hfz35_1 := bF BK216.out 1; have hfz35_2 := bF BK216.out 2; have hfz35_3 := bF BK216.out 3; have hfz35_4 := bF BK216.out 4; have hcz36_0 : w33.cell? ⟨gb217, 0, none⟩ = some (.slice A1_0 l1_0.length c1_0) := (bC BK217.out 0).trans rfl; have hcz36_1 : w33.cell? ⟨gb217, 1, none⟩ = some (.slice A1_1 l1_1.length c1_1) := (bC BK217.out 1).trans rfl; have hcz36_2 : w33.cell? ⟨gb217, 2, none⟩ = some (.slice A1_2 l1_2.length c1_2) := (bC BK217.out 2).trans rfl; have hcz36_3 : w33.cell? ⟨gb217, 3, none⟩ = some (.slice A1_3 l1_3.length c1_3) := (bC BK217.out 3).trans rfl; have hcz36_4 : w33.cell? ⟨gb217, 4, none⟩ = some (.slice A1_4 l1_4.length c1_4) := (bC BK217.out 4).trans rfl; have hfz36_0 := bF BK217.out 0; have hfz36_1 := bF BK217.out 1; have hfz36_2 := bF BK217.out 2; have hfz36_3 := bF BK217.out 3; have hfz36_4 := bF BK217.out 4) | ((with_reducible refine gate_callee (f := 70) rfl ?_); refine goesL_ (some 9) rfl rfl Try.func70 (by kernel_rfl) rfl #[.slice A0_0 l0_0.length c0_0, .slice A1_0 l1_0.length c1_0] rfl (by (try simp only [List.map_toArray, List.map_cons, List.map_nil]); first | done | rfl | (simp only [List.length_drop, List.length_take]; rfl)) ?_; (with_reducible refine (spec_sameNums.calls k _ _ l0_0 _ _ l1_0 false _ ?side1 ?side2 ?side3 ?side4 A3.out).mono ?_); (case side1 => repeat (first | exact (Kd.C_below HR0_0.out HB.out) | (with_reducible refine Kd.C_alloc ?_ _) | (with_reducible refine Kd.C_drewN ?_ _) | (with_reducible refine Kd.C_drew ?_))); (case side2 => exact HC0_0.out); (case side3 => repeat (first | exact (Kd.C_below HR1_0.out HB.out) | (with_reducible refine Kd.C_alloc ?_ _) | (with_reducible refine Kd.C_drewN ?_ _) | (with_reducible refine Kd.C_drew ?_))); (case side4 => exact HC1_0.out); rintro e w' ⟨rfl, ⟨nd, rfl⟩⟩; refine ⟨_, rfl, ?_⟩))
  go_ret
  exact ⟨by first | rfl | (simp [errW_none, errW_some] <;> rfl) | (simp [*, errW_none, errW_some] <;> rfl), by repeat (first | (with_reducible first | exact HB.out | apply bal | apply bdN | apply bdr | refine bS ?_ GE216.out | refine bS ?_ GE217.out) | exact HB.out)⟩
def spec_inRange.f (a0 : Int) (a1 : Int) (a2 : Int) : Option (Bool) := if a0 ≥ a1 then (some (decide (a0 ≤ a2))) else (some false)
theorem spec_inRange.calls (a0 : Int) (a1 : Int) (a2 : Int) (r : Bool) (w : World) (h : spec_inRange.f a0 a1 a2 = some r) :
  Calls Try.prog 54 #[.int .i64 a0, .int .i64 a1, .int .i64 a2] w fun e w' => e = .returned (.bool r) ∧ Drawn0 w w' := by
 have H : (if a0 ≥ a1 then (some (decide (a0 ≤ a2))) else (some false)) = some r := h
 clear h
 by_cases c4 : a0 ≥ a1
 ·rw [if_pos c4] at H
  have c4b0 : decide (a1 ≤ a0) = true := decide_eq_true c4
  clear c4
  obtain rfl := Option.some.inj H
  go_enter Try.func54, Try.ntmps54
  go_wp2
  go_ret
  exact ⟨by first | rfl | (simp; done) | (simp [*]; done), by repeat (first | exact Drawn0.refl _ | apply Drawn0.step)⟩
 ·rw [if_neg c4] at H
  have c4b0 : decide (a1 ≤ a0) = false := decide_eq_false c4
  clear c4
  obtain rfl := Option.some.inj H
  go_enter Try.func54, Try.ntmps54
  go_wp2
  go_ret
  exact ⟨by first | rfl | (simp; done) | (simp [*]; done), by repeat (first | exact Drawn0.refl _ | apply Drawn0.step)⟩
def spec_letter.f (a0 : Int) : Option (Bool) := if a0 ≥ 97 then (if a0 ≤ 122 then (some true) else (if a0 ≥ 65 then (if a0 ≤ 90 then (some true) else (some (a0 == 95))) else (some (a0 == 95)))) else (if a0 ≥ 65 then (if a0 ≤ 90 then (some true) else (some (a0 == 95))) else (some (a0 == 95)))
theorem spec_letter.calls (a0 : Int) (r : Bool) (w : World) (h : spec_letter.f a0 = some r) :
  Calls Try.prog 124 #[.int .u8 a0] w fun e w' => e = .returned (.bool r) ∧ Drawn0 w w' := by
 have H : (if a0 ≥ 97 then (if a0 ≤ 122 then (some true) else (if a0 ≥ 65 then (if a0 ≤ 90 then (some true) else (some (a0 == 95))) else (some (a0 == 95)))) else (if a0 ≥ 65 then (if a0 ≤ 90 then (some true) else (some (a0 == 95))) else (some (a0 == 95)))) = some r := h
 clear h
 by_cases c2 : a0 ≥ 97
 ·rw [if_pos c2] at H
  have c2b0 : decide (97 ≤ a0) = true := decide_eq_true c2
  clear c2
  by_cases c3 : a0 ≤ 122
  ·rw [if_pos c3] at H
   have c3b0 : decide (a0 ≤ 122) = true := decide_eq_true c3
   clear c3
   obtain rfl := Option.some.inj H
   go_enter Try.func124, Try.ntmps124
   go_wp2
   go_ret
   exact ⟨by first | rfl | (simp; done) | (simp [*]; done), by repeat (first | exact Drawn0.refl _ | apply Drawn0.step)⟩
  ·rw [if_neg c3] at H
   have c3b0 : decide (a0 ≤ 122) = false := decide_eq_false c3
   clear c3
   by_cases c4 : a0 ≥ 65
   ·rw [if_pos c4] at H
    have c4b0 : decide (65 ≤ a0) = true := decide_eq_true c4
    clear c4
    by_cases c5 : a0 ≤ 90
    ·rw [if_pos c5] at H
     have c5b0 : decide (a0 ≤ 90) = true := decide_eq_true c5
     clear c5
     obtain rfl := Option.some.inj H
     go_enter Try.func124, Try.ntmps124
     go_wp2
     go_ret
     exact ⟨by first | rfl | (simp; done) | (simp [*]; done), by repeat (first | exact Drawn0.refl _ | apply Drawn0.step)⟩
    ·rw [if_neg c5] at H
     have c5b0 : decide (a0 ≤ 90) = false := decide_eq_false c5
     clear c5
     obtain rfl := Option.some.inj H
     go_enter Try.func124, Try.ntmps124
     go_wp2
     go_ret
     exact ⟨by first | rfl | (simp; done) | (simp [*]; done), by repeat (first | exact Drawn0.refl _ | apply Drawn0.step)⟩
   ·rw [if_neg c4] at H
    have c4b0 : decide (65 ≤ a0) = false := decide_eq_false c4
    clear c4
    obtain rfl := Option.some.inj H
    go_enter Try.func124, Try.ntmps124
    go_wp2
    go_ret
    exact ⟨by first | rfl | (simp; done) | (simp [*]; done), by repeat (first | exact Drawn0.refl _ | apply Drawn0.step)⟩
 ·rw [if_neg c2] at H
  have c2b0 : decide (97 ≤ a0) = false := decide_eq_false c2
  clear c2
  by_cases c6 : a0 ≥ 65
  ·rw [if_pos c6] at H
   have c6b0 : decide (65 ≤ a0) = true := decide_eq_true c6
   clear c6
   by_cases c7 : a0 ≤ 90
   ·rw [if_pos c7] at H
    have c7b0 : decide (a0 ≤ 90) = true := decide_eq_true c7
    clear c7
    obtain rfl := Option.some.inj H
    go_enter Try.func124, Try.ntmps124
    go_wp2
    go_ret
    exact ⟨by first | rfl | (simp; done) | (simp [*]; done), by repeat (first | exact Drawn0.refl _ | apply Drawn0.step)⟩
   ·rw [if_neg c7] at H
    have c7b0 : decide (a0 ≤ 90) = false := decide_eq_false c7
    clear c7
    obtain rfl := Option.some.inj H
    go_enter Try.func124, Try.ntmps124
    go_wp2
    go_ret
    exact ⟨by first | rfl | (simp; done) | (simp [*]; done), by repeat (first | exact Drawn0.refl _ | apply Drawn0.step)⟩
  ·rw [if_neg c6] at H
   have c6b0 : decide (65 ≤ a0) = false := decide_eq_false c6
   clear c6
   obtain rfl := Option.some.inj H
   go_enter Try.func124, Try.ntmps124
   go_wp2
   go_ret
   exact ⟨by first | rfl | (simp; done) | (simp [*]; done), by repeat (first | exact Drawn0.refl _ | apply Drawn0.step)⟩
def spec_digit.f (a0 : Int) : Option (Bool) := if a0 ≥ 48 then (some (decide (a0 ≤ 57))) else (some false)
theorem spec_digit.calls (a0 : Int) (r : Bool) (w : World) (h : spec_digit.f a0 = some r) :
  Calls Try.prog 125 #[.int .u8 a0] w fun e w' => e = .returned (.bool r) ∧ Drawn0 w w' := by
 have H : (if a0 ≥ 48 then (some (decide (a0 ≤ 57))) else (some false)) = some r := h
 clear h
 by_cases c2 : a0 ≥ 48
 ·rw [if_pos c2] at H
  have c2b0 : decide (48 ≤ a0) = true := decide_eq_true c2
  clear c2
  obtain rfl := Option.some.inj H
  go_enter Try.func125, Try.ntmps125
  go_wp2
  go_ret
  exact ⟨by first | rfl | (simp; done) | (simp [*]; done), by repeat (first | exact Drawn0.refl _ | apply Drawn0.step)⟩
 ·rw [if_neg c2] at H
  have c2b0 : decide (48 ≤ a0) = false := decide_eq_false c2
  clear c2
  obtain rfl := Option.some.inj H
  go_enter Try.func125, Try.ntmps125
  go_wp2
  go_ret
  exact ⟨by first | rfl | (simp; done) | (simp [*]; done), by repeat (first | exact Drawn0.refl _ | apply Drawn0.step)⟩
end Go.Proofs.Ytehhhlhedmfdiaa.PFnImportOrder
end
section
namespace Go.Proofs.Ytehhhlhedmfdiaa.PFnImportOrder
open Go.RowKit Go.Proofs.Yz0.PrintWords Go.Proofs.Yz0.PrintLast Go.Proofs.Yz0.PrintMore
attribute [local go_sem] max2_int min2_int max_two min_two max_three min_three max_four min_four
set_option linter.unusedVariables false
set_option linter.unusedSimpArgs false
def spec_validIndices.l0 : Nat → List Int → Int → Int → Option (Bool)
 | 0, _, _, _ => none
 | k + 1, x0, x1, x5 => if x5 < (x0.length : Int) then (if 0 ≤ x5 then ((spec_inRange.f (rd x0 x5) 0 (wrap64 (x1 - 1))).bind fun t245 => (if t245 = true then (spec_validIndices.l0 k x0 x1 (wrap64 (x5 + 1))) else (some false))) else (none)) else (some (decide ((x0.length : Int) ≤ 60)))
def spec_validIndices.f (k : Nat) (l0 : List Int) (a1 : Int) : Option (Bool) := spec_validIndices.l0 k l0 a1 0
theorem spec_validIndices.calls (k : Nat) (A0 : Option Addr) (c0 : Nat) (l0 : List Int) (a1 : Int) (r : Bool) (w : World) (hr0 : Kd.C (Kd.int .i64) w A0 l0.length l0) (hc0 : l0.length ≤ c0) (h : spec_validIndices.f k l0 a1 = some r) :
  Calls Try.prog 72 #[.slice A0 l0.length c0, .int .i64 a1] w fun e w' => e = .returned (.bool r) ∧ Drawn0 w w' := by
 have HR0 := Az.mk hr0
 have HC0 := Az.mk hc0
 clear hr0 hc0
 have H : (spec_validIndices.l0 k l0 a1 0) = some r := h
 clear h
 have H' := Az.mk H
 clear H
 go_enter Try.func72, Try.ntmps72
 go_wp2
 go_loopg [5] k (fun kq v5 w' => ∃ (x5_1 : Int), v5 = .int .i64 x5_1 ∧ Az (spec_validIndices.l0 kq l0 a1 x5_1 = some r) ∧ Az (kq ≤ k) ∧ Drawn0 w w')
 case atStart => exact ⟨(0), (by first | rfl | (simp; done) | (simp [*]; done)), H', ⟨Nat.le_refl _⟩, by repeat (first | exact Drawn0.refl _ | apply Drawn0.step)⟩
 case round =>
  clear H'
  try clear p2
  obtain ⟨x5_1, rfl, HA, HK1, ⟨m1, rfl⟩⟩ := hrel
  cases gk with
  | zero => exact absurd HA.out (by simp [spec_validIndices.l0])
  | succ k1 =>
   have H := HA.out
   clear HA
   simp only [spec_validIndices.l0] at H
   by_cases c3 : x5_1 < (l0.length : Int)
   ·rw [if_pos c3] at H
    have c3b0 : decide (x5_1 < (l0.length : Int)) = true := decide_eq_true c3
    clear c3
    by_cases c4 : 0 ≤ x5_1
    ·rw [if_pos c4] at H
     have c4b0 : decide (0 ≤ x5_1) = true := decide_eq_true c4
     clear c4
     replace H := Option.bind_eq_some_iff.mp H
     obtain ⟨t245, A50, H⟩ := H
     replace H : (if t245 = true then (spec_validIndices.l0 k1 l0 a1 (wrap64 (x5_1 + 1))) else (some false)) = some r := H
     have A5 := Az.mk A50
     clear A50
     by_cases c6 : t245 = true
     ·subst c6
      have H1 : (spec_validIndices.l0 k1 l0 a1 (wrap64 (x5_1 + 1))) = some r := by rw [if_pos rfl] at H; exact H
      clear H
      have H := H1
      clear H1
      have H' := Az.mk H
      clear H
      have p244 : 0 ≤ (x5_1 : Int) := of_decide_eq_true (by first | (with_reducible assumption) | assumption)
      have q244 : x5_1 < (l0.length : Int) := of_decide_eq_true (by first | (with_reducible assumption) | assumption)
      obtain ⟨ad244, e244, hx244_0⟩ := Kd.at_int HR0.out x5_1 p244 q244
      cases e244
      replace p244 := eq_true p244
      replace q244 := eq_true q244
      go_wp2_with (first | ((with_reducible refine gate_callee (f := 54) rfl ?_); refine goesL_ (some 18) rfl rfl Try.func54 (by kernel_rfl) rfl #[.int .i64 (rd l0 x5_1), .int .i64 0, .int .i64 (wrap64 (a1 - 1))] rfl (by (try simp only [List.map_toArray, List.map_cons, List.map_nil]); first | done | rfl | (simp only [List.length_drop, List.length_take]; rfl)) ?_; (with_reducible refine (spec_inRange.calls (rd l0 x5_1) 0 (wrap64 (a1 - 1)) true _ A5.out).mono ?_); rintro e w' ⟨rfl, ⟨nd, rfl⟩⟩; refine ⟨_, rfl, ?_⟩))
      go_roundg k1
      case measure => have := HK1.out; omega
      case rel => exact ⟨(wrap64 (x5_1 + 1)), (by first | rfl | (simp; done) | (simp [*]; done)), H', ⟨by have := HK1.out; omega⟩, by repeat (first | exact Drawn0.refl _ | apply Drawn0.step)⟩
     ·replace c6 := Bool.eq_false_iff.mpr c6
      subst c6
      have H1 : (some false) = some r := by rw [if_neg (show ¬ (false = true) by decide)] at H; exact H
      clear H
      have H := H1
      clear H1
      obtain rfl := Option.some.inj H
      have p244 : 0 ≤ (x5_1 : Int) := of_decide_eq_true (by first | (with_reducible assumption) | assumption)
      have q244 : x5_1 < (l0.length : Int) := of_decide_eq_true (by first | (with_reducible assumption) | assumption)
      obtain ⟨ad244, e244, hx244_0⟩ := Kd.at_int HR0.out x5_1 p244 q244
      cases e244
      replace p244 := eq_true p244
      replace q244 := eq_true q244
      go_wp2_with (first | ((with_reducible refine gate_callee (f := 54) rfl ?_); refine goesL_ (some 18) rfl rfl Try.func54 (by kernel_rfl) rfl #[.int .i64 (rd l0 x5_1), .int .i64 0, .int .i64 (wrap64 (a1 - 1))] rfl (by (try simp only [List.map_toArray, List.map_cons, List.map_nil]); first | done | rfl | (simp only [List.length_drop, List.length_take]; rfl)) ?_; (with_reducible refine (spec_inRange.calls (rd l0 x5_1) 0 (wrap64 (a1 - 1)) false _ A5.out).mono ?_); rintro e w' ⟨rfl, ⟨nd, rfl⟩⟩; refine ⟨_, rfl, ?_⟩))
      go_ret
      exact ⟨by first | rfl | (simp; done) | (simp [*]; done), by repeat (first | exact Drawn0.refl _ | apply Drawn0.step)⟩
    ·rw [if_neg c4] at H
     exact absurd H (by simp)
   ·rw [if_neg c3] at H
    have c3b0 : decide (x5_1 < (l0.length : Int)) = false := decide_eq_false c3
    clear c3
    obtain rfl := Option.some.inj H
    go_wp2
    go_ret
    exact ⟨by first | rfl | (simp; done) | (simp [*]; done), by repeat (first | exact Drawn0.refl _ | apply Drawn0.step)⟩
def spec_find.l0 : Nat → List (S177) → ByteArray → Int → Option (Int)
 | 0, _, _, _ => none
 | k + 1, x0, x1, x5 => if x5 < (x0.length : Int) then (if 0 ≤ x5 then (if ((rd_T177 x0 x5).f0).toList = x1.toList then (some x5) else (spec_find.l0 k x0 x1 (wrap64 (x5 + 1)))) else (none)) else (some (-1))
def spec_find.f (k : Nat) (l0 : List (S177)) (a1 : ByteArray) : Option (Int) := spec_find.l0 k l0 a1 0
theorem spec_find.calls (k : Nat) (A0 : Option Addr) (c0 : Nat) (l0 : List (S177)) (a1 : ByteArray) (r : Int) (w : World) (hr0 : Kd.C k177 w A0 l0.length l0) (hc0 : l0.length ≤ c0) (h : spec_find.f k l0 a1 = some r) :
  Calls Try.prog 144 #[.slice A0 l0.length c0, .string a1] w fun e w' => e = .returned (.int .i64 r) ∧ Drawn0 w w' := by
 have HR0 := Az.mk hr0
 have HC0 := Az.mk hc0
 clear hr0 hc0
 have H : (spec_find.l0 k l0 a1 0) = some r := h
 clear h
 have H' := Az.mk H
 clear H
 go_enter Try.func144, Try.ntmps144
 go_wp2
 go_loopg [5] k (fun kq v5 w' => ∃ (x5_1 : Int), v5 = .int .i64 x5_1 ∧ Az (spec_find.l0 kq l0 a1 x5_1 = some r) ∧ Az (kq ≤ k) ∧ Drawn0 w w')
 case atStart => exact ⟨(0), (by first | rfl | (simp; done) | (simp [*]; done)), H', ⟨Nat.le_refl _⟩, by repeat (first | exact Drawn0.refl _ | apply Drawn0.step)⟩
 case round =>
  clear H'
  try clear c1
  try clear p2
  obtain ⟨x5_1, rfl, HA, HK1, ⟨m1, rfl⟩⟩ := hrel
  cases gk with
  | zero => exact absurd HA.out (by simp [spec_find.l0])
  | succ k1 =>
   have H := HA.out
   clear HA
   simp only [spec_find.l0] at H
   by_cases c3 : x5_1 < (l0.length : Int)
   ·rw [if_pos c3] at H
    have c3b0 : decide (x5_1 < (l0.length : Int)) = true := decide_eq_true c3
    clear c3
    by_cases c4 : 0 ≤ x5_1
    ·rw [if_pos c4] at H
     have c4b0 : decide (0 ≤ x5_1) = true := decide_eq_true c4
     clear c4
     by_cases c5 : ((rd_T177 l0 x5_1).f0).toList = a1.toList
     ·rw [if_pos c5] at H
      have c5b0 : (((rd_T177 l0 x5_1).f0).toList == a1.toList) = true := beq_iff_eq.mpr c5
      have c5b1 : (((rd_T177 l0 x5_1).f0).toList != a1.toList) = false := bne_eq_false_iff_eq.mpr c5
      clear c5
      obtain rfl := Option.some.inj H
      have p246 : 0 ≤ (x5_1 : Int) := of_decide_eq_true (by first | (with_reducible assumption) | assumption)
      have q246 : x5_1 < (l0.length : Int) := of_decide_eq_true (by first | (with_reducible assumption) | assumption)
      obtain ⟨ad246, e246, hx246_0, hx246_1, hx246_2, hx246_3, hx246_4⟩ := at_T177 HR0.out x5_1 p246 q246
      cases e246
      replace p246 := eq_true p246
      replace q246 := eq_true q246
      go_wp2
      go_ret
      exact ⟨by first | rfl | (simp; done) | (simp [*]; done), by repeat (first | exact Drawn0.refl _ | apply Drawn0.step)⟩
     ·rw [if_neg c5] at H
      have c5b0 : (((rd_T177 l0 x5_1).f0).toList == a1.toList) = false := beq_eq_false_iff_ne.mpr c5
      have c5b1 : (((rd_T177 l0 x5_1).f0).toList != a1.toList) = true := bne_iff_ne.mpr c5
      have H' := Az.mk H
      clear H
      have p246 : 0 ≤ (x5_1 : Int) := of_decide_eq_true (by first | (with_reducible assumption) | assumption)
      have q246 : x5_1 < (l0.length : Int) := of_decide_eq_true (by first | (with_reducible assumption) | assumption)
      obtain ⟨ad246, e246, hx246_0, hx246_1, hx246_2, hx246_3, hx246_4⟩ := at_T177 HR0.out x5_1 p246 q246
      cases e246
      replace p246 := eq_true p246
      replace q246 := eq_true q246
      go_wp2
      go_roundg k1
      case measure => have := HK1.out; omega
      case rel => exact ⟨(wrap64 (x5_1 + 1)), (by first | rfl | (simp; done) | (simp [*]; done)), H', ⟨by have := HK1.out; omega⟩, by repeat (first | exact Drawn0.refl _ | apply Drawn0.step)⟩
    ·rw [if_neg c4] at H
     exact absurd H (by simp)
   ·rw [if_neg c3] at H
    have c3b0 : decide (x5_1 < (l0.length : Int)) = false := decide_eq_false c3
    clear c3
    obtain rfl := Option.some.inj H
    go_wp2
    go_ret
    exact ⟨by first | rfl | (simp; done) | (simp [*]; done), by repeat (first | exact Drawn0.refl _ | apply Drawn0.step)⟩
def spec_put.f (k : Nat) (l0 : List (S177)) (a1 : ByteArray) (a2_0 : Int) (a2_1 : ByteArray) (a2_2 : Int) : Option ((List (S177))) := (spec_find.f k l0 a1).bind fun t248 => (if t248 < 0 then (if l0.length < 2513169434916 then (some (l0 ++ [(⟨a1, (⟨a2_0, a2_1, a2_2⟩ : S31), true⟩ : S177)])) else (none)) else (if 0 ≤ t248 then (if t248 < (l0.length : Int) then ((some (l0.set (t248 : Int).toNat (⟨(rd_T177 l0 t248).f0, (⟨a2_0, a2_1, a2_2⟩ : S31), (rd_T177 l0 t248).f2⟩ : S177) : List (S177))).bind fun y252 => (some (y252.set (t248 : Int).toNat (⟨(rd_T177 y252 t248).f0, (⟨(rd_T177 y252 t248).f1.f0, (rd_T177 y252 t248).f1.f1, (rd_T177 y252 t248).f1.f2⟩ : S31), true⟩ : S177)))) else (none)) else (none)))
theorem spec_put.calls (k : Nat) (P0_ : Nat → Prop) (u9000_ : Value) (l0 : List (S177)) (a1 : ByteArray) (a2_0 : Int) (a2_1 : ByteArray) (a2_2 : Int) (r : List (S177)) (w0 w : World) (hB : Below w0.heap.size w0 w) (ho0 : Kd.R k177 177 w w0.heap.size P0_ u9000_ l0) (h : spec_put.f k l0 a1 a2_0 a2_1 a2_2 = some r) :
  Calls Try.prog 141 #[u9000_, .string a1, .agg #[.int .i64 a2_0, .string a2_1, .int .i64 a2_2]] w fun e w' => ∃ v0_ : Value, e = .returned (v0_) ∧ Kd.R k177 177 w' w0.heap.size (fun k_ => (P0_ k_ ∨ w.heap.size ≤ k_)) v0_ r ∧ Below w0.heap.size w0 w' ∧ Kept w w' (fun k_ => P0_ k_) := by
 have hu31 := Try.underlying31
 have hu177 := Try.underlying177
 have HO0 := Az.mk (show Kd.R k177 177 w w0.heap.size (fun k_ => (P0_ k_ ∨ w.heap.size ≤ k_)) u9000_ l0 from Kd.R_mono ho0 (fun k_ hk => (.inl hk)))
 have HK := Az.mk (Kept.refl w (fun k_ => P0_ k_))
 have HW0 := Az.mk hB.size
 have HB := Az.mk hB
 clear hB
 have H : ((spec_find.f k l0 a1).bind fun t248 => (if t248 < 0 then (if l0.length < 2513169434916 then (some (l0 ++ [(⟨a1, (⟨a2_0, a2_1, a2_2⟩ : S31), true⟩ : S177)])) else (none)) else (if 0 ≤ t248 then (if t248 < (l0.length : Int) then ((some (l0.set (t248 : Int).toNat (⟨(rd_T177 l0 t248).f0, (⟨a2_0, a2_1, a2_2⟩ : S31), (rd_T177 l0 t248).f2⟩ : S177) : List (S177))).bind fun y252 => (some (y252.set (t248 : Int).toNat (⟨(rd_T177 y252 t248).f0, (⟨(rd_T177 y252 t248).f1.f0, (rd_T177 y252 t248).f1.f1, (rd_T177 y252 t248).f1.f2⟩ : S31), true⟩ : S177)))) else (none)) else (none)))) = some r := h
 clear h
 replace H := Option.bind_eq_some_iff.mp H
 obtain ⟨t248, A40, H⟩ := H
 replace H : (if t248 < 0 then (if l0.length < 2513169434916 then (some (l0 ++ [(⟨a1, (⟨a2_0, a2_1, a2_2⟩ : S31), true⟩ : S177)])) else (none)) else (if 0 ≤ t248 then (if t248 < (l0.length : Int) then ((some (l0.set (t248 : Int).toNat (⟨(rd_T177 l0 t248).f0, (⟨a2_0, a2_1, a2_2⟩ : S31), (rd_T177 l0 t248).f2⟩ : S177) : List (S177))).bind fun y252 => (some (y252.set (t248 : Int).toNat (⟨(rd_T177 y252 t248).f0, (⟨(rd_T177 y252 t248).f1.f0, (rd_T177 y252 t248).f1.f1, (rd_T177 y252 t248).f1.f2⟩ : S31), true⟩ : S177)))) else (none)) else (none))) = some r := H
 have A4 := Az.mk A40
 clear A40
 by_cases c5 : t248 < 0
 ·rw [if_pos c5] at H
  have c5b0 : decide (t248 < 0) = true := decide_eq_true c5
  clear c5
  by_cases c6 : l0.length < 2513169434916
  ·rw [if_pos c6] at H
   have LMc6 := Az.mk c6
   clear c6
   obtain ⟨y249, hy249⟩ : ∃ y_ : List (S177), y_ = (l0 ++ [(⟨a1, (⟨a2_0, a2_1, a2_2⟩ : S31), true⟩ : S177)]) := ⟨_, rfl⟩
   replace H : (some y249) = some r := by first | (rw [hy249]; with_reducible exact H) | (have H2_ := (Option.bind_some _ _).symm.trans H; rw [hy249]; with_reducible exact H2_) | (have H2_ := (Option.bind_some _ _).symm.trans H; with_reducible exact H2_) | with_reducible exact H | (rw [hy249]; exact H) | exact H
   have Ny249 := Az.mk hy249
   clear hy249
   obtain rfl := Option.some.inj H
   go_enter Try.func141, Try.ntmps141
   go_wp2_with (first | ((with_reducible refine gate_dst (N := 5) rfl ?_); refine box_event ?hg (N := 5) ?hd (cs := #[.int .i64 a2_0, .string a2_1, .int .i64 a2_2]) (t := 31) ?hr ?_; (case hd => rfl); (case hg => rfl); (case hr => first | (go_simp; done) | (go_simp; rfl)); intro gb247 hg w7 hbox hb; have n0_ := Az.mk (Kd.R_below (by (with_reducible repeat (first | apply Kd.R_alloc | apply Kd.R_drewN | apply Kd.R_drew)); exact HO0.out) hb); have n1_ := Az.mk (Kept.below (S := (fun k_ => P0_ k_)) (by repeat (first | (with_reducible first | exact HK.out | apply Kept.alloc | apply Kept.drewN | apply Kept.drew) | exact HK.out)) hb); have n2_ := Az.mk (below_step (by repeat (first | (with_reducible first | exact HB.out | apply bal | apply bdN | apply bdr) | exact HB.out)) hb); have n3_ := Az.mk (hbox); have n4_ := Az.mk ((by rw [hg]; exact (by first | exact HK.out.1 | exact (show Kept w _ (fun k_ => P0_ k_) from by repeat (first | (with_reducible first | exact HK.out | apply Kept.alloc | apply Kept.drewN | apply Kept.drew) | exact HK.out)).1) : w.heap.size ≤ gb247)); have n5_ := Az.mk ((by rw [hg]; exact (below_size (by repeat (first | (with_reducible first | exact HB.out | apply bal | apply bdN | apply bdr) | exact HB.out))) : w0.heap.size ≤ gb247)); clear HO0; clear HK; clear HB; have HO0 := n0_; have HK := n1_; have HB := n2_; have BK247 := n3_; have GW247 := n4_; have GE247 := n5_; clear n0_ n1_ n2_ n3_ n4_ n5_; clear hb hbox hg; obtain ⟨Ao8, co8, eo8⟩ := Kd.R_slice HO0.out; subst eo8) | ((with_reducible refine gate_callee (f := 144) rfl ?_); refine goesL_ (some 10) rfl rfl Try.func144 (by kernel_rfl) rfl #[.slice Ao8 l0.length co8, .string a1] rfl (by (try simp only [List.map_toArray, List.map_cons, List.map_nil]); first | done | rfl | (simp only [List.length_drop, List.length_take]; rfl)) ?_; (with_reducible refine (spec_find.calls k _ _ l0 a1 t248 _ ?side1 ?side2 A4.out).mono ?_); (case side1 => repeat (first | exact (Kd.R_reads' HO0.out).2.2 | (with_reducible refine Kd.C_alloc ?_ _) | (with_reducible refine Kd.C_drewN ?_ _) | (with_reducible refine Kd.C_drew ?_))); (case side2 => exact (Kd.R_reads' HO0.out).2.1); rintro e w' ⟨rfl, ⟨nd, rfl⟩⟩; refine ⟨_, rfl, ?_⟩; have hcz9_0 : w7.cell? ⟨gb247, 0, none⟩ = some (.int .i64 a2_0) := (bC BK247.out 0).trans rfl; have hcz9_1 : w7.cell? ⟨gb247, 1, none⟩ = some (.string a2_1) := (bC BK247.out 1).trans rfl; have hcz9_2 : w7.cell? ⟨gb247, 2, none⟩ = some (.int .i64 a2_2) := (bC BK247.out 2).trans rfl; have hfz9_0 := bF BK247.out 0; have hfz9_1 := bF BK247.out 1; have hfz9_2 := bF BK247.out 2) | ((with_reducible refine gate_builtin (b := .append) (xs := #[.tmp 13, .tmp 17]) rfl ?_); at_builtin; refine Kd.R_append k177 (w0 := w0) w0.heap.size rfl (.tmp 13) (.tmp 17) 168 177 (.agg #[(.string ⟨#[]⟩), (.int .i64 0), (.string ⟨#[]⟩), (.int .i64 0), (.bool false)]) 56 rfl Try.underlying168 info177 rfl (by decide) (by omega) (.slice Ao8 l0.length co8) l0 (⟨a1, (⟨a2_0, a2_1, a2_2⟩ : S31), true⟩ : S177) [.string a1, .int .i64 a2_0, .string a2_1, .int .i64 a2_2, .bool true] (fun k_ => (P0_ k_ ∨ w.heap.size ≤ k_)) (fun _ => False) rfl rfl ?aP (fun _ hk => hk.elim) ?aF ?aO ?aB ?aS ?aL ?_; (case aP => exact k177_mkM _ _ _ (⟨a1, (⟨a2_0, a2_1, a2_2⟩ : S31), true⟩ : S177)); (case aB => exact (by repeat (first | (with_reducible first | exact HB.out | apply bal | apply bdN | apply bdr | refine bS ?_ GE247.out) | exact HB.out))); (case aF => exact (fun k_ hk => (.inr (Nat.le_trans (by first | exact HK.out.1 | exact (show Kept w _ (fun k_ => P0_ k_) from by repeat (first | (with_reducible first | exact HK.out | apply Kept.alloc | apply Kept.drewN | apply Kept.drew | refine Kept.setCell ?_ (.inr GW247.out) _) | exact HK.out)).1) hk)))); (case aO => exact (by (with_reducible repeat (first | apply Kd.R_alloc | apply Kd.R_drewN | apply Kd.R_drew)); exact HO0.out)); (case aS => exact (below_size (by repeat (first | (with_reducible first | exact HB.out | apply bal | apply bdN | apply bdr | refine bS ?_ GE247.out) | exact HB.out)))); (case aL => have := LMc6.out; omega); intro v250 w10 ho hb hg hat; rw [← Ny249.out] at ho; have n0_ := Az.mk (blk_grown (g := gb247) (o := .cells #[.int .i64 a2_0, .string a2_1, .int .i64 a2_2] 31 (0, 0)) (by (with_reducible repeat (first | refine blk_drewN ?_ _ | refine blk_drew ?_ | refine blk_alloc ?_ _)); exact BK247.out) hg (Kd.R_ne HO0.out BK247.out (by decide))); have n1_ := Az.mk (hb); have n2_ := Az.mk (Kept.of_grown (S := (fun k_ => P0_ k_)) hg (by repeat (first | (with_reducible first | exact HK.out | apply Kept.alloc | apply Kept.drewN | apply Kept.drew | refine Kept.setCell ?_ (.inr GW247.out) _) | exact HK.out)) (fun k_ e_ => (HO0.out.1 k_ e_))); have n3_ := Az.mk (ho); clear BK247; clear HB; clear HK; clear HO0; have BK247 := n0_; have HB := n1_; have HK := n2_; have HO251 := n3_; clear n0_ n1_ n2_ n3_; clear ho hb hg hat))
   go_ret
   exact ⟨_, by first | rfl | (simp [errW_none, errW_some] <;> rfl) | (simp [*, errW_none, errW_some] <;> rfl), by (with_reducible repeat (first | apply Kd.R_alloc | apply Kd.R_drewN | apply Kd.R_drew)); exact HO251.out, by repeat (first | (with_reducible first | exact HB.out | apply bal | apply bdN | apply bdr | refine bS ?_ GE247.out) | exact HB.out), by repeat (first | (with_reducible first | exact HK.out | apply Kept.alloc | apply Kept.drewN | apply Kept.drew | refine Kept.setCell ?_ (.inr GW247.out) _) | exact HK.out)⟩
  ·rw [if_neg c6] at H
   exact absurd H (by simp)
 ·rw [if_neg c5] at H
  have c5b0 : decide (t248 < 0) = false := decide_eq_false c5
  clear c5
  by_cases c11 : 0 ≤ t248
  ·rw [if_pos c11] at H
   have c11b0 : decide (0 ≤ t248) = true := decide_eq_true c11
   clear c11
   by_cases c12 : t248 < (l0.length : Int)
   ·rw [if_pos c12] at H
    have c12b0 : decide (t248 < (l0.length : Int)) = true := decide_eq_true c12
    clear c12
    obtain ⟨y252, hy252⟩ : ∃ y_ : List (S177), y_ = (l0.set (t248 : Int).toNat (⟨(rd_T177 l0 t248).f0, (⟨a2_0, a2_1, a2_2⟩ : S31), (rd_T177 l0 t248).f2⟩ : S177)) := ⟨_, rfl⟩
    replace H : (some (y252.set (t248 : Int).toNat (⟨(rd_T177 y252 t248).f0, (⟨(rd_T177 y252 t248).f1.f0, (rd_T177 y252 t248).f1.f1, (rd_T177 y252 t248).f1.f2⟩ : S31), true⟩ : S177))) = some r := by first | (rw [hy252]; with_reducible exact H) | (have H2_ := (Option.bind_some _ _).symm.trans H; rw [hy252]; with_reducible exact H2_) | (have H2_ := (Option.bind_some _ _).symm.trans H; with_reducible exact H2_) | with_reducible exact H | (rw [hy252]; exact H) | exact H
    have Ny252 := Az.mk hy252
    clear hy252
    obtain ⟨y253, hy253⟩ : ∃ y_ : List (S177), y_ = (y252.set (t248 : Int).toNat (⟨(rd_T177 y252 t248).f0, (⟨(rd_T177 y252 t248).f1.f0, (rd_T177 y252 t248).f1.f1, (rd_T177 y252 t248).f1.f2⟩ : S31), true⟩ : S177)) := ⟨_, rfl⟩
    replace H : (some y253) = some r := by first | (rw [hy253]; with_reducible exact H) | (have H2_ := (Option.bind_some _ _).symm.trans H; rw [hy253]; with_reducible exact H2_) | (have H2_ := (Option.bind_some _ _).symm.trans H; with_reducible exact H2_) | with_reducible exact H | (rw [hy253]; exact H) | exact H
    have Ny253 := Az.mk hy253
    clear hy253
    obtain rfl := Option.some.inj H
    go_enter Try.func141, Try.ntmps141
    go_wp2_with (first | ((with_reducible refine gate_dst (N := 5) rfl ?_); refine box_event ?hg (N := 5) ?hd (cs := #[.int .i64 a2_0, .string a2_1, .int .i64 a2_2]) (t := 31) ?hr ?_; (case hd => rfl); (case hg => rfl); (case hr => first | (go_simp; done) | (go_simp; rfl)); intro gb247 hg w15 hbox hb; have n0_ := Az.mk (Kd.R_below (by (with_reducible repeat (first | apply Kd.R_alloc | apply Kd.R_drewN | apply Kd.R_drew)); exact HO0.out) hb); have n1_ := Az.mk (Kept.below (S := (fun k_ => P0_ k_)) (by repeat (first | (with_reducible first | exact HK.out | apply Kept.alloc | apply Kept.drewN | apply Kept.drew) | exact HK.out)) hb); have n2_ := Az.mk (below_step (by repeat (first | (with_reducible first | exact HB.out | apply bal | apply bdN | apply bdr) | exact HB.out)) hb); have n3_ := Az.mk (hbox); have n4_ := Az.mk ((by rw [hg]; exact (by first | exact HK.out.1 | exact (show Kept w _ (fun k_ => P0_ k_) from by repeat (first | (with_reducible first | exact HK.out | apply Kept.alloc | apply Kept.drewN | apply Kept.drew) | exact HK.out)).1) : w.heap.size ≤ gb247)); have n5_ := Az.mk ((by rw [hg]; exact (below_size (by repeat (first | (with_reducible first | exact HB.out | apply bal | apply bdN | apply bdr) | exact HB.out))) : w0.heap.size ≤ gb247)); clear HO0; clear HK; clear HB; have HO0 := n0_; have HK := n1_; have HB := n2_; have BK247 := n3_; have GW247 := n4_; have GE247 := n5_; clear n0_ n1_ n2_ n3_ n4_ n5_; clear hb hbox hg; obtain ⟨Ao16, co16, eo16⟩ := Kd.R_slice HO0.out; subst eo16) | ((with_reducible refine gate_callee (f := 144) rfl ?_); refine goesL_ (some 10) rfl rfl Try.func144 (by kernel_rfl) rfl #[.slice Ao16 l0.length co16, .string a1] rfl (by (try simp only [List.map_toArray, List.map_cons, List.map_nil]); first | done | rfl | (simp only [List.length_drop, List.length_take]; rfl)) ?_; (with_reducible refine (spec_find.calls k _ _ l0 a1 t248 _ ?side1 ?side2 A4.out).mono ?_); (case side1 => repeat (first | exact (Kd.R_reads' HO0.out).2.2 | (with_reducible refine Kd.C_alloc ?_ _) | (with_reducible refine Kd.C_drewN ?_ _) | (with_reducible refine Kd.C_drew ?_))); (case side2 => exact (Kd.R_reads' HO0.out).2.1); rintro e w' ⟨rfl, ⟨nd, rfl⟩⟩; refine ⟨_, rfl, ?_⟩; (try (rw [drewN_self w15]; generalize hq_ : World.drewN w15 _ = w15; have n0_ : Az (Kd.R k177 177 w15 w0.heap.size (fun k_ => (P0_ k_ ∨ w.heap.size ≤ k_)) (.slice Ao16 l0.length co16) l0) := ⟨by rw [← hq_]; exact (by (with_reducible repeat (first | apply Kd.R_alloc | apply Kd.R_drewN | apply Kd.R_drew)); exact HO0.out)⟩; have n1_ : Az (w15.heap[gb247]? = some (.cells #[.int .i64 a2_0, .string a2_1, .int .i64 a2_2] 31 (0, 0))) := ⟨by rw [← hq_]; exact (by (with_reducible repeat (first | refine blk_drewN ?_ _ | refine blk_drew ?_ | refine blk_alloc ?_ _)); exact BK247.out)⟩; have n2_ : Az (Kept w w15 (fun k_ => P0_ k_)) := ⟨by rw [← hq_]; exact (by repeat (first | (with_reducible first | exact HK.out | apply Kept.alloc | apply Kept.drewN | apply Kept.drew | refine Kept.setCell ?_ (.inr GW247.out) _) | exact HK.out))⟩; have n3_ : Az (Below w0.heap.size w0 w15) := ⟨by rw [← hq_]; exact (by repeat (first | (with_reducible first | exact HB.out | apply bal | apply bdN | apply bdr | refine bS ?_ GE247.out) | exact HB.out))⟩; clear HO0 BK247 HK HB hq_; have HO0 := n0_; have BK247 := n1_; have HK := n2_; have HB := n3_; clear n0_ n1_ n2_ n3_)); have hcz17_0 : w15.cell? ⟨gb247, 0, none⟩ = some (.int .i64 a2_0) := (bC BK247.out 0).trans rfl; have hcz17_1 : w15.cell? ⟨gb247, 1, none⟩ = some (.string a2_1) := (bC BK247.out 1).trans rfl; have hcz17_2 : w15.cell? ⟨gb247, 2, none⟩ = some (.int .i64 a2_2) := (bC BK247.out 2).trans rfl; have hfz17_0 := bF BK247.out 0; have hfz17_1 := bF BK247.out 1; have hfz17_2 := bF BK247.out 2; have p13 : 0 ≤ (t248 : Int) := of_decide_eq_true (by first | (with_reducible assumption) | assumption); have q13 : (t248 : Int) < ((l0.length : Int) : Int) := of_decide_eq_true (by first | (with_reducible assumption) | assumption); obtain ⟨go13, co13, eo13, gb13, gl13, cl13, HG13⟩ := Kd.R_form HO0.out (by omega); (first | cases eo13 | (injection eo13 with ea_ en_ ec_; (first | subst ea_ | (injection ea_ with ea_; subst ea_)); subst ec_; clear en_)); have GB13 := Az.mk gb13; have GG13 := Az.mk HG13; clear gb13 gl13 HG13; have HMgo13 := Az.mk (show (P0_ go13 ∨ w.heap.size ≤ go13) from (HO0.out.1 _ rfl)); obtain ⟨ce13, hcl13, hM13, hcc13, hfr13⟩ := Kd.R_elem HO0.out z177 (t248 : Int) p13 q13; obtain rfl := k177_openM hM13; have hx13_0 : w15.cell? ⟨go13, (t248 : Int).toNat * 5, none⟩ = some (.string ((rd_T177 l0 t248).f0)) := hcc13 0 _ rfl; have hx13_1 : w15.cell? ⟨go13, (t248 : Int).toNat * 5 + 1, none⟩ = some (.int .i64 ((rd_T177 l0 t248).f1.f0)) := hcc13 1 _ rfl; have hx13_2 : w15.cell? ⟨go13, (t248 : Int).toNat * 5 + 2, none⟩ = some (.string ((rd_T177 l0 t248).f1.f1)) := hcc13 2 _ rfl; have hx13_3 : w15.cell? ⟨go13, (t248 : Int).toNat * 5 + 3, none⟩ = some (.int .i64 ((rd_T177 l0 t248).f1.f2)) := hcc13 3 _ rfl; have hx13_4 : w15.cell? ⟨go13, (t248 : Int).toNat * 5 + 4, none⟩ = some (.bool ((rd_T177 l0 t248).f2)) := hcc13 4 _ rfl; have hf13_0 : w15.frozen? ⟨go13, (t248 : Int).toNat * 5, none⟩ = false := hfr13 0; have hf13_1 : w15.frozen? ⟨go13, (t248 : Int).toNat * 5 + 1, none⟩ = false := hfr13 1; have hf13_2 : w15.frozen? ⟨go13, (t248 : Int).toNat * 5 + 2, none⟩ = false := hfr13 2; have hf13_3 : w15.frozen? ⟨go13, (t248 : Int).toNat * 5 + 3, none⟩ = false := hfr13 3; have hf13_4 : w15.frozen? ⟨go13, (t248 : Int).toNat * 5 + 4, none⟩ = false := hfr13 4; clear hcl13 hcc13 hfr13 hM13; replace p13 := eq_true p13; replace q13 := eq_true q13; have HX18 := Az.mk (show Kd.R k177 177 w15 w0.heap.size (fun k_ => (P0_ k_ ∨ w.heap.size ≤ k_)) (.slice (some ⟨go13, 0, none⟩) l0.length co16) l0 from (by (with_reducible repeat (first | apply Kd.R_alloc | apply Kd.R_drewN | apply Kd.R_drew)); exact HO0.out)); obtain ⟨ce18, hcl18, hM18, hcc18, hfr18⟩ := Kd.R_elem HX18.out z177 (t248 : Int) (of_decide_eq_true (by first | (with_reducible assumption) | assumption)) (by have h_ : (t248 : Int) < ((l0.length : Int) : Int) := of_decide_eq_true (by first | (with_reducible assumption) | assumption); first | exact h_ | (have e_ := (Kd.R_reads' HO0.out).1; omega) | simpa using h_); obtain rfl := k177_openM hM18; have HP18 := Kd.R_seg HX18.out (t248 : Int) (of_decide_eq_true (by first | (with_reducible assumption) | assumption)) (by have h_ : (t248 : Int) < ((l0.length : Int) : Int) := of_decide_eq_true (by first | (with_reducible assumption) | assumption); first | exact h_ | (have e_ := (Kd.R_reads' HO0.out).1; omega) | simpa using h_) (seg := [.int .i64 a2_0, .string a2_1, .int .i64 a2_2]) (j := 1) hcl18 hcc18 (show 4 ≤ 5 from by decide) (x' := (⟨(rd_T177 l0 t248).f0, (⟨a2_0, a2_1, a2_2⟩ : S31), (rd_T177 l0 t248).f2⟩ : S177)) (k177_mkM _ _ _ (⟨(rd_T177 l0 t248).f0, (⟨a2_0, a2_1, a2_2⟩ : S31), (rd_T177 l0 t248).f2⟩ : S177) ) (fun _ hk => hk); have hx18_1 := hcc18 1 _ rfl; (try simp only [show (k177).sz = 5 from rfl, Nat.mul_one, Nat.add_zero] at hx18_1); have hf18_1 := hfr18 1; (try simp only [show (k177).sz = 5 from rfl, Nat.mul_one, Nat.add_zero] at hf18_1); have hx18_2 := hcc18 2 _ rfl; (try simp only [show (k177).sz = 5 from rfl, Nat.mul_one, Nat.add_zero] at hx18_2); have hf18_2 := hfr18 2; (try simp only [show (k177).sz = 5 from rfl, Nat.mul_one, Nat.add_zero] at hf18_2); have hx18_3 := hcc18 3 _ rfl; (try simp only [show (k177).sz = 5 from rfl, Nat.mul_one, Nat.add_zero] at hx18_3); have hf18_3 := hfr18 3; (try simp only [show (k177).sz = 5 from rfl, Nat.mul_one, Nat.add_zero] at hf18_3); clear hcl18 hcc18 hfr18 hM18) | ((with_reducible refine gate_store (t := 31) (p := 23) rfl ?_); refine store_event (t := 31) (p := 23) (v := ?vo_w19) (w1 := (((w15.setCell ⟨go13, (t248 : Int).toNat * 5 + 1, none⟩ (.int .i64 a2_0)).setCell ⟨go13, (t248 : Int).toNat * 5 + 2, none⟩ (.string a2_1)).setCell ⟨go13, (t248 : Int).toNat * 5 + 3, none⟩ (.int .i64 a2_2))) ?hg ?ho ?hn ?hr ?_; (case ho => rfl); (case hg => rfl); (case hn => rfl); (case hr => first | (go_simp; done) | (go_simp; rfl)); intro w19 hw; have hg : w15.grownBy w19 (some go13) := (by rw [hw]; exact HP18.2); have hp_ : Kd.R k177 177 w19 w0.heap.size (fun k_ => (P0_ k_ ∨ w.heap.size ≤ k_)) (.slice (some ⟨go13, 0, none⟩) l0.length co16) y252 := (by rw [hw, Ny252.out]; exact HP18.1); clear HP18; have n0_ := Az.mk (hp_); have n1_ := Az.mk (blk_grown (g := gb247) (o := .cells #[.int .i64 a2_0, .string a2_1, .int .i64 a2_2] 31 (0, 0)) (by (with_reducible repeat (first | refine blk_drewN ?_ _ | refine blk_drew ?_ | refine blk_alloc ?_ _)); exact BK247.out) hg (Kd.R_ne HO0.out BK247.out (by decide))); have n2_ := Az.mk ((by rw [hw]; exact bS (bS (bS (HB.out) GB13.out) GB13.out) GB13.out : Below w0.heap.size w0 w19)); have n3_ := Az.mk (Kept.of_grown (S := (fun k_ => P0_ k_)) hg (by repeat (first | (with_reducible first | exact HK.out | apply Kept.alloc | apply Kept.drewN | apply Kept.drew | refine Kept.setCell ?_ (.inr GW247.out) _) | exact HK.out)) (fun k_ e_ => (HO0.out.1 k_ e_))); clear HO0; clear BK247; clear HB; clear HK; have HO0 := n0_; have BK247 := n1_; have HB := n2_; have HK := n3_; clear n0_ n1_ n2_ n3_; clear hg hw hp_; have p14 : 0 ≤ (t248 : Int) := of_decide_eq_true (by first | (with_reducible assumption) | assumption); have q14 : (t248 : Int) < ((l0.length : Int) : Int) := of_decide_eq_true (by first | (with_reducible assumption) | assumption); obtain ⟨ce14, hcl14, hM14, hcc14, hfr14⟩ := Kd.R_elem HO0.out z177 (t248 : Int) p14 q14; obtain rfl := k177_openM hM14; have hx14_0 : w19.cell? ⟨go13, (t248 : Int).toNat * 5, none⟩ = some (.string ((rd_T177 y252 t248).f0)) := hcc14 0 _ rfl; have hx14_1 : w19.cell? ⟨go13, (t248 : Int).toNat * 5 + 1, none⟩ = some (.int .i64 ((rd_T177 y252 t248).f1.f0)) := hcc14 1 _ rfl; have hx14_2 : w19.cell? ⟨go13, (t248 : Int).toNat * 5 + 2, none⟩ = some (.string ((rd_T177 y252 t248).f1.f1)) := hcc14 2 _ rfl; have hx14_3 : w19.cell? ⟨go13, (t248 : Int).toNat * 5 + 3, none⟩ = some (.int .i64 ((rd_T177 y252 t248).f1.f2)) := hcc14 3 _ rfl; have hx14_4 : w19.cell? ⟨go13, (t248 : Int).toNat * 5 + 4, none⟩ = some (.bool ((rd_T177 y252 t248).f2)) := hcc14 4 _ rfl; have hf14_0 : w19.frozen? ⟨go13, (t248 : Int).toNat * 5, none⟩ = false := hfr14 0; have hf14_1 : w19.frozen? ⟨go13, (t248 : Int).toNat * 5 + 1, none⟩ = false := hfr14 1; have hf14_2 : w19.frozen? ⟨go13, (t248 : Int).toNat * 5 + 2, none⟩ = false := hfr14 2; have hf14_3 : w19.frozen? ⟨go13, (t248 : Int).toNat * 5 + 3, none⟩ = false := hfr14 3; have hf14_4 : w19.frozen? ⟨go13, (t248 : Int).toNat * 5 + 4, none⟩ = false := hfr14 4; clear hcl14 hcc14 hfr14 hM14; replace p14 := eq_true p14; replace q14 := eq_true q14; have HX20 := Az.mk (show Kd.R k177 177 w19 w0.heap.size (fun k_ => (P0_ k_ ∨ w.heap.size ≤ k_)) (.slice (some ⟨go13, 0, none⟩) l0.length co16) y252 from (by (with_reducible repeat (first | apply Kd.R_alloc | apply Kd.R_drewN | apply Kd.R_drew)); exact HO0.out)); obtain ⟨ce20, hcl20, hM20, hcc20, hfr20⟩ := Kd.R_elem HX20.out z177 (t248 : Int) (of_decide_eq_true (by first | (with_reducible assumption) | assumption)) (by have h_ : (t248 : Int) < ((l0.length : Int) : Int) := of_decide_eq_true (by first | (with_reducible assumption) | assumption); first | exact h_ | (have e_ := (Kd.R_reads' HO0.out).1; omega) | simpa using h_); obtain rfl := k177_openM hM20; have HP20 := Kd.R_seg HX20.out (t248 : Int) (of_decide_eq_true (by first | (with_reducible assumption) | assumption)) (by have h_ : (t248 : Int) < ((l0.length : Int) : Int) := of_decide_eq_true (by first | (with_reducible assumption) | assumption); first | exact h_ | (have e_ := (Kd.R_reads' HO0.out).1; omega) | simpa using h_) (seg := [.bool true]) (j := 4) hcl20 hcc20 (show 5 ≤ 5 from by decide) (x' := (⟨(rd_T177 y252 t248).f0, (⟨(rd_T177 y252 t248).f1.f0, (rd_T177 y252 t248).f1.f1, (rd_T177 y252 t248).f1.f2⟩ : S31), true⟩ : S177)) (k177_mkM _ _ _ (⟨(rd_T177 y252 t248).f0, (⟨(rd_T177 y252 t248).f1.f0, (rd_T177 y252 t248).f1.f1, (rd_T177 y252 t248).f1.f2⟩ : S31), true⟩ : S177) ) (fun _ hk => hk); have hx20_4 := hcc20 4 _ rfl; (try simp only [show (k177).sz = 5 from rfl, Nat.mul_one, Nat.add_zero] at hx20_4); have hf20_4 := hfr20 4; (try simp only [show (k177).sz = 5 from rfl, Nat.mul_one, Nat.add_zero] at hf20_4); clear hcl20 hcc20 hfr20 hM20) | ((with_reducible refine gate_store (t := 4) (p := 27) rfl ?_); refine store_event (t := 4) (p := 27) (v := ?vo_w21) (w1 := (w19.setCell ⟨go13, (t248 : Int).toNat * 5 + 4, none⟩ (.bool true))) ?hg ?ho ?hn ?hr ?_; (case ho => rfl); (case hg => rfl); (case hn => rfl); (case hr => first | (go_simp; done) | (go_simp; rfl)); intro w21 hw; have hg : w19.grownBy w21 (some go13) := (by rw [hw]; exact HP20.2); have hp_ : Kd.R k177 177 w21 w0.heap.size (fun k_ => (P0_ k_ ∨ w.heap.size ≤ k_)) (.slice (some ⟨go13, 0, none⟩) l0.length co16) y253 := (by rw [hw, Ny253.out]; exact HP20.1); clear HP20; have n0_ := Az.mk (hp_); have n1_ := Az.mk (blk_grown (g := gb247) (o := .cells #[.int .i64 a2_0, .string a2_1, .int .i64 a2_2] 31 (0, 0)) (by (with_reducible repeat (first | refine blk_drewN ?_ _ | refine blk_drew ?_ | refine blk_alloc ?_ _)); exact BK247.out) hg (Kd.R_ne HO0.out BK247.out (by decide))); have n2_ := Az.mk ((by rw [hw]; exact bS (HB.out) GB13.out : Below w0.heap.size w0 w21)); have n3_ := Az.mk (Kept.of_grown (S := (fun k_ => P0_ k_)) hg (by repeat (first | (with_reducible first | exact HK.out | apply Kept.alloc | apply Kept.drewN | apply Kept.drew | refine Kept.setCell ?_ (.inr GW247.out) _) | exact HK.out)) (fun k_ e_ => (HO0.out.1 k_ e_))); clear HO0; clear BK247; clear HB; clear HK; have HO0 := n0_; have BK247 := n1_; have HB := n2_; have HK := n3_; clear n0_ n1_ n2_ n3_; clear hg hw hp_))
    go_ret
    exact ⟨_, by first | rfl | (simp [errW_none, errW_some] <;> rfl) | (simp [*, errW_none, errW_some] <;> rfl), by (with_reducible repeat (first | apply Kd.R_alloc | apply Kd.R_drewN | apply Kd.R_drew)); exact HO0.out, by repeat (first | (with_reducible first | exact HB.out | apply bal | apply bdN | apply bdr | refine bS ?_ GE247.out) | exact HB.out), by repeat (first | (with_reducible first | exact HK.out | apply Kept.alloc | apply Kept.drewN | apply Kept.drew | refine Kept.setCell ?_ (.inr GW247.out) _) | exact HK.out)⟩
   ·rw [if_neg c12] at H
    exact absurd H (by simp)
  ·rw [if_neg c11] at H
   exact absurd H (by simp)
def spec_intVal.f (a0 : ByteArray) : Option (Int × ByteArray × Int) := some (2, a0, 0)
theorem spec_intVal.calls (a0 : ByteArray) (r1 : Int) (r2 : ByteArray) (r3 : Int) (w : World) (h : spec_intVal.f a0 = some (r1, r2, r3)) :
  Calls Try.prog 142 #[.string a0] w fun e w' => e = .returned (.agg #[.int .i64 r1, .string r2, .int .i64 r3]) ∧ Below w.heap.size w w' := by
 have hu31 := Try.underlying31
 have HB := Az.mk (Below.refl w.heap.size w)
 have H : (some (2, a0, 0)) = some (r1, r2, r3) := h
 clear h
 simp only [Option.some.injEq, Prod.mk.injEq] at H
 obtain ⟨rfl, rfl, rfl⟩ := H
 go_enter Try.func142, Try.ntmps142
 go_wp2_with (first | ((with_reducible refine gate_dst (N := 2) rfl ?_); refine box_event ?hg (N := 2) ?hd (cs := #[.int .i64 0, .string (⟨#[]⟩ : ByteArray), .int .i64 0]) (t := 31) ?hr ?_; (case hd => rfl); (case hg => rfl); (case hr => first | (go_simp; done) | (go_simp; rfl)); intro gb254 hg w2 hbox hb; have n0_ := Az.mk (below_step (by repeat (first | (with_reducible first | exact HB.out | apply bal | apply bdN | apply bdr) | exact HB.out)) hb); have n1_ := Az.mk (hbox); have n2_ := Az.mk ((by rw [hg]; exact (below_size (by repeat (first | (with_reducible first | exact HB.out | apply bal | apply bdN | apply bdr) | exact HB.out))) : w.heap.size ≤ gb254)); have n3_ := Az.mk ((by rw [hg]; exact (below_size (by repeat (first | (with_reducible first | exact HB.out | apply bal | apply bdN | apply bdr) | exact HB.out))) : w.heap.size ≤ gb254)); clear HB; have HB := n0_; have BK254 := n1_; have GW254 := n2_; have GE254 := n3_; clear n0_ n1_ n2_ n3_; clear hb hbox hg; have hcz3_0 : w2.cell? ⟨gb254, 0, none⟩ = some (.int .i64 0) := (bC BK254.out 0).trans rfl; have hcz3_1 : w2.cell? ⟨gb254, 1, none⟩ = some (.string (⟨#[]⟩ : ByteArray)) := (bC BK254.out 1).trans rfl; have hcz3_2 : w2.cell? ⟨gb254, 2, none⟩ = some (.int .i64 0) := (bC BK254.out 2).trans rfl; have hfz3_0 := bF BK254.out 0; have hfz3_1 := bF BK254.out 1; have hfz3_2 := bF BK254.out 2))
 refine bodyPost_ret (results_cell_row rfl _ _ gb254 31 #[.int .i64 2, .string a0, .int .i64 0] (0, 0) _ rfl (by (with_reducible repeat (first | refine blk_drewN ?_ _ | refine blk_drew ?_ | refine blk_alloc ?_ _)); refine blk_put (cs := #[.int .i64 2, .string a0, .int .i64 0]) ?_ 2 _ rfl; (with_reducible repeat (first | refine blk_drewN ?_ _ | refine blk_drew ?_ | refine blk_alloc ?_ _)); refine blk_put (cs := #[.int .i64 2, .string (⟨#[]⟩ : ByteArray), .int .i64 0]) ?_ 1 _ rfl; (with_reducible repeat (first | refine blk_drewN ?_ _ | refine blk_drew ?_ | refine blk_alloc ?_ _)); refine blk_put (cs := #[.int .i64 0, .string (⟨#[]⟩ : ByteArray), .int .i64 0]) ?_ 0 _ rfl; (with_reducible repeat (first | refine blk_drewN ?_ _ | refine blk_drew ?_ | refine blk_alloc ?_ _)); exact BK254.out) Try.underlying31 rfl (by kernel_rfl)) rfl ?_
 exact ⟨by first | rfl | (simp [errW_none, errW_some] <;> rfl) | (simp [*, errW_none, errW_some] <;> rfl), by repeat (first | (with_reducible first | exact HB.out | apply bal | apply bdN | apply bdr | refine bS ?_ GE254.out) | exact HB.out)⟩
def spec_positive.l0 : Nat → Int → ByteArray → Option (ByteArray)
 | 0, _, _ => none
 | k + 1, x0, x3 => if (Int.tmod x0 10) < 0 then ((some (([(wrap64 (48 + (wrap64 (-(Int.tmod x0 10))))) % 256] : List Int) : List Int)).bind fun y255 => (if (strOfNums y255).size + x3.size ≤ 9223372036854775807 then (if (wrap64 (Int.tdiv x0 10)) = 0 then (some ((strOfNums y255) ++ x3)) else (spec_positive.l0 k (wrap64 (Int.tdiv x0 10)) ((strOfNums y255) ++ x3))) else (none))) else ((some (([(wrap64 (48 + (Int.tmod x0 10))) % 256] : List Int) : List Int)).bind fun y258 => (if (strOfNums y258).size + x3.size ≤ 9223372036854775807 then (if (wrap64 (Int.tdiv x0 10)) = 0 then (some ((strOfNums y258) ++ x3)) else (spec_positive.l0 k (wrap64 (Int.tdiv x0 10)) ((strOfNums y258) ++ x3))) else (none)))
def spec_positive.f (k : Nat) (a0 : Int) : Option (ByteArray) := spec_positive.l0 k a0 (⟨#[]⟩ : ByteArray)
theorem spec_positive.calls (k : Nat) (a0 : Int) (r : ByteArray) (w : World) (h : spec_positive.f k a0 = some r) :
  Calls Try.prog 148 #[.int .i64 a0] w fun e w' => e = .returned (.string r) ∧ Below w.heap.size w w' := by
 have HB := Az.mk (Below.refl w.heap.size w)
 have H : (spec_positive.l0 k a0 (⟨#[]⟩ : ByteArray)) = some r := h
 clear h
 have H' := Az.mk H
 clear H
 go_enter Try.func148, Try.ntmps148
 go_wp2
 go_loopg [0, 3] k (fun kq v0 v3 w' => ∃ (x0_1 : Int) (x3_1 : ByteArray), v0 = .int .i64 x0_1 ∧ v3 = .string x3_1 ∧ Az (spec_positive.l0 kq x0_1 x3_1 = some r) ∧ Az (kq ≤ k) ∧ Az (Below w.heap.size w w'))
 case atStart => exact ⟨(a0), ((⟨#[]⟩ : ByteArray)), (by first | rfl | (simp; done) | (simp [*]; done)), (by first | rfl | (simp; done) | (simp [*]; done)), H', ⟨Nat.le_refl _⟩, ⟨by repeat (first | (with_reducible first | exact HB.out | apply bal | apply bdN | apply bdr) | exact HB.out)⟩⟩
 case round =>
  clear H'
  try clear c1
  obtain ⟨x0_1, x3_1, rfl, rfl, HA, HK1, HB⟩ := hrel
  cases gk with
  | zero => exact absurd HA.out (by simp [spec_positive.l0])
  | succ k1 =>
   have H := HA.out
   clear HA
   simp only [spec_positive.l0] at H
   by_cases c2 : (Int.tmod x0_1 10) < 0
   ·rw [if_pos c2] at H
    have c2b0 : decide ((Int.tmod x0_1 10) < 0) = true := decide_eq_true c2
    clear c2
    obtain ⟨y255, hy255⟩ : ∃ y_ : List Int, y_ = (([(wrap64 (48 + (wrap64 (-(Int.tmod x0_1 10))))) % 256] : List Int)) := ⟨_, rfl⟩
    replace H : (if (strOfNums y255).size + x3_1.size ≤ 9223372036854775807 then (if (wrap64 (Int.tdiv x0_1 10)) = 0 then (some ((strOfNums y255) ++ x3_1)) else (spec_positive.l0 k1 (wrap64 (Int.tdiv x0_1 10)) ((strOfNums y255) ++ x3_1))) else (none)) = some r := by first | (rw [hy255]; with_reducible exact H) | (have H2_ := (Option.bind_some _ _).symm.trans H; rw [hy255]; with_reducible exact H2_) | (have H2_ := (Option.bind_some _ _).symm.trans H; with_reducible exact H2_) | with_reducible exact H | (rw [hy255]; exact H) | exact H
    have Ny255 := Az.mk hy255
    clear hy255
    by_cases c3 : (strOfNums y255).size + x3_1.size ≤ 9223372036854775807
    ·rw [if_pos c3] at H
     have c3b0 := eq_true c3
     have c3b1 : decide ((strOfNums y255).size + x3_1.size ≤ 9223372036854775807) = true := decide_eq_true c3
     try have c3b2 : (9223372036854775807 < (strOfNums y255).size + x3_1.size) = False := eq_false (Nat.not_lt.2 c3)
     by_cases c4 : (wrap64 (Int.tdiv x0_1 10)) = 0
     ·rw [if_pos c4] at H
      have c4b0 : ((wrap64 (Int.tdiv x0_1 10)) == 0) = true := beq_iff_eq.mpr c4
      have c4b1 : ((wrap64 (Int.tdiv x0_1 10)) != 0) = false := bne_eq_false_iff_eq.mpr c4
      clear c4
      obtain rfl := Option.some.inj H
      go_wp2_with (first | ((with_reducible refine gate_dst (N := 14) rfl ?_); refine Kd.R_lit (Kd.int .u8) _ 5 ?hg (N := 14) ?hd (xs := ([(wrap64 (48 + (wrap64 (-(Int.tmod x0_1 10))))) % 256] : List Int)) (inner := [.int .u8 ((wrap64 (48 + (wrap64 (-(Int.tmod x0_1 10))))) % 256)]) (ok := fun _ => True) (okp := fun _ => True) ?hr ?hp (fun _ hk => hk) trivial (Below.refl _ _) (Nat.le_refl _) (by simp) ?_; (case hd => rfl); (case hg => rfl); (case hr => first | (go_simp; done) | (go_simp; rfl)); (case hp => exact (Reps.one (show Kd.M (Kd.int .u8) _ _ _ ((wrap64 (48 + (wrap64 (-(Int.tmod x0_1 10))))) % 256) [.int .u8 ((wrap64 (48 + (wrap64 (-(Int.tmod x0_1 10))))) % 256)] from rfl) (Reps.none _ _))); intro v256 w5 ho6 hb hg_ hnew_; clear hg_ hnew_; (first | rw [← Ny255.out] at ho6 | (simp only [Int.reduceToNat] at ho6; rw [← Ny255.out] at ho6)); have n0_ := Az.mk (Kd.R_lower ho6 (below_size (by repeat (first | (with_reducible first | exact HB.out | apply bal | apply bdN | apply bdr) | exact HB.out)))); have n1_ := Az.mk (below_step (by repeat (first | (with_reducible first | exact HB.out | apply bal | apply bdN | apply bdr) | exact HB.out)) hb); clear HB; have HO257 := n0_; have HB := n1_; clear n0_ n1_; clear hb ho6; have hcv7 := own_string (P := Try.prog) Try.underlying22 Try.underlying5 Try.underlying9 (Kd.own_of_R HO257.out)))
      go_ret
      exact ⟨by first | rfl | (simp [errW_none, errW_some] <;> rfl) | (simp [*, errW_none, errW_some] <;> rfl), by repeat (first | (with_reducible first | exact HB.out | apply bal | apply bdN | apply bdr) | exact HB.out)⟩
     ·rw [if_neg c4] at H
      have c4b0 : ((wrap64 (Int.tdiv x0_1 10)) == 0) = false := beq_eq_false_iff_ne.mpr c4
      have c4b1 : ((wrap64 (Int.tdiv x0_1 10)) != 0) = true := bne_iff_ne.mpr c4
      have H' := Az.mk H
      clear H
      go_wp2_with (first | ((with_reducible refine gate_dst (N := 14) rfl ?_); refine Kd.R_lit (Kd.int .u8) _ 5 ?hg (N := 14) ?hd (xs := ([(wrap64 (48 + (wrap64 (-(Int.tmod x0_1 10))))) % 256] : List Int)) (inner := [.int .u8 ((wrap64 (48 + (wrap64 (-(Int.tmod x0_1 10))))) % 256)]) (ok := fun _ => True) (okp := fun _ => True) ?hr ?hp (fun _ hk => hk) trivial (Below.refl _ _) (Nat.le_refl _) (by simp) ?_; (case hd => rfl); (case hg => rfl); (case hr => first | (go_simp; done) | (go_simp; rfl)); (case hp => exact (Reps.one (show Kd.M (Kd.int .u8) _ _ _ ((wrap64 (48 + (wrap64 (-(Int.tmod x0_1 10))))) % 256) [.int .u8 ((wrap64 (48 + (wrap64 (-(Int.tmod x0_1 10))))) % 256)] from rfl) (Reps.none _ _))); intro v256 w8 ho9 hb hg_ hnew_; clear hg_ hnew_; (first | rw [← Ny255.out] at ho9 | (simp only [Int.reduceToNat] at ho9; rw [← Ny255.out] at ho9)); have n0_ := Az.mk (Kd.R_lower ho9 (below_size (by repeat (first | (with_reducible first | exact HB.out | apply bal | apply bdN | apply bdr) | exact HB.out)))); have n1_ := Az.mk (below_step (by repeat (first | (with_reducible first | exact HB.out | apply bal | apply bdN | apply bdr) | exact HB.out)) hb); clear HB; have HO257 := n0_; have HB := n1_; clear n0_ n1_; clear hb ho9; have hcv10 := own_string (P := Try.prog) Try.underlying22 Try.underlying5 Try.underlying9 (Kd.own_of_R HO257.out)))
      go_roundg k1
      case measure => have := HK1.out; omega
      case rel => exact ⟨(wrap64 (Int.tdiv x0_1 10)), ((strOfNums y255) ++ x3_1), (by first | rfl | (simp; done) | (simp [*]; done)), (by first | rfl | (simp; done) | (simp [*]; done)), H', ⟨by have := HK1.out; omega⟩, ⟨by repeat (first | (with_reducible first | exact HB.out | apply bal | apply bdN | apply bdr) | exact HB.out)⟩⟩
    ·rw [if_neg c3] at H
     exact absurd H (by simp)
   ·rw [if_neg c2] at H
    have c2b0 : decide ((Int.tmod x0_1 10) < 0) = false := decide_eq_false c2
    clear c2
    obtain ⟨y258, hy258⟩ : ∃ y_ : List Int, y_ = (([(wrap64 (48 + (Int.tmod x0_1 10))) % 256] : List Int)) := ⟨_, rfl⟩
    replace H : (if (strOfNums y258).size + x3_1.size ≤ 9223372036854775807 then (if (wrap64 (Int.tdiv x0_1 10)) = 0 then (some ((strOfNums y258) ++ x3_1)) else (spec_positive.l0 k1 (wrap64 (Int.tdiv x0_1 10)) ((strOfNums y258) ++ x3_1))) else (none)) = some r := by first | (rw [hy258]; with_reducible exact H) | (have H2_ := (Option.bind_some _ _).symm.trans H; rw [hy258]; with_reducible exact H2_) | (have H2_ := (Option.bind_some _ _).symm.trans H; with_reducible exact H2_) | with_reducible exact H | (rw [hy258]; exact H) | exact H
    have Ny258 := Az.mk hy258
    clear hy258
    by_cases c11 : (strOfNums y258).size + x3_1.size ≤ 9223372036854775807
    ·rw [if_pos c11] at H
     have c11b0 := eq_true c11
     have c11b1 : decide ((strOfNums y258).size + x3_1.size ≤ 9223372036854775807) = true := decide_eq_true c11
     try have c11b2 : (9223372036854775807 < (strOfNums y258).size + x3_1.size) = False := eq_false (Nat.not_lt.2 c11)
     by_cases c12 : (wrap64 (Int.tdiv x0_1 10)) = 0
     ·rw [if_pos c12] at H
      have c12b0 : ((wrap64 (Int.tdiv x0_1 10)) == 0) = true := beq_iff_eq.mpr c12
      have c12b1 : ((wrap64 (Int.tdiv x0_1 10)) != 0) = false := bne_eq_false_iff_eq.mpr c12
      clear c12
      obtain rfl := Option.some.inj H
      go_wp2_with (first | ((with_reducible refine gate_dst (N := 14) rfl ?_); refine Kd.R_lit (Kd.int .u8) _ 5 ?hg (N := 14) ?hd (xs := ([(wrap64 (48 + (Int.tmod x0_1 10))) % 256] : List Int)) (inner := [.int .u8 ((wrap64 (48 + (Int.tmod x0_1 10))) % 256)]) (ok := fun _ => True) (okp := fun _ => True) ?hr ?hp (fun _ hk => hk) trivial (Below.refl _ _) (Nat.le_refl _) (by simp) ?_; (case hd => rfl); (case hg => rfl); (case hr => first | (go_simp; done) | (go_simp; rfl)); (case hp => exact (Reps.one (show Kd.M (Kd.int .u8) _ _ _ ((wrap64 (48 + (Int.tmod x0_1 10))) % 256) [.int .u8 ((wrap64 (48 + (Int.tmod x0_1 10))) % 256)] from rfl) (Reps.none _ _))); intro v259 w13 ho14 hb hg_ hnew_; clear hg_ hnew_; (first | rw [← Ny258.out] at ho14 | (simp only [Int.reduceToNat] at ho14; rw [← Ny258.out] at ho14)); have n0_ := Az.mk (Kd.R_lower ho14 (below_size (by repeat (first | (with_reducible first | exact HB.out | apply bal | apply bdN | apply bdr) | exact HB.out)))); have n1_ := Az.mk (below_step (by repeat (first | (with_reducible first | exact HB.out | apply bal | apply bdN | apply bdr) | exact HB.out)) hb); clear HB; have HO260 := n0_; have HB := n1_; clear n0_ n1_; clear hb ho14; have hcv15 := own_string (P := Try.prog) Try.underlying22 Try.underlying5 Try.underlying9 (Kd.own_of_R HO260.out)))
      go_ret
      exact ⟨by first | rfl | (simp [errW_none, errW_some] <;> rfl) | (simp [*, errW_none, errW_some] <;> rfl), by repeat (first | (with_reducible first | exact HB.out | apply bal | apply bdN | apply bdr) | exact HB.out)⟩
     ·rw [if_neg c12] at H
      have c12b0 : ((wrap64 (Int.tdiv x0_1 10)) == 0) = false := beq_eq_false_iff_ne.mpr c12
      have c12b1 : ((wrap64 (Int.tdiv x0_1 10)) != 0) = true := bne_iff_ne.mpr c12
      have H' := Az.mk H
      clear H
      go_wp2_with (first | ((with_reducible refine gate_dst (N := 14) rfl ?_); refine Kd.R_lit (Kd.int .u8) _ 5 ?hg (N := 14) ?hd (xs := ([(wrap64 (48 + (Int.tmod x0_1 10))) % 256] : List Int)) (inner := [.int .u8 ((wrap64 (48 + (Int.tmod x0_1 10))) % 256)]) (ok := fun _ => True) (okp := fun _ => True) ?hr ?hp (fun _ hk => hk) trivial (Below.refl _ _) (Nat.le_refl _) (by simp) ?_; (case hd => rfl); (case hg => rfl); (case hr => first | (go_simp; done) | (go_simp; rfl)); (case hp => exact (Reps.one (show Kd.M (Kd.int .u8) _ _ _ ((wrap64 (48 + (Int.tmod x0_1 10))) % 256) [.int .u8 ((wrap64 (48 + (Int.tmod x0_1 10))) % 256)] from rfl) (Reps.none _ _))); intro v259 w16 ho17 hb hg_ hnew_; clear hg_ hnew_; (first | rw [← Ny258.out] at ho17 | (simp only [Int.reduceToNat] at ho17; rw [← Ny258.out] at ho17)); have n0_ := Az.mk (Kd.R_lower ho17 (below_size (by repeat (first | (with_reducible first | exact HB.out | apply bal | apply bdN | apply bdr) | exact HB.out)))); have n1_ := Az.mk (below_step (by repeat (first | (with_reducible first | exact HB.out | apply bal | apply bdN | apply bdr) | exact HB.out)) hb); clear HB; have HO260 := n0_; have HB := n1_; clear n0_ n1_; clear hb ho17; have hcv18 := own_string (P := Try.prog) Try.underlying22 Try.underlying5 Try.underlying9 (Kd.own_of_R HO260.out)))
      go_roundg k1
      case measure => have := HK1.out; omega
      case rel => exact ⟨(wrap64 (Int.tdiv x0_1 10)), ((strOfNums y258) ++ x3_1), (by first | rfl | (simp; done) | (simp [*]; done)), (by first | rfl | (simp; done) | (simp [*]; done)), H', ⟨by have := HK1.out; omega⟩, ⟨by repeat (first | (with_reducible first | exact HB.out | apply bal | apply bdN | apply bdr) | exact HB.out)⟩⟩
    ·rw [if_neg c11] at H
     exact absurd H (by simp)
def spec_decimal.f (k : Nat) (a0 : Int) : Option (ByteArray) := if a0 < 0 then ((spec_positive.f k a0).bind fun t261 => (if 1 + t261.size ≤ 9223372036854775807 then (some ((⟨#[45]⟩ : ByteArray) ++ t261)) else (none))) else ((spec_positive.f k a0).bind fun t262 => (some t262))
theorem spec_decimal.calls (k : Nat) (a0 : Int) (r : ByteArray) (w : World) (h : spec_decimal.f k a0 = some r) :
  Calls Try.prog 143 #[.int .i64 a0] w fun e w' => e = .returned (.string r) ∧ Below w.heap.size w w' := by
 have HB := Az.mk (Below.refl w.heap.size w)
 have H : (if a0 < 0 then ((spec_positive.f k a0).bind fun t261 => (if 1 + t261.size ≤ 9223372036854775807 then (some ((⟨#[45]⟩ : ByteArray) ++ t261)) else (none))) else ((spec_positive.f k a0).bind fun t262 => (some t262))) = some r := h
 clear h
 by_cases c2 : a0 < 0
 ·rw [if_pos c2] at H
  have c2b0 : decide (a0 < 0) = true := decide_eq_true c2
  clear c2
  replace H := Option.bind_eq_some_iff.mp H
  obtain ⟨t261, A30, H⟩ := H
  replace H : (if 1 + t261.size ≤ 9223372036854775807 then (some ((⟨#[45]⟩ : ByteArray) ++ t261)) else (none)) = some r := H
  have A3 := Az.mk A30
  clear A30
  by_cases c4 : 1 + t261.size ≤ 9223372036854775807
  ·rw [if_pos c4] at H
   have c4b0 := eq_true c4
   have c4b1 : decide (1 + t261.size ≤ 9223372036854775807) = true := decide_eq_true c4
   try have c4b2 : (9223372036854775807 < 1 + t261.size) = False := eq_false (Nat.not_lt.2 c4)
   obtain rfl := Option.some.inj H
   go_enter Try.func143, Try.ntmps143
   go_wp2_with (first | ((with_reducible refine gate_callee (f := 148) rfl ?_); refine goesL_ (some 6) rfl rfl Try.func148 (by kernel_rfl) rfl #[.int .i64 a0] rfl (by (try simp only [List.map_toArray, List.map_cons, List.map_nil]); first | done | rfl | (simp only [List.length_drop, List.length_take]; rfl)) ?_; (with_reducible refine (spec_positive.calls k a0 t261 _ A3.out).mono ?_); rintro e w5 ⟨rfl, hb⟩; refine ⟨_, rfl, ?_⟩; have n0_ := Az.mk (below_step (by repeat (first | (with_reducible first | exact HB.out | apply bal | apply bdN | apply bdr) | exact HB.out)) hb); clear HB; have HB := n0_; clear n0_; (try clear hb); (try clear hb2); (try clear hk); (try clear hi)))
   go_ret
   exact ⟨by first | rfl | (simp [errW_none, errW_some] <;> rfl) | (simp [*, errW_none, errW_some] <;> rfl), by repeat (first | (with_reducible first | exact HB.out | apply bal | apply bdN | apply bdr) | exact HB.out)⟩
  ·rw [if_neg c4] at H
   exact absurd H (by simp)
 ·rw [if_neg c2] at H
  have c2b0 : decide (a0 < 0) = false := decide_eq_false c2
  clear c2
  replace H := Option.bind_eq_some_iff.mp H
  obtain ⟨t262, A60, H⟩ := H
  replace H : (some t262) = some r := H
  have A6 := Az.mk A60
  clear A60
  obtain rfl := Option.some.inj H
  go_enter Try.func143, Try.ntmps143
  go_wp2_with (first | ((with_reducible refine gate_callee (f := 148) rfl ?_); refine goesL_ (some 9) rfl rfl Try.func148 (by kernel_rfl) rfl #[.int .i64 a0] rfl (by (try simp only [List.map_toArray, List.map_cons, List.map_nil]); first | done | rfl | (simp only [List.length_drop, List.length_take]; rfl)) ?_; (with_reducible refine (spec_positive.calls k a0 t262 _ A6.out).mono ?_); rintro e w7 ⟨rfl, hb⟩; refine ⟨_, rfl, ?_⟩; have n0_ := Az.mk (below_step (by repeat (first | (with_reducible first | exact HB.out | apply bal | apply bdN | apply bdr) | exact HB.out)) hb); clear HB; have HB := n0_; clear n0_; (try clear hb); (try clear hb2); (try clear hk); (try clear hi)))
  go_ret
  exact ⟨by first | rfl | (simp [errW_none, errW_some] <;> rfl) | (simp [*, errW_none, errW_some] <;> rfl), by repeat (first | (with_reducible first | exact HB.out | apply bal | apply bdN | apply bdr) | exact HB.out)⟩
def spec_inList.l0 : Nat → List Int → Int → Int → Option (Bool)
 | 0, _, _, _ => none
 | k + 1, x0, x1, x5 => if x5 < (x0.length : Int) then (if 0 ≤ x5 then (if (rd x0 x5) = x1 then (some true) else (spec_inList.l0 k x0 x1 (wrap64 (x5 + 1)))) else (none)) else (some false)
def spec_inList.f (k : Nat) (l0 : List Int) (a1 : Int) : Option (Bool) := spec_inList.l0 k l0 a1 0
theorem spec_inList.calls (k : Nat) (A0 : Option Addr) (c0 : Nat) (l0 : List Int) (a1 : Int) (r : Bool) (w : World) (hr0 : Kd.C (Kd.int .i64) w A0 l0.length l0) (hc0 : l0.length ≤ c0) (h : spec_inList.f k l0 a1 = some r) :
  Calls Try.prog 86 #[.slice A0 l0.length c0, .int .i64 a1] w fun e w' => e = .returned (.bool r) ∧ Drawn0 w w' := by
 have HR0 := Az.mk hr0
 have HC0 := Az.mk hc0
 clear hr0 hc0
 have H : (spec_inList.l0 k l0 a1 0) = some r := h
 clear h
 have H' := Az.mk H
 clear H
 go_enter Try.func86, Try.ntmps86
 go_wp2
 go_loopg [5] k (fun kq v5 w' => ∃ (x5_1 : Int), v5 = .int .i64 x5_1 ∧ Az (spec_inList.l0 kq l0 a1 x5_1 = some r) ∧ Az (kq ≤ k) ∧ Drawn0 w w')
 case atStart => exact ⟨(0), (by first | rfl | (simp; done) | (simp [*]; done)), H', ⟨Nat.le_refl _⟩, by repeat (first | exact Drawn0.refl _ | apply Drawn0.step)⟩
 case round =>
  clear H'
  try clear p2
  obtain ⟨x5_1, rfl, HA, HK1, ⟨m1, rfl⟩⟩ := hrel
  cases gk with
  | zero => exact absurd HA.out (by simp [spec_inList.l0])
  | succ k1 =>
   have H := HA.out
   clear HA
   simp only [spec_inList.l0] at H
   by_cases c3 : x5_1 < (l0.length : Int)
   ·rw [if_pos c3] at H
    have c3b0 : decide (x5_1 < (l0.length : Int)) = true := decide_eq_true c3
    clear c3
    by_cases c4 : 0 ≤ x5_1
    ·rw [if_pos c4] at H
     have c4b0 : decide (0 ≤ x5_1) = true := decide_eq_true c4
     clear c4
     by_cases c5 : (rd l0 x5_1) = a1
     ·rw [if_pos c5] at H
      have c5b0 : ((rd l0 x5_1) == a1) = true := beq_iff_eq.mpr c5
      have c5b1 : ((rd l0 x5_1) != a1) = false := bne_eq_false_iff_eq.mpr c5
      clear c5
      obtain rfl := Option.some.inj H
      have p263 : 0 ≤ (x5_1 : Int) := of_decide_eq_true (by first | (with_reducible assumption) | assumption)
      have q263 : x5_1 < (l0.length : Int) := of_decide_eq_true (by first | (with_reducible assumption) | assumption)
      obtain ⟨ad263, e263, hx263_0⟩ := Kd.at_int HR0.out x5_1 p263 q263
      cases e263
      replace p263 := eq_true p263
      replace q263 := eq_true q263
      go_wp2
      go_ret
      exact ⟨by first | rfl | (simp; done) | (simp [*]; done), by repeat (first | exact Drawn0.refl _ | apply Drawn0.step)⟩
     ·rw [if_neg c5] at H
      have c5b0 : ((rd l0 x5_1) == a1) = false := beq_eq_false_iff_ne.mpr c5
      have c5b1 : ((rd l0 x5_1) != a1) = true := bne_iff_ne.mpr c5
      have H' := Az.mk H
      clear H
      have p263 : 0 ≤ (x5_1 : Int) := of_decide_eq_true (by first | (with_reducible assumption) | assumption)
      have q263 : x5_1 < (l0.length : Int) := of_decide_eq_true (by first | (with_reducible assumption) | assumption)
      obtain ⟨ad263, e263, hx263_0⟩ := Kd.at_int HR0.out x5_1 p263 q263
      cases e263
      replace p263 := eq_true p263
      replace q263 := eq_true q263
      go_wp2
      go_roundg k1
      case measure => have := HK1.out; omega
      case rel => exact ⟨(wrap64 (x5_1 + 1)), (by first | rfl | (simp; done) | (simp [*]; done)), H', ⟨by have := HK1.out; omega⟩, by repeat (first | exact Drawn0.refl _ | apply Drawn0.step)⟩
    ·rw [if_neg c4] at H
     exact absurd H (by simp)
   ·rw [if_neg c3] at H
    have c3b0 : decide (x5_1 < (l0.length : Int)) = false := decide_eq_false c3
    clear c3
    obtain rfl := Option.some.inj H
    go_wp2
    go_ret
    exact ⟨by first | rfl | (simp; done) | (simp [*]; done), by repeat (first | exact Drawn0.refl _ | apply Drawn0.step)⟩
def spec_HasInt.f (k : Nat) (l0 : List Int) (a1 : Int) : Option (Bool) := (spec_inList.f k l0 a1).bind fun t264 => (some t264)
theorem spec_HasInt.calls (k : Nat) (A0 : Option Addr) (c0 : Nat) (l0 : List Int) (a1 : Int) (r : Bool) (w : World) (hr0 : Kd.C (Kd.int .i64) w A0 l0.length l0) (hc0 : l0.length ≤ c0) (h : spec_HasInt.f k l0 a1 = some r) :
  Calls Try.prog 42 #[.slice A0 l0.length c0, .int .i64 a1] w fun e w' => e = .returned (.bool r) ∧ Drawn0 w w' := by
 have HR0 := Az.mk hr0
 have HC0 := Az.mk hc0
 clear hr0 hc0
 have H : ((spec_inList.f k l0 a1).bind fun t264 => (some t264)) = some r := h
 clear h
 replace H := Option.bind_eq_some_iff.mp H
 obtain ⟨t264, A30, H⟩ := H
 replace H : (some t264) = some r := H
 have A3 := Az.mk A30
 clear A30
 obtain rfl := Option.some.inj H
 go_enter Try.func42, Try.ntmps42
 go_wp2_with (first | ((with_reducible refine gate_callee (f := 86) rfl ?_); refine goesL_ (some 7) rfl rfl Try.func86 (by kernel_rfl) rfl #[.slice A0 l0.length c0, .int .i64 a1] rfl (by (try simp only [List.map_toArray, List.map_cons, List.map_nil]); first | done | rfl | (simp only [List.length_drop, List.length_take]; rfl)) ?_; (with_reducible refine (spec_inList.calls k _ _ l0 a1 t264 _ ?side1 ?side2 A3.out).mono ?_); (case side1 => repeat (first | exact HR0.out | (with_reducible refine Kd.C_alloc ?_ _) | (with_reducible refine Kd.C_drewN ?_ _) | (with_reducible refine Kd.C_drew ?_))); (case side2 => exact HC0.out); rintro e w' ⟨rfl, ⟨nd, rfl⟩⟩; refine ⟨_, rfl, ?_⟩))
 go_ret
 exact ⟨by first | rfl | (simp; done) | (simp [*]; done), by repeat (first | exact Drawn0.refl _ | apply Drawn0.step)⟩
def impl_marked.l0 : Nat → Bool → List Int → List Bool → Int → Int → Option (List Int)
 | 0, _, _, _, _, _ => none
 | k + 1, x1, x5, x8, x9, x10 => if x10 < x9 then (if 0 ≤ x10 then (if x10 < (x8.length : Int) then (if ((rdOf false x8 x10) == x1) = true then (if x5.length < 17592186044416 then (impl_marked.l0 k x1 (x5 ++ [x10]) x8 x9 (wrap64 (x10 + 1))) else (none)) else (impl_marked.l0 k x1 x5 x8 x9 (wrap64 (x10 + 1)))) else (none)) else (none)) else (some x5)
def impl_marked.f (k : Nat) (l0 : List Bool) (a1 : Bool) : Option (List Int) := impl_marked.l0 k a1 ([] : List Int) l0 (l0.length : Int) 0
theorem impl_marked.calls (k : Nat) (A0 : Option Addr) (c0 : Nat) (l0 : List Bool) (a1 : Bool) (r : List Int) (w : World) (hr0 : Kd.C Kd.bool w A0 l0.length l0) (hc0 : l0.length ≤ c0) (h : impl_marked.f k l0 a1 = some r) :
  Calls Try.prog 60 #[.slice A0 l0.length c0, .bool a1] w fun e w' => ∃ v0_ : Value, e = .returned (v0_) ∧ Kd.R (Kd.int .i64) 3 w' w.heap.size (fun _ => True) v0_ r ∧ Below w.heap.size w w' := by
 have HR0 := Az.mk hr0
 have HC0 := Az.mk hc0
 clear hr0 hc0
 have HB := Az.mk (Below.refl w.heap.size w)
 have H : (impl_marked.l0 k a1 ([] : List Int) l0 (l0.length : Int) 0) = some r := h
 clear h
 have H' := Az.mk H
 clear H
 go_enter Try.func60, Try.ntmps60
 go_wp2
 go_loopg [5, 10] k (fun kq v5 v10 w' => ∃ (x5_1 : List Int) (x10_1 : Int), v10 = .int .i64 x10_1 ∧ Az (impl_marked.l0 kq a1 x5_1 l0 (l0.length : Int) x10_1 = some r) ∧ Az (kq ≤ k) ∧ Az (Kd.R (Kd.int .i64) 3 w' w.heap.size (fun _ => True) v5 x5_1) ∧ Az (Below w.heap.size w w'))
 case atStart => exact ⟨(([] : List Int)), (0), (by first | rfl | (simp; done) | (simp [*]; done)), H', ⟨Nat.le_refl _⟩, ⟨by first | exact Kd.R_nil _ _ _ _ _ | exact Kd.N_nil _ _ _ _ _ | exact Kd.V_nil _ _ _ _ _ | exact Kd.Q_nil _ _ _ _ _ | exact Kd.S_nil _ _ _ _ _⟩, ⟨by repeat (first | (with_reducible first | exact HB.out | apply bal | apply bdN | apply bdr) | exact HB.out)⟩⟩
 case round =>
  clear H'
  try clear p2
  obtain ⟨x5_1, x10_1, rfl, HA, HK1, HO_5, HB⟩ := hrel
  cases gk with
  | zero => exact absurd HA.out (by simp [impl_marked.l0])
  | succ k1 =>
   have H := HA.out
   clear HA
   simp only [impl_marked.l0] at H
   by_cases c3 : x10_1 < (l0.length : Int)
   ·rw [if_pos c3] at H
    have c3b0 : decide (x10_1 < (l0.length : Int)) = true := decide_eq_true c3
    clear c3
    by_cases c4 : 0 ≤ x10_1
    ·rw [if_pos c4] at H
     have c4b0 : decide (0 ≤ x10_1) = true := decide_eq_true c4
     clear c4
     by_cases c5 : x10_1 < (l0.length : Int)
     ·rw [if_pos c5] at H
      have c5b0 : decide (x10_1 < (l0.length : Int)) = true := decide_eq_true c5
      clear c5
      by_cases c6 : ((rdOf false l0 x10_1) == a1) = true
      ·rw [if_pos c6] at H
       have c6b0 : ((rdOf false l0 x10_1) == a1) = true := c6
       (try (have c6b1 : decide ((rdOf false l0 x10_1) = a1) = true := by simpa using c6))
       (try (have c6b2 : ((rdOf false l0 x10_1) == a1) = true := by simpa using c6))
       clear c6
       by_cases c7 : x5_1.length < 17592186044416
       ·rw [if_pos c7] at H
        have LMc7 := Az.mk c7
        clear c7
        obtain ⟨y266, hy266⟩ : ∃ y_ : List Int, y_ = (x5_1 ++ [x10_1]) := ⟨_, rfl⟩
        replace H : (impl_marked.l0 k1 a1 y266 l0 (l0.length : Int) (wrap64 (x10_1 + 1))) = some r := by first | (rw [hy266]; with_reducible exact H) | (have H2_ := (Option.bind_some _ _).symm.trans H; rw [hy266]; with_reducible exact H2_) | (have H2_ := (Option.bind_some _ _).symm.trans H; with_reducible exact H2_) | with_reducible exact H | (rw [hy266]; exact H) | exact H
        have Ny266 := Az.mk hy266
        clear hy266
        have H' := Az.mk H
        clear H
        have p265 : 0 ≤ (x10_1 : Int) := of_decide_eq_true (by first | (with_reducible assumption) | assumption)
        have q265 : x10_1 < (l0.length : Int) := of_decide_eq_true (by first | (with_reducible assumption) | assumption)
        obtain ⟨ad265, e265, hx265_0⟩ := Kd.at_bool HR0.out x10_1 p265 q265
        cases e265
        replace hx265_0 := (HB.out.cell (World.block_lt_of_cell? w _ hx265_0)).trans hx265_0
        replace p265 := eq_true p265
        replace q265 := eq_true q265
        go_wp2_with (first | ((with_reducible refine gate_builtin (b := .append) (xs := #[.tmp 18, .tmp 20]) rfl ?_); at_builtin; refine Kd.R_append (Kd.int .i64) (w0 := w) w.heap.size rfl (.tmp 18) (.tmp 20) 35 3 (.int .i64 0) 8 rfl Try.underlying35 info3 rfl (by decide) (by omega) u5 x5_1 x10_1 [.int .i64 x10_1] (fun _ => True) (fun _ => False) rfl rfl ?aP (fun _ hk => hk.elim) ?aF ?aO ?aB ?aS ?aL ?_; (case aP => exact rfl); (case aB => exact (by repeat (first | (with_reducible first | exact HB.out | apply bal | apply bdN | apply bdr) | exact HB.out))); (case aF => exact (fun _ _ => trivial)); (case aO => exact (by (with_reducible repeat (first | apply Kd.R_alloc | apply Kd.R_drewN | apply Kd.R_drew)); exact HO_5.out)); (case aS => exact (below_size (by repeat (first | (with_reducible first | exact HB.out | apply bal | apply bdN | apply bdr) | exact HB.out)))); (case aL => have := LMc7.out; omega); intro v267 w8 ho hb hg hat; rw [← Ny266.out] at ho; have n0_ := Az.mk (hb); have n1_ := Az.mk (ho); clear HB; clear HO_5; have HB := n0_; have HO268 := n1_; clear n0_ n1_; clear ho hb hg hat))
        go_roundg k1
        case measure => have := HK1.out; omega
        case rel => exact ⟨(y266), (wrap64 (x10_1 + 1)), (by first | rfl | (simp; done) | (simp [*]; done)), H', ⟨by have := HK1.out; omega⟩, ⟨by (with_reducible repeat (first | apply Kd.R_alloc | apply Kd.R_drewN | apply Kd.R_drew)); exact HO268.out⟩, ⟨by repeat (first | (with_reducible first | exact HB.out | apply bal | apply bdN | apply bdr) | exact HB.out)⟩⟩
       ·rw [if_neg c7] at H
        exact absurd H (by simp)
      ·rw [if_neg c6] at H
       have c6b0 : ((rdOf false l0 x10_1) == a1) = false := by simpa using c6
       (try (have c6b1 : decide ((rdOf false l0 x10_1) = a1) = false := by simpa using c6))
       (try (have c6b2 : ((rdOf false l0 x10_1) == a1) = false := by simpa using c6))
       (try (have c6b3 : ¬ ((rdOf false l0 x10_1) = a1) := by simpa using c6))
       clear c6
       have H' := Az.mk H
       clear H
       have p265 : 0 ≤ (x10_1 : Int) := of_decide_eq_true (by first | (with_reducible assumption) | assumption)
       have q265 : x10_1 < (l0.length : Int) := of_decide_eq_true (by first | (with_reducible assumption) | assumption)
       obtain ⟨ad265, e265, hx265_0⟩ := Kd.at_bool HR0.out x10_1 p265 q265
       cases e265
       replace hx265_0 := (HB.out.cell (World.block_lt_of_cell? w _ hx265_0)).trans hx265_0
       replace p265 := eq_true p265
       replace q265 := eq_true q265
       go_wp2
       go_roundg k1
       case measure => have := HK1.out; omega
       case rel => exact ⟨(x5_1), (wrap64 (x10_1 + 1)), (by first | rfl | (simp; done) | (simp [*]; done)), H', ⟨by have := HK1.out; omega⟩, ⟨by (with_reducible repeat (first | apply Kd.R_alloc | apply Kd.R_drewN | apply Kd.R_drew)); exact HO_5.out⟩, ⟨by repeat (first | (with_reducible first | exact HB.out | apply bal | apply bdN | apply bdr) | exact HB.out)⟩⟩
     ·rw [if_neg c5] at H
      exact absurd H (by simp)
    ·rw [if_neg c4] at H
     exact absurd H (by simp)
   ·rw [if_neg c3] at H
    have c3b0 : decide (x10_1 < (l0.length : Int)) = false := decide_eq_false c3
    clear c3
    obtain rfl := Option.some.inj H
    go_wp2
    go_ret
    exact ⟨_, by first | rfl | (simp [errW_none, errW_some] <;> rfl) | (simp [*, errW_none, errW_some] <;> rfl), by (with_reducible repeat (first | apply Kd.R_alloc | apply Kd.R_drewN | apply Kd.R_drew)); exact HO_5.out, by repeat (first | (with_reducible first | exact HB.out | apply bal | apply bdN | apply bdr) | exact HB.out)⟩
end Go.Proofs.Ytehhhlhedmfdiaa.PFnImportOrder
end
section
namespace Go.Proofs.Ytehhhlhedmfdiaa.PFnImportOrder
open Go.RowKit Go.Proofs.Yz0.PrintWords Go.Proofs.Yz0.PrintLast Go.Proofs.Yz0.PrintMore
set_option linter.unusedVariables false
set_option linter.unusedSimpArgs false
def slices_Clone_int_int.f (l0 : List Int) : Option (List Int) := if l0.length < 17592186044416 then some l0 else none
theorem slices_Clone_int_int.calls (A0 : Option Addr) (c0 : Nat) (l0 : List Int) (r : List Int) (w : World) (hr0 : Kd.C (Kd.int .i64) w A0 l0.length l0) (hc0 : l0.length ≤ c0) (h : slices_Clone_int_int.f l0 = some r) :
  Calls Try.prog 82 #[.slice A0 l0.length c0] w fun e w' => ∃ v0_ : Value, e = .returned (v0_) ∧ Kd.R (Kd.int .i64) 3 w' w.heap.size (fun _ => True) v0_ r ∧ Below w.heap.size w w' := by
 unfold slices_Clone_int_int.f at h
 split at h
 case isFalse => cases h
 case isTrue LM =>
 obtain rfl := Option.some.inj h
 clear h
 have HR0 := Az.mk hr0
 have HC0 := Az.mk hc0
 clear hr0 hc0
 have HB := Az.mk (Below.refl w.heap.size w)
 have LMc := Az.mk LM
 clear LM
 cases A0 with
 | none =>
  have hn : l0 = [] := by
   have := HR0.out.2.2
   rcases Nat.eq_zero_or_pos l0.length with h0 | h0
   ·exact List.length_eq_zero_iff.1 h0
   ·obtain ⟨ad, e, _⟩ := this h0; cases e
  subst hn
  have hq := fun (w : World) (n c : Nat) => Lib.run_eql_slice_nil (P := Try.prog) w 35 3 none n c 0 0 Try.underlying35
  go_enter Try.func82, Try.ntmps82
  go_wp2
  go_ret
  exact ⟨_, rfl, Kd.R_nil _ _ _ _ _, HB.out⟩
 | some ad =>
  have hq := fun (w : World) (n c : Nat) => Lib.run_eql_slice_nil (P := Try.prog) w 35 3 (some ad) n c 0 0 Try.underlying35
  go_enter Try.func82, Try.ntmps82
  go_wp2_with (first | ((with_reducible refine gate_dst (N := 5) rfl ?_); refine Kd.R_lit (Kd.int .i64) _ 3 ?hg (N := 5) ?hd (xs := ([] : List Int)) (inner := []) (ok := fun _ => True) (okp := fun _ => True) ?hr ?hp (fun _ hk => hk) trivial (Below.refl _ _) (Nat.le_refl _) (by simp) ?_; (case hd => rfl); (case hg => rfl); (case hr => first | (go_simp; done) | (go_simp; rfl)); (case hp => exact (Reps.none _ _)); intro v140 w8 ho9 hb hg_ hnew_; clear hg_ hnew_; have n1_ := Az.mk (Kd.R_lower ho9 (below_size HB.out)); have n2_ := Az.mk (below_step HB.out hb); clear HB; have HO141 := n1_; have HB := n2_; clear n1_ n2_; clear hb ho9) | ((with_reducible refine gate_builtin (b := .append) (xs := #[.tmp 5, .tmp 6]) rfl ?_); at_builtin; refine Kd.R_append_rows (Kd.int .i64) (w0 := w) w.heap.size rfl (.tmp 5) (.tmp 6) 35 3 (.int .i64 0) 8 rfl Try.underlying35 info3 rfl (by decide) (by omega) v140 [] l0 _ _ _ (fun _ => True) (fun _ => False) rfl rfl ?aO ?aR (fun _ _ h => h) (fun _ h => h.elim) ?aF ?aB ?aS ?aL ?_; (case aR => exact (Kd.C_below HR0.out HB.out)); (case aB => exact HB.out); (case aF => exact (fun _ _ => trivial)); (case aO => exact HO141.out); (case aS => exact (below_size HB.out)); (case aL => have := LMc.out; simp only [List.length_nil]; omega); intro v143 w10 ho hb hg hat; have n1_ := Az.mk (hb); have n2_ := Az.mk (ho); clear HB; clear HO141; have HB := n1_; have HO144 := n2_; clear n1_ n2_; clear ho hb hg hat))
  go_ret
  exact ⟨_, rfl, HO144.out, HB.out⟩
end Go.Proofs.Ytehhhlhedmfdiaa.PFnImportOrder
end
section
namespace Go.Proofs.Ytehhhlhedmfdiaa.PFnImportOrder
open Go.RowKit Go.Proofs.Yz0.PrintWords Go.Proofs.Yz0.PrintLast Go.Proofs.Yz0.PrintMore
attribute [local go_sem] max2_int min2_int max_two min_two max_three min_three max_four min_four
set_option linter.unusedVariables false
set_option linter.unusedSimpArgs false
def impl_reached.l0 : Nat → List (List Int) → List Bool → List Int → Option (List Bool)
 | 0, _, _, _ => none
 | k + 1, x0, x5, x6 => if (x6.length : Int) > 0 then (if 0 ≤ (wrap64 ((x6.length : Int) - 1)) then (if (wrap64 ((x6.length : Int) - 1)) < (x6.length : Int) then (if (wrap64 ((x6.length : Int) - 1)) ≤ (x6.length : Int) then ((some (x6.take ((wrap64 ((x6.length : Int) - 1)) : Int).toNat : List Int)).bind fun y276 => (if 0 ≤ (rd x6 (wrap64 ((x6.length : Int) - 1))) then (if (rd x6 (wrap64 ((x6.length : Int) - 1))) < (x5.length : Int) then (if (rdOf false x5 (rd x6 (wrap64 ((x6.length : Int) - 1))) = true) then (impl_reached.l0 k x0 x5 y276) else (if (rd x6 (wrap64 ((x6.length : Int) - 1))) < (x0.length : Int) then (if y276.length + (rd_L6 x0 (rd x6 (wrap64 ((x6.length : Int) - 1)))).length < 17592186044416 then (impl_reached.l0 k x0 (x5.set ((rd x6 (wrap64 ((x6.length : Int) - 1))) : Int).toNat true) (y276 ++ (rd_L6 x0 (rd x6 (wrap64 ((x6.length : Int) - 1)))))) else (none)) else (none))) else (none)) else (none))) else (none)) else (none)) else (none)) else (some x5)
def impl_reached.f (k : Nat) (l0 : List (List Int)) (l1 : List Int) : Option (List Bool) := if 0 ≤ (l0.length : Int) then (if ((l0.length : Int) : Int).toNat ≤ 281474976710656 then ((slices_Clone_int_int.f l1).bind fun t272 => (impl_reached.l0 k l0 (List.replicate ((l0.length : Int) : Int).toNat false) t272)) else (none)) else (none)
theorem impl_reached.calls (k : Nat) (A0 : Option Addr) (c0 : Nat) (l0 : List (List Int)) (A1 : Option Addr) (c1 : Nat) (l1 : List Int) (r : List Bool) (w : World) (hr0 : Kd.C (Kd.slice 3 (Kd.int .i64)) w A0 l0.length l0) (hc0 : l0.length ≤ c0) (hr1 : Kd.C (Kd.int .i64) w A1 l1.length l1) (hc1 : l1.length ≤ c1) (h : impl_reached.f k l0 l1 = some r) :
  Calls Try.prog 61 #[.slice A0 l0.length c0, .slice A1 l1.length c1] w fun e w' => ∃ v0_ : Value, e = .returned (v0_) ∧ Kd.R Kd.bool 4 w' w.heap.size (fun _ => True) v0_ r ∧ Below w.heap.size w w' := by
 have HR0 := Az.mk hr0
 have HC0 := Az.mk hc0
 clear hr0 hc0
 have HR1 := Az.mk hr1
 have HC1 := Az.mk hc1
 clear hr1 hc1
 have HB := Az.mk (Below.refl w.heap.size w)
 have H : (if 0 ≤ (l0.length : Int) then (if ((l0.length : Int) : Int).toNat ≤ 281474976710656 then ((slices_Clone_int_int.f l1).bind fun t272 => (impl_reached.l0 k l0 (List.replicate ((l0.length : Int) : Int).toNat false) t272)) else (none)) else (none)) = some r := h
 clear h
 by_cases c3 : 0 ≤ (l0.length : Int)
 ·rw [if_pos c3] at H
  have c3b0 := eq_true c3
  have c3b1 : decide (0 ≤ (l0.length : Int)) = true := decide_eq_true c3
  clear c3
  by_cases c4 : ((l0.length : Int) : Int).toNat ≤ 281474976710656
  ·rw [if_pos c4] at H
   have c4b0 := eq_true c4
   have c4b1 : decide (((l0.length : Int) : Int).toNat ≤ 281474976710656) = true := decide_eq_true c4
   clear c4
   obtain ⟨y269, hy269⟩ : ∃ y_ : List Bool, y_ = (List.replicate ((l0.length : Int) : Int).toNat false) := ⟨_, rfl⟩
   replace H : ((slices_Clone_int_int.f l1).bind fun t272 => (impl_reached.l0 k l0 y269 t272)) = some r := by first | (rw [hy269]; with_reducible exact H) | (have H2_ := (Option.bind_some _ _).symm.trans H; rw [hy269]; with_reducible exact H2_) | (have H2_ := (Option.bind_some _ _).symm.trans H; with_reducible exact H2_) | with_reducible exact H | (rw [hy269]; exact H) | exact H
   have Ny269 := Az.mk hy269
   clear hy269
   replace H := Option.bind_eq_some_iff.mp H
   obtain ⟨t272, A50, H⟩ := H
   replace H : (impl_reached.l0 k l0 y269 t272) = some r := H
   have A5 := Az.mk A50
   clear A50
   have H' := Az.mk H
   clear H
   go_enter Try.func61, Try.ntmps61
   go_wp2_with (first | ((with_reducible refine gate_dst (N := 10) rfl ?_); refine Kd.R_make Kd.bool _ 4 rfl (N := 10) rfl 91 _ _ rfl (l0.length : Int) rfl rfl Try.underlying91 (.bool false) 1 info4 rfl (by decide) (by omega) false (ok := fun _ => True) (okp := fun _ => True) rfl (fun _ hk => hk) trivial (of_decide_eq_true (by first | (with_reducible assumption) | assumption)) (Nat.le_trans (Nat.mul_le_mul_right _ (of_decide_eq_true (by first | (with_reducible assumption) | assumption) : (l0.length : Int).toNat ≤ 281474976710656)) (by omega)) (Below.refl _ _) (Nat.le_refl _) ?_; intro v270 w6 ho7 hb hg_ hnew_; clear hg_ hnew_; (first | rw [← Ny269.out] at ho7 | (simp only [Int.reduceToNat] at ho7; rw [← Ny269.out] at ho7)); have n0_ := Az.mk (Kd.R_lower ho7 (below_size (by repeat (first | (with_reducible first | exact HB.out | apply bal | apply bdN | apply bdr) | exact HB.out)))); have n1_ := Az.mk (below_step (by repeat (first | (with_reducible first | exact HB.out | apply bal | apply bdN | apply bdr) | exact HB.out)) hb); clear HB; have HO271 := n0_; have HB := n1_; clear n0_ n1_; clear hb ho7) | ((with_reducible refine gate_callee (f := 82) rfl ?_); refine goesL_ (some 12) rfl rfl Try.func82 (by kernel_rfl) rfl #[.slice A1 l1.length c1] rfl (by (try simp only [List.map_toArray, List.map_cons, List.map_nil]); first | done | rfl | (simp only [List.length_drop, List.length_take]; rfl)) ?_; (with_reducible refine (slices_Clone_int_int.calls _ _ l1 t272 _ ?side1 ?side2 A5.out).mono ?_); (case side1 => repeat (first | exact (Kd.C_below HR1.out HB.out) | (with_reducible refine Kd.C_alloc ?_ _) | (with_reducible refine Kd.C_drewN ?_ _) | (with_reducible refine Kd.C_drew ?_))); (case side2 => exact HC1.out); rintro e w8 ⟨v273, rfl, ho0, hb⟩; refine ⟨_, rfl, ?_⟩; have n0_ := Az.mk (Kd.R_below (by (with_reducible repeat (first | apply Kd.R_alloc | apply Kd.R_drewN | apply Kd.R_drew)); exact HO271.out) hb); have n1_ := Az.mk (Kd.R_lower ho0 (below_size (by repeat (first | (with_reducible first | exact HB.out | apply bal | apply bdN | apply bdr) | exact HB.out)))); have n2_ := Az.mk (below_step (by repeat (first | (with_reducible first | exact HB.out | apply bal | apply bdN | apply bdr) | exact HB.out)) hb); clear HO271; clear HB; have HO271 := n0_; have HO274 := n1_; have HB := n2_; clear n0_ n1_ n2_; (try clear hb); (try clear hb2); (try clear hk); (try clear hi); (try clear ho0)))
   go_loopg [6] k (fun kq v6 w' => ∃ (x5_1 : List Bool) (x6_1 : List Int), Az (impl_reached.l0 kq l0 x5_1 x6_1 = some r) ∧ Az (kq ≤ k) ∧ Az (Kd.R Kd.bool 4 w' w.heap.size (fun _ => True) v270 x5_1) ∧ Az (Kd.R (Kd.int .i64) 3 w' w.heap.size (fun _ => True) v6 x6_1) ∧ Az (Below w.heap.size w w'))
   case atStart => exact ⟨(y269), (t272), H', ⟨Nat.le_refl _⟩, ⟨by (with_reducible repeat (first | apply Kd.R_alloc | apply Kd.R_drewN | apply Kd.R_drew)); exact HO271.out⟩, ⟨by (with_reducible repeat (first | apply Kd.R_alloc | apply Kd.R_drewN | apply Kd.R_drew)); exact HO274.out⟩, ⟨by repeat (first | (with_reducible first | exact HB.out | apply bal | apply bdN | apply bdr) | exact HB.out)⟩⟩
   case round =>
    clear H'
    try clear c1
    try clear p2
    try clear c3
    try clear c3b0
    try clear c3b1
    try clear c4
    try clear c4b0
    try clear c4b1
    try clear c6
    try clear c8
    obtain ⟨x5_1, x6_1, HA, HK1, HO_5, HO_6, HB⟩ := hrel
    cases gk with
    | zero => exact absurd HA.out (by simp [impl_reached.l0])
    | succ k1 =>
     have H := HA.out
     clear HA
     simp only [impl_reached.l0] at H
     by_cases c9 : (x6_1.length : Int) > 0
     ·rw [if_pos c9] at H
      have c9b0 : decide (0 < (x6_1.length : Int)) = true := decide_eq_true c9
      have c9b1 : decide (0 < x6_1.length) = true := decide_eq_true (by omega)
      clear c9
      obtain ⟨ji10, hji10⟩ : ∃ j_ : Int, (wrap64 ((x6_1.length : Int) - 1)) = j_ := ⟨_, rfl⟩
      replace H : (if 0 ≤ (ji10) then (if (ji10) < (x6_1.length : Int) then (if (ji10) ≤ (x6_1.length : Int) then ((some (x6_1.take ((ji10) : Int).toNat : List Int)).bind fun y276 => (if 0 ≤ (rd x6_1 (ji10)) then (if (rd x6_1 (ji10)) < (x5_1.length : Int) then (if (rdOf false x5_1 (rd x6_1 (ji10)) = true) then (impl_reached.l0 k1 l0 x5_1 y276) else (if (rd x6_1 (ji10)) < (l0.length : Int) then (if y276.length + (rd_L6 l0 (rd x6_1 (ji10))).length < 17592186044416 then (impl_reached.l0 k1 l0 (x5_1.set ((rd x6_1 (ji10)) : Int).toNat true) (y276 ++ (rd_L6 l0 (rd x6_1 (ji10))))) else (none)) else (none))) else (none)) else (none))) else (none)) else (none)) else (none)) = some r := by first | (rw [hji10] at H; exact H) | (simp only [hji10] at H ⊢; exact H)
      have hji10w : (IntKind.i64.wrap ((x6_1.length : Int) - 1)) = ji10 := (i64_w _).trans hji10
      by_cases c11 : 0 ≤ (ji10)
      ·rw [if_pos c11] at H
       have c11b0 : decide (0 ≤ (ji10)) = true := decide_eq_true c11
       clear c11
       by_cases c12 : (ji10) < (x6_1.length : Int)
       ·rw [if_pos c12] at H
        have c12b0 : decide ((ji10) < (x6_1.length : Int)) = true := decide_eq_true c12
        clear c12
        by_cases c13 : (ji10) ≤ (x6_1.length : Int)
        ·rw [if_pos c13] at H
         have c13b0 := eq_true c13
         have c13b1 : decide ((ji10) ≤ (x6_1.length : Int)) = true := decide_eq_true c13
         clear c13
         obtain ⟨y276, hy276⟩ : ∃ y_ : List Int, y_ = (x6_1.take ((ji10) : Int).toNat) := ⟨_, rfl⟩
         replace H : (if 0 ≤ (rd x6_1 (ji10)) then (if (rd x6_1 (ji10)) < (x5_1.length : Int) then (if (rdOf false x5_1 (rd x6_1 (ji10)) = true) then (impl_reached.l0 k1 l0 x5_1 y276) else (if (rd x6_1 (ji10)) < (l0.length : Int) then (if y276.length + (rd_L6 l0 (rd x6_1 (ji10))).length < 17592186044416 then (impl_reached.l0 k1 l0 (x5_1.set ((rd x6_1 (ji10)) : Int).toNat true) (y276 ++ (rd_L6 l0 (rd x6_1 (ji10))))) else (none)) else (none))) else (none)) else (none)) = some r := by first | (rw [hy276]; with_reducible exact H) | (have H2_ := (Option.bind_some _ _).symm.trans H; rw [hy276]; with_reducible exact H2_) | (have H2_ := (Option.bind_some _ _).symm.trans H; with_reducible exact H2_) | with_reducible exact H | (rw [hy276]; exact H) | exact H
         have Ny276 := Az.mk hy276
         clear hy276
         by_cases c14 : 0 ≤ (rd x6_1 (ji10))
         ·rw [if_pos c14] at H
          have c14b0 : decide (0 ≤ (rd x6_1 (ji10))) = true := decide_eq_true c14
          clear c14
          by_cases c15 : (rd x6_1 (ji10)) < (x5_1.length : Int)
          ·rw [if_pos c15] at H
           have c15b0 : decide ((rd x6_1 (ji10)) < (x5_1.length : Int)) = true := decide_eq_true c15
           clear c15
           obtain ⟨bq16, hbq16⟩ : ∃ b_ : Bool, b_ = (rdOf false x5_1 (rd x6_1 (ji10))) := ⟨_, rfl⟩
           replace H : (if (bq16 = true) then (impl_reached.l0 k1 l0 x5_1 y276) else (if (rd x6_1 (ji10)) < (l0.length : Int) then (if y276.length + (rd_L6 l0 (rd x6_1 (ji10))).length < 17592186044416 then (impl_reached.l0 k1 l0 (x5_1.set ((rd x6_1 (ji10)) : Int).toNat true) (y276 ++ (rd_L6 l0 (rd x6_1 (ji10))))) else (none)) else (none))) = some r := by rw [← hbq16] at H; exact H
           have Nbq16 := Az.mk hbq16
           clear hbq16
           by_cases c17 : (bq16 = true)
           ·subst c17
            have H1 : (impl_reached.l0 k1 l0 x5_1 y276) = some r := by rw [if_pos rfl] at H; exact H
            clear H
            have H := H1
            clear H1
            have H' := Az.mk H
            clear H
            obtain ⟨Ao18, co18, eo18⟩ := Kd.R_slice HO_6.out
            subst eo18
            have p275 : 0 ≤ ((ji10) : Int) := of_decide_eq_true (by first | (with_reducible assumption) | assumption)
            have q275 : (ji10) < (x6_1.length : Int) := of_decide_eq_true (by first | (with_reducible assumption) | assumption)
            obtain ⟨ad275, e275, hx275_0⟩ := Kd.at_int (Kd.R_reads' HO_6.out).2.2 (ji10) p275 q275
            cases e275
            replace p275 := eq_true p275
            replace q275 := eq_true q275
            have q19 : ((ji10) : Int) ≤ ((x6_1.length : Int) : Int) := of_decide_eq_true (by first | (with_reducible assumption) | assumption)
            obtain ⟨i019, hi019, _, hsz19, _⟩ := info_parts info3
            have hcut19 := cut_to (P := Try.prog) 35 3 .i64 Try.underlying35 hi019 (some ad275) x6_1.length co18 (ji10) (of_decide_eq_true (by first | (with_reducible assumption) | assumption)) q19 (Kd.R_reads' HO_6.out).2.1
            have hr19 := Kd.R_take (m := ((ji10) : Int).toNat) HO_6.out (by omega)
            have hy19 : y276.length = ((ji10) : Int).toNat := (by rw [Ny276.out, List.length_take]; omega)
            rw [← Ny276.out] at hr19
            rw [← hy19] at hr19 hcut19
            clear hy19 hi019 hsz19 HO_6
            have HO278 := Az.mk hr19
            clear hr19
            replace q19 := eq_true q19
            obtain ⟨Ao20, co20, eo20⟩ := Kd.R_slice HO_5.out
            subst eo20
            have p279 : 0 ≤ ((rd x6_1 (ji10)) : Int) := of_decide_eq_true (by first | (with_reducible assumption) | assumption)
            have q279 : (rd x6_1 (ji10)) < (x5_1.length : Int) := of_decide_eq_true (by first | (with_reducible assumption) | assumption)
            obtain ⟨ad279, e279, hx279_0⟩ := Kd.at_bool (Kd.R_reads' HO_5.out).2.2 (rd x6_1 (ji10)) p279 q279
            (try rw [← Nbq16.out] at hx279_0)
            cases e279
            replace p279 := eq_true p279
            replace q279 := eq_true q279
            go_wp2
            go_roundg k1
            case measure => have := HK1.out; omega
            case rel => exact ⟨(x5_1), (y276), H', ⟨by have := HK1.out; omega⟩, ⟨by (with_reducible repeat (first | apply Kd.R_alloc | apply Kd.R_drewN | apply Kd.R_drew)); exact HO_5.out⟩, ⟨by (with_reducible repeat (first | apply Kd.R_alloc | apply Kd.R_drewN | apply Kd.R_drew)); exact HO278.out⟩, ⟨by repeat (first | (with_reducible first | exact HB.out | apply bal | apply bdN | apply bdr) | exact HB.out)⟩⟩
           ·replace c17 := Bool.eq_false_iff.mpr c17
            subst c17
            have H1 : (if (rd x6_1 (ji10)) < (l0.length : Int) then (if y276.length + (rd_L6 l0 (rd x6_1 (ji10))).length < 17592186044416 then (impl_reached.l0 k1 l0 (x5_1.set ((rd x6_1 (ji10)) : Int).toNat true) (y276 ++ (rd_L6 l0 (rd x6_1 (ji10))))) else (none)) else (none)) = some r := by rw [if_neg (show ¬ (false = true) by decide)] at H; exact H
            clear H
            have H := H1
            clear H1
            obtain ⟨y280, hy280⟩ : ∃ y_ : List Bool, y_ = (x5_1.set ((rd x6_1 (ji10)) : Int).toNat true) := ⟨_, rfl⟩
            replace H : (if (rd x6_1 (ji10)) < (l0.length : Int) then (if y276.length + (rd_L6 l0 (rd x6_1 (ji10))).length < 17592186044416 then (impl_reached.l0 k1 l0 y280 (y276 ++ (rd_L6 l0 (rd x6_1 (ji10))))) else (none)) else (none)) = some r := by first | (rw [hy280]; with_reducible exact H) | (have H2_ := (Option.bind_some _ _).symm.trans H; rw [hy280]; with_reducible exact H2_) | (have H2_ := (Option.bind_some _ _).symm.trans H; with_reducible exact H2_) | with_reducible exact H | (rw [hy280]; exact H) | exact H
            have Ny280 := Az.mk hy280
            clear hy280
            by_cases c22 : (rd x6_1 (ji10)) < (l0.length : Int)
            ·rw [if_pos c22] at H
             have c22b0 : decide ((rd x6_1 (ji10)) < (l0.length : Int)) = true := decide_eq_true c22
             clear c22
             by_cases c23 : y276.length + (rd_L6 l0 (rd x6_1 (ji10))).length < 17592186044416
             ·rw [if_pos c23] at H
              have LMc23 := Az.mk c23
              clear c23
              obtain ⟨y282, hy282⟩ : ∃ y_ : List Int, y_ = (y276 ++ (rd_L6 l0 (rd x6_1 (ji10)))) := ⟨_, rfl⟩
              replace H : (impl_reached.l0 k1 l0 y280 y282) = some r := by first | (rw [hy282]; with_reducible exact H) | (have H2_ := (Option.bind_some _ _).symm.trans H; rw [hy282]; with_reducible exact H2_) | (have H2_ := (Option.bind_some _ _).symm.trans H; with_reducible exact H2_) | with_reducible exact H | (rw [hy282]; exact H) | exact H
              have Ny282 := Az.mk hy282
              clear hy282
              have H' := Az.mk H
              clear H
              obtain ⟨Ao24, co24, eo24⟩ := Kd.R_slice HO_6.out
              subst eo24
              have p275 : 0 ≤ ((ji10) : Int) := of_decide_eq_true (by first | (with_reducible assumption) | assumption)
              have q275 : (ji10) < (x6_1.length : Int) := of_decide_eq_true (by first | (with_reducible assumption) | assumption)
              obtain ⟨ad275, e275, hx275_0⟩ := Kd.at_int (Kd.R_reads' HO_6.out).2.2 (ji10) p275 q275
              cases e275
              replace p275 := eq_true p275
              replace q275 := eq_true q275
              have q25 : ((ji10) : Int) ≤ ((x6_1.length : Int) : Int) := of_decide_eq_true (by first | (with_reducible assumption) | assumption)
              obtain ⟨i025, hi025, _, hsz25, _⟩ := info_parts info3
              have hcut25 := cut_to (P := Try.prog) 35 3 .i64 Try.underlying35 hi025 (some ad275) x6_1.length co24 (ji10) (of_decide_eq_true (by first | (with_reducible assumption) | assumption)) q25 (Kd.R_reads' HO_6.out).2.1
              have hr25 := Kd.R_take (m := ((ji10) : Int).toNat) HO_6.out (by omega)
              have hy25 : y276.length = ((ji10) : Int).toNat := (by rw [Ny276.out, List.length_take]; omega)
              rw [← Ny276.out] at hr25
              rw [← hy25] at hr25 hcut25
              clear hy25 hi025 hsz25 HO_6
              have HO278 := Az.mk hr25
              clear hr25
              replace q25 := eq_true q25
              obtain ⟨Ao26, co26, eo26⟩ := Kd.R_slice HO_5.out
              subst eo26
              have p279 : 0 ≤ ((rd x6_1 (ji10)) : Int) := of_decide_eq_true (by first | (with_reducible assumption) | assumption)
              have q279 : (rd x6_1 (ji10)) < (x5_1.length : Int) := of_decide_eq_true (by first | (with_reducible assumption) | assumption)
              obtain ⟨ad279, e279, hx279_0⟩ := Kd.at_bool (Kd.R_reads' HO_5.out).2.2 (rd x6_1 (ji10)) p279 q279
              (try rw [← Nbq16.out] at hx279_0)
              cases e279
              replace p279 := eq_true p279
              replace q279 := eq_true q279
              have p21 : 0 ≤ ((rd x6_1 (ji10)) : Int) := of_decide_eq_true (by first | (with_reducible assumption) | assumption)
              have q21 : ((rd x6_1 (ji10)) : Int) < ((x5_1.length : Int) : Int) := of_decide_eq_true (by first | (with_reducible assumption) | assumption)
              obtain ⟨go21, co21, eo21, gb21, gl21, cl21, HG21⟩ := Kd.R_form HO_5.out (by omega)
              (first | cases eo21 | (injection eo21 with ea_ en_ ec_; (first | subst ea_ | (injection ea_ with ea_; subst ea_)); subst ec_; clear en_))
              have GB21 := Az.mk gb21
              have GG21 := Az.mk HG21
              clear gb21 gl21 HG21
              (first | simp only [add_plain] at hx279_0 | skip)
              obtain ⟨hx21_0, hf21_0⟩ := Kd.R_celln false HO_5.out ((rd x6_1 (ji10)) : Int) p21 q21
              replace p21 := eq_true p21
              replace q21 := eq_true q21
              have HP27 := Kd.R_putg HO_5.out ((rd x6_1 (ji10)) : Int) true
              go_wp2_with (first | ((with_reducible refine gate_store (t := 4) (p := 34) rfl ?_); refine store_event (t := 4) (p := 34) (v := ?vo_w28) (w1 := (wr.setCell ⟨go21, ((rd x6_1 (ji10)) : Int).toNat, none⟩ (.bool true))) ?hg ?ho ?hn ?hr ?_; (case ho => rfl); (case hg => rfl); (case hn => rfl); (case hr => first | (go_simp; done) | (go_simp; rfl)); intro w28 hw; have hg : wr.grownBy w28 (some go21) := (by rw [hw]; exact HP27.2); have hp_ : Kd.R Kd.bool 4 w28 w.heap.size (fun _ => True) (.slice (some ⟨go21, 0, none⟩) x5_1.length co26) y280 := (by rw [hw, Ny280.out]; exact HP27.1); clear HP27; have n0_ := Az.mk (hp_); have n1_ := Az.mk (Kd.R_over' (v := (.slice (some ⟨go21, 0, none⟩) x5_1.length co26)) (by (with_reducible repeat (first | apply Kd.R_alloc | apply Kd.R_drewN | apply Kd.R_drew)); exact HO278.out) (Kd.R_typed HO_5.out) (by decide) hg); have n2_ := Az.mk ((by rw [hw]; exact bS (HB.out) GB21.out : Below w.heap.size w w28)); clear HO_5; clear HO278; clear HB; have HO_5 := n0_; have HO278 := n1_; have HB := n2_; clear n0_ n1_ n2_; clear hg hw hp_; have p281 : 0 ≤ ((rd x6_1 (ji10)) : Int) := of_decide_eq_true (by first | (with_reducible assumption) | assumption); have q281 : (rd x6_1 (ji10)) < (l0.length : Int) := of_decide_eq_true (by first | (with_reducible assumption) | assumption); obtain ⟨ad281, A281_0, c281_0, e281, hx281_0, hl281_0, hi281_0⟩ := at_L6 HR0.out (rd x6_1 (ji10)) p281 q281; cases e281; replace hx281_0 := (HB.out.cell (World.block_lt_of_cell? w _ hx281_0)).trans hx281_0; have HR281_0 := Az.mk hi281_0; have HC281_0 := Az.mk hl281_0; clear hi281_0 hl281_0; replace p281 := eq_true p281; replace q281 := eq_true q281) | ((with_reducible refine gate_builtin (b := .append) (xs := #[.tmp 35, .tmp 39]) rfl ?_); at_builtin; refine Kd.R_append_rows (Kd.int .i64) (w0 := w) w.heap.size rfl (.tmp 35) (.tmp 39) 35 3 (.int .i64 0) 8 rfl Try.underlying35 info3 rfl (by decide) (by omega) (.slice (some ad275) y276.length co24) y276 (rd_L6 l0 (rd x6_1 (ji10))) _ _ _ (fun _ => True) (fun _ => False) rfl rfl ?aO ?aR (fun _ _ h => h) (fun _ h => h.elim) ?aF ?aB ?aS ?aL ?_; (case aR => repeat (first | exact (Kd.C_below HR281_0.out HB.out) | (with_reducible refine Kd.C_alloc ?_ _) | (with_reducible refine Kd.C_drewN ?_ _) | (with_reducible refine Kd.C_drew ?_))); (case aB => exact (by repeat (first | (with_reducible first | exact HB.out | apply bal | apply bdN | apply bdr) | exact HB.out))); (case aF => exact (fun _ _ => trivial)); (case aO => exact (by (with_reducible repeat (first | apply Kd.R_alloc | apply Kd.R_drewN | apply Kd.R_drew)); exact HO278.out)); (case aS => exact (below_size (by repeat (first | (with_reducible first | exact HB.out | apply bal | apply bdN | apply bdr) | exact HB.out)))); (case aL => have := LMc23.out; omega); intro v283 w29 ho hb hg hat; rw [← Ny282.out] at ho; have n0_ := Az.mk (Kd.R_over' (by (with_reducible repeat (first | apply Kd.R_alloc | apply Kd.R_drewN | apply Kd.R_drew)); exact HO_5.out) (Kd.R_typed (by (with_reducible repeat (first | apply Kd.R_alloc | apply Kd.R_drewN | apply Kd.R_drew)); exact HO278.out)) (by decide) hg); have n1_ := Az.mk (hb); have n2_ := Az.mk (ho); clear HO_5; clear HB; clear HO278; have HO_5 := n0_; have HB := n1_; have HO284 := n2_; clear n0_ n1_ n2_; clear ho hb hg hat))
              go_roundg k1
              case measure => have := HK1.out; omega
              case rel => exact ⟨(y280), (y282), H', ⟨by have := HK1.out; omega⟩, ⟨by (with_reducible repeat (first | apply Kd.R_alloc | apply Kd.R_drewN | apply Kd.R_drew)); exact HO_5.out⟩, ⟨by (with_reducible repeat (first | apply Kd.R_alloc | apply Kd.R_drewN | apply Kd.R_drew)); exact HO284.out⟩, ⟨by repeat (first | (with_reducible first | exact HB.out | apply bal | apply bdN | apply bdr) | exact HB.out)⟩⟩
             ·rw [if_neg c23] at H
              exact absurd H (by simp)
            ·rw [if_neg c22] at H
             exact absurd H (by simp)
          ·rw [if_neg c15] at H
           exact absurd H (by simp)
         ·rw [if_neg c14] at H
          exact absurd H (by simp)
        ·rw [if_neg c13] at H
         exact absurd H (by simp)
       ·rw [if_neg c12] at H
        exact absurd H (by simp)
      ·rw [if_neg c11] at H
       exact absurd H (by simp)
     ·rw [if_neg c9] at H
      have c9b0 : decide (0 < (x6_1.length : Int)) = false := decide_eq_false c9
      have c9b1 : decide (0 < x6_1.length) = false := decide_eq_false (by omega)
      clear c9
      obtain rfl := Option.some.inj H
      obtain ⟨Ao30, co30, eo30⟩ := Kd.R_slice HO_6.out
      subst eo30
      go_wp2
      go_ret
      exact ⟨_, by first | rfl | (simp [errW_none, errW_some] <;> rfl) | (simp [*, errW_none, errW_some] <;> rfl), by (with_reducible repeat (first | apply Kd.R_alloc | apply Kd.R_drewN | apply Kd.R_drew)); exact HO_5.out, by repeat (first | (with_reducible first | exact HB.out | apply bal | apply bdN | apply bdr) | exact HB.out)⟩
  ·rw [if_neg c4] at H
   exact absurd H (by simp)
 ·rw [if_neg c3] at H
  exact absurd H (by simp)
end Go.Proofs.Ytehhhlhedmfdiaa.PFnImportOrder
end
section
namespace Go.Proofs.Ytehhhlhedmfdiaa.PFnImportOrder
open Go.RowKit Go.Proofs.Yz0.PrintWords Go.Proofs.Yz0.PrintLast Go.Proofs.Yz0.PrintMore
attribute [local go_sem] max2_int min2_int max_two min_two max_three min_three max_four min_four
set_option linter.unusedVariables false
set_option linter.unusedSimpArgs false
mutual
def impl_importsOf.l0 : Nat → List (List Int) → List (S72) → Int → Int → Option ((List (List Int)))
 | 0, _, _, _, _ => none
 | k + 1, x3, x11, x12, x13 => if x13 < x12 then (if 0 ≤ x13 then (if x13 < (x11.length : Int) then (impl_importsOf.l1 k x3 x13 x11 x12 x13 ((rX x11 x13).f0) (((rX x11 x13).f0).length : Int) 0) else (none)) else (none)) else (some x3)
def impl_importsOf.l1 : Nat → List (List Int) → Int → List (S72) → Int → Int → List (S74) → Int → Int → Option ((List (List Int)))
 | 0, _, _, _, _, _, _, _, _ => none
 | k + 1, x3, x4, x11, x12, x13, x19, x20, x21 => if x21 < x20 then (if 0 ≤ x21 then (if x21 < (x19.length : Int) then (if ((rY x19 x21).f0) = 1 then (if 0 ≤ x4 then (if x4 < (x3.length : Int) then (if (rd_L6 x3 x4).length < 17592186044416 then (impl_importsOf.l1 k (x3.set (x4 : Int).toNat ((rd_L6 x3 x4) ++ [(rY x19 x21).f1])) x4 x11 x12 x13 x19 x20 (wrap64 (x21 + 1))) else (none)) else (none)) else (none)) else (if ((rY x19 x21).f0) = 2 then (if 0 ≤ x4 then (if x4 < (x3.length : Int) then (if (rd_L6 x3 x4).length < 17592186044416 then (impl_importsOf.l1 k (x3.set (x4 : Int).toNat ((rd_L6 x3 x4) ++ [(rY x19 x21).f1])) x4 x11 x12 x13 x19 x20 (wrap64 (x21 + 1))) else (none)) else (none)) else (none)) else (impl_importsOf.l1 k x3 x4 x11 x12 x13 x19 x20 (wrap64 (x21 + 1))))) else (none)) else (none)) else (impl_importsOf.l0 k x3 x11 x12 (wrap64 (x13 + 1)))
end
def impl_importsOf.f (k : Nat) (l0 : List (S72)) : Option ((List (List Int))) := if 0 ≤ (l0.length : Int) then (if ((l0.length : Int) : Int).toNat ≤ 11728124029610 then (impl_importsOf.l0 k (List.replicate ((l0.length : Int) : Int).toNat []) l0 (l0.length : Int) 0) else (none)) else (none)
def impl_importsOf.T9 : Bool × List (List Nat × List Nat) := (true, [([], []), ([], []), ([], []), ([], []), ([2, 3], [2, 3]), ([4], [4]), ([], []), ([6], [6]), ([7], [7]), ([5, 8], [5, 8]), ([0, 1, 0, 1, 2, 3, 4, 5, 6, 7, 8, 9], [0, 1]), ([10, 9, 9, 0, 1, 2, 3, 4, 5, 6, 7, 8, 9], [9, 10])])
def impl_importsOf.B9 : List Nat := [0, 0, 0, 0, 12, 28, 0, 64, 192, 508, 1023, 2047]
theorem impl_importsOf.tab9 : rtab .any (opsOf Try.f62 9) = impl_importsOf.T9 := by kernel_rfl
theorem impl_importsOf.bits9 : waitsOk impl_importsOf.T9.2 impl_importsOf.B9 = true := by kernel_rfl
theorem impl_importsOf.calls (k : Nat) (A0 : Option Addr) (c0 : Nat) (l0 : List (S72)) (r : List (List Int)) (w : World) (hr0 : Kd.C k72 w A0 l0.length l0) (hc0 : l0.length ≤ c0) (h : impl_importsOf.f k l0 = some r) :
  Calls Try.prog 62 #[.slice A0 l0.length c0] w fun e w' => ∃ v0_ : Value, e = .returned (v0_) ∧ Kd.S (Kd.slice 3 (Kd.int .i64)) 35 w' w.heap.size (fun _ => True) v0_ r ∧ Below w.heap.size w w' := by
 have hu72 := Try.underlying72
 have hu74 := Try.underlying74
 have HR0 := Az.mk hr0
 have HC0 := Az.mk hc0
 clear hr0 hc0
 have HB := Az.mk (Below.refl w.heap.size w)
 have H : (if 0 ≤ (l0.length : Int) then (if ((l0.length : Int) : Int).toNat ≤ 11728124029610 then (impl_importsOf.l0 k (List.replicate ((l0.length : Int) : Int).toNat []) l0 (l0.length : Int) 0) else (none)) else (none)) = some r := h
 clear h
 by_cases c2 : 0 ≤ (l0.length : Int)
 ·rw [if_pos c2] at H
  have c2b0 := eq_true c2
  have c2b1 : decide (0 ≤ (l0.length : Int)) = true := decide_eq_true c2
  clear c2
  by_cases c3 : ((l0.length : Int) : Int).toNat ≤ 11728124029610
  ·rw [if_pos c3] at H
   have c3b0 := eq_true c3
   have c3b1 : decide (((l0.length : Int) : Int).toNat ≤ 11728124029610) = true := decide_eq_true c3
   clear c3
   obtain ⟨y285, hy285⟩ : ∃ y_ : List (List Int), y_ = (List.replicate ((l0.length : Int) : Int).toNat []) := ⟨_, rfl⟩
   replace H : (impl_importsOf.l0 k y285 l0 (l0.length : Int) 0) = some r := by first | (rw [hy285]; with_reducible exact H) | (have H2_ := (Option.bind_some _ _).symm.trans H; rw [hy285]; with_reducible exact H2_) | (have H2_ := (Option.bind_some _ _).symm.trans H; with_reducible exact H2_) | with_reducible exact H | (rw [hy285]; exact H) | exact H
   have Ny285 := Az.mk hy285
   clear hy285
   have H' := Az.mk H
   clear H
   go_enter Try.func62, Try.ntmps62
   go_wp2_with (first | ((with_reducible refine gate_dst (N := 10) rfl ?_); refine Kd.S_make (Kd.slice 3 (Kd.int .i64)) _ 35 rfl (N := 10) rfl 51 _ _ rfl (l0.length : Int) rfl rfl Try.underlying51 (.slice none 0 0) 24 info35 rfl (by decide) (by omega) [] (ok := fun _ => True) (okp := fun _ => True) ⟨_, rfl, Kd.R_nil _ _ _ _ _⟩ (fun _ hk => hk) trivial (of_decide_eq_true (by first | (with_reducible assumption) | assumption)) (Nat.le_trans (Nat.mul_le_mul_right _ (of_decide_eq_true (by first | (with_reducible assumption) | assumption) : (l0.length : Int).toNat ≤ 11728124029610)) (by omega)) (Below.refl _ _) (Nat.le_refl _) ?_; intro v286 w4 ho5 hb hg_ hnew_; clear hg_ hnew_; (first | rw [← Ny285.out] at ho5 | (simp only [Int.reduceToNat] at ho5; rw [← Ny285.out] at ho5)); have n0_ := Az.mk (Kd.S_lower ho5 (below_size (by repeat (first | (with_reducible first | exact HB.out | apply bal | apply bdN | apply bdr) | exact HB.out)))); have n1_ := Az.mk (below_step (by repeat (first | (with_reducible first | exact HB.out | apply bal | apply bdN | apply bdr) | exact HB.out)) hb); clear HB; have HO287 := n0_; have HB := n1_; clear n0_ n1_; clear hb ho5))
   go_loopg [13] k (fun kq v13 w' => ∃ (x3_1 : List (List Int)) (x13_1 : Int), v13 = .int .i64 x13_1 ∧ Az (impl_importsOf.l0 kq x3_1 l0 (l0.length : Int) x13_1 = some r) ∧ Az (kq ≤ k) ∧ Az (Kd.S (Kd.slice 3 (Kd.int .i64)) 35 w' w.heap.size (fun _ => True) v286 x3_1) ∧ Az (Below w.heap.size w w'))
   case atStart => exact ⟨(y285), (0), (by first | rfl | (simp; done) | (simp [*]; done)), H', ⟨Nat.le_refl _⟩, ⟨by (with_reducible repeat (first | apply Kd.S_alloc | apply Kd.S_drewN | apply Kd.S_drew)); exact HO287.out⟩, ⟨by repeat (first | (with_reducible first | exact HB.out | apply bal | apply bdN | apply bdr) | exact HB.out)⟩⟩
   case round =>
    clear H'
    try clear c2
    try clear c2b0
    try clear c2b1
    try clear p2
    try clear c3
    try clear c3b0
    try clear c3b1
    obtain ⟨x3_1, x13_1, rfl, HA, HK1, HO_3, HB⟩ := hrel
    cases gk with
    | zero => exact absurd HA.out (by simp [impl_importsOf.l0])
    | succ k1 =>
     have H := HA.out
     clear HA
     simp only [impl_importsOf.l0] at H
     by_cases c6 : x13_1 < (l0.length : Int)
     ·rw [if_pos c6] at H
      have c6b0 : decide (x13_1 < (l0.length : Int)) = true := decide_eq_true c6
      clear c6
      by_cases c7 : 0 ≤ x13_1
      ·rw [if_pos c7] at H
       have c7b0 : decide (0 ≤ x13_1) = true := decide_eq_true c7
       clear c7
       by_cases c8 : x13_1 < (l0.length : Int)
       ·rw [if_pos c8] at H
        have c8b0 : decide (x13_1 < (l0.length : Int)) = true := decide_eq_true c8
        clear c8
        have H' := Az.mk H
        clear H
        have p288 : 0 ≤ (x13_1 : Int) := of_decide_eq_true (by first | (with_reducible assumption) | assumption)
        have q288 : x13_1 < (l0.length : Int) := of_decide_eq_true (by first | (with_reducible assumption) | assumption)
        obtain ⟨ad288, A288_0, c288_0, e288, hx288_0, hl288_0, hi288_0⟩ := at_T72 HR0.out x13_1 p288 q288
        cases e288
        replace hx288_0 := (HB.out.cell (World.block_lt_of_cell? w _ hx288_0)).trans hx288_0
        have HR288_0 := Az.mk hi288_0
        have HC288_0 := Az.mk hl288_0
        clear hi288_0 hl288_0
        replace p288 := eq_true p288
        replace q288 := eq_true q288
        go_wp2_with (first | ((with_reducible refine gate_dst (N := 5) rfl ?_); refine box_event ?hg (N := 5) ?hd (cs := #[.slice none 0 0]) (t := 72) ?hr ?_; (case hd => rfl); (case hg => rfl); (case hr => first | (go_simp; done) | (go_simp; rfl)); intro gb289 hg w9 hbox hb; have n0_ := Az.mk (Kd.S_below (by (with_reducible repeat (first | apply Kd.S_alloc | apply Kd.S_drewN | apply Kd.S_drew)); exact HO_3.out) hb); have n1_ := Az.mk (below_step (by repeat (first | (with_reducible first | exact HB.out | apply bal | apply bdN | apply bdr) | exact HB.out)) hb); have n2_ := Az.mk (hbox); have n3_ := Az.mk ((by rw [hg]; exact (below_size (by repeat (first | (with_reducible first | exact HB.out | apply bal | apply bdN | apply bdr) | exact HB.out))) : w.heap.size ≤ gb289)); have n4_ := Az.mk ((by rw [hg]; exact (below_size (by repeat (first | (with_reducible first | exact HB.out | apply bal | apply bdN | apply bdr) | exact HB.out))) : w.heap.size ≤ gb289)); clear HO_3; clear HB; have HO_3 := n0_; have HB := n1_; have BK289 := n2_; have GW289 := n3_; have GE289 := n4_; clear n0_ n1_ n2_ n3_ n4_; clear hb hbox hg; have hcz10_0 : w9.cell? ⟨gb289, 0, none⟩ = some (.slice none 0 0) := (bC BK289.out 0).trans rfl; have hfz10_0 := bF BK289.out 0))
        go_loopg [21] k1 (fun kq v21 w' => ∃ (x3_2 : List (List Int)) (x21_2 : Int), v21 = .int .i64 x21_2 ∧ Az (impl_importsOf.l1 kq x3_2 x13_1 l0 (l0.length : Int) x13_1 ((rX l0 x13_1).f0) (((rX l0 x13_1).f0).length : Int) x21_2 = some r) ∧ Az (kq ≤ k1) ∧ Az (Kd.S (Kd.slice 3 (Kd.int .i64)) 35 w' w.heap.size (fun _ => True) v286 x3_2) ∧ Az (w'.heap[gb289]? = some (.cells #[(.slice A288_0 ((rX l0 x13_1).f0).length c288_0)] 72 (0, 0))) ∧ Az (Below w.heap.size w w'))
        case atStart => exact ⟨(x3_1), (0), (by first | rfl | (simp; done) | (simp [*]; done)), H', ⟨Nat.le_refl _⟩, ⟨by (with_reducible repeat (first | apply Kd.S_alloc | apply Kd.S_drewN | apply Kd.S_drew)); exact Kd.S_mono (Kd.S_far (p := ⟨gb289, 0, none⟩) (Kd.S_types HO_3.out BK289.out (by decide)) (fun _ hk => hk.2) (.slice A288_0 ((rX l0 x13_1).f0).length c288_0)) (fun _ hk => trivial)⟩, ⟨by (with_reducible repeat (first | refine blk_drewN ?_ _ | refine blk_drew ?_ | refine blk_alloc ?_ _)); refine blk_put (cs := #[.slice none 0 0]) ?_ 0 _ rfl; (with_reducible repeat (first | refine blk_drewN ?_ _ | refine blk_drew ?_ | refine blk_alloc ?_ _)); exact BK289.out⟩, ⟨by repeat (first | (with_reducible first | exact HB.out | apply bal | apply bdN | apply bdr | refine bS ?_ GE289.out) | exact HB.out)⟩⟩
        case round =>
         clear H'
         try clear c2
         try clear c2b0
         try clear c2b1
         try clear p2
         try clear q2
         try clear hx2
         try clear c3
         try clear c3b0
         try clear c3b1
         try clear c6
         try clear c6b0
         try clear c7
         try clear c7b0
         try clear c8
         try clear c8b0
         try clear hcz10_0
         try clear hfz10_0
         try clear hx288_0
         try clear p2
         try clear p288
         try clear q288
         obtain ⟨x3_2, x21_2, rfl, HA, HK2, HO_3, BK289, HB⟩ := hrel
         cases gk with
         | zero => exact absurd HA.out (by simp [impl_importsOf.l1])
         | succ k2 =>
          have H := HA.out
          clear HA
          simp only [impl_importsOf.l1] at H
          by_cases c11 : x21_2 < (((rX l0 x13_1).f0).length : Int)
          ·rw [if_pos c11] at H
           have c11b0 : decide (x21_2 < (((rX l0 x13_1).f0).length : Int)) = true := decide_eq_true c11
           clear c11
           by_cases c12 : 0 ≤ x21_2
           ·rw [if_pos c12] at H
            have c12b0 : decide (0 ≤ x21_2) = true := decide_eq_true c12
            clear c12
            by_cases c13 : x21_2 < (((rX l0 x13_1).f0).length : Int)
            ·rw [if_pos c13] at H
             have c13b0 : decide (x21_2 < (((rX l0 x13_1).f0).length : Int)) = true := decide_eq_true c13
             clear c13
             by_cases c14 : ((rY ((rX l0 x13_1).f0) x21_2).f0) = 1
             ·rw [if_pos c14] at H
              have c14b0 : (((rY ((rX l0 x13_1).f0) x21_2).f0) == 1) = true := beq_iff_eq.mpr c14
              have c14b1 : (((rY ((rX l0 x13_1).f0) x21_2).f0) != 1) = false := bne_eq_false_iff_eq.mpr c14
              clear c14
              by_cases c15 : 0 ≤ x13_1
              ·rw [if_pos c15] at H
               have c15b0 : decide (0 ≤ x13_1) = true := decide_eq_true c15
               clear c15
               by_cases c16 : x13_1 < (x3_2.length : Int)
               ·rw [if_pos c16] at H
                have c16b0 : decide (x13_1 < (x3_2.length : Int)) = true := decide_eq_true c16
                clear c16
                by_cases c17 : (rd_L6 x3_2 x13_1).length < 17592186044416
                ·rw [if_pos c17] at H
                 have LMc17 := Az.mk c17
                 clear c17
                 obtain ⟨y293, hy293⟩ : ∃ y_ : List Int, y_ = ((rd_L6 x3_2 x13_1) ++ [(rY ((rX l0 x13_1).f0) x21_2).f1]) := ⟨_, rfl⟩
                 replace H : (impl_importsOf.l1 k2 (x3_2.set (x13_1 : Int).toNat y293) x13_1 l0 (l0.length : Int) x13_1 ((rX l0 x13_1).f0) (((rX l0 x13_1).f0).length : Int) (wrap64 (x21_2 + 1))) = some r := by first | (rw [hy293]; with_reducible exact H) | (have H2_ := (Option.bind_some _ _).symm.trans H; rw [hy293]; with_reducible exact H2_) | (have H2_ := (Option.bind_some _ _).symm.trans H; with_reducible exact H2_) | with_reducible exact H | (rw [hy293]; exact H) | exact H
                 have Ny293 := Az.mk hy293
                 clear hy293
                 obtain ⟨y296, hy296⟩ : ∃ y_ : List (List Int), y_ = (x3_2.set (x13_1 : Int).toNat y293) := ⟨_, rfl⟩
                 replace H : (impl_importsOf.l1 k2 y296 x13_1 l0 (l0.length : Int) x13_1 ((rX l0 x13_1).f0) (((rX l0 x13_1).f0).length : Int) (wrap64 (x21_2 + 1))) = some r := by first | (rw [hy296]; with_reducible exact H) | (have H2_ := (Option.bind_some _ _).symm.trans H; rw [hy296]; with_reducible exact H2_) | (have H2_ := (Option.bind_some _ _).symm.trans H; with_reducible exact H2_) | with_reducible exact H | (rw [hy296]; exact H) | exact H
                 have Ny296 := Az.mk hy296
                 clear hy296
                 have H' := Az.mk H
                 clear H
                 have p290 : 0 ≤ (x21_2 : Int) := of_decide_eq_true (by first | (with_reducible assumption) | assumption)
                 have q290 : x21_2 < (((rX l0 x13_1).f0).length : Int) := of_decide_eq_true (by first | (with_reducible assumption) | assumption)
                 obtain ⟨ad290, e290, hx290_0, hx290_1, hx290_2⟩ := at_T74 HR288_0.out x21_2 p290 q290
                 cases e290
                 replace hx290_0 := (HB.out.cell (World.block_lt_of_cell? w _ hx290_0)).trans hx290_0
                 replace hx290_1 := (HB.out.cell (World.block_lt_of_cell? w _ hx290_1)).trans hx290_1
                 replace hx290_2 := (HB.out.cell (World.block_lt_of_cell? w _ hx290_2)).trans hx290_2
                 replace p290 := eq_true p290
                 replace q290 := eq_true q290
                 try go_wp2_with (first | ((with_reducible refine gate_dst (N := 7) rfl ?_); refine box_event ?hg (N := 7) ?hd (cs := #[.int .i64 0, .int .i64 0, .string (⟨#[]⟩ : ByteArray)]) (t := 74) ?hr ?_; (case hd => rfl); (case hg => rfl); (case hr => first | (go_simp; done) | (go_simp; rfl)); intro gb291 hg w19 hbox hb; have n0_ := Az.mk (Kd.S_below (by (with_reducible repeat (first | apply Kd.S_alloc | apply Kd.S_drewN | apply Kd.S_drew)); exact HO_3.out) hb); have n1_ := Az.mk (blk_below (g := gb289) (o := .cells #[.slice (some ad290) ((rX l0 x13_1).f0).length c288_0] 72 (0, 0)) (by (with_reducible repeat (first | refine blk_drewN ?_ _ | refine blk_drew ?_ | refine blk_alloc ?_ _)); exact BK289.out) hb); have n2_ := Az.mk (below_step (by repeat (first | (with_reducible first | exact HB.out | apply bal | apply bdN | apply bdr | refine bS ?_ GE289.out) | exact HB.out)) hb); have n3_ := Az.mk (hbox); have n4_ := Az.mk ((by rw [hg]; exact (below_size (by repeat (first | (with_reducible first | exact HB.out | apply bal | apply bdN | apply bdr | refine bS ?_ GE289.out) | exact HB.out))) : w.heap.size ≤ gb291)); have n5_ := Az.mk ((by rw [hg]; exact (below_size (by repeat (first | (with_reducible first | exact HB.out | apply bal | apply bdN | apply bdr | refine bS ?_ GE289.out) | exact HB.out))) : w.heap.size ≤ gb291)); have n6_ := Az.mk ((by rw [hg]; exact Nat.ne_of_lt (blk_lt (g := gb289) (o := .cells #[.slice (some ad290) ((rX l0 x13_1).f0).length c288_0] 72 (0, 0)) (by (with_reducible repeat (first | refine blk_drewN ?_ _ | refine blk_drew ?_ | refine blk_alloc ?_ _)); exact BK289.out)) : gb289 ≠ gb291)); have n7_ := Az.mk ((by rw [hg]; exact Nat.ne_of_gt (blk_lt (g := gb289) (o := .cells #[.slice (some ad290) ((rX l0 x13_1).f0).length c288_0] 72 (0, 0)) (by (with_reducible repeat (first | refine blk_drewN ?_ _ | refine blk_drew ?_ | refine blk_alloc ?_ _)); exact BK289.out)) : gb291 ≠ gb289)); clear HO_3; clear BK289; clear HB; have HO_3 := n0_; have BK289 := n1_; have HB := n2_; have BK291 := n3_; have GW291 := n4_; have GE291 := n5_; have NB289_291 := n6_; have NB291_289 := n7_; clear n0_ n1_ n2_ n3_ n4_ n5_ n6_ n7_; clear hb hbox hg; have hnb20 := NB291_289.out; have hnc20 := NB289_291.out; have hcz21_0 : w19.cell? ⟨gb291, 0, none⟩ = some (.int .i64 0) := (bC BK291.out 0).trans rfl; have hcz21_1 : w19.cell? ⟨gb291, 1, none⟩ = some (.int .i64 0) := (bC BK291.out 1).trans rfl; have hcz21_2 : w19.cell? ⟨gb291, 2, none⟩ = some (.string (⟨#[]⟩ : ByteArray)) := (bC BK291.out 2).trans rfl; have hfz21_0 := bF BK291.out 0; have hfz21_1 := bF BK291.out 1; have hfz21_2 := bF BK291.out 2))
                 have n0_ : Az (Kd.S (Kd.slice 3 (Kd.int .i64)) 35 (((w19.setCell ⟨gb291, 0, none⟩ (.int .i64 ((rY ((rX l0 x13_1).f0) x21_2).f0))).setCell ⟨gb291, 1, none⟩ (.int .i64 ((rY ((rX l0 x13_1).f0) x21_2).f1))).setCell ⟨gb291, 2, none⟩ (.string ((rY ((rX l0 x13_1).f0) x21_2).f2))) w.heap.size (fun _ => True) v286 x3_2) := ⟨by (with_reducible repeat (first | apply Kd.S_alloc | apply Kd.S_drewN | apply Kd.S_drew)); exact Kd.S_mono (Kd.S_far (p := ⟨gb291, 2, none⟩) (Kd.S_far (p := ⟨gb291, 1, none⟩) (Kd.S_far (p := ⟨gb291, 0, none⟩) (Kd.S_types HO_3.out BK291.out (by decide)) (fun _ hk => hk.2) (.int .i64 ((rY ((rX l0 x13_1).f0) x21_2).f0))) (fun _ hk => hk.2) (.int .i64 ((rY ((rX l0 x13_1).f0) x21_2).f1))) (fun _ hk => hk.2) (.string ((rY ((rX l0 x13_1).f0) x21_2).f2))) (fun _ hk => trivial)⟩
                 have n1_ : Az ((((w19.setCell ⟨gb291, 0, none⟩ (.int .i64 ((rY ((rX l0 x13_1).f0) x21_2).f0))).setCell ⟨gb291, 1, none⟩ (.int .i64 ((rY ((rX l0 x13_1).f0) x21_2).f1))).setCell ⟨gb291, 2, none⟩ (.string ((rY ((rX l0 x13_1).f0) x21_2).f2))).heap[gb289]? = some (.cells #[.slice (some ad290) ((rX l0 x13_1).f0).length c288_0] 72 (0, 0))) := ⟨by (with_reducible repeat (first | refine blk_drewN ?_ _ | refine blk_drew ?_ | refine blk_alloc ?_ _)); refine blk_far ?_ NB289_291.out _; (with_reducible repeat (first | refine blk_drewN ?_ _ | refine blk_drew ?_ | refine blk_alloc ?_ _)); refine blk_far ?_ NB289_291.out _; (with_reducible repeat (first | refine blk_drewN ?_ _ | refine blk_drew ?_ | refine blk_alloc ?_ _)); refine blk_far ?_ NB289_291.out _; (with_reducible repeat (first | refine blk_drewN ?_ _ | refine blk_drew ?_ | refine blk_alloc ?_ _)); exact BK289.out⟩
                 have n2_ : Az ((((w19.setCell ⟨gb291, 0, none⟩ (.int .i64 ((rY ((rX l0 x13_1).f0) x21_2).f0))).setCell ⟨gb291, 1, none⟩ (.int .i64 ((rY ((rX l0 x13_1).f0) x21_2).f1))).setCell ⟨gb291, 2, none⟩ (.string ((rY ((rX l0 x13_1).f0) x21_2).f2))).heap[gb291]? = some (.cells #[.int .i64 ((rY ((rX l0 x13_1).f0) x21_2).f0), .int .i64 ((rY ((rX l0 x13_1).f0) x21_2).f1), .string ((rY ((rX l0 x13_1).f0) x21_2).f2)] 74 (0, 0))) := ⟨by (with_reducible repeat (first | refine blk_drewN ?_ _ | refine blk_drew ?_ | refine blk_alloc ?_ _)); refine blk_put (cs := #[.int .i64 ((rY ((rX l0 x13_1).f0) x21_2).f0), .int .i64 ((rY ((rX l0 x13_1).f0) x21_2).f1), .string (⟨#[]⟩ : ByteArray)]) ?_ 2 _ rfl; (with_reducible repeat (first | refine blk_drewN ?_ _ | refine blk_drew ?_ | refine blk_alloc ?_ _)); refine blk_put (cs := #[.int .i64 ((rY ((rX l0 x13_1).f0) x21_2).f0), .int .i64 0, .string (⟨#[]⟩ : ByteArray)]) ?_ 1 _ rfl; (with_reducible repeat (first | refine blk_drewN ?_ _ | refine blk_drew ?_ | refine blk_alloc ?_ _)); refine blk_put (cs := #[.int .i64 0, .int .i64 0, .string (⟨#[]⟩ : ByteArray)]) ?_ 0 _ rfl; (with_reducible repeat (first | refine blk_drewN ?_ _ | refine blk_drew ?_ | refine blk_alloc ?_ _)); exact BK291.out⟩
                 have n3_ : Az (Below w.heap.size w (((w19.setCell ⟨gb291, 0, none⟩ (.int .i64 ((rY ((rX l0 x13_1).f0) x21_2).f0))).setCell ⟨gb291, 1, none⟩ (.int .i64 ((rY ((rX l0 x13_1).f0) x21_2).f1))).setCell ⟨gb291, 2, none⟩ (.string ((rY ((rX l0 x13_1).f0) x21_2).f2)))) := ⟨by repeat (first | (with_reducible first | exact HB.out | apply bal | apply bdN | apply bdr | refine bS ?_ GE289.out | refine bS ?_ GE291.out) | exact HB.out)⟩
                 (try clear HO_3)
                 (try clear BK289)
                 (try clear BK291)
                 (try clear HB)
                 generalize (((w19.setCell ⟨gb291, 0, none⟩ (.int .i64 ((rY ((rX l0 x13_1).f0) x21_2).f0))).setCell ⟨gb291, 1, none⟩ (.int .i64 ((rY ((rX l0 x13_1).f0) x21_2).f1))).setCell ⟨gb291, 2, none⟩ (.string ((rY ((rX l0 x13_1).f0) x21_2).f2))) = w22 at n0_ n1_ n2_ n3_ ⊢
                 have HO_3 := n0_
                 have BK289 := n1_
                 have BK291 := n2_
                 have HB := n3_
                 clear n0_ n1_ n2_ n3_
                 have n0_ := Az.mk (Kd.S_drew HO_3.out)
                 have n1_ := Az.mk (blk_drew BK289.out)
                 have n2_ := Az.mk (blk_drew BK291.out)
                 have n3_ := Az.mk (bdr HB.out)
                 clear HO_3
                 clear BK289
                 clear BK291
                 clear HB
                 have HO_3 := n0_
                 have BK289 := n1_
                 have BK291 := n2_
                 have HB := n3_
                 clear n0_ n1_ n2_ n3_
                 obtain ⟨Ao24, co24, eo24⟩ := Kd.S_slice HO_3.out
                 (first | subst eo24 | (injection eo24 with f1_ f2_ f3_; have f4_ := f1_.symm; have f5_ := f3_.symm; clear f1_ f2_ f3_; subst f4_; subst f5_))
                 have p292 : 0 ≤ (x13_1 : Int) := of_decide_eq_true (by first | (with_reducible assumption) | assumption)
                 have q292 : x13_1 < (x3_2.length : Int) := of_decide_eq_true (by first | (with_reducible assumption) | assumption)
                 obtain ⟨ad292, A292_0, c292_0, e292, hx292_0, hl292_0, hi292_0⟩ := at_L6 (Kd.S_reads' HO_3.out).2.2 x13_1 p292 q292
                 cases e292
                 obtain ⟨ce292, hce292, hMe292, hcc292⟩ := Kd.S_get HO_3.out [] x13_1 p292 (by first | exact q292 | exact of_decide_eq_true (by first | (with_reducible assumption) | assumption) | (have e_ := (Kd.S_reads' HO_3.out).1; omega))
                 obtain ⟨ve292_0, rfl, ge292_0⟩ := hMe292
                 have hv292_0 := hcc292 0 _ rfl
                 rw [Nat.add_zero, show ((Kd.slice 3 (Kd.int .i64))).sz = 1 from rfl, Nat.mul_one] at hv292_0
                 replace hv292_0 := Option.some.inj (hv292_0.symm.trans hx292_0)
                 rw [hv292_0] at ge292_0
                 have HL292_0 := Az.mk (show Kd.R (Kd.int .i64) 3 _ _ _ _ (rd_L6 x3_2 x13_1) from ge292_0)
                 clear hv292_0 ge292_0
                 have HX292_0 := Az.mk hx292_0
                 clear hcc292 hce292
                 have HR292_0 := Az.mk hi292_0
                 have HC292_0 := Az.mk hl292_0
                 clear hi292_0 hl292_0
                 replace p292 := eq_true p292
                 replace q292 := eq_true q292
                 obtain ⟨go25, co25, eo25, gb25, gl25, cl25, HG25⟩ := Kd.S_form HO_3.out (by have h_ : (x13_1 : Int) < ((x3_2.length : Int) : Int) := of_decide_eq_true (by first | (with_reducible assumption) | assumption); have h2_ : 0 ≤ (x13_1 : Int) := (of_decide_eq_true (by first | (with_reducible assumption) | assumption)); omega)
                 (first | cases eo25 | (injection eo25 with ea_ en_ ec_; (first | subst ea_ | (injection ea_ with ea_; subst ea_)); subst ec_; clear en_))
                 have GB25 := Az.mk gb25
                 have GG25 := Az.mk HG25
                 clear gb25 gl25 HG25
                 (first | simp only [add_plain] at hx292_0 | skip)
                 obtain ⟨oki25, ce25, hcl25, hM25, hcc25, _, _, hH25⟩ := Kd.S_elem HO_3.out [] (x13_1 : Int) (of_decide_eq_true (by first | (with_reducible assumption) | assumption)) (by have h_ : (x13_1 : Int) < ((x3_2.length : Int) : Int) := of_decide_eq_true (by first | (with_reducible assumption) | assumption); first | exact h_ | (have e_ := (Kd.S_reads' HO_3.out).1; omega) | simpa using h_)
                 obtain ⟨ve25_0, rfl, ge25_0⟩ := hM25
                 have hv25 := hcc25 0 _ rfl
                 have hX25 := HX292_0.out
                 (try simp only [add_plain] at hX25)
                 (try simp only [Nat.add_zero] at hv25)
                 (try rw [show ((Kd.slice 3 (Kd.int .i64))).sz = 1 from rfl, Nat.mul_one] at hv25)
                 replace hv25 := Option.some.inj (hv25.symm.trans hX25)
                 subst hv25
                 clear hX25 hcc25 hcl25
                 have UU25 := Az.mk (show Kd.R (Kd.int .i64) 3 _ w.heap.size oki25 (.slice A292_0 (rd_L6 x3_2 x13_1).length c292_0) (rd_L6 x3_2 x13_1) from ge25_0)
                 have HH25 := Az.mk hH25
                 have HN25 := Az.mk (Kd.S_reads' HO_3.out).1
                 clear hH25 ge25_0
                 refine start_ (n := 12) (S := fun w' => w'.cell? ⟨gb291, 0, none⟩ = some (.int .i64 ((rY ((rX l0 x13_1).f0) x21_2).f0)) ∧ w'.cell? ⟨gb291, 1, none⟩ = some (.int .i64 ((rY ((rX l0 x13_1).f0) x21_2).f1)) ∧ w'.cell? ⟨gb291, 2, none⟩ = some (.string ((rY ((rX l0 x13_1).f0) x21_2).f2)) ∧ w'.cell? ⟨go25, (x13_1).toNat, none⟩ = some (.slice A292_0 (rd_L6 x3_2 x13_1).length c292_0)) (ds := [11]) #[false, false, false, false, false, false, false, false, false, false, false, false] (by kernel_rfl) rfl rfl ⟨(bC BK291.out 0).trans rfl, (bC BK291.out 1).trans rfl, (bC BK291.out 2).trans rfl, hx292_0⟩ (fun hHeld => ?_); refine with_tabW impl_importsOf.tab9 impl_importsOf.bits9 (fun HT_ HW_ => ?_)
                 generalize w22.drew = w23 at HO_3 BK289 BK291 HB GG25 HH25 HL292_0 HR292_0 HX292_0 UU25 hx292_0 hHeld ⊢
                 refine pure_ (i := 0) (N := some 33) (v := ?_) (a' := ?_) #[true, false, false, false, false, false, false, false, false, false, false, false] rfl rfl (any_of HT_.out (by kernel_rfl)) (fun _ _ _ h => h) (Or.inl ⟨by rfl, ?_⟩) ?_ ?_
                 rotate_left
                 ·intro w'
                  go_simp
                  with_reducible rfl
                 rotate_left
                 ·simp only [Act.put, List.setIfInBounds_toArray, List.set_cons_zero, List.set_cons_succ, i64_w, i32_w]
                  rfl
                 refine pure_ (i := 1) (N := some 34) (v := ?_) (a' := ?_) #[true, true, false, false, false, false, false, false, false, false, false, false] rfl rfl (any_of HT_.out (by kernel_rfl)) (fun _ _ _ h => h) (Or.inl ⟨by rfl, ?_⟩) ?_ ?_
                 rotate_left
                 ·intro w'
                  go_simp
                  with_reducible rfl
                 rotate_left
                 ·simp only [Act.put, List.setIfInBounds_toArray, List.set_cons_zero, List.set_cons_succ, i64_w, i32_w]
                  rfl
                 refine pure_ (i := 2) (N := some 35) (v := ?_) (a' := ?_) #[true, true, true, false, false, false, false, false, false, false, false, false] rfl rfl (any_of HT_.out (by kernel_rfl)) (fun _ _ _ h => h) (Or.inl ⟨by rfl, ?_⟩) ?_ ?_
                 rotate_left
                 ·intro w'
                  go_simp
                  with_reducible rfl
                 rotate_left
                 ·simp only [Act.put, List.setIfInBounds_toArray, List.set_cons_zero, List.set_cons_succ, i64_w, i32_w]
                  rfl
                 refine pure_ (i := 3) (N := some 36) (v := ?_) (a' := ?_) #[true, true, true, true, false, false, false, false, false, false, false, false] rfl rfl (any_of HT_.out (by kernel_rfl)) (fun _ _ _ h => h) (Or.inl ⟨by rfl, ?_⟩) ?_ ?_
                 rotate_left
                 ·intro w'
                  go_simp
                  with_reducible rfl
                 rotate_left
                 ·simp only [Act.put, List.setIfInBounds_toArray, List.set_cons_zero, List.set_cons_succ, i64_w, i32_w]
                  rfl
                 refine pure_ (i := 4) (N := some 37) (v := ?_) (a' := ?_) #[true, true, true, true, true, false, false, false, false, false, false, false] rfl rfl (any_of HT_.out (by kernel_rfl)) (fun _ _ _ h => h) (Or.inl ⟨by rfl, ?_⟩) ?_ ?_
                 rotate_left
                 ·intro w'
                  go_simp
                  with_reducible rfl
                 rotate_left
                 ·simp only [Act.put, List.setIfInBounds_toArray, List.set_cons_zero, List.set_cons_succ, i64_w, i32_w]
                  rfl
                 refine pure_ (i := 6) (N := some 39) (v := ?_) (a' := ?_) #[true, true, true, true, true, false, true, false, false, false, false, false] rfl rfl (any_of HT_.out (by kernel_rfl)) (fun _ _ _ h => h) (Or.inl ⟨by rfl, ?_⟩) ?_ ?_
                 rotate_left
                 ·intro w'
                  go_simp
                  with_reducible rfl
                 rotate_left
                 ·simp only [Act.put, List.setIfInBounds_toArray, List.set_cons_zero, List.set_cons_succ, i64_w, i32_w]
                  rfl
                 refine take_ (i := 5) (N := some 38) (v := ?_) (a' := ?_) #[true, true, true, true, true, true, true, false, false, false, false, false] rfl rfl (take_ofW HT_.out HW_.out (by kernel_rfl)) (fun _ _ _ h => h) (Or.inl ⟨by rfl, ?_⟩) hHeld ?_ ?_
                 rotate_left
                 ·rintro w' ⟨s0, s1, s2, s3⟩
                  go_simp
                  with_reducible rfl
                 rotate_left
                 ·simp only [Act.put, List.setIfInBounds_toArray, List.set_cons_zero, List.set_cons_succ, i64_w, i32_w]
                  rfl
                 refine take_ (i := 7) (N := some 40) (v := ?_) (a' := ?_) #[true, true, true, true, true, true, true, true, false, false, false, false] rfl rfl (take_ofW HT_.out HW_.out (by kernel_rfl)) (fun _ _ _ h => h) (Or.inl ⟨by rfl, ?_⟩) hHeld ?_ ?_
                 rotate_left
                 ·rintro w' ⟨s0, s1, s2, s3⟩
                  go_simp
                  with_reducible rfl
                 rotate_left
                 ·simp only [Act.put, List.setIfInBounds_toArray, List.set_cons_zero, List.set_cons_succ, i64_w, i32_w]
                  rfl
                 refine one_ (i := 8) (N := some 41) #[true, true, true, true, true, true, true, true, true, false, false, false] rfl rfl (one_of HT_.out (by kernel_rfl)) (by decide) (fun K hK => ?_)
                 refine value_ (w1 := ?_) (v := ?_) (by rfl) rfl ?_ ?_
                 rotate_left 2
                 ·go_simp
                  constructor
                  ·rfl
                  ·rfl
                 refine hK.out _ _ ⟨(bC (blk_alloc BK291.out _) 0).trans rfl, (bC (blk_alloc BK291.out _) 1).trans rfl, (bC (blk_alloc BK291.out _) 2).trans rfl, (World.cell?_alloc_lt _ _ _ (World.block_lt_of_cell? _ _ (hHeld.2.2.2))).trans (hHeld.2.2.2)⟩ (fun hHeld => ?_)
                 clear hK K
                 refine norm_ (a' := ?_) ?_ ?_
                 rotate_left
                 ·show Act.put _ (some 41) _ = _
                  simp only [Act.put, List.setIfInBounds_toArray, List.set_cons_zero, List.set_cons_succ, i64_w, i32_w]
                  rfl
                 refine one_ (i := 9) (N := some 42) #[true, true, true, true, true, true, true, true, true, true, false, false] rfl rfl (one_of HT_.out (by kernel_rfl)) (by decide) (fun K hK => ?_)
                 refine Kd.R_append_step (Kd.int .i64) (w0 := w) w.heap.size (by rfl) (.tmp 38) (.tmp 41) 35 3 (.int .i64 0) 8 rfl Try.underlying35 info3 rfl (by decide) (by omega) (.slice A292_0 (rd_L6 x3_2 x13_1).length c292_0) (rd_L6 x3_2 x13_1) ((rY ((rX l0 x13_1).f0) x21_2).f1) [.int .i64 ((rY ((rX l0 x13_1).f0) x21_2).f1)] (fun k_ => oki25 k_ ∨ ((fun _ => True)) k_ ∧ w23.heap.size ≤ k_) (fun _ => False) rfl rfl ?aP (fun _ hk => hk.elim) ?aF ?aO ?aB ?aS ?aL ?_
                 (case aP => exact rfl)
                 (case aB => exact (by repeat (first | (with_reducible first | exact HB.out | apply bal | apply bdN | apply bdr | refine bS ?_ GE289.out | refine bS ?_ GE291.out) | exact HB.out)))
                 (case aF => exact (fun k_ hk => .inr ⟨trivial, hk⟩))
                 (case aO => exact (by (with_reducible repeat (first | apply Kd.R_alloc | apply Kd.R_drewN | apply Kd.R_drew)); exact Kd.R_mono UU25.out (fun _ hk => .inl hk)))
                 (case aS => exact (below_size (by repeat (first | (with_reducible first | exact HB.out | apply bal | apply bdN | apply bdr | refine bS ?_ GE289.out | refine bS ?_ GE291.out) | exact HB.out))))
                 (case aL => have := LMc17.out; omega)
                 intro v294 w26 ho hb hg hat
                 (first | have HS3_ := cell_grown hg (hHeld.2.2.2) (by first | (rw [add_block]; exact (fun e_ => ((HL292_0.out.1 _ e_.symm).2) rfl)) | (show some (Addr.add _ _).block ≠ _; rw [add_block]; exact (fun e_ => ((HL292_0.out.1 _ e_.symm).2) rfl)) | exact (fun e_ => ((HL292_0.out.1 _ e_.symm).2) rfl)) | have HS3_ := cell_grown hg (cell_unalloc (hHeld.2.2.2) (by first | (rw [add_block]; exact Kd.S_lt HO_3.out _ rfl) | (show (Addr.add _ _).block < _; rw [add_block]; exact Kd.S_lt HO_3.out _ rfl) | exact Kd.S_lt HO_3.out _ rfl)) (by first | (rw [add_block]; exact (fun e_ => ((HL292_0.out.1 _ e_.symm).2) rfl)) | (show some (Addr.add _ _).block ≠ _; rw [add_block]; exact (fun e_ => ((HL292_0.out.1 _ e_.symm).2) rfl)) | exact (fun e_ => ((HL292_0.out.1 _ e_.symm).2) rfl)))
                 rw [← Ny293.out] at ho
                 have n0_ := Az.mk (blk_grown (g := gb289) (o := .cells #[.slice (some ad290) ((rX l0 x13_1).f0).length c288_0] 72 (0, 0)) (by (with_reducible repeat (first | refine blk_drewN ?_ _ | refine blk_drew ?_ | refine blk_alloc ?_ _)); exact BK289.out) hg (Kd.R_ne HL292_0.out BK289.out (by decide)))
                 have n1_ := Az.mk (blk_grown (g := gb291) (o := .cells #[.int .i64 ((rY ((rX l0 x13_1).f0) x21_2).f0), .int .i64 ((rY ((rX l0 x13_1).f0) x21_2).f1), .string ((rY ((rX l0 x13_1).f0) x21_2).f2)] 74 (0, 0)) (by (with_reducible repeat (first | refine blk_drewN ?_ _ | refine blk_drew ?_ | refine blk_alloc ?_ _)); exact BK291.out) hg (Kd.R_ne HL292_0.out BK291.out (by decide)))
                 have n2_ := Az.mk (hb)
                 have n3_ := Az.mk (Kd.H_grown (Kd.H_widen (by repeat (first | exact HH25.out | refine Kd.H_alloc ?_ _ | refine Kd.H_drewN ?_ _ | refine Kd.H_drew ?_))) hg (fun k_ e_ => .inl (UU25.out.1 k_ e_)))
                 have n4_ := Az.mk (ho)
                 clear BK289
                 clear BK291
                 clear HB
                 clear HH25
                 clear HO_3
                 clear UU25
                 clear HL292_0
                 have BK289 := n0_
                 have BK291 := n1_
                 have HB := n2_
                 have HH25 := n3_
                 have HO295 := n4_
                 clear n0_ n1_ n2_ n3_ n4_
                 clear ho hb hg hat
                 have p18 : 0 ≤ (x13_1 : Int) := of_decide_eq_true (by first | (with_reducible assumption) | assumption)
                 have q18 : (x13_1 : Int) < ((x3_2.length : Int) : Int) := of_decide_eq_true (by first | (with_reducible assumption) | assumption)
                 replace p18 := eq_true p18
                 replace q18 := eq_true q18
                 obtain ⟨Ao29, co29, eo29⟩ := Kd.R_slice HO295.out
                 (first | subst eo29 | (injection eo29 with f1_ f2_ f3_; have f4_ := f1_.symm; have f5_ := f3_.symm; clear f1_ f2_ f3_; subst f4_; subst f5_))
                 obtain ⟨_, _, hraw27, _, _, hcc27, _⟩ := Kd.H_raw HH25.out (of_decide_eq_true (by first | (with_reducible assumption) | assumption)) (by have h_ : (x13_1 : Int) < ((x3_2.length : Int) : Int) := of_decide_eq_true (by first | (with_reducible assumption) | assumption); first | exact h_ | (have e_ := (HN25.out); omega) | simpa using h_)
                 obtain ⟨_, hfr27⟩ := Kd.H_at HH25.out (of_decide_eq_true (by first | (with_reducible assumption) | assumption)) (by have h_ : (x13_1 : Int) < ((x3_2.length : Int) : Int) := of_decide_eq_true (by first | (with_reducible assumption) | assumption); first | exact h_ | (have e_ := (HN25.out); omega) | simpa using h_)
                 have hx27_0 := hcc27 0 _ rfl
                 have hf27_0 := hfr27 0
                 (try simp only [Nat.add_zero] at hx27_0 hf27_0)
                 (try rw [show ((Kd.slice 3 (Kd.int .i64))).sz = 1 from rfl, Nat.mul_one] at hx27_0)
                 (try rw [show ((Kd.slice 3 (Kd.int .i64))).sz = 1 from rfl, Nat.mul_one] at hf27_0)
                 have HP27 := Kd.S_seg0 HH25.out (of_decide_eq_true (by first | (with_reducible assumption) | assumption)) (by have h_ : (x13_1 : Int) < ((x3_2.length : Int) : Int) := of_decide_eq_true (by first | (with_reducible assumption) | assumption); first | exact h_ | (have e_ := (HN25.out); omega) | simpa using h_) (seg := [.slice Ao29 y293.length co29]) (j := 0) (show 1 ≤ 1 from by decide) (x' := y293) (Kd.M_row HO295.out) (fun _ hk => hk)
                 (try simp only [show ((Kd.slice 3 (Kd.int .i64))).sz = 1 from rfl, Nat.mul_one, Nat.add_zero] at HP27)
                 clear hcc27 hfr27
                 have HNB289_go25 := Az.mk (show gb289 ≠ go25 from by have h_ := Kd.R_ne hraw27 BK289.out (by decide); intro e_; exact h_ (by rw [e_]; rfl))
                 have HNB291_go25 := Az.mk (show gb291 ≠ go25 from by have h_ := Kd.R_ne hraw27 BK291.out (by decide); intro e_; exact h_ (by rw [e_]; rfl))
                 have HS27 := HP27.1
                 rw [← Ny296.out] at HS27
                 have HQ27 := Az.mk HS27
                 obtain ⟨_, hgg27⟩ := Kd.R_typed hraw27 go25 rfl
                 have GG27_ := Az.mk hgg27
                 clear HP27 HS27 hgg27
                 refine hK.out _ _ ⟨(bC BK291.out 0).trans rfl, (bC BK291.out 1).trans rfl, (bC BK291.out 2).trans rfl, HS3_⟩ (fun hHeld => ?_)
                 clear hK K
                 refine norm_ (a' := ?_) ?_ ?_
                 rotate_left
                 ·show Act.put _ (some 42) _ = _
                  simp only [Act.put, List.setIfInBounds_toArray, List.set_cons_zero, List.set_cons_succ, i64_w, i32_w]
                  rfl
                 refine pure_ (i := 10) (N := some 43) (v := ?_) (a' := ?_) #[true, true, true, true, true, true, true, true, true, true, true, false] rfl rfl (any_of HT_.out (by kernel_rfl)) (fun _ _ _ h => h) (Or.inl ⟨by rfl, ?_⟩) ?_ ?_
                 rotate_left
                 ·intro w'
                  go_simp
                  with_reducible rfl
                 rotate_left
                 ·simp only [Act.put, List.setIfInBounds_toArray, List.set_cons_zero, List.set_cons_succ, i64_w, i32_w]
                  rfl
                 refine last_ (i := 11) (N := none) #[true, true, true, true, true, true, true, true, true, true, true, true] rfl rfl (one_of HT_.out (by kernel_rfl)) (by decide) (fun K hK => ?_)
                 refine skip_ (w1 := ?_) (by rfl) rfl ?_ ?_
                 rotate_left
                 ·go_simp
                  rfl
                 refine hK.out _ _ ?_
                 clear hK K
                 refine done_ (done_of HT_.out (by kernel_rfl)) ?_
                 try go_wp2
                 go_roundg k2
                 case measure => have := HK1.out; have := HK2.out; omega
                 case rel => exact ⟨(y296), (wrap64 (x21_2 + 1)), (by first | rfl | (simp; done) | (simp [*]; done)), H', ⟨by have := HK1.out; have := HK2.out; omega⟩, ⟨by (with_reducible repeat (first | apply Kd.S_alloc | apply Kd.S_drewN | apply Kd.S_drew)); exact HQ27.out⟩, ⟨by (with_reducible repeat (first | refine blk_drewN ?_ _ | refine blk_drew ?_ | refine blk_alloc ?_ _)); refine blk_far ?_ HNB289_go25.out _; (with_reducible repeat (first | refine blk_drewN ?_ _ | refine blk_drew ?_ | refine blk_alloc ?_ _)); exact BK289.out⟩, ⟨by repeat (first | (with_reducible first | exact HB.out | apply bal | apply bdN | apply bdr | refine bS ?_ GB25.out | refine bS ?_ GE289.out | refine bS ?_ GE291.out) | exact HB.out)⟩⟩
                ·rw [if_neg c17] at H
                 exact absurd H (by simp)
               ·rw [if_neg c16] at H
                exact absurd H (by simp)
              ·rw [if_neg c15] at H
               exact absurd H (by simp)
             ·rw [if_neg c14] at H
              have c14b0 : (((rY ((rX l0 x13_1).f0) x21_2).f0) == 1) = false := beq_eq_false_iff_ne.mpr c14
              have c14b1 : (((rY ((rX l0 x13_1).f0) x21_2).f0) != 1) = true := bne_iff_ne.mpr c14
              by_cases c30 : ((rY ((rX l0 x13_1).f0) x21_2).f0) = 2
              ·rw [if_pos c30] at H
               have c30b0 : (((rY ((rX l0 x13_1).f0) x21_2).f0) == 2) = true := beq_iff_eq.mpr c30
               have c30b1 : (((rY ((rX l0 x13_1).f0) x21_2).f0) != 2) = false := bne_eq_false_iff_eq.mpr c30
               clear c30
               by_cases c31 : 0 ≤ x13_1
               ·rw [if_pos c31] at H
                have c31b0 : decide (0 ≤ x13_1) = true := decide_eq_true c31
                clear c31
                by_cases c32 : x13_1 < (x3_2.length : Int)
                ·rw [if_pos c32] at H
                 have c32b0 : decide (x13_1 < (x3_2.length : Int)) = true := decide_eq_true c32
                 clear c32
                 by_cases c33 : (rd_L6 x3_2 x13_1).length < 17592186044416
                 ·rw [if_pos c33] at H
                  have LMc33 := Az.mk c33
                  clear c33
                  obtain ⟨y298, hy298⟩ : ∃ y_ : List Int, y_ = ((rd_L6 x3_2 x13_1) ++ [(rY ((rX l0 x13_1).f0) x21_2).f1]) := ⟨_, rfl⟩
                  replace H : (impl_importsOf.l1 k2 (x3_2.set (x13_1 : Int).toNat y298) x13_1 l0 (l0.length : Int) x13_1 ((rX l0 x13_1).f0) (((rX l0 x13_1).f0).length : Int) (wrap64 (x21_2 + 1))) = some r := by first | (rw [hy298]; with_reducible exact H) | (have H2_ := (Option.bind_some _ _).symm.trans H; rw [hy298]; with_reducible exact H2_) | (have H2_ := (Option.bind_some _ _).symm.trans H; with_reducible exact H2_) | with_reducible exact H | (rw [hy298]; exact H) | exact H
                  have Ny298 := Az.mk hy298
                  clear hy298
                  obtain ⟨y301, hy301⟩ : ∃ y_ : List (List Int), y_ = (x3_2.set (x13_1 : Int).toNat y298) := ⟨_, rfl⟩
                  replace H : (impl_importsOf.l1 k2 y301 x13_1 l0 (l0.length : Int) x13_1 ((rX l0 x13_1).f0) (((rX l0 x13_1).f0).length : Int) (wrap64 (x21_2 + 1))) = some r := by first | (rw [hy301]; with_reducible exact H) | (have H2_ := (Option.bind_some _ _).symm.trans H; rw [hy301]; with_reducible exact H2_) | (have H2_ := (Option.bind_some _ _).symm.trans H; with_reducible exact H2_) | with_reducible exact H | (rw [hy301]; exact H) | exact H
                  have Ny301 := Az.mk hy301
                  clear hy301
                  have H' := Az.mk H
                  clear H
                  have p290 : 0 ≤ (x21_2 : Int) := of_decide_eq_true (by first | (with_reducible assumption) | assumption)
                  have q290 : x21_2 < (((rX l0 x13_1).f0).length : Int) := of_decide_eq_true (by first | (with_reducible assumption) | assumption)
                  obtain ⟨ad290, e290, hx290_0, hx290_1, hx290_2⟩ := at_T74 HR288_0.out x21_2 p290 q290
                  cases e290
                  replace hx290_0 := (HB.out.cell (World.block_lt_of_cell? w _ hx290_0)).trans hx290_0
                  replace hx290_1 := (HB.out.cell (World.block_lt_of_cell? w _ hx290_1)).trans hx290_1
                  replace hx290_2 := (HB.out.cell (World.block_lt_of_cell? w _ hx290_2)).trans hx290_2
                  replace p290 := eq_true p290
                  replace q290 := eq_true q290
                  try go_wp2_with (first | ((with_reducible refine gate_dst (N := 7) rfl ?_); refine box_event ?hg (N := 7) ?hd (cs := #[.int .i64 0, .int .i64 0, .string (⟨#[]⟩ : ByteArray)]) (t := 74) ?hr ?_; (case hd => rfl); (case hg => rfl); (case hr => first | (go_simp; done) | (go_simp; rfl)); intro gb291 hg w35 hbox hb; have n0_ := Az.mk (Kd.S_below (by (with_reducible repeat (first | apply Kd.S_alloc | apply Kd.S_drewN | apply Kd.S_drew)); exact HO_3.out) hb); have n1_ := Az.mk (blk_below (g := gb289) (o := .cells #[.slice (some ad290) ((rX l0 x13_1).f0).length c288_0] 72 (0, 0)) (by (with_reducible repeat (first | refine blk_drewN ?_ _ | refine blk_drew ?_ | refine blk_alloc ?_ _)); exact BK289.out) hb); have n2_ := Az.mk (below_step (by repeat (first | (with_reducible first | exact HB.out | apply bal | apply bdN | apply bdr | refine bS ?_ GE289.out) | exact HB.out)) hb); have n3_ := Az.mk (hbox); have n4_ := Az.mk ((by rw [hg]; exact (below_size (by repeat (first | (with_reducible first | exact HB.out | apply bal | apply bdN | apply bdr | refine bS ?_ GE289.out) | exact HB.out))) : w.heap.size ≤ gb291)); have n5_ := Az.mk ((by rw [hg]; exact (below_size (by repeat (first | (with_reducible first | exact HB.out | apply bal | apply bdN | apply bdr | refine bS ?_ GE289.out) | exact HB.out))) : w.heap.size ≤ gb291)); have n6_ := Az.mk ((by rw [hg]; exact Nat.ne_of_lt (blk_lt (g := gb289) (o := .cells #[.slice (some ad290) ((rX l0 x13_1).f0).length c288_0] 72 (0, 0)) (by (with_reducible repeat (first | refine blk_drewN ?_ _ | refine blk_drew ?_ | refine blk_alloc ?_ _)); exact BK289.out)) : gb289 ≠ gb291)); have n7_ := Az.mk ((by rw [hg]; exact Nat.ne_of_gt (blk_lt (g := gb289) (o := .cells #[.slice (some ad290) ((rX l0 x13_1).f0).length c288_0] 72 (0, 0)) (by (with_reducible repeat (first | refine blk_drewN ?_ _ | refine blk_drew ?_ | refine blk_alloc ?_ _)); exact BK289.out)) : gb291 ≠ gb289)); clear HO_3; clear BK289; clear HB; have HO_3 := n0_; have BK289 := n1_; have HB := n2_; have BK291 := n3_; have GW291 := n4_; have GE291 := n5_; have NB289_291 := n6_; have NB291_289 := n7_; clear n0_ n1_ n2_ n3_ n4_ n5_ n6_ n7_; clear hb hbox hg; have hnb36 := NB291_289.out; have hnc36 := NB289_291.out; have hcz37_0 : w35.cell? ⟨gb291, 0, none⟩ = some (.int .i64 0) := (bC BK291.out 0).trans rfl; have hcz37_1 : w35.cell? ⟨gb291, 1, none⟩ = some (.int .i64 0) := (bC BK291.out 1).trans rfl; have hcz37_2 : w35.cell? ⟨gb291, 2, none⟩ = some (.string (⟨#[]⟩ : ByteArray)) := (bC BK291.out 2).trans rfl; have hfz37_0 := bF BK291.out 0; have hfz37_1 := bF BK291.out 1; have hfz37_2 := bF BK291.out 2))
                  have n0_ : Az (Kd.S (Kd.slice 3 (Kd.int .i64)) 35 (((w35.setCell ⟨gb291, 0, none⟩ (.int .i64 ((rY ((rX l0 x13_1).f0) x21_2).f0))).setCell ⟨gb291, 1, none⟩ (.int .i64 ((rY ((rX l0 x13_1).f0) x21_2).f1))).setCell ⟨gb291, 2, none⟩ (.string ((rY ((rX l0 x13_1).f0) x21_2).f2))) w.heap.size (fun _ => True) v286 x3_2) := ⟨by (with_reducible repeat (first | apply Kd.S_alloc | apply Kd.S_drewN | apply Kd.S_drew)); exact Kd.S_mono (Kd.S_far (p := ⟨gb291, 2, none⟩) (Kd.S_far (p := ⟨gb291, 1, none⟩) (Kd.S_far (p := ⟨gb291, 0, none⟩) (Kd.S_types HO_3.out BK291.out (by decide)) (fun _ hk => hk.2) (.int .i64 ((rY ((rX l0 x13_1).f0) x21_2).f0))) (fun _ hk => hk.2) (.int .i64 ((rY ((rX l0 x13_1).f0) x21_2).f1))) (fun _ hk => hk.2) (.string ((rY ((rX l0 x13_1).f0) x21_2).f2))) (fun _ hk => trivial)⟩
                  have n1_ : Az ((((w35.setCell ⟨gb291, 0, none⟩ (.int .i64 ((rY ((rX l0 x13_1).f0) x21_2).f0))).setCell ⟨gb291, 1, none⟩ (.int .i64 ((rY ((rX l0 x13_1).f0) x21_2).f1))).setCell ⟨gb291, 2, none⟩ (.string ((rY ((rX l0 x13_1).f0) x21_2).f2))).heap[gb289]? = some (.cells #[.slice (some ad290) ((rX l0 x13_1).f0).length c288_0] 72 (0, 0))) := ⟨by (with_reducible repeat (first | refine blk_drewN ?_ _ | refine blk_drew ?_ | refine blk_alloc ?_ _)); refine blk_far ?_ NB289_291.out _; (with_reducible repeat (first | refine blk_drewN ?_ _ | refine blk_drew ?_ | refine blk_alloc ?_ _)); refine blk_far ?_ NB289_291.out _; (with_reducible repeat (first | refine blk_drewN ?_ _ | refine blk_drew ?_ | refine blk_alloc ?_ _)); refine blk_far ?_ NB289_291.out _; (with_reducible repeat (first | refine blk_drewN ?_ _ | refine blk_drew ?_ | refine blk_alloc ?_ _)); exact BK289.out⟩
                  have n2_ : Az ((((w35.setCell ⟨gb291, 0, none⟩ (.int .i64 ((rY ((rX l0 x13_1).f0) x21_2).f0))).setCell ⟨gb291, 1, none⟩ (.int .i64 ((rY ((rX l0 x13_1).f0) x21_2).f1))).setCell ⟨gb291, 2, none⟩ (.string ((rY ((rX l0 x13_1).f0) x21_2).f2))).heap[gb291]? = some (.cells #[.int .i64 ((rY ((rX l0 x13_1).f0) x21_2).f0), .int .i64 ((rY ((rX l0 x13_1).f0) x21_2).f1), .string ((rY ((rX l0 x13_1).f0) x21_2).f2)] 74 (0, 0))) := ⟨by (with_reducible repeat (first | refine blk_drewN ?_ _ | refine blk_drew ?_ | refine blk_alloc ?_ _)); refine blk_put (cs := #[.int .i64 ((rY ((rX l0 x13_1).f0) x21_2).f0), .int .i64 ((rY ((rX l0 x13_1).f0) x21_2).f1), .string (⟨#[]⟩ : ByteArray)]) ?_ 2 _ rfl; (with_reducible repeat (first | refine blk_drewN ?_ _ | refine blk_drew ?_ | refine blk_alloc ?_ _)); refine blk_put (cs := #[.int .i64 ((rY ((rX l0 x13_1).f0) x21_2).f0), .int .i64 0, .string (⟨#[]⟩ : ByteArray)]) ?_ 1 _ rfl; (with_reducible repeat (first | refine blk_drewN ?_ _ | refine blk_drew ?_ | refine blk_alloc ?_ _)); refine blk_put (cs := #[.int .i64 0, .int .i64 0, .string (⟨#[]⟩ : ByteArray)]) ?_ 0 _ rfl; (with_reducible repeat (first | refine blk_drewN ?_ _ | refine blk_drew ?_ | refine blk_alloc ?_ _)); exact BK291.out⟩
                  have n3_ : Az (Below w.heap.size w (((w35.setCell ⟨gb291, 0, none⟩ (.int .i64 ((rY ((rX l0 x13_1).f0) x21_2).f0))).setCell ⟨gb291, 1, none⟩ (.int .i64 ((rY ((rX l0 x13_1).f0) x21_2).f1))).setCell ⟨gb291, 2, none⟩ (.string ((rY ((rX l0 x13_1).f0) x21_2).f2)))) := ⟨by repeat (first | (with_reducible first | exact HB.out | apply bal | apply bdN | apply bdr | refine bS ?_ GE289.out | refine bS ?_ GE291.out) | exact HB.out)⟩
                  (try clear HO_3)
                  (try clear BK289)
                  (try clear BK291)
                  (try clear HB)
                  generalize (((w35.setCell ⟨gb291, 0, none⟩ (.int .i64 ((rY ((rX l0 x13_1).f0) x21_2).f0))).setCell ⟨gb291, 1, none⟩ (.int .i64 ((rY ((rX l0 x13_1).f0) x21_2).f1))).setCell ⟨gb291, 2, none⟩ (.string ((rY ((rX l0 x13_1).f0) x21_2).f2))) = w38 at n0_ n1_ n2_ n3_ ⊢
                  have HO_3 := n0_
                  have BK289 := n1_
                  have BK291 := n2_
                  have HB := n3_
                  clear n0_ n1_ n2_ n3_
                  have n0_ := Az.mk (Kd.S_drew HO_3.out)
                  have n1_ := Az.mk (blk_drew BK289.out)
                  have n2_ := Az.mk (blk_drew BK291.out)
                  have n3_ := Az.mk (bdr HB.out)
                  clear HO_3
                  clear BK289
                  clear BK291
                  clear HB
                  have HO_3 := n0_
                  have BK289 := n1_
                  have BK291 := n2_
                  have HB := n3_
                  clear n0_ n1_ n2_ n3_
                  obtain ⟨Ao40, co40, eo40⟩ := Kd.S_slice HO_3.out
                  (first | subst eo40 | (injection eo40 with f1_ f2_ f3_; have f4_ := f1_.symm; have f5_ := f3_.symm; clear f1_ f2_ f3_; subst f4_; subst f5_))
                  have p297 : 0 ≤ (x13_1 : Int) := of_decide_eq_true (by first | (with_reducible assumption) | assumption)
                  have q297 : x13_1 < (x3_2.length : Int) := of_decide_eq_true (by first | (with_reducible assumption) | assumption)
                  obtain ⟨ad297, A297_0, c297_0, e297, hx297_0, hl297_0, hi297_0⟩ := at_L6 (Kd.S_reads' HO_3.out).2.2 x13_1 p297 q297
                  cases e297
                  obtain ⟨ce297, hce297, hMe297, hcc297⟩ := Kd.S_get HO_3.out [] x13_1 p297 (by first | exact q297 | exact of_decide_eq_true (by first | (with_reducible assumption) | assumption) | (have e_ := (Kd.S_reads' HO_3.out).1; omega))
                  obtain ⟨ve297_0, rfl, ge297_0⟩ := hMe297
                  have hv297_0 := hcc297 0 _ rfl
                  rw [Nat.add_zero, show ((Kd.slice 3 (Kd.int .i64))).sz = 1 from rfl, Nat.mul_one] at hv297_0
                  replace hv297_0 := Option.some.inj (hv297_0.symm.trans hx297_0)
                  rw [hv297_0] at ge297_0
                  have HL297_0 := Az.mk (show Kd.R (Kd.int .i64) 3 _ _ _ _ (rd_L6 x3_2 x13_1) from ge297_0)
                  clear hv297_0 ge297_0
                  have HX297_0 := Az.mk hx297_0
                  clear hcc297 hce297
                  have HR297_0 := Az.mk hi297_0
                  have HC297_0 := Az.mk hl297_0
                  clear hi297_0 hl297_0
                  replace p297 := eq_true p297
                  replace q297 := eq_true q297
                  obtain ⟨go41, co41, eo41, gb41, gl41, cl41, HG41⟩ := Kd.S_form HO_3.out (by have h_ : (x13_1 : Int) < ((x3_2.length : Int) : Int) := of_decide_eq_true (by first | (with_reducible assumption) | assumption); have h2_ : 0 ≤ (x13_1 : Int) := (of_decide_eq_true (by first | (with_reducible assumption) | assumption)); omega)
                  (first | cases eo41 | (injection eo41 with ea_ en_ ec_; (first | subst ea_ | (injection ea_ with ea_; subst ea_)); subst ec_; clear en_))
                  have GB41 := Az.mk gb41
                  have GG41 := Az.mk HG41
                  clear gb41 gl41 HG41
                  (first | simp only [add_plain] at hx297_0 | skip)
                  obtain ⟨oki41, ce41, hcl41, hM41, hcc41, _, _, hH41⟩ := Kd.S_elem HO_3.out [] (x13_1 : Int) (of_decide_eq_true (by first | (with_reducible assumption) | assumption)) (by have h_ : (x13_1 : Int) < ((x3_2.length : Int) : Int) := of_decide_eq_true (by first | (with_reducible assumption) | assumption); first | exact h_ | (have e_ := (Kd.S_reads' HO_3.out).1; omega) | simpa using h_)
                  obtain ⟨ve41_0, rfl, ge41_0⟩ := hM41
                  have hv41 := hcc41 0 _ rfl
                  have hX41 := HX297_0.out
                  (try simp only [add_plain] at hX41)
                  (try simp only [Nat.add_zero] at hv41)
                  (try rw [show ((Kd.slice 3 (Kd.int .i64))).sz = 1 from rfl, Nat.mul_one] at hv41)
                  replace hv41 := Option.some.inj (hv41.symm.trans hX41)
                  subst hv41
                  clear hX41 hcc41 hcl41
                  have UU41 := Az.mk (show Kd.R (Kd.int .i64) 3 _ w.heap.size oki41 (.slice A297_0 (rd_L6 x3_2 x13_1).length c297_0) (rd_L6 x3_2 x13_1) from ge41_0)
                  have HH41 := Az.mk hH41
                  have HN41 := Az.mk (Kd.S_reads' HO_3.out).1
                  clear hH41 ge41_0
                  refine start_ (n := 12) (S := fun w' => w'.cell? ⟨gb291, 0, none⟩ = some (.int .i64 ((rY ((rX l0 x13_1).f0) x21_2).f0)) ∧ w'.cell? ⟨gb291, 1, none⟩ = some (.int .i64 ((rY ((rX l0 x13_1).f0) x21_2).f1)) ∧ w'.cell? ⟨gb291, 2, none⟩ = some (.string ((rY ((rX l0 x13_1).f0) x21_2).f2)) ∧ w'.cell? ⟨go41, (x13_1).toNat, none⟩ = some (.slice A297_0 (rd_L6 x3_2 x13_1).length c297_0)) (ds := [11]) #[false, false, false, false, false, false, false, false, false, false, false, false] (by kernel_rfl) rfl rfl ⟨(bC BK291.out 0).trans rfl, (bC BK291.out 1).trans rfl, (bC BK291.out 2).trans rfl, hx297_0⟩ (fun hHeld => ?_); refine with_tabW impl_importsOf.tab9 impl_importsOf.bits9 (fun HT_ HW_ => ?_)
                  generalize w38.drew = w39 at HO_3 BK289 BK291 HB GG41 HH41 HL297_0 HR297_0 HX297_0 UU41 hx297_0 hHeld ⊢
                  refine pure_ (i := 0) (N := some 33) (v := ?_) (a' := ?_) #[true, false, false, false, false, false, false, false, false, false, false, false] rfl rfl (any_of HT_.out (by kernel_rfl)) (fun _ _ _ h => h) (Or.inl ⟨by rfl, ?_⟩) ?_ ?_
                  rotate_left
                  ·intro w'
                   go_simp
                   with_reducible rfl
                  rotate_left
                  ·simp only [Act.put, List.setIfInBounds_toArray, List.set_cons_zero, List.set_cons_succ, i64_w, i32_w]
                   rfl
                  refine pure_ (i := 1) (N := some 34) (v := ?_) (a' := ?_) #[true, true, false, false, false, false, false, false, false, false, false, false] rfl rfl (any_of HT_.out (by kernel_rfl)) (fun _ _ _ h => h) (Or.inl ⟨by rfl, ?_⟩) ?_ ?_
                  rotate_left
                  ·intro w'
                   go_simp
                   with_reducible rfl
                  rotate_left
                  ·simp only [Act.put, List.setIfInBounds_toArray, List.set_cons_zero, List.set_cons_succ, i64_w, i32_w]
                   rfl
                  refine pure_ (i := 2) (N := some 35) (v := ?_) (a' := ?_) #[true, true, true, false, false, false, false, false, false, false, false, false] rfl rfl (any_of HT_.out (by kernel_rfl)) (fun _ _ _ h => h) (Or.inl ⟨by rfl, ?_⟩) ?_ ?_
                  rotate_left
                  ·intro w'
                   go_simp
                   with_reducible rfl
                  rotate_left
                  ·simp only [Act.put, List.setIfInBounds_toArray, List.set_cons_zero, List.set_cons_succ, i64_w, i32_w]
                   rfl
                  refine pure_ (i := 3) (N := some 36) (v := ?_) (a' := ?_) #[true, true, true, true, false, false, false, false, false, false, false, false] rfl rfl (any_of HT_.out (by kernel_rfl)) (fun _ _ _ h => h) (Or.inl ⟨by rfl, ?_⟩) ?_ ?_
                  rotate_left
                  ·intro w'
                   go_simp
                   with_reducible rfl
                  rotate_left
                  ·simp only [Act.put, List.setIfInBounds_toArray, List.set_cons_zero, List.set_cons_succ, i64_w, i32_w]
                   rfl
                  refine pure_ (i := 4) (N := some 37) (v := ?_) (a' := ?_) #[true, true, true, true, true, false, false, false, false, false, false, false] rfl rfl (any_of HT_.out (by kernel_rfl)) (fun _ _ _ h => h) (Or.inl ⟨by rfl, ?_⟩) ?_ ?_
                  rotate_left
                  ·intro w'
                   go_simp
                   with_reducible rfl
                  rotate_left
                  ·simp only [Act.put, List.setIfInBounds_toArray, List.set_cons_zero, List.set_cons_succ, i64_w, i32_w]
                   rfl
                  refine pure_ (i := 6) (N := some 39) (v := ?_) (a' := ?_) #[true, true, true, true, true, false, true, false, false, false, false, false] rfl rfl (any_of HT_.out (by kernel_rfl)) (fun _ _ _ h => h) (Or.inl ⟨by rfl, ?_⟩) ?_ ?_
                  rotate_left
                  ·intro w'
                   go_simp
                   with_reducible rfl
                  rotate_left
                  ·simp only [Act.put, List.setIfInBounds_toArray, List.set_cons_zero, List.set_cons_succ, i64_w, i32_w]
                   rfl
                  refine take_ (i := 5) (N := some 38) (v := ?_) (a' := ?_) #[true, true, true, true, true, true, true, false, false, false, false, false] rfl rfl (take_ofW HT_.out HW_.out (by kernel_rfl)) (fun _ _ _ h => h) (Or.inl ⟨by rfl, ?_⟩) hHeld ?_ ?_
                  rotate_left
                  ·rintro w' ⟨s0, s1, s2, s3⟩
                   go_simp
                   with_reducible rfl
                  rotate_left
                  ·simp only [Act.put, List.setIfInBounds_toArray, List.set_cons_zero, List.set_cons_succ, i64_w, i32_w]
                   rfl
                  refine take_ (i := 7) (N := some 40) (v := ?_) (a' := ?_) #[true, true, true, true, true, true, true, true, false, false, false, false] rfl rfl (take_ofW HT_.out HW_.out (by kernel_rfl)) (fun _ _ _ h => h) (Or.inl ⟨by rfl, ?_⟩) hHeld ?_ ?_
                  rotate_left
                  ·rintro w' ⟨s0, s1, s2, s3⟩
                   go_simp
                   with_reducible rfl
                  rotate_left
                  ·simp only [Act.put, List.setIfInBounds_toArray, List.set_cons_zero, List.set_cons_succ, i64_w, i32_w]
                   rfl
                  refine one_ (i := 8) (N := some 41) #[true, true, true, true, true, true, true, true, true, false, false, false] rfl rfl (one_of HT_.out (by kernel_rfl)) (by decide) (fun K hK => ?_)
                  refine value_ (w1 := ?_) (v := ?_) (by rfl) rfl ?_ ?_
                  rotate_left 2
                  ·go_simp
                   constructor
                   ·rfl
                   ·rfl
                  refine hK.out _ _ ⟨(bC (blk_alloc BK291.out _) 0).trans rfl, (bC (blk_alloc BK291.out _) 1).trans rfl, (bC (blk_alloc BK291.out _) 2).trans rfl, (World.cell?_alloc_lt _ _ _ (World.block_lt_of_cell? _ _ (hHeld.2.2.2))).trans (hHeld.2.2.2)⟩ (fun hHeld => ?_)
                  clear hK K
                  refine norm_ (a' := ?_) ?_ ?_
                  rotate_left
                  ·show Act.put _ (some 41) _ = _
                   simp only [Act.put, List.setIfInBounds_toArray, List.set_cons_zero, List.set_cons_succ, i64_w, i32_w]
                   rfl
                  refine one_ (i := 9) (N := some 42) #[true, true, true, true, true, true, true, true, true, true, false, false] rfl rfl (one_of HT_.out (by kernel_rfl)) (by decide) (fun K hK => ?_)
                  refine Kd.R_append_step (Kd.int .i64) (w0 := w) w.heap.size (by rfl) (.tmp 38) (.tmp 41) 35 3 (.int .i64 0) 8 rfl Try.underlying35 info3 rfl (by decide) (by omega) (.slice A297_0 (rd_L6 x3_2 x13_1).length c297_0) (rd_L6 x3_2 x13_1) ((rY ((rX l0 x13_1).f0) x21_2).f1) [.int .i64 ((rY ((rX l0 x13_1).f0) x21_2).f1)] (fun k_ => oki41 k_ ∨ ((fun _ => True)) k_ ∧ w39.heap.size ≤ k_) (fun _ => False) rfl rfl ?aP (fun _ hk => hk.elim) ?aF ?aO ?aB ?aS ?aL ?_
                  (case aP => exact rfl)
                  (case aB => exact (by repeat (first | (with_reducible first | exact HB.out | apply bal | apply bdN | apply bdr | refine bS ?_ GE289.out | refine bS ?_ GE291.out) | exact HB.out)))
                  (case aF => exact (fun k_ hk => .inr ⟨trivial, hk⟩))
                  (case aO => exact (by (with_reducible repeat (first | apply Kd.R_alloc | apply Kd.R_drewN | apply Kd.R_drew)); exact Kd.R_mono UU41.out (fun _ hk => .inl hk)))
                  (case aS => exact (below_size (by repeat (first | (with_reducible first | exact HB.out | apply bal | apply bdN | apply bdr | refine bS ?_ GE289.out | refine bS ?_ GE291.out) | exact HB.out))))
                  (case aL => have := LMc33.out; omega)
                  intro v299 w42 ho hb hg hat
                  (first | have HS3_ := cell_grown hg (hHeld.2.2.2) (by first | (rw [add_block]; exact (fun e_ => ((HL297_0.out.1 _ e_.symm).2) rfl)) | (show some (Addr.add _ _).block ≠ _; rw [add_block]; exact (fun e_ => ((HL297_0.out.1 _ e_.symm).2) rfl)) | exact (fun e_ => ((HL297_0.out.1 _ e_.symm).2) rfl)) | have HS3_ := cell_grown hg (cell_unalloc (hHeld.2.2.2) (by first | (rw [add_block]; exact Kd.S_lt HO_3.out _ rfl) | (show (Addr.add _ _).block < _; rw [add_block]; exact Kd.S_lt HO_3.out _ rfl) | exact Kd.S_lt HO_3.out _ rfl)) (by first | (rw [add_block]; exact (fun e_ => ((HL297_0.out.1 _ e_.symm).2) rfl)) | (show some (Addr.add _ _).block ≠ _; rw [add_block]; exact (fun e_ => ((HL297_0.out.1 _ e_.symm).2) rfl)) | exact (fun e_ => ((HL297_0.out.1 _ e_.symm).2) rfl)))
                  rw [← Ny298.out] at ho
                  have n0_ := Az.mk (blk_grown (g := gb289) (o := .cells #[.slice (some ad290) ((rX l0 x13_1).f0).length c288_0] 72 (0, 0)) (by (with_reducible repeat (first | refine blk_drewN ?_ _ | refine blk_drew ?_ | refine blk_alloc ?_ _)); exact BK289.out) hg (Kd.R_ne HL297_0.out BK289.out (by decide)))
                  have n1_ := Az.mk (blk_grown (g := gb291) (o := .cells #[.int .i64 ((rY ((rX l0 x13_1).f0) x21_2).f0), .int .i64 ((rY ((rX l0 x13_1).f0) x21_2).f1), .string ((rY ((rX l0 x13_1).f0) x21_2).f2)] 74 (0, 0)) (by (with_reducible repeat (first | refine blk_drewN ?_ _ | refine blk_drew ?_ | refine blk_alloc ?_ _)); exact BK291.out) hg (Kd.R_ne HL297_0.out BK291.out (by decide)))
                  have n2_ := Az.mk (hb)
                  have n3_ := Az.mk (Kd.H_grown (Kd.H_widen (by repeat (first | exact HH41.out | refine Kd.H_alloc ?_ _ | refine Kd.H_drewN ?_ _ | refine Kd.H_drew ?_))) hg (fun k_ e_ => .inl (UU41.out.1 k_ e_)))
                  have n4_ := Az.mk (ho)
                  clear BK289
                  clear BK291
                  clear HB
                  clear HH41
                  clear HO_3
                  clear UU41
                  clear HL297_0
                  have BK289 := n0_
                  have BK291 := n1_
                  have HB := n2_
                  have HH41 := n3_
                  have HO300 := n4_
                  clear n0_ n1_ n2_ n3_ n4_
                  clear ho hb hg hat
                  have p34 : 0 ≤ (x13_1 : Int) := of_decide_eq_true (by first | (with_reducible assumption) | assumption)
                  have q34 : (x13_1 : Int) < ((x3_2.length : Int) : Int) := of_decide_eq_true (by first | (with_reducible assumption) | assumption)
                  replace p34 := eq_true p34
                  replace q34 := eq_true q34
                  obtain ⟨Ao45, co45, eo45⟩ := Kd.R_slice HO300.out
                  (first | subst eo45 | (injection eo45 with f1_ f2_ f3_; have f4_ := f1_.symm; have f5_ := f3_.symm; clear f1_ f2_ f3_; subst f4_; subst f5_))
                  obtain ⟨_, _, hraw43, _, _, hcc43, _⟩ := Kd.H_raw HH41.out (of_decide_eq_true (by first | (with_reducible assumption) | assumption)) (by have h_ : (x13_1 : Int) < ((x3_2.length : Int) : Int) := of_decide_eq_true (by first | (with_reducible assumption) | assumption); first | exact h_ | (have e_ := (HN41.out); omega) | simpa using h_)
                  obtain ⟨_, hfr43⟩ := Kd.H_at HH41.out (of_decide_eq_true (by first | (with_reducible assumption) | assumption)) (by have h_ : (x13_1 : Int) < ((x3_2.length : Int) : Int) := of_decide_eq_true (by first | (with_reducible assumption) | assumption); first | exact h_ | (have e_ := (HN41.out); omega) | simpa using h_)
                  have hx43_0 := hcc43 0 _ rfl
                  have hf43_0 := hfr43 0
                  (try simp only [Nat.add_zero] at hx43_0 hf43_0)
                  (try rw [show ((Kd.slice 3 (Kd.int .i64))).sz = 1 from rfl, Nat.mul_one] at hx43_0)
                  (try rw [show ((Kd.slice 3 (Kd.int .i64))).sz = 1 from rfl, Nat.mul_one] at hf43_0)
                  have HP43 := Kd.S_seg0 HH41.out (of_decide_eq_true (by first | (with_reducible assumption) | assumption)) (by have h_ : (x13_1 : Int) < ((x3_2.length : Int) : Int) := of_decide_eq_true (by first | (with_reducible assumption) | assumption); first | exact h_ | (have e_ := (HN41.out); omega) | simpa using h_) (seg := [.slice Ao45 y298.length co45]) (j := 0) (show 1 ≤ 1 from by decide) (x' := y298) (Kd.M_row HO300.out) (fun _ hk => hk)
                  (try simp only [show ((Kd.slice 3 (Kd.int .i64))).sz = 1 from rfl, Nat.mul_one, Nat.add_zero] at HP43)
                  clear hcc43 hfr43
                  have HNB289_go41 := Az.mk (show gb289 ≠ go41 from by have h_ := Kd.R_ne hraw43 BK289.out (by decide); intro e_; exact h_ (by rw [e_]; rfl))
                  have HNB291_go41 := Az.mk (show gb291 ≠ go41 from by have h_ := Kd.R_ne hraw43 BK291.out (by decide); intro e_; exact h_ (by rw [e_]; rfl))
                  have HS43 := HP43.1
                  rw [← Ny301.out] at HS43
                  have HQ43 := Az.mk HS43
                  obtain ⟨_, hgg43⟩ := Kd.R_typed hraw43 go41 rfl
                  have GG43_ := Az.mk hgg43
                  clear HP43 HS43 hgg43
                  refine hK.out _ _ ⟨(bC BK291.out 0).trans rfl, (bC BK291.out 1).trans rfl, (bC BK291.out 2).trans rfl, HS3_⟩ (fun hHeld => ?_)
                  clear hK K
                  refine norm_ (a' := ?_) ?_ ?_
                  rotate_left
                  ·show Act.put _ (some 42) _ = _
                   simp only [Act.put, List.setIfInBounds_toArray, List.set_cons_zero, List.set_cons_succ, i64_w, i32_w]
                   rfl
                  refine pure_ (i := 10) (N := some 43) (v := ?_) (a' := ?_) #[true, true, true, true, true, true, true, true, true, true, true, false] rfl rfl (any_of HT_.out (by kernel_rfl)) (fun _ _ _ h => h) (Or.inl ⟨by rfl, ?_⟩) ?_ ?_
                  rotate_left
                  ·intro w'
                   go_simp
                   with_reducible rfl
                  rotate_left
                  ·simp only [Act.put, List.setIfInBounds_toArray, List.set_cons_zero, List.set_cons_succ, i64_w, i32_w]
                   rfl
                  refine last_ (i := 11) (N := none) #[true, true, true, true, true, true, true, true, true, true, true, true] rfl rfl (one_of HT_.out (by kernel_rfl)) (by decide) (fun K hK => ?_)
                  refine skip_ (w1 := ?_) (by rfl) rfl ?_ ?_
                  rotate_left
                  ·go_simp
                   rfl
                  refine hK.out _ _ ?_
                  clear hK K
                  refine done_ (done_of HT_.out (by kernel_rfl)) ?_
                  try go_wp2
                  go_roundg k2
                  case measure => have := HK1.out; have := HK2.out; omega
                  case rel => exact ⟨(y301), (wrap64 (x21_2 + 1)), (by first | rfl | (simp; done) | (simp [*]; done)), H', ⟨by have := HK1.out; have := HK2.out; omega⟩, ⟨by (with_reducible repeat (first | apply Kd.S_alloc | apply Kd.S_drewN | apply Kd.S_drew)); exact HQ43.out⟩, ⟨by (with_reducible repeat (first | refine blk_drewN ?_ _ | refine blk_drew ?_ | refine blk_alloc ?_ _)); refine blk_far ?_ HNB289_go41.out _; (with_reducible repeat (first | refine blk_drewN ?_ _ | refine blk_drew ?_ | refine blk_alloc ?_ _)); exact BK289.out⟩, ⟨by repeat (first | (with_reducible first | exact HB.out | apply bal | apply bdN | apply bdr | refine bS ?_ GB41.out | refine bS ?_ GE289.out | refine bS ?_ GE291.out) | exact HB.out)⟩⟩
                 ·rw [if_neg c33] at H
                  exact absurd H (by simp)
                ·rw [if_neg c32] at H
                 exact absurd H (by simp)
               ·rw [if_neg c31] at H
                exact absurd H (by simp)
              ·rw [if_neg c30] at H
               have c30b0 : (((rY ((rX l0 x13_1).f0) x21_2).f0) == 2) = false := beq_eq_false_iff_ne.mpr c30
               have c30b1 : (((rY ((rX l0 x13_1).f0) x21_2).f0) != 2) = true := bne_iff_ne.mpr c30
               have H' := Az.mk H
               clear H
               have p290 : 0 ≤ (x21_2 : Int) := of_decide_eq_true (by first | (with_reducible assumption) | assumption)
               have q290 : x21_2 < (((rX l0 x13_1).f0).length : Int) := of_decide_eq_true (by first | (with_reducible assumption) | assumption)
               obtain ⟨ad290, e290, hx290_0, hx290_1, hx290_2⟩ := at_T74 HR288_0.out x21_2 p290 q290
               cases e290
               replace hx290_0 := (HB.out.cell (World.block_lt_of_cell? w _ hx290_0)).trans hx290_0
               replace hx290_1 := (HB.out.cell (World.block_lt_of_cell? w _ hx290_1)).trans hx290_1
               replace hx290_2 := (HB.out.cell (World.block_lt_of_cell? w _ hx290_2)).trans hx290_2
               replace p290 := eq_true p290
               replace q290 := eq_true q290
               go_wp2_with (first | ((with_reducible refine gate_dst (N := 7) rfl ?_); refine box_event ?hg (N := 7) ?hd (cs := #[.int .i64 0, .int .i64 0, .string (⟨#[]⟩ : ByteArray)]) (t := 74) ?hr ?_; (case hd => rfl); (case hg => rfl); (case hr => first | (go_simp; done) | (go_simp; rfl)); intro gb291 hg w46 hbox hb; have n0_ := Az.mk (Kd.S_below (by (with_reducible repeat (first | apply Kd.S_alloc | apply Kd.S_drewN | apply Kd.S_drew)); exact HO_3.out) hb); have n1_ := Az.mk (blk_below (g := gb289) (o := .cells #[.slice (some ad290) ((rX l0 x13_1).f0).length c288_0] 72 (0, 0)) (by (with_reducible repeat (first | refine blk_drewN ?_ _ | refine blk_drew ?_ | refine blk_alloc ?_ _)); exact BK289.out) hb); have n2_ := Az.mk (below_step (by repeat (first | (with_reducible first | exact HB.out | apply bal | apply bdN | apply bdr | refine bS ?_ GE289.out) | exact HB.out)) hb); have n3_ := Az.mk (hbox); have n4_ := Az.mk ((by rw [hg]; exact (below_size (by repeat (first | (with_reducible first | exact HB.out | apply bal | apply bdN | apply bdr | refine bS ?_ GE289.out) | exact HB.out))) : w.heap.size ≤ gb291)); have n5_ := Az.mk ((by rw [hg]; exact (below_size (by repeat (first | (with_reducible first | exact HB.out | apply bal | apply bdN | apply bdr | refine bS ?_ GE289.out) | exact HB.out))) : w.heap.size ≤ gb291)); have n6_ := Az.mk ((by rw [hg]; exact Nat.ne_of_lt (blk_lt (g := gb289) (o := .cells #[.slice (some ad290) ((rX l0 x13_1).f0).length c288_0] 72 (0, 0)) (by (with_reducible repeat (first | refine blk_drewN ?_ _ | refine blk_drew ?_ | refine blk_alloc ?_ _)); exact BK289.out)) : gb289 ≠ gb291)); have n7_ := Az.mk ((by rw [hg]; exact Nat.ne_of_gt (blk_lt (g := gb289) (o := .cells #[.slice (some ad290) ((rX l0 x13_1).f0).length c288_0] 72 (0, 0)) (by (with_reducible repeat (first | refine blk_drewN ?_ _ | refine blk_drew ?_ | refine blk_alloc ?_ _)); exact BK289.out)) : gb291 ≠ gb289)); clear HO_3; clear BK289; clear HB; have HO_3 := n0_; have BK289 := n1_; have HB := n2_; have BK291 := n3_; have GW291 := n4_; have GE291 := n5_; have NB289_291 := n6_; have NB291_289 := n7_; clear n0_ n1_ n2_ n3_ n4_ n5_ n6_ n7_; clear hb hbox hg; have hnb47 := NB291_289.out; have hnc47 := NB289_291.out; have hcz48_0 : w46.cell? ⟨gb291, 0, none⟩ = some (.int .i64 0) := (bC BK291.out 0).trans rfl; have hcz48_1 : w46.cell? ⟨gb291, 1, none⟩ = some (.int .i64 0) := (bC BK291.out 1).trans rfl; have hcz48_2 : w46.cell? ⟨gb291, 2, none⟩ = some (.string (⟨#[]⟩ : ByteArray)) := (bC BK291.out 2).trans rfl; have hfz48_0 := bF BK291.out 0; have hfz48_1 := bF BK291.out 1; have hfz48_2 := bF BK291.out 2))
               go_roundg k2
               case measure => have := HK1.out; have := HK2.out; omega
               case rel => exact ⟨(x3_2), (wrap64 (x21_2 + 1)), (by first | rfl | (simp; done) | (simp [*]; done)), H', ⟨by have := HK1.out; have := HK2.out; omega⟩, ⟨by (with_reducible repeat (first | apply Kd.S_alloc | apply Kd.S_drewN | apply Kd.S_drew)); exact Kd.S_mono (Kd.S_far (p := ⟨gb291, 2, none⟩) (Kd.S_far (p := ⟨gb291, 1, none⟩) (Kd.S_far (p := ⟨gb291, 0, none⟩) (Kd.S_types HO_3.out BK291.out (by decide)) (fun _ hk => hk.2) (.int .i64 ((rY ((rX l0 x13_1).f0) x21_2).f0))) (fun _ hk => hk.2) (.int .i64 ((rY ((rX l0 x13_1).f0) x21_2).f1))) (fun _ hk => hk.2) (.string ((rY ((rX l0 x13_1).f0) x21_2).f2))) (fun _ hk => trivial)⟩, ⟨by (with_reducible repeat (first | refine blk_drewN ?_ _ | refine blk_drew ?_ | refine blk_alloc ?_ _)); refine blk_far ?_ NB289_291.out _; (with_reducible repeat (first | refine blk_drewN ?_ _ | refine blk_drew ?_ | refine blk_alloc ?_ _)); refine blk_far ?_ NB289_291.out _; (with_reducible repeat (first | refine blk_drewN ?_ _ | refine blk_drew ?_ | refine blk_alloc ?_ _)); refine blk_far ?_ NB289_291.out _; (with_reducible repeat (first | refine blk_drewN ?_ _ | refine blk_drew ?_ | refine blk_alloc ?_ _)); exact BK289.out⟩, ⟨by repeat (first | (with_reducible first | exact HB.out | apply bal | apply bdN | apply bdr | refine bS ?_ GE289.out | refine bS ?_ GE291.out) | exact HB.out)⟩⟩
            ·rw [if_neg c13] at H
             exact absurd H (by simp)
           ·rw [if_neg c12] at H
            exact absurd H (by simp)
          ·rw [if_neg c11] at H
           have c11b0 : decide (x21_2 < (((rX l0 x13_1).f0).length : Int)) = false := decide_eq_false c11
           clear c11
           have H' := Az.mk H
           clear H
           go_wp2
           go_roundg k2
           case measure => have := HK1.out; have := HK2.out; omega
           case rel => exact ⟨(x3_2), (wrap64 (x13_1 + 1)), (by first | rfl | (simp; done) | (simp [*]; done)), H', ⟨by have := HK1.out; have := HK2.out; omega⟩, ⟨by (with_reducible repeat (first | apply Kd.S_alloc | apply Kd.S_drewN | apply Kd.S_drew)); exact HO_3.out⟩, ⟨by repeat (first | (with_reducible first | exact HB.out | apply bal | apply bdN | apply bdr | refine bS ?_ GE289.out) | exact HB.out)⟩⟩
       ·rw [if_neg c8] at H
        exact absurd H (by simp)
      ·rw [if_neg c7] at H
       exact absurd H (by simp)
     ·rw [if_neg c6] at H
      have c6b0 : decide (x13_1 < (l0.length : Int)) = false := decide_eq_false c6
      clear c6
      obtain rfl := Option.some.inj H
      go_wp2
      go_ret
      exact ⟨_, by first | rfl | (simp [errW_none, errW_some] <;> rfl) | (simp [*, errW_none, errW_some] <;> rfl), by (with_reducible repeat (first | apply Kd.S_alloc | apply Kd.S_drewN | apply Kd.S_drew)); exact HO_3.out, by repeat (first | (with_reducible first | exact HB.out | apply bal | apply bdN | apply bdr) | exact HB.out)⟩
  ·rw [if_neg c3] at H
   exact absurd H (by simp)
 ·rw [if_neg c2] at H
  exact absurd H (by simp)
end Go.Proofs.Ytehhhlhedmfdiaa.PFnImportOrder
end
