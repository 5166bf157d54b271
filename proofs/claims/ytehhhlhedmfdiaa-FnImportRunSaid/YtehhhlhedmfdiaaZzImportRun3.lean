/- FnImportRun holds of every input: what is whole has begun, and every listed module is whole or failed; no condition. Part 3 of 5: what the proof needs. -/
import Derived.Test.YtehhhlhedmfdiaaZzImportRun2
import Derived.Lib.Strings
set_option maxHeartbeats 8000000
set_option maxRecDepth 100000
section
namespace Go.Proofs.Ytehhhlhedmfdiaa.PFnImportRun
open Go.RowKit Go.Proofs.Yz0.PrintWords Go.Proofs.Yz0.PrintLast Go.Proofs.Yz0.PrintMore
attribute [local go_sem] max2_int min2_int max_two min_two max_three min_three max_four min_four
set_option linter.unusedVariables false
set_option linter.unusedSimpArgs false
def impl_indicesOk.l0 : Nat → Int → List Int → Int → Int → Option (Bool)
 | 0, _, _, _, _ => none
 | k + 1, x1, x7, x8, x9 => if x9 < x8 then (if 0 ≤ x9 then (if x9 < (x7.length : Int) then (if (rd x7 x9) < 0 then (some false) else (if (rd x7 x9) ≥ x1 then (some false) else (impl_indicesOk.l0 k x1 x7 x8 (wrap64 (x9 + 1))))) else (none)) else (none)) else (some true)
def impl_indicesOk.f (k : Nat) (l0 : List Int) (a1 : Int) : Option (Bool) := impl_indicesOk.l0 k a1 l0 (l0.length : Int) 0
theorem impl_indicesOk.calls (k : Nat) (A0 : Option Addr) (c0 : Nat) (l0 : List Int) (a1 : Int) (r : Bool) (w : World) (hr0 : Kd.C (Kd.int .i64) w A0 l0.length l0) (hc0 : l0.length ≤ c0) (h : impl_indicesOk.f k l0 a1 = some r) :
  Calls Try.prog 68 #[.slice A0 l0.length c0, .int .i64 a1] w fun e w' => e = .returned (.bool r) ∧ Drawn0 w w' := by
 have HR0 := Az.mk hr0
 have HC0 := Az.mk hc0
 clear hr0 hc0
 have H : (impl_indicesOk.l0 k a1 l0 (l0.length : Int) 0) = some r := h
 clear h
 have H' := Az.mk H
 clear H
 go_enter Try.func68, Try.ntmps68
 go_wp2
 go_loopg [9] k (fun kq v9 w' => ∃ (x9_1 : Int), v9 = .int .i64 x9_1 ∧ Az (impl_indicesOk.l0 kq a1 l0 (l0.length : Int) x9_1 = some r) ∧ Az (kq ≤ k) ∧ Drawn0 w w')
 case atStart => exact ⟨(0), (by first | rfl | (simp; done) | (simp [*]; done)), H', ⟨Nat.le_refl _⟩, by repeat (first | exact Drawn0.refl _ | apply Drawn0.step)⟩
 case round =>
  clear H'
  try clear p2
  obtain ⟨x9_1, rfl, HA, HK1, ⟨m1, rfl⟩⟩ := hrel
  cases gk with
  | zero => exact absurd HA.out (by simp [impl_indicesOk.l0])
  | succ k1 =>
   have H := HA.out
   clear HA
   simp only [impl_indicesOk.l0] at H
   by_cases c3 : x9_1 < (l0.length : Int)
   ·rw [if_pos c3] at H
    have c3b0 : decide (x9_1 < (l0.length : Int)) = true := decide_eq_true c3
    clear c3
    by_cases c4 : 0 ≤ x9_1
    ·rw [if_pos c4] at H
     have c4b0 : decide (0 ≤ x9_1) = true := decide_eq_true c4
     clear c4
     by_cases c5 : x9_1 < (l0.length : Int)
     ·rw [if_pos c5] at H
      have c5b0 : decide (x9_1 < (l0.length : Int)) = true := decide_eq_true c5
      clear c5
      by_cases c6 : (rd l0 x9_1) < 0
      ·rw [if_pos c6] at H
       have c6b0 : decide ((rd l0 x9_1) < 0) = true := decide_eq_true c6
       clear c6
       obtain rfl := Option.some.inj H
       have p205 : 0 ≤ (x9_1 : Int) := of_decide_eq_true (by first | (with_reducible assumption) | assumption)
       have q205 : x9_1 < (l0.length : Int) := of_decide_eq_true (by first | (with_reducible assumption) | assumption)
       obtain ⟨ad205, e205, hx205_0⟩ := Kd.at_int HR0.out x9_1 p205 q205
       cases e205
       replace p205 := eq_true p205
       replace q205 := eq_true q205
       go_wp2
       go_ret
       exact ⟨by first | rfl | (simp; done) | (simp [*]; done), by repeat (first | exact Drawn0.refl _ | apply Drawn0.step)⟩
      ·rw [if_neg c6] at H
       have c6b0 : decide ((rd l0 x9_1) < 0) = false := decide_eq_false c6
       clear c6
       by_cases c7 : (rd l0 x9_1) ≥ a1
       ·rw [if_pos c7] at H
        have c7b0 : decide (a1 ≤ (rd l0 x9_1)) = true := decide_eq_true c7
        clear c7
        obtain rfl := Option.some.inj H
        have p205 : 0 ≤ (x9_1 : Int) := of_decide_eq_true (by first | (with_reducible assumption) | assumption)
        have q205 : x9_1 < (l0.length : Int) := of_decide_eq_true (by first | (with_reducible assumption) | assumption)
        obtain ⟨ad205, e205, hx205_0⟩ := Kd.at_int HR0.out x9_1 p205 q205
        cases e205
        replace p205 := eq_true p205
        replace q205 := eq_true q205
        go_wp2
        go_ret
        exact ⟨by first | rfl | (simp; done) | (simp [*]; done), by repeat (first | exact Drawn0.refl _ | apply Drawn0.step)⟩
       ·rw [if_neg c7] at H
        have c7b0 : decide (a1 ≤ (rd l0 x9_1)) = false := decide_eq_false c7
        clear c7
        have H' := Az.mk H
        clear H
        have p205 : 0 ≤ (x9_1 : Int) := of_decide_eq_true (by first | (with_reducible assumption) | assumption)
        have q205 : x9_1 < (l0.length : Int) := of_decide_eq_true (by first | (with_reducible assumption) | assumption)
        obtain ⟨ad205, e205, hx205_0⟩ := Kd.at_int HR0.out x9_1 p205 q205
        cases e205
        replace p205 := eq_true p205
        replace q205 := eq_true q205
        go_wp2
        go_roundg k1
        case measure => have := HK1.out; omega
        case rel => exact ⟨(wrap64 (x9_1 + 1)), (by first | rfl | (simp; done) | (simp [*]; done)), H', ⟨by have := HK1.out; omega⟩, by repeat (first | exact Drawn0.refl _ | apply Drawn0.step)⟩
     ·rw [if_neg c5] at H
      exact absurd H (by simp)
    ·rw [if_neg c4] at H
     exact absurd H (by simp)
   ·rw [if_neg c3] at H
    have c3b0 : decide (x9_1 < (l0.length : Int)) = false := decide_eq_false c3
    clear c3
    obtain rfl := Option.some.inj H
    go_wp2
    go_ret
    exact ⟨by first | rfl | (simp; done) | (simp [*]; done), by repeat (first | exact Drawn0.refl _ | apply Drawn0.step)⟩
def impl_decimal.f : Nat → Int → Option (ByteArray)
 | 0, _ => none
 | k + 1, a0 => if a0 < 0 then ((impl_decimal.f k (wrap64 (-a0))).bind fun t206 => (if 1 + t206.size ≤ 9223372036854775807 then (some ((⟨#[45]⟩ : ByteArray) ++ t206)) else (none))) else (if a0 < 10 then (some (strOfNums (([(wrap64 (48 + a0)) % 256] : List Int)))) else ((impl_decimal.f k (wrap64 (Int.tdiv a0 10))).bind fun t210 => ((impl_decimal.f k (Int.tmod a0 10)).bind fun t211 => (if t210.size + t211.size ≤ 9223372036854775807 then (some (t210 ++ t211)) else (none)))))
theorem impl_decimal.calls (k : Nat) : ∀ (a0 : Int) (r : ByteArray) (w : World) (h : impl_decimal.f k a0 = some r),
  Calls Try.prog 130 #[.int .i64 a0] w fun e w' => e = .returned (.string r) ∧ Below w.heap.size w w' := by
 induction k using Nat.strongRecOn with
 | _ k ih =>
 intro a0 r w h
 cases k with
 | zero => exact absurd h (by simp [impl_decimal.f])
 | succ k =>
 simp only [impl_decimal.f] at h
 have HB := Az.mk (Below.refl w.heap.size w)
 have H : (if a0 < 0 then ((impl_decimal.f k (wrap64 (-a0))).bind fun t206 => (if 1 + t206.size ≤ 9223372036854775807 then (some ((⟨#[45]⟩ : ByteArray) ++ t206)) else (none))) else (if a0 < 10 then (some (strOfNums (([(wrap64 (48 + a0)) % 256] : List Int)))) else ((impl_decimal.f k (wrap64 (Int.tdiv a0 10))).bind fun t210 => ((impl_decimal.f k (Int.tmod a0 10)).bind fun t211 => (if t210.size + t211.size ≤ 9223372036854775807 then (some (t210 ++ t211)) else (none)))))) = some r := h
 clear h
 by_cases c2 : a0 < 0
 ·rw [if_pos c2] at H
  have c2b0 : decide (a0 < 0) = true := decide_eq_true c2
  clear c2
  replace H := Option.bind_eq_some_iff.mp H
  obtain ⟨t206, A30, H⟩ := H
  replace H : (if 1 + t206.size ≤ 9223372036854775807 then (some ((⟨#[45]⟩ : ByteArray) ++ t206)) else (none)) = some r := H
  have A3 := Az.mk A30
  clear A30
  by_cases c4 : 1 + t206.size ≤ 9223372036854775807
  ·rw [if_pos c4] at H
   have c4b0 := eq_true c4
   have c4b1 : decide (1 + t206.size ≤ 9223372036854775807) = true := decide_eq_true c4
   try have c4b2 : (9223372036854775807 < 1 + t206.size) = False := eq_false (Nat.not_lt.2 c4)
   obtain rfl := Option.some.inj H
   go_enter Try.func130, Try.ntmps130
   go_wp2_with (first | ((with_reducible refine gate_callee (f := 130) rfl ?_); refine goesL_ (some 7) rfl rfl Try.func130 (by kernel_rfl) rfl #[.int .i64 (wrap64 (-a0))] rfl (by (try simp only [List.map_toArray, List.map_cons, List.map_nil]); first | done | rfl | (simp only [List.length_drop, List.length_take]; rfl)) ?_; (with_reducible refine (ih k (by omega) (wrap64 (-a0)) t206 _ A3.out).mono ?_); rintro e w5 ⟨rfl, hb⟩; refine ⟨_, rfl, ?_⟩; have n0_ := Az.mk (below_step (by repeat (first | (with_reducible first | exact HB.out | apply bal | apply bdN | apply bdr) | exact HB.out)) hb); clear HB; have HB := n0_; clear n0_; (try clear hb); (try clear hb2); (try clear hk); (try clear hi)))
   go_ret
   exact ⟨by first | rfl | (simp [errW_none, errW_some] <;> rfl) | (simp [*, errW_none, errW_some] <;> rfl), by repeat (first | (with_reducible first | exact HB.out | apply bal | apply bdN | apply bdr) | exact HB.out)⟩
  ·rw [if_neg c4] at H
   exact absurd H (by simp)
 ·rw [if_neg c2] at H
  have c2b0 : decide (a0 < 0) = false := decide_eq_false c2
  clear c2
  by_cases c6 : a0 < 10
  ·rw [if_pos c6] at H
   have c6b0 : decide (a0 < 10) = true := decide_eq_true c6
   clear c6
   obtain ⟨y207, hy207⟩ : ∃ y_ : List Int, y_ = (([(wrap64 (48 + a0)) % 256] : List Int)) := ⟨_, rfl⟩
   replace H : (some (strOfNums y207)) = some r := by first | (rw [hy207]; with_reducible exact H) | (have H2_ := (Option.bind_some _ _).symm.trans H; rw [hy207]; with_reducible exact H2_) | (have H2_ := (Option.bind_some _ _).symm.trans H; with_reducible exact H2_) | with_reducible exact H | (rw [hy207]; exact H) | exact H
   have Ny207 := Az.mk hy207
   clear hy207
   obtain rfl := Option.some.inj H
   go_enter Try.func130, Try.ntmps130
   go_wp2_with (first | ((with_reducible refine gate_dst (N := 14) rfl ?_); refine Kd.R_lit (Kd.int .u8) _ 5 ?hg (N := 14) ?hd (xs := ([(wrap64 (48 + a0)) % 256] : List Int)) (inner := [.int .u8 ((wrap64 (48 + a0)) % 256)]) (ok := fun _ => True) (okp := fun _ => True) ?hr ?hp (fun _ hk => hk) trivial (Below.refl _ _) (Nat.le_refl _) (by simp) ?_; (case hd => rfl); (case hg => rfl); (case hr => first | (go_simp; done) | (go_simp; rfl)); (case hp => exact (Reps.one (show Kd.M (Kd.int .u8) _ _ _ ((wrap64 (48 + a0)) % 256) [.int .u8 ((wrap64 (48 + a0)) % 256)] from rfl) (Reps.none _ _))); intro v208 w7 ho8 hb hg_ hnew_; clear hg_ hnew_; (first | rw [← Ny207.out] at ho8 | (simp only [Int.reduceToNat] at ho8; rw [← Ny207.out] at ho8)); have n0_ := Az.mk (Kd.R_lower ho8 (below_size (by repeat (first | (with_reducible first | exact HB.out | apply bal | apply bdN | apply bdr) | exact HB.out)))); have n1_ := Az.mk (below_step (by repeat (first | (with_reducible first | exact HB.out | apply bal | apply bdN | apply bdr) | exact HB.out)) hb); clear HB; have HO209 := n0_; have HB := n1_; clear n0_ n1_; clear hb ho8; have hcv9 := own_string (P := Try.prog) Try.underlying22 Try.underlying5 Try.underlying9 (Kd.own_of_R HO209.out)))
   go_ret
   exact ⟨by first | rfl | (simp [errW_none, errW_some] <;> rfl) | (simp [*, errW_none, errW_some] <;> rfl), by repeat (first | (with_reducible first | exact HB.out | apply bal | apply bdN | apply bdr) | exact HB.out)⟩
  ·rw [if_neg c6] at H
   have c6b0 : decide (a0 < 10) = false := decide_eq_false c6
   clear c6
   replace H := Option.bind_eq_some_iff.mp H
   obtain ⟨t210, A100, H⟩ := H
   replace H : ((impl_decimal.f k (Int.tmod a0 10)).bind fun t211 => (if t210.size + t211.size ≤ 9223372036854775807 then (some (t210 ++ t211)) else (none))) = some r := H
   have A10 := Az.mk A100
   clear A100
   replace H := Option.bind_eq_some_iff.mp H
   obtain ⟨t211, A110, H⟩ := H
   replace H : (if t210.size + t211.size ≤ 9223372036854775807 then (some (t210 ++ t211)) else (none)) = some r := H
   have A11 := Az.mk A110
   clear A110
   by_cases c12 : t210.size + t211.size ≤ 9223372036854775807
   ·rw [if_pos c12] at H
    have c12b0 := eq_true c12
    have c12b1 : decide (t210.size + t211.size ≤ 9223372036854775807) = true := decide_eq_true c12
    try have c12b2 : (9223372036854775807 < t210.size + t211.size) = False := eq_false (Nat.not_lt.2 c12)
    obtain rfl := Option.some.inj H
    go_enter Try.func130, Try.ntmps130
    go_wp2_with (first | ((with_reducible refine gate_callee (f := 130) rfl ?_); refine goesL_ (some 18) rfl rfl Try.func130 (by kernel_rfl) rfl #[.int .i64 (wrap64 (Int.tdiv a0 10))] rfl (by (try simp only [List.map_toArray, List.map_cons, List.map_nil]); first | done | rfl | (simp only [List.length_drop, List.length_take]; rfl)) ?_; (with_reducible refine (ih k (by omega) (wrap64 (Int.tdiv a0 10)) t210 _ A10.out).mono ?_); rintro e w13 ⟨rfl, hb⟩; refine ⟨_, rfl, ?_⟩; have n0_ := Az.mk (below_step (by repeat (first | (with_reducible first | exact HB.out | apply bal | apply bdN | apply bdr) | exact HB.out)) hb); clear HB; have HB := n0_; clear n0_; (try clear hb); (try clear hb2); (try clear hk); (try clear hi)) | ((with_reducible refine gate_callee (f := 130) rfl ?_); refine goesL_ (some 21) rfl rfl Try.func130 (by kernel_rfl) rfl #[.int .i64 (Int.tmod a0 10)] rfl (by (try simp only [List.map_toArray, List.map_cons, List.map_nil]); first | done | rfl | (simp only [List.length_drop, List.length_take]; rfl)) ?_; (with_reducible refine (ih k (by omega) (Int.tmod a0 10) t211 _ A11.out).mono ?_); rintro e w14 ⟨rfl, hb⟩; refine ⟨_, rfl, ?_⟩; have n0_ := Az.mk (below_step (by repeat (first | (with_reducible first | exact HB.out | apply bal | apply bdN | apply bdr) | exact HB.out)) hb); clear HB; have HB := n0_; clear n0_; (try clear hb); (try clear hb2); (try clear hk); (try clear hi)))
    go_ret
    exact ⟨by first | rfl | (simp [errW_none, errW_some] <;> rfl) | (simp [*, errW_none, errW_some] <;> rfl), by repeat (first | (with_reducible first | exact HB.out | apply bal | apply bdN | apply bdr) | exact HB.out)⟩
   ·rw [if_neg c12] at H
    exact absurd H (by simp)
def spec_sameNums.l0 : Nat → List Int → List Int → Int → Option (Bool)
 | 0, _, _, _ => none
 | k + 1, x0, x1, x5 => if x5 < (x0.length : Int) then (if 0 ≤ x5 then (if x5 < (x1.length : Int) then (if (rd x0 x5) = (rd x1 x5) then (spec_sameNums.l0 k x0 x1 (wrap64 (x5 + 1))) else (some false)) else (none)) else (none)) else (some true)
def spec_sameNums.f (k : Nat) (l0 : List Int) (l1 : List Int) : Option (Bool) := if (l0.length : Int) = (l1.length : Int) then (spec_sameNums.l0 k l0 l1 0) else (some false)
theorem spec_sameNums.calls (k : Nat) (A0 : Option Addr) (c0 : Nat) (l0 : List Int) (A1 : Option Addr) (c1 : Nat) (l1 : List Int) (r : Bool) (w : World) (hr0 : Kd.C (Kd.int .i64) w A0 l0.length l0) (hc0 : l0.length ≤ c0) (hr1 : Kd.C (Kd.int .i64) w A1 l1.length l1) (hc1 : l1.length ≤ c1) (h : spec_sameNums.f k l0 l1 = some r) :
  Calls Try.prog 70 #[.slice A0 l0.length c0, .slice A1 l1.length c1] w fun e w' => e = .returned (.bool r) ∧ Drawn0 w w' := by
 have HR0 := Az.mk hr0
 have HC0 := Az.mk hc0
 clear hr0 hc0
 have HR1 := Az.mk hr1
 have HC1 := Az.mk hc1
 clear hr1 hc1
 have H : (if (l0.length : Int) = (l1.length : Int) then (spec_sameNums.l0 k l0 l1 0) else (some false)) = some r := h
 clear h
 by_cases c3 : (l0.length : Int) = (l1.length : Int)
 ·rw [if_pos c3] at H
  have c3b0 : ((l0.length : Int) == (l1.length : Int)) = true := beq_iff_eq.mpr c3
  have c3b1 : ((l0.length : Int) != (l1.length : Int)) = false := bne_eq_false_iff_eq.mpr c3
  have c3b2 : (l0.length == l1.length) = true := by first | simpa using c3 | (simp at c3 ⊢; omega)
  clear c3
  have H' := Az.mk H
  clear H
  go_enter Try.func70, Try.ntmps70
  go_wp2
  repeat (go_quiet (fail); try go_wp2)
  go_loopg [5] k (fun kq v5 w' => ∃ (x5_1 : Int), v5 = .int .i64 x5_1 ∧ Az (spec_sameNums.l0 kq l0 l1 x5_1 = some r) ∧ Az (kq ≤ k) ∧ Drawn0 w w')
  case atStart => exact ⟨(0), (by first | rfl | (simp; done) | (simp [*]; done)), H', ⟨Nat.le_refl _⟩, by repeat (first | exact Drawn0.refl _ | apply Drawn0.step)⟩
  case round =>
   clear H'
   try clear c1
   try clear p2
   try clear c3
   try clear c3b0
   try clear c3b1
   try clear c3b2
   obtain ⟨x5_1, rfl, HA, HK1, ⟨m1, rfl⟩⟩ := hrel
   cases gk with
   | zero => exact absurd HA.out (by simp [spec_sameNums.l0])
   | succ k1 =>
    have H := HA.out
    clear HA
    simp only [spec_sameNums.l0] at H
    by_cases c4 : x5_1 < (l0.length : Int)
    ·rw [if_pos c4] at H
     have c4b0 : decide (x5_1 < (l0.length : Int)) = true := decide_eq_true c4
     clear c4
     by_cases c5 : 0 ≤ x5_1
     ·rw [if_pos c5] at H
      have c5b0 : decide (0 ≤ x5_1) = true := decide_eq_true c5
      clear c5
      by_cases c6 : x5_1 < (l1.length : Int)
      ·rw [if_pos c6] at H
       have c6b0 : decide (x5_1 < (l1.length : Int)) = true := decide_eq_true c6
       clear c6
       by_cases c7 : (rd l0 x5_1) = (rd l1 x5_1)
       ·rw [if_pos c7] at H
        have c7b0 : ((rd l0 x5_1) == (rd l1 x5_1)) = true := beq_iff_eq.mpr c7
        have c7b1 : ((rd l0 x5_1) != (rd l1 x5_1)) = false := bne_eq_false_iff_eq.mpr c7
        clear c7
        have H' := Az.mk H
        clear H
        have p212 : 0 ≤ (x5_1 : Int) := of_decide_eq_true (by first | (with_reducible assumption) | assumption)
        have q212 : x5_1 < (l0.length : Int) := of_decide_eq_true (by first | (with_reducible assumption) | assumption)
        obtain ⟨ad212, e212, hx212_0⟩ := Kd.at_int HR0.out x5_1 p212 q212
        cases e212
        replace p212 := eq_true p212
        replace q212 := eq_true q212
        have p213 : 0 ≤ (x5_1 : Int) := of_decide_eq_true (by first | (with_reducible assumption) | assumption)
        have q213 : x5_1 < (l1.length : Int) := of_decide_eq_true (by first | (with_reducible assumption) | assumption)
        obtain ⟨ad213, e213, hx213_0⟩ := Kd.at_int HR1.out x5_1 p213 q213
        cases e213
        replace p213 := eq_true p213
        replace q213 := eq_true q213
        go_wp2
        repeat (go_quiet (fail); try go_wp2)
        go_roundg k1
        case measure => have := HK1.out; omega
        case rel => exact ⟨(wrap64 (x5_1 + 1)), (by first | rfl | (simp; done) | (simp [*]; done)), H', ⟨by have := HK1.out; omega⟩, by repeat (first | exact Drawn0.refl _ | apply Drawn0.step)⟩
       ·rw [if_neg c7] at H
        have c7b0 : ((rd l0 x5_1) == (rd l1 x5_1)) = false := beq_eq_false_iff_ne.mpr c7
        have c7b1 : ((rd l0 x5_1) != (rd l1 x5_1)) = true := bne_iff_ne.mpr c7
        obtain rfl := Option.some.inj H
        have p212 : 0 ≤ (x5_1 : Int) := of_decide_eq_true (by first | (with_reducible assumption) | assumption)
        have q212 : x5_1 < (l0.length : Int) := of_decide_eq_true (by first | (with_reducible assumption) | assumption)
        obtain ⟨ad212, e212, hx212_0⟩ := Kd.at_int HR0.out x5_1 p212 q212
        cases e212
        replace p212 := eq_true p212
        replace q212 := eq_true q212
        have p213 : 0 ≤ (x5_1 : Int) := of_decide_eq_true (by first | (with_reducible assumption) | assumption)
        have q213 : x5_1 < (l1.length : Int) := of_decide_eq_true (by first | (with_reducible assumption) | assumption)
        obtain ⟨ad213, e213, hx213_0⟩ := Kd.at_int HR1.out x5_1 p213 q213
        cases e213
        replace p213 := eq_true p213
        replace q213 := eq_true q213
        go_wp2
        repeat (go_quiet (fail); try go_wp2)
        go_ret
        exact ⟨by first | rfl | (simp; done) | (simp [*]; done), by repeat (first | exact Drawn0.refl _ | apply Drawn0.step)⟩
      ·rw [if_neg c6] at H
       exact absurd H (by simp)
     ·rw [if_neg c5] at H
      exact absurd H (by simp)
    ·rw [if_neg c4] at H
     have c4b0 : decide (x5_1 < (l0.length : Int)) = false := decide_eq_false c4
     clear c4
     obtain rfl := Option.some.inj H
     go_wp2
     repeat (go_quiet (fail); try go_wp2)
     go_ret
     exact ⟨by first | rfl | (simp; done) | (simp [*]; done), by repeat (first | exact Drawn0.refl _ | apply Drawn0.step)⟩
 ·rw [if_neg c3] at H
  have c3b0 : ((l0.length : Int) == (l1.length : Int)) = false := beq_eq_false_iff_ne.mpr c3
  have c3b1 : ((l0.length : Int) != (l1.length : Int)) = true := bne_iff_ne.mpr c3
  have c3b2 : (l0.length == l1.length) = false := by first | simpa using c3 | (simp at c3 ⊢; omega)
  obtain rfl := Option.some.inj H
  go_enter Try.func70, Try.ntmps70
  go_wp2
  repeat (go_quiet (fail); try go_wp2)
  go_ret
  exact ⟨by first | rfl | (simp; done) | (simp [*]; done), by repeat (first | exact Drawn0.refl _ | apply Drawn0.step)⟩
def spec_sameTexts.l0 : Nat → List ByteArray → List ByteArray → Int → Option (Bool)
 | 0, _, _, _ => none
 | k + 1, x0, x1, x5 => if x5 < (x0.length : Int) then (if 0 ≤ x5 then (if x5 < (x1.length : Int) then (if (rdOf ByteArray.empty x0 x5).toList = (rdOf ByteArray.empty x1 x5).toList then (spec_sameTexts.l0 k x0 x1 (wrap64 (x5 + 1))) else (some false)) else (none)) else (none)) else (some true)
def spec_sameTexts.f (k : Nat) (l0 : List ByteArray) (l1 : List ByteArray) : Option (Bool) := if (l0.length : Int) = (l1.length : Int) then (spec_sameTexts.l0 k l0 l1 0) else (some false)
theorem spec_sameTexts.calls (k : Nat) (A0 : Option Addr) (c0 : Nat) (l0 : List ByteArray) (A1 : Option Addr) (c1 : Nat) (l1 : List ByteArray) (r : Bool) (w : World) (hr0 : Kd.C Kd.string w A0 l0.length l0) (hc0 : l0.length ≤ c0) (hr1 : Kd.C Kd.string w A1 l1.length l1) (hc1 : l1.length ≤ c1) (h : spec_sameTexts.f k l0 l1 = some r) :
  Calls Try.prog 71 #[.slice A0 l0.length c0, .slice A1 l1.length c1] w fun e w' => e = .returned (.bool r) ∧ Drawn0 w w' := by
 have HR0 := Az.mk hr0
 have HC0 := Az.mk hc0
 clear hr0 hc0
 have HR1 := Az.mk hr1
 have HC1 := Az.mk hc1
 clear hr1 hc1
 have H : (if (l0.length : Int) = (l1.length : Int) then (spec_sameTexts.l0 k l0 l1 0) else (some false)) = some r := h
 clear h
 by_cases c3 : (l0.length : Int) = (l1.length : Int)
 ·rw [if_pos c3] at H
  have c3b0 : ((l0.length : Int) == (l1.length : Int)) = true := beq_iff_eq.mpr c3
  have c3b1 : ((l0.length : Int) != (l1.length : Int)) = false := bne_eq_false_iff_eq.mpr c3
  have c3b2 : (l0.length == l1.length) = true := by first | simpa using c3 | (simp at c3 ⊢; omega)
  clear c3
  have H' := Az.mk H
  clear H
  go_enter Try.func71, Try.ntmps71
  go_wp2
  repeat (go_quiet (fail); try go_wp2)
  go_loopg [5] k (fun kq v5 w' => ∃ (x5_1 : Int), v5 = .int .i64 x5_1 ∧ Az (spec_sameTexts.l0 kq l0 l1 x5_1 = some r) ∧ Az (kq ≤ k) ∧ Drawn0 w w')
  case atStart => exact ⟨(0), (by first | rfl | (simp; done) | (simp [*]; done)), H', ⟨Nat.le_refl _⟩, by repeat (first | exact Drawn0.refl _ | apply Drawn0.step)⟩
  case round =>
   clear H'
   try clear c1
   try clear p2
   try clear c3
   try clear c3b0
   try clear c3b1
   try clear c3b2
   obtain ⟨x5_1, rfl, HA, HK1, ⟨m1, rfl⟩⟩ := hrel
   cases gk with
   | zero => exact absurd HA.out (by simp [spec_sameTexts.l0])
   | succ k1 =>
    have H := HA.out
    clear HA
    simp only [spec_sameTexts.l0] at H
    by_cases c4 : x5_1 < (l0.length : Int)
    ·rw [if_pos c4] at H
     have c4b0 : decide (x5_1 < (l0.length : Int)) = true := decide_eq_true c4
     clear c4
     by_cases c5 : 0 ≤ x5_1
     ·rw [if_pos c5] at H
      have c5b0 : decide (0 ≤ x5_1) = true := decide_eq_true c5
      clear c5
      by_cases c6 : x5_1 < (l1.length : Int)
      ·rw [if_pos c6] at H
       have c6b0 : decide (x5_1 < (l1.length : Int)) = true := decide_eq_true c6
       clear c6
       by_cases c7 : (rdOf ByteArray.empty l0 x5_1).toList = (rdOf ByteArray.empty l1 x5_1).toList
       ·rw [if_pos c7] at H
        have c7b0 : ((rdOf ByteArray.empty l0 x5_1).toList == (rdOf ByteArray.empty l1 x5_1).toList) = true := beq_iff_eq.mpr c7
        have c7b1 : ((rdOf ByteArray.empty l0 x5_1).toList != (rdOf ByteArray.empty l1 x5_1).toList) = false := bne_eq_false_iff_eq.mpr c7
        clear c7
        have H' := Az.mk H
        clear H
        have p214 : 0 ≤ (x5_1 : Int) := of_decide_eq_true (by first | (with_reducible assumption) | assumption)
        have q214 : x5_1 < (l0.length : Int) := of_decide_eq_true (by first | (with_reducible assumption) | assumption)
        obtain ⟨ad214, e214, hx214_0⟩ := Kd.at_string HR0.out x5_1 p214 q214
        cases e214
        replace p214 := eq_true p214
        replace q214 := eq_true q214
        have p215 : 0 ≤ (x5_1 : Int) := of_decide_eq_true (by first | (with_reducible assumption) | assumption)
        have q215 : x5_1 < (l1.length : Int) := of_decide_eq_true (by first | (with_reducible assumption) | assumption)
        obtain ⟨ad215, e215, hx215_0⟩ := Kd.at_string HR1.out x5_1 p215 q215
        cases e215
        replace p215 := eq_true p215
        replace q215 := eq_true q215
        go_wp2
        repeat (go_quiet (fail); try go_wp2)
        go_roundg k1
        case measure => have := HK1.out; omega
        case rel => exact ⟨(wrap64 (x5_1 + 1)), (by first | rfl | (simp; done) | (simp [*]; done)), H', ⟨by have := HK1.out; omega⟩, by repeat (first | exact Drawn0.refl _ | apply Drawn0.step)⟩
       ·rw [if_neg c7] at H
        have c7b0 : ((rdOf ByteArray.empty l0 x5_1).toList == (rdOf ByteArray.empty l1 x5_1).toList) = false := beq_eq_false_iff_ne.mpr c7
        have c7b1 : ((rdOf ByteArray.empty l0 x5_1).toList != (rdOf ByteArray.empty l1 x5_1).toList) = true := bne_iff_ne.mpr c7
        obtain rfl := Option.some.inj H
        have p214 : 0 ≤ (x5_1 : Int) := of_decide_eq_true (by first | (with_reducible assumption) | assumption)
        have q214 : x5_1 < (l0.length : Int) := of_decide_eq_true (by first | (with_reducible assumption) | assumption)
        obtain ⟨ad214, e214, hx214_0⟩ := Kd.at_string HR0.out x5_1 p214 q214
        cases e214
        replace p214 := eq_true p214
        replace q214 := eq_true q214
        have p215 : 0 ≤ (x5_1 : Int) := of_decide_eq_true (by first | (with_reducible assumption) | assumption)
        have q215 : x5_1 < (l1.length : Int) := of_decide_eq_true (by first | (with_reducible assumption) | assumption)
        obtain ⟨ad215, e215, hx215_0⟩ := Kd.at_string HR1.out x5_1 p215 q215
        cases e215
        replace p215 := eq_true p215
        replace q215 := eq_true q215
        go_wp2
        repeat (go_quiet (fail); try go_wp2)
        go_ret
        exact ⟨by first | rfl | (simp; done) | (simp [*]; done), by repeat (first | exact Drawn0.refl _ | apply Drawn0.step)⟩
      ·rw [if_neg c6] at H
       exact absurd H (by simp)
     ·rw [if_neg c5] at H
      exact absurd H (by simp)
    ·rw [if_neg c4] at H
     have c4b0 : decide (x5_1 < (l0.length : Int)) = false := decide_eq_false c4
     clear c4
     obtain rfl := Option.some.inj H
     go_wp2
     repeat (go_quiet (fail); try go_wp2)
     go_ret
     exact ⟨by first | rfl | (simp; done) | (simp [*]; done), by repeat (first | exact Drawn0.refl _ | apply Drawn0.step)⟩
 ·rw [if_neg c3] at H
  have c3b0 : ((l0.length : Int) == (l1.length : Int)) = false := beq_eq_false_iff_ne.mpr c3
  have c3b1 : ((l0.length : Int) != (l1.length : Int)) = true := bne_iff_ne.mpr c3
  have c3b2 : (l0.length == l1.length) = false := by first | simpa using c3 | (simp at c3 ⊢; omega)
  obtain rfl := Option.some.inj H
  go_enter Try.func71, Try.ntmps71
  go_wp2
  repeat (go_quiet (fail); try go_wp2)
  go_ret
  exact ⟨by first | rfl | (simp; done) | (simp [*]; done), by repeat (first | exact Drawn0.refl _ | apply Drawn0.step)⟩
def spec_SameImports.f (k : Nat) (l0_0 : List Int) (l0_1 : List Int) (l0_2 : List Int) (l0_3 : List ByteArray) (l0_4 : List Int) (l1_0 : List Int) (l1_1 : List Int) (l1_2 : List Int) (l1_3 : List ByteArray) (l1_4 : List Int) : Option (Bool) := (spec_sameNums.f k l0_0 l1_0).bind fun t218 => (if t218 = true then ((spec_sameNums.f k l0_1 l1_1).bind fun t219 => (if t219 = true then ((spec_sameNums.f k l0_2 l1_2).bind fun t220 => (if t220 = true then ((spec_sameTexts.f k l0_3 l1_3).bind fun t221 => (if t221 = true then ((spec_sameNums.f k l0_4 l1_4).bind fun t222 => (some t222)) else (some false))) else (some false))) else (some false))) else (some false))
theorem spec_SameImports.calls (k : Nat) (A0_0 : Option Addr) (c0_0 : Nat) (l0_0 : List Int) (A0_1 : Option Addr) (c0_1 : Nat) (l0_1 : List Int) (A0_2 : Option Addr) (c0_2 : Nat) (l0_2 : List Int) (A0_3 : Option Addr) (c0_3 : Nat) (l0_3 : List ByteArray) (A0_4 : Option Addr) (c0_4 : Nat) (l0_4 : List Int) (A1_0 : Option Addr) (c1_0 : Nat) (l1_0 : List Int) (A1_1 : Option Addr) (c1_1 : Nat) (l1_1 : List Int) (A1_2 : Option Addr) (c1_2 : Nat) (l1_2 : List Int) (A1_3 : Option Addr) (c1_3 : Nat) (l1_3 : List ByteArray) (A1_4 : Option Addr) (c1_4 : Nat) (l1_4 : List Int) (r : Bool) (w : World) (hr0_0 : Kd.C (Kd.int .i64) w A0_0 l0_0.length l0_0) (hc0_0 : l0_0.length ≤ c0_0) (hr0_1 : Kd.C (Kd.int .i64) w A0_1 l0_1.length l0_1) (hc0_1 : l0_1.length ≤ c0_1) (hr0_2 : Kd.C (Kd.int .i64) w A0_2 l0_2.length l0_2) (hc0_2 : l0_2.length ≤ c0_2) (hr0_3 : Kd.C Kd.string w A0_3 l0_3.length l0_3) (hc0_3 : l0_3.length ≤ c0_3) (hr0_4 : Kd.C (Kd.int .i64) w A0_4 l0_4.length l0_4) (hc0_4 : l0_4.length ≤ c0_4) (hr1_0 : Kd.C (Kd.int .i64) w A1_0 l1_0.length l1_0) (hc1_0 : l1_0.length ≤ c1_0) (hr1_1 : Kd.C (Kd.int .i64) w A1_1 l1_1.length l1_1) (hc1_1 : l1_1.length ≤ c1_1) (hr1_2 : Kd.C (Kd.int .i64) w A1_2 l1_2.length l1_2) (hc1_2 : l1_2.length ≤ c1_2) (hr1_3 : Kd.C Kd.string w A1_3 l1_3.length l1_3) (hc1_3 : l1_3.length ≤ c1_3) (hr1_4 : Kd.C (Kd.int .i64) w A1_4 l1_4.length l1_4) (hc1_4 : l1_4.length ≤ c1_4) (h : spec_SameImports.f k l0_0 l0_1 l0_2 l0_3 l0_4 l1_0 l1_1 l1_2 l1_3 l1_4 = some r) :
  Calls Try.prog 25 #[.agg #[.slice A0_0 l0_0.length c0_0, .slice A0_1 l0_1.length c0_1, .slice A0_2 l0_2.length c0_2, .slice A0_3 l0_3.length c0_3, .slice A0_4 l0_4.length c0_4], .agg #[.slice A1_0 l1_0.length c1_0, .slice A1_1 l1_1.length c1_1, .slice A1_2 l1_2.length c1_2, .slice A1_3 l1_3.length c1_3, .slice A1_4 l1_4.length c1_4]] w fun e w' => e = .returned (.bool r) ∧ Below w.heap.size w w' := by
 have hu48 := Try.underlying48
 have HR0_0 := Az.mk hr0_0
 have HC0_0 := Az.mk hc0_0
 clear hr0_0 hc0_0
 have HR0_1 := Az.mk hr0_1
 have HC0_1 := Az.mk hc0_1
 clear hr0_1 hc0_1
 have HR0_2 := Az.mk hr0_2
 have HC0_2 := Az.mk hc0_2
 clear hr0_2 hc0_2
 have HR0_3 := Az.mk hr0_3
 have HC0_3 := Az.mk hc0_3
 clear hr0_3 hc0_3
 have HR0_4 := Az.mk hr0_4
 have HC0_4 := Az.mk hc0_4
 clear hr0_4 hc0_4
 have HR1_0 := Az.mk hr1_0
 have HC1_0 := Az.mk hc1_0
 clear hr1_0 hc1_0
 have HR1_1 := Az.mk hr1_1
 have HC1_1 := Az.mk hc1_1
 clear hr1_1 hc1_1
 have HR1_2 := Az.mk hr1_2
 have HC1_2 := Az.mk hc1_2
 clear hr1_2 hc1_2
 have HR1_3 := Az.mk hr1_3
 have HC1_3 := Az.mk hc1_3
 clear hr1_3 hc1_3
 have HR1_4 := Az.mk hr1_4
 have HC1_4 := Az.mk hc1_4
 clear hr1_4 hc1_4
 have HB := Az.mk (Below.refl w.heap.size w)
 have H : ((spec_sameNums.f k l0_0 l1_0).bind fun t218 => (if t218 = true then ((spec_sameNums.f k l0_1 l1_1).bind fun t219 => (if t219 = true then ((spec_sameNums.f k l0_2 l1_2).bind fun t220 => (if t220 = true then ((spec_sameTexts.f k l0_3 l1_3).bind fun t221 => (if t221 = true then ((spec_sameNums.f k l0_4 l1_4).bind fun t222 => (some t222)) else (some false))) else (some false))) else (some false))) else (some false))) = some r := h
 clear h
 replace H := Option.bind_eq_some_iff.mp H
 obtain ⟨t218, A30, H⟩ := H
 replace H : (if t218 = true then ((spec_sameNums.f k l0_1 l1_1).bind fun t219 => (if t219 = true then ((spec_sameNums.f k l0_2 l1_2).bind fun t220 => (if t220 = true then ((spec_sameTexts.f k l0_3 l1_3).bind fun t221 => (if t221 = true then ((spec_sameNums.f k l0_4 l1_4).bind fun t222 => (some t222)) else (some false))) else (some false))) else (some false))) else (some false)) = some r := H
 have A3 := Az.mk A30
 clear A30
 by_cases c4 : t218 = true
 ·subst c4
  have H1 : ((spec_sameNums.f k l0_1 l1_1).bind fun t219 => (if t219 = true then ((spec_sameNums.f k l0_2 l1_2).bind fun t220 => (if t220 = true then ((spec_sameTexts.f k l0_3 l1_3).bind fun t221 => (if t221 = true then ((spec_sameNums.f k l0_4 l1_4).bind fun t222 => (some t222)) else (some false))) else (some false))) else (some false))) = some r := by rw [if_pos rfl] at H; exact H
  clear H
  have H := H1
  clear H1
  replace H := Option.bind_eq_some_iff.mp H
  obtain ⟨t219, A50, H⟩ := H
  replace H : (if t219 = true then ((spec_sameNums.f k l0_2 l1_2).bind fun t220 => (if t220 = true then ((spec_sameTexts.f k l0_3 l1_3).bind fun t221 => (if t221 = true then ((spec_sameNums.f k l0_4 l1_4).bind fun t222 => (some t222)) else (some false))) else (some false))) else (some false)) = some r := H
  have A5 := Az.mk A50
  clear A50
  by_cases c6 : t219 = true
  ·subst c6
   have H1 : ((spec_sameNums.f k l0_2 l1_2).bind fun t220 => (if t220 = true then ((spec_sameTexts.f k l0_3 l1_3).bind fun t221 => (if t221 = true then ((spec_sameNums.f k l0_4 l1_4).bind fun t222 => (some t222)) else (some false))) else (some false))) = some r := by rw [if_pos rfl] at H; exact H
   clear H
   have H := H1
   clear H1
   replace H := Option.bind_eq_some_iff.mp H
   obtain ⟨t220, A70, H⟩ := H
   replace H : (if t220 = true then ((spec_sameTexts.f k l0_3 l1_3).bind fun t221 => (if t221 = true then ((spec_sameNums.f k l0_4 l1_4).bind fun t222 => (some t222)) else (some false))) else (some false)) = some r := H
   have A7 := Az.mk A70
   clear A70
   by_cases c8 : t220 = true
   ·subst c8
    have H1 : ((spec_sameTexts.f k l0_3 l1_3).bind fun t221 => (if t221 = true then ((spec_sameNums.f k l0_4 l1_4).bind fun t222 => (some t222)) else (some false))) = some r := by rw [if_pos rfl] at H; exact H
    clear H
    have H := H1
    clear H1
    replace H := Option.bind_eq_some_iff.mp H
    obtain ⟨t221, A90, H⟩ := H
    replace H : (if t221 = true then ((spec_sameNums.f k l0_4 l1_4).bind fun t222 => (some t222)) else (some false)) = some r := H
    have A9 := Az.mk A90
    clear A90
    by_cases c10 : t221 = true
    ·subst c10
     have H1 : ((spec_sameNums.f k l0_4 l1_4).bind fun t222 => (some t222)) = some r := by rw [if_pos rfl] at H; exact H
     clear H
     have H := H1
     clear H1
     replace H := Option.bind_eq_some_iff.mp H
     obtain ⟨t222, A110, H⟩ := H
     replace H : (some t222) = some r := H
     have A11 := Az.mk A110
     clear A110
     obtain rfl := Option.some.inj H
     go_enter Try.func25, Try.ntmps25
     go_wp2_with (first | ((with_reducible refine gate_dst (N := 2) rfl ?_); refine box_event ?hg (N := 2) ?hd (cs := #[.slice A0_0 l0_0.length c0_0, .slice A0_1 l0_1.length c0_1, .slice A0_2 l0_2.length c0_2, .slice A0_3 l0_3.length c0_3, .slice A0_4 l0_4.length c0_4]) (t := 48) ?hr ?_; (case hd => rfl); (case hg => rfl); (case hr => first | (go_simp; done) | (go_simp; rfl)); intro gb216 hg w12 hbox hb; have n0_ := Az.mk (below_step (by repeat (first | (with_reducible first | exact HB.out | apply bal | apply bdN | apply bdr) | exact HB.out)) hb); have n1_ := Az.mk (hbox); have n2_ := Az.mk ((by rw [hg]; exact (below_size (by repeat (first | (with_reducible first | exact HB.out | apply bal | apply bdN | apply bdr) | exact HB.out))) : w.heap.size ≤ gb216)); have n3_ := Az.mk ((by rw [hg]; exact (below_size (by repeat (first | (with_reducible first | exact HB.out | apply bal | apply bdN | apply bdr) | exact HB.out))) : w.heap.size ≤ gb216)); clear HB; have HB := n0_; have BK216 := n1_; have GW216 := n2_; have GE216 := n3_; clear n0_ n1_ n2_ n3_; clear hb hbox hg) | ((with_reducible refine gate_dst (N := 3) rfl ?_); refine box_event ?hg (N := 3) ?hd (cs := #[.slice A1_0 l1_0.length c1_0, .slice A1_1 l1_1.length c1_1, .slice A1_2 l1_2.length c1_2, .slice A1_3 l1_3.length c1_3, .slice A1_4 l1_4.length c1_4]) (t := 48) ?hr ?_; (case hd => rfl); (case hg => rfl); (case hr => first | (go_simp; done) | (go_simp; rfl)); intro gb217 hg w13 hbox hb; have n0_ := Az.mk (blk_below (g := gb216) (o := .cells #[.slice A0_0 l0_0.length c0_0, .slice A0_1 l0_1.length c0_1, .slice A0_2 l0_2.length c0_2, .slice A0_3 l0_3.length c0_3, .slice A0_4 l0_4.length c0_4] 48 (0, 0)) (by (with_reducible repeat (first | refine blk_drewN ?_ _ | refine blk_drew ?_ | refine blk_alloc ?_ _)); exact BK216.out) hb); have n1_ := Az.mk (below_step (by repeat (first | (with_reducible first | exact HB.out | apply bal | apply bdN | apply bdr | refine bS ?_ GE216.out) | exact HB.out)) hb); have n2_ := Az.mk (hbox); have n3_ := Az.mk ((by rw [hg]; exact (below_size (by repeat (first | (with_reducible first | exact HB.out | apply bal | apply bdN | apply bdr | refine bS ?_ GE216.out) | exact HB.out))) : w.heap.size ≤ gb217)); have n4_ := Az.mk ((by rw [hg]; exact (below_size (by repeat (first | (with_reducible first | exact HB.out | apply bal | apply bdN | apply bdr | refine bS ?_ GE216.out) | exact HB.out))) : w.heap.size ≤ gb217)); have n5_ := Az.mk ((by rw [hg]; exact Nat.ne_of_lt (blk_lt (g := gb216) (o := .cells #[.slice A0_0 l0_0.length c0_0, .slice A0_1 l0_1.length c0_1, .slice A0_2 l0_2.length c0_2, .slice A0_3 l0_3.length c0_3, .slice A0_4 l0_4.length c0_4] 48 (0, 0)) (by (with_reducible repeat (first | refine blk_drewN ?_ _ | refine blk_drew ?_ | refine blk_alloc ?_ _)); exact BK216.out)) : gb216 ≠ gb217)); have n6_ := Az.mk ((by rw [hg]; exact Nat.ne_of_gt (blk_lt (g := gb216) (o := .cells #[.slice A0_0 l0_0.length c0_0, .slice A0_1 l0_1.length c0_1, .slice A0_2 l0_2.length c0_2, .slice A0_3 l0_3.length c0_3, .slice A0_4 l0_4.length c0_4] 48 (0, 0)) (by (with_reducible repeat (first | refine blk_drewN ?_ _ | refine blk_drew ?_ | refine blk_alloc ?_ _)); exact BK216.out)) : gb217 ≠ gb216)); clear BK216; clear HB; have BK216 := n0_; have HB := n1_; have BK217 := n2_; have GW217 := n3_; have GE217 := n4_; have NB216_217 := n5_; have NB217_216 := n6_; clear n0_ n1_ n2_ n3_ n4_ n5_ n6_; clear hb hbox hg; have hnb14 := NB216_217.out; have hnc14 := NB217_216.out; have hcz15_0 : w13.cell? ⟨gb216, 0, none⟩ = some (.slice A0_0 l0_0.length c0_0) := (bC BK216.out 0).trans rfl; have hcz15_1 : w13.cell? ⟨gb216, 1, none⟩ = some (.slice A0_1 l0_1.length c0_1) := (bC BK216.out 1).trans rfl; have hcz15_2 : w13.cell? ⟨gb216, 2, none⟩ = some (.slice A0_2 l0_2.length c0_2) := (bC BK216.out 2).trans rfl; have hcz15_3 : w13.cell? ⟨gb216, 3, none⟩ = some (.slice A0_3 l0_3.length c0_3) := (bC BK216.out 3).trans rfl; have hcz15_4 : w13.cell? ⟨gb216, 4, none⟩ = some (.slice A0_4 l0_4.length c0_4) := (bC BK216.out 4).trans rfl; have hfz15_0 := bF BK216.out 0; have hfz15_1 := bF BK216.out 1; have hfz15_2 := bF BK216.out 2; have hfz15_3 := bF BK216.out 3; have hfz15_4 := bF BK216.out 4; have hcz16_0 : w13.cell? ⟨gb217, 0, none⟩ = some (.slice A1_0 l1_0.length c1_0) := (bC BK217.out 0).trans rfl; have hcz16_1 : w13.cell? ⟨gb217, 1, none⟩ = some (.slice A1_1 l1_1.length c1_1) := (bC BK217.out 1).trans rfl; have hcz16_2 : w13.cell? ⟨gb217, 2, none⟩ = some (.slice A1_2 l1_2.length c1_2) := (bC BK217.out 2).trans rfl; have hcz16_3 : w13.cell? ⟨gb217, 3, none⟩ = some (.slice A1_3 l1_3.length c1_3) := (bC BK217.out 3).trans rfl; have hcz16_4 : w13.cell? ⟨gb217, 4, none⟩ = some (.slice A1_4 l1_4.length c1_4) := (bC BK217.out 4).trans rfl; have hfz16_0 := bF BK217.out 0; have hfz16_1 := bF BK217.out 1; have hfz16_2 := bF BK217.out 2; have hfz16_3 := bF BK217.out 3; have hfz16_4 := bF BK217.out 4) | ((with_reducible refine gate_callee (f := 70) rfl ?_); refine goesL_ (some 9) rfl rfl Try.func70 (by kernel_rfl) rfl #[.slice A0_0 l0_0.length c0_0, .slice A1_0 l1_0.length c1_0] rfl (by (try simp only [List.map_toArray, List.map_cons, List.map_nil]); first | done | rfl | (simp only [List.length_drop, List.length_take]; rfl)) ?_; (with_reducible refine (spec_sameNums.calls k _ _ l0_0 _ _ l1_0 true _ ?side1 ?side2 ?side3 ?side4 A3.out).mono ?_); (case side1 => repeat (first | exact (Kd.C_below HR0_0.out HB.out) | (with_reducible refine Kd.C_alloc ?_ _) | (with_reducible refine Kd.C_drewN ?_ _) | (with_reducible refine Kd.C_drew ?_))); (case side2 => exact HC0_0.out); (case side3 => repeat (first | exact (Kd.C_below HR1_0.out HB.out) | (with_reducible refine Kd.C_alloc ?_ _) | (with_reducible refine Kd.C_drewN ?_ _) | (with_reducible refine Kd.C_drew ?_))); (case side4 => exact HC1_0.out); rintro e w' ⟨rfl, ⟨nd, rfl⟩⟩; refine ⟨_, rfl, ?_⟩) | (go_at_call 70; (with_reducible refine (spec_sameNums.calls k _ _ l0_1 _ _ l1_1 true _ ?side1 ?side2 ?side3 ?side4 A5.out).mono ?_); (case side1 => repeat (first | exact (Kd.C_below HR0_1.out (by repeat (first | (with_reducible first | exact HB.out | apply bal | apply bdN | apply bdr | refine bS ?_ GE216.out | refine bS ?_ GE217.out) | exact HB.out))) | (with_reducible refine Kd.C_alloc ?_ _) | (with_reducible refine Kd.C_drewN ?_ _) | (with_reducible refine Kd.C_drew ?_))); (case side2 => exact HC0_1.out); (case side3 => repeat (first | exact (Kd.C_below HR1_1.out (by repeat (first | (with_reducible first | exact HB.out | apply bal | apply bdN | apply bdr | refine bS ?_ GE216.out | refine bS ?_ GE217.out) | exact HB.out))) | (with_reducible refine Kd.C_alloc ?_ _) | (with_reducible refine Kd.C_drewN ?_ _) | (with_reducible refine Kd.C_drew ?_))); (case side4 => exact HC1_1.out); rintro e w' ⟨rfl, ⟨nd, rfl⟩⟩) | (go_at_call 70; (with_reducible refine (spec_sameNums.calls k _ _ l0_2 _ _ l1_2 true _ ?side1 ?side2 ?side3 ?side4 A7.out).mono ?_); (case side1 => repeat (first | exact (Kd.C_below HR0_2.out (by repeat (first | (with_reducible first | exact HB.out | apply bal | apply bdN | apply bdr | refine bS ?_ GE216.out | refine bS ?_ GE217.out) | exact HB.out))) | (with_reducible refine Kd.C_alloc ?_ _) | (with_reducible refine Kd.C_drewN ?_ _) | (with_reducible refine Kd.C_drew ?_))); (case side2 => exact HC0_2.out); (case side3 => repeat (first | exact (Kd.C_below HR1_2.out (by repeat (first | (with_reducible first | exact HB.out | apply bal | apply bdN | apply bdr | refine bS ?_ GE216.out | refine bS ?_ GE217.out) | exact HB.out))) | (with_reducible refine Kd.C_alloc ?_ _) | (with_reducible refine Kd.C_drewN ?_ _) | (with_reducible refine Kd.C_drew ?_))); (case side4 => exact HC1_2.out); rintro e w' ⟨rfl, ⟨nd, rfl⟩⟩) | (go_at_call 71; (with_reducible refine (spec_sameTexts.calls k _ _ l0_3 _ _ l1_3 true _ ?side1 ?side2 ?side3 ?side4 A9.out).mono ?_); (case side1 => repeat (first | exact (Kd.C_below HR0_3.out (by repeat (first | (with_reducible first | exact HB.out | apply bal | apply bdN | apply bdr | refine bS ?_ GE216.out | refine bS ?_ GE217.out) | exact HB.out))) | (with_reducible refine Kd.C_alloc ?_ _) | (with_reducible refine Kd.C_drewN ?_ _) | (with_reducible refine Kd.C_drew ?_))); (case side2 => exact HC0_3.out); (case side3 => repeat (first | exact (Kd.C_below HR1_3.out (by repeat (first | (with_reducible first | exact HB.out | apply bal | apply bdN | apply bdr | refine bS ?_ GE216.out | refine bS ?_ GE217.out) | exact HB.out))) | (with_reducible refine Kd.C_alloc ?_ _) | (with_reducible refine Kd.C_drewN ?_ _) | (with_reducible refine Kd.C_drew ?_))); (case side4 => exact HC1_3.out); rintro e w' ⟨rfl, ⟨nd, rfl⟩⟩) | (go_at_call 70; (with_reducible refine (spec_sameNums.calls k _ _ l0_4 _ _ l1_4 t222 _ ?side1 ?side2 ?side3 ?side4 A11.out).mono ?_); (case side1 => repeat (first | exact (Kd.C_below HR0_4.out (by repeat (first | (with_reducible first | exact HB.out | apply bal | apply bdN | apply bdr | refine bS ?_ GE216.out | refine bS ?_ GE217.out) | exact HB.out))) | (with_reducible refine Kd.C_alloc ?_ _) | (with_reducible refine Kd.C_drewN ?_ _) | (with_reducible refine Kd.C_drew ?_))); (case side2 => exact HC0_4.out); (case side3 => repeat (first | exact (Kd.C_below HR1_4.out (by repeat (first | (with_reducible first | exact HB.out | apply bal | apply bdN | apply bdr | refine bS ?_ GE216.out | refine bS ?_ GE217.out) | exact HB.out))) | (with_reducible refine Kd.C_alloc ?_ _) | (with_reducible refine Kd.C_drewN ?_ _) | (with_reducible refine Kd.C_drew ?_))); (case side4 => exact HC1_4.out); rintro e w' ⟨rfl, ⟨nd, rfl⟩⟩))
     go_ret
     exact ⟨by first | rfl | (simp [errW_none, errW_some] <;> rfl) | (simp [*, errW_none, errW_some] <;> rfl), by repeat (first | (with_reducible first | exact HB.out | apply bal | apply bdN | apply bdr | refine bS ?_ GE216.out | refine bS ?_ GE217.out) | exact HB.out)⟩
    ·replace c10 := Bool.eq_false_iff.mpr c10
     subst c10
     have H1 : (some false) = some r := by rw [if_neg (show ¬ (false = true) by decide)] at H; exact H
     clear H
     have H := H1
     clear H1
     obtain rfl := Option.some.inj H
     go_enter Try.func25, Try.ntmps25
     go_wp2_with (first | ((with_reducible refine gate_dst (N := 2) rfl ?_); refine box_event ?hg (N := 2) ?hd (cs := #[.slice A0_0 l0_0.length c0_0, .slice A0_1 l0_1.length c0_1, .slice A0_2 l0_2.length c0_2, .slice A0_3 l0_3.length c0_3, .slice A0_4 l0_4.length c0_4]) (t := 48) ?hr ?_; (case hd => rfl); (case hg => rfl); (case hr => first | (go_simp; done) | (go_simp; rfl)); intro gb216 hg w17 hbox hb; have n0_ := Az.mk (below_step (by repeat (first | (with_reducible first | exact HB.out | apply bal | apply bdN | apply bdr) | exact HB.out)) hb); have n1_ := Az.mk (hbox); have n2_ := Az.mk ((by rw [hg]; exact (below_size (by repeat (first | (with_reducible first | exact HB.out | apply bal | apply bdN | apply bdr) | exact HB.out))) : w.heap.size ≤ gb216)); have n3_ := Az.mk ((by rw [hg]; exact (below_size (by repeat (first | (with_reducible first | exact HB.out | apply bal | apply bdN | apply bdr) | exact HB.out))) : w.heap.size ≤ gb216)); clear HB; have HB := n0_; have BK216 := n1_; have GW216 := n2_; have GE216 := n3_; clear n0_ n1_ n2_ n3_; clear hb hbox hg) | ((with_reducible refine gate_dst (N := 3) rfl ?_); refine box_event ?hg (N := 3) ?hd (cs := #[.slice A1_0 l1_0.length c1_0, .slice A1_1 l1_1.length c1_1, .slice A1_2 l1_2.length c1_2, .slice A1_3 l1_3.length c1_3, .slice A1_4 l1_4.length c1_4]) (t := 48) ?hr ?_; (case hd => rfl); (case hg => rfl); (case hr => first | (go_simp; done) | (go_simp; rfl)); intro gb217 hg w18 hbox hb; have n0_ := Az.mk (blk_below (g := gb216) (o := .cells #[.slice A0_0 l0_0.length c0_0, .slice A0_1 l0_1.length c0_1, .slice A0_2 l0_2.length c0_2, .slice A0_3 l0_3.length c0_3, .slice A0_4 l0_4.length c0_4] 48 (0, 0)) (by (with_reducible repeat (first | refine blk_drewN ?_ _ | refine blk_drew ?_ | refine blk_alloc ?_ _)); exact BK216.out) hb); have n1_ := Az.mk (below_step (by repeat (first | (with_reducible first | exact HB.out | apply bal | apply bdN | apply bdr | refine bS ?_ GE216.out) | exact HB.out)) hb); have n2_ := Az.mk (hbox); have n3_ := Az.mk ((by rw [hg]; exact (below_size (by repeat (first | (with_reducible first | exact HB.out | apply bal | apply bdN | apply bdr | refine bS ?_ GE216.out) | exact HB.out))) : w.heap.size ≤ gb217)); have n4_ := Az.mk ((by rw [hg]; exact (below_size (by repeat (first | (with_reducible first | exact HB.out | apply bal | apply bdN | apply bdr | refine bS ?_ GE216.out) | exact HB.out))) : w.heap.size ≤ gb217)); have n5_ := Az.mk ((by rw [hg]; exact Nat.ne_of_lt (blk_lt (g := gb216) (o := .cells #[.slice A0_0 l0_0.length c0_0, .slice A0_1 l0_1.length c0_1, .slice A0_2 l0_2.length c0_2, .slice A0_3 l0_3.length c0_3, .slice A0_4 l0_4.length c0_4] 48 (0, 0)) (by (with_reducible repeat (first | refine blk_drewN ?_ _ | refine blk_drew ?_ | refine blk_alloc ?_ _)); exact BK216.out)) : gb216 ≠ gb217)); have n6_ := Az.mk ((by rw [hg]; exact Nat.ne_of_gt (blk_lt (g := gb216) (o := .cells #[.slice A0_0 l0_0.length c0_0, .slice A0_1 l0_1.length c0_1, .slice A0_2 l0_2.length c0_2, .slice A0_3 l0_3.length c0_3, .slice A0_4 l0_4.length c0_4] 48 (0, 0)) (by (with_reducible repeat (first | refine blk_drewN ?_ _ | refine blk_drew ?_ | refine blk_alloc ?_ _)); exact BK216.out)) : gb217 ≠ gb216)); clear BK216; clear HB; have BK216 := n0_; have HB := n1_; have BK217 := n2_; have GW217 := n3_; have GE217 := n4_; have NB216_217 := n5_; have NB217_216 := n6_; clear n0_ n1_ n2_ n3_ n4_ n5_ n6_; clear hb hbox hg; have hnb19 := NB216_217.out; have hnc19 := NB217_216.out; have hcz20_0 : w18.cell? ⟨gb216, 0, none⟩ = some (.slice A0_0 l0_0.length c0_0) := (bC BK216.out 0).trans rfl; have hcz20_1 : w18.cell? ⟨gb216, 1, none⟩ = some (.slice A0_1 l0_1.length c0_1) := (bC BK216.out 1).trans rfl; have hcz20_2 : w18.cell? ⟨gb216, 2, none⟩ = some (.slice A0_2 l0_2.length c0_2) := (bC BK216.out 2).trans rfl; have hcz20_3 : w18.cell? ⟨gb216, 3, none⟩ = some (.slice A0_3 l0_3.length c0_3) := (bC BK216.out 3).trans rfl; have hcz20_4 : w18.cell? ⟨gb216, 4, none⟩ = some (.slice A0_4 l0_4.length c0_4) := (bC BK216.out 4).trans rfl; have hfz20_0 := bF BK216.out 0; have hfz20_1 := bF BK216.out 1; have hfz20_2 := bF BK216.out 2; have hfz20_3 := bF BK216.out 3; have hfz20_4 := bF BK216.out 4; have hcz21_0 : w18.cell? ⟨gb217, 0, none⟩ = some (.slice A1_0 l1_0.length c1_0) := (bC BK217.out 0).trans rfl; have hcz21_1 : w18.cell? ⟨gb217, 1, none⟩ = some (.slice A1_1 l1_1.length c1_1) := (bC BK217.out 1).trans rfl; have hcz21_2 : w18.cell? ⟨gb217, 2, none⟩ = some (.slice A1_2 l1_2.length c1_2) := (bC BK217.out 2).trans rfl; have hcz21_3 : w18.cell? ⟨gb217, 3, none⟩ = some (.slice A1_3 l1_3.length c1_3) := (bC BK217.out 3).trans rfl; have hcz21_4 : w18.cell? ⟨gb217, 4, none⟩ = some (.slice A1_4 l1_4.length c1_4) := (bC BK217.out 4).trans rfl; have hfz21_0 := bF BK217.out 0; have hfz21_1 := bF BK217.out 1; have hfz21_2 := bF BK217.out 2; have hfz21_3 := bF BK217.out 3; have hfz21_4 := bF BK217.out 4) | ((with_reducible refine gate_callee (f := 70) rfl ?_); refine goesL_ (some 9) rfl rfl Try.func70 (by kernel_rfl) rfl #[.slice A0_0 l0_0.length c0_0, .slice A1_0 l1_0.length c1_0] rfl (by (try simp only [List.map_toArray, List.map_cons, List.map_nil]); first | done | rfl | (simp only [List.length_drop, List.length_take]; rfl)) ?_; (with_reducible refine (spec_sameNums.calls k _ _ l0_0 _ _ l1_0 true _ ?side1 ?side2 ?side3 ?side4 A3.out).mono ?_); (case side1 => repeat (first | exact (Kd.C_below HR0_0.out HB.out) | (with_reducible refine Kd.C_alloc ?_ _) | (with_reducible refine Kd.C_drewN ?_ _) | (with_reducible refine Kd.C_drew ?_))); (case side2 => exact HC0_0.out); (case side3 => repeat (first | exact (Kd.C_below HR1_0.out HB.out) | (with_reducible refine Kd.C_alloc ?_ _) | (with_reducible refine Kd.C_drewN ?_ _) | (with_reducible refine Kd.C_drew ?_))); (case side4 => exact HC1_0.out); rintro e w' ⟨rfl, ⟨nd, rfl⟩⟩; refine ⟨_, rfl, ?_⟩) | (go_at_call 70; (with_reducible refine (spec_sameNums.calls k _ _ l0_1 _ _ l1_1 true _ ?side1 ?side2 ?side3 ?side4 A5.out).mono ?_); (case side1 => repeat (first | exact (Kd.C_below HR0_1.out (by repeat (first | (with_reducible first | exact HB.out | apply bal | apply bdN | apply bdr | refine bS ?_ GE216.out | refine bS ?_ GE217.out) | exact HB.out))) | (with_reducible refine Kd.C_alloc ?_ _) | (with_reducible refine Kd.C_drewN ?_ _) | (with_reducible refine Kd.C_drew ?_))); (case side2 => exact HC0_1.out); (case side3 => repeat (first | exact (Kd.C_below HR1_1.out (by repeat (first | (with_reducible first | exact HB.out | apply bal | apply bdN | apply bdr | refine bS ?_ GE216.out | refine bS ?_ GE217.out) | exact HB.out))) | (with_reducible refine Kd.C_alloc ?_ _) | (with_reducible refine Kd.C_drewN ?_ _) | (with_reducible refine Kd.C_drew ?_))); (case side4 => exact HC1_1.out); rintro e w' ⟨rfl, ⟨nd, rfl⟩⟩) | (go_at_call 70; (with_reducible refine (spec_sameNums.calls k _ _ l0_2 _ _ l1_2 true _ ?side1 ?side2 ?side3 ?side4 A7.out).mono ?_); (case side1 => repeat (first | exact (Kd.C_below HR0_2.out (by repeat (first | (with_reducible first | exact HB.out | apply bal | apply bdN | apply bdr | refine bS ?_ GE216.out | refine bS ?_ GE217.out) | exact HB.out))) | (with_reducible refine Kd.C_alloc ?_ _) | (with_reducible refine Kd.C_drewN ?_ _) | (with_reducible refine Kd.C_drew ?_))); (case side2 => exact HC0_2.out); (case side3 => repeat (first | exact (Kd.C_below HR1_2.out (by repeat (first | (with_reducible first | exact HB.out | apply bal | apply bdN | apply bdr | refine bS ?_ GE216.out | refine bS ?_ GE217.out) | exact HB.out))) | (with_reducible refine Kd.C_alloc ?_ _) | (with_reducible refine Kd.C_drewN ?_ _) | (with_reducible refine Kd.C_drew ?_))); (case side4 => exact HC1_2.out); rintro e w' ⟨rfl, ⟨nd, rfl⟩⟩) | (go_at_call 71; (with_reducible refine (spec_sameTexts.calls k _ _ l0_3 _ _ l1_3 false _ ?side1 ?side2 ?side3 ?side4 A9.out).mono ?_); (case side1 => repeat (first | exact (Kd.C_below HR0_3.out (by repeat (first | (with_reducible first | exact HB.out | apply bal | apply bdN | apply bdr | refine bS ?_ GE216.out | refine bS ?_ GE217.out) | exact HB.out))) | (with_reducible refine Kd.C_alloc ?_ _) | (with_reducible refine Kd.C_drewN ?_ _) | (with_reducible refine Kd.C_drew ?_))); (case side2 => exact HC0_3.out); (case side3 => repeat (first | exact (Kd.C_below HR1_3.out (by repeat (first | (with_reducible first | exact HB.out | apply bal | apply bdN | apply bdr | refine bS ?_ GE216.out | refine bS ?_ GE217.out) | exact HB.out))) | (with_reducible refine Kd.C_alloc ?_ _) | (with_reducible refine Kd.C_drewN ?_ _) | (with_reducible refine Kd.C_drew ?_))); (case side4 => exact HC1_3.out); rintro e w' ⟨rfl, ⟨nd, rfl⟩⟩))
     go_ret
     exact ⟨by first | rfl | (simp [errW_none, errW_some] <;> rfl) | (simp [*, errW_none, errW_some] <;> rfl), by repeat (first | (with_reducible first | exact HB.out | apply bal | apply bdN | apply bdr | refine bS ?_ GE216.out | refine bS ?_ GE217.out) | exact HB.out)⟩
   ·replace c8 := Bool.eq_false_iff.mpr c8
    subst c8
    have H1 : (some false) = some r := by rw [if_neg (show ¬ (false = true) by decide)] at H; exact H
    clear H
    have H := H1
    clear H1
    obtain rfl := Option.some.inj H
    go_enter Try.func25, Try.ntmps25
    go_wp2_with (first | ((with_reducible refine gate_dst (N := 2) rfl ?_); refine box_event ?hg (N := 2) ?hd (cs := #[.slice A0_0 l0_0.length c0_0, .slice A0_1 l0_1.length c0_1, .slice A0_2 l0_2.length c0_2, .slice A0_3 l0_3.length c0_3, .slice A0_4 l0_4.length c0_4]) (t := 48) ?hr ?_; (case hd => rfl); (case hg => rfl); (case hr => first | (go_simp; done) | (go_simp; rfl)); intro gb216 hg w22 hbox hb; have n0_ := Az.mk (below_step (by repeat (first | (with_reducible first | exact HB.out | apply bal | apply bdN | apply bdr) | exact HB.out)) hb); have n1_ := Az.mk (hbox); have n2_ := Az.mk ((by rw [hg]; exact (below_size (by repeat (first | (with_reducible first | exact HB.out | apply bal | apply bdN | apply bdr) | exact HB.out))) : w.heap.size ≤ gb216)); have n3_ := Az.mk ((by rw [hg]; exact (below_size (by repeat (first | (with_reducible first | exact HB.out | apply bal | apply bdN | apply bdr) | exact HB.out))) : w.heap.size ≤ gb216)); clear HB; have HB := n0_; have BK216 := n1_; have GW216 := n2_; have GE216 := n3_; clear n0_ n1_ n2_ n3_; clear hb hbox hg) | ((with_reducible refine gate_dst (N := 3) rfl ?_); refine box_event ?hg (N := 3) ?hd (cs := #[.slice A1_0 l1_0.length c1_0, .slice A1_1 l1_1.length c1_1, .slice A1_2 l1_2.length c1_2, .slice A1_3 l1_3.length c1_3, .slice A1_4 l1_4.length c1_4]) (t := 48) ?hr ?_; (case hd => rfl); (case hg => rfl); (case hr => first | (go_simp; done) | (go_simp; rfl)); intro gb217 hg w23 hbox hb; have n0_ := Az.mk (blk_below (g := gb216) (o := .cells #[.slice A0_0 l0_0.length c0_0, .slice A0_1 l0_1.length c0_1, .slice A0_2 l0_2.length c0_2, .slice A0_3 l0_3.length c0_3, .slice A0_4 l0_4.length c0_4] 48 (0, 0)) (by (with_reducible repeat (first | refine blk_drewN ?_ _ | refine blk_drew ?_ | refine blk_alloc ?_ _)); exact BK216.out) hb); have n1_ := Az.mk (below_step (by repeat (first | (with_reducible first | exact HB.out | apply bal | apply bdN | apply bdr | refine bS ?_ GE216.out) | exact HB.out)) hb); have n2_ := Az.mk (hbox); have n3_ := Az.mk ((by rw [hg]; exact (below_size (by repeat (first | (with_reducible first | exact HB.out | apply bal | apply bdN | apply bdr | refine bS ?_ GE216.out) | exact HB.out))) : w.heap.size ≤ gb217)); have n4_ := Az.mk ((by rw [hg]; exact (below_size (by repeat (first | (with_reducible first | exact HB.out | apply bal | apply bdN | apply bdr | refine bS ?_ GE216.out) | exact HB.out))) : w.heap.size ≤ gb217)); have n5_ := Az.mk ((by rw [hg]; exact Nat.ne_of_lt (blk_lt (g := gb216) (o := .cells #[.slice A0_0 l0_0.length c0_0, .slice A0_1 l0_1.length c0_1, .slice A0_2 l0_2.length c0_2, .slice A0_3 l0_3.length c0_3, .slice A0_4 l0_4.length c0_4] 48 (0, 0)) (by (with_reducible repeat (first | refine blk_drewN ?_ _ | refine blk_drew ?_ | refine blk_alloc ?_ _)); exact BK216.out)) : gb216 ≠ gb217)); have n6_ := Az.mk ((by rw [hg]; exact Nat.ne_of_gt (blk_lt (g := gb216) (o := .cells #[.slice A0_0 l0_0.length c0_0, .slice A0_1 l0_1.length c0_1, .slice A0_2 l0_2.length c0_2, .slice A0_3 l0_3.length c0_3, .slice A0_4 l0_4.length c0_4] 48 (0, 0)) (by (with_reducible repeat (first | refine blk_drewN ?_ _ | refine blk_drew ?_ | refine blk_alloc ?_ _)); exact BK216.out)) : gb217 ≠ gb216)); clear BK216; clear HB; have BK216 := n0_; have HB := n1_; have BK217 := n2_; have GW217 := n3_; have GE217 := n4_; have NB216_217 := n5_; have NB217_216 := n6_; clear n0_ n1_ n2_ n3_ n4_ n5_ n6_; clear hb hbox hg; have hnb24 := NB216_217.out; have hnc24 := NB217_216.out; have hcz25_0 : w23.cell? ⟨gb216, 0, none⟩ = some (.slice A0_0 l0_0.length c0_0) := (bC BK216.out 0).trans rfl; have hcz25_1 : w23.cell? ⟨gb216, 1, none⟩ = some (.slice A0_1 l0_1.length c0_1) := (bC BK216.out 1).trans rfl; have hcz25_2 : w23.cell? ⟨gb216, 2, none⟩ = some (.slice A0_2 l0_2.length c0_2) := (bC BK216.out 2).trans rfl; have hcz25_3 : w23.cell? ⟨gb216, 3, none⟩ = some (.slice A0_3 l0_3.length c0_3) := (bC BK216.out 3).trans rfl; have hcz25_4 : w23.cell? ⟨gb216, 4, none⟩ = some (.slice A0_4 l0_4.length c0_4) := (bC BK216.out 4).trans rfl; have hfz25_0 := bF BK216.out 0; have hfz25_1 := bF BK216.out 1; have hfz25_2 := bF BK216.out 2; have hfz25_3 := bF BK216.out 3; have hfz25_4 := bF BK216.out 4; have hcz26_0 : w23.cell? ⟨gb217, 0, none⟩ = some (.slice A1_0 l1_0.length c1_0) := (bC BK217.out 0).trans rfl; have hcz26_1 : w23.cell? ⟨gb217, 1, none⟩ = some (.slice A1_1 l1_1.length c1_1) := (bC BK217.out 1).trans rfl; have hcz26_2 : w23.cell? ⟨gb217, 2, none⟩ = some (.slice A1_2 l1_2.length c1_2) := (bC BK217.out 2).trans rfl; have hcz26_3 : w23.cell? ⟨gb217, 3, none⟩ = some (.slice A1_3 l1_3.length c1_3) := (bC BK217.out 3).trans rfl; have hcz26_4 : w23.cell? ⟨gb217, 4, none⟩ = some (.slice A1_4 l1_4.length c1_4) := (bC BK217.out 4).trans rfl; have hfz26_0 := bF BK217.out 0; have hfz26_1 := bF BK217.out 1; have hfz26_2 := bF BK217.out 2; have hfz26_3 := bF BK217.out 3; have hfz26_4 := bF BK217.out 4) | ((with_reducible refine gate_callee (f := 70) rfl ?_); refine goesL_ (some 9) rfl rfl Try.func70 (by kernel_rfl) rfl #[.slice A0_0 l0_0.length c0_0, .slice A1_0 l1_0.length c1_0] rfl (by (try simp only [List.map_toArray, List.map_cons, List.map_nil]); first | done | rfl | (simp only [List.length_drop, List.length_take]; rfl)) ?_; (with_reducible refine (spec_sameNums.calls k _ _ l0_0 _ _ l1_0 true _ ?side1 ?side2 ?side3 ?side4 A3.out).mono ?_); (case side1 => repeat (first | exact (Kd.C_below HR0_0.out HB.out) | (with_reducible refine Kd.C_alloc ?_ _) | (with_reducible refine Kd.C_drewN ?_ _) | (with_reducible refine Kd.C_drew ?_))); (case side2 => exact HC0_0.out); (case side3 => repeat (first | exact (Kd.C_below HR1_0.out HB.out) | (with_reducible refine Kd.C_alloc ?_ _) | (with_reducible refine Kd.C_drewN ?_ _) | (with_reducible refine Kd.C_drew ?_))); (case side4 => exact HC1_0.out); rintro e w' ⟨rfl, ⟨nd, rfl⟩⟩; refine ⟨_, rfl, ?_⟩) | (go_at_call 70; (with_reducible refine (spec_sameNums.calls k _ _ l0_1 _ _ l1_1 true _ ?side1 ?side2 ?side3 ?side4 A5.out).mono ?_); (case side1 => repeat (first | exact (Kd.C_below HR0_1.out (by repeat (first | (with_reducible first | exact HB.out | apply bal | apply bdN | apply bdr | refine bS ?_ GE216.out | refine bS ?_ GE217.out) | exact HB.out))) | (with_reducible refine Kd.C_alloc ?_ _) | (with_reducible refine Kd.C_drewN ?_ _) | (with_reducible refine Kd.C_drew ?_))); (case side2 => exact HC0_1.out); (case side3 => repeat (first | exact (Kd.C_below HR1_1.out (by repeat (first | (with_reducible first | exact HB.out | apply bal | apply bdN | apply bdr | refine bS ?_ GE216.out | refine bS ?_ GE217.out) | exact HB.out))) | (with_reducible refine Kd.C_alloc ?_ _) | (with_reducible refine Kd.C_drewN ?_ _) | (with_reducible refine Kd.C_drew ?_))); (case side4 => exact HC1_1.out); rintro e w' ⟨rfl, ⟨nd, rfl⟩⟩) | (go_at_call 70; (with_reducible refine (spec_sameNums.calls k _ _ l0_2 _ _ l1_2 false _ ?side1 ?side2 ?side3 ?side4 A7.out).mono ?_); (case side1 => repeat (first | exact (Kd.C_below HR0_2.out (by repeat (first | (with_reducible first | exact HB.out | apply bal | apply bdN | apply bdr | refine bS ?_ GE216.out | refine bS ?_ GE217.out) | exact HB.out))) | (with_reducible refine Kd.C_alloc ?_ _) | (with_reducible refine Kd.C_drewN ?_ _) | (with_reducible refine Kd.C_drew ?_))); (case side2 => exact HC0_2.out); (case side3 => repeat (first | exact (Kd.C_below HR1_2.out (by repeat (first | (with_reducible first | exact HB.out | apply bal | apply bdN | apply bdr | refine bS ?_ GE216.out | refine bS ?_ GE217.out) | exact HB.out))) | (with_reducible refine Kd.C_alloc ?_ _) | (with_reducible refine Kd.C_drewN ?_ _) | (with_reducible refine Kd.C_drew ?_))); (case side4 => exact HC1_2.out); rintro e w' ⟨rfl, ⟨nd, rfl⟩⟩))
    go_ret
    exact ⟨by first | rfl | (simp [errW_none, errW_some] <;> rfl) | (simp [*, errW_none, errW_some] <;> rfl), by repeat (first | (with_reducible first | exact HB.out | apply bal | apply bdN | apply bdr | refine bS ?_ GE216.out | refine bS ?_ GE217.out) | exact HB.out)⟩
  ·replace c6 := Bool.eq_false_iff.mpr c6
   subst c6
   have H1 : (some false) = some r := by rw [if_neg (show ¬ (false = true) by decide)] at H; exact H
   clear H
   have H := H1
   clear H1
   obtain rfl := Option.some.inj H
   go_enter Try.func25, Try.ntmps25
   go_wp2_with (first | ((with_reducible refine gate_dst (N := 2) rfl ?_); refine box_event ?hg (N := 2) ?hd (cs := #[.slice A0_0 l0_0.length c0_0, .slice A0_1 l0_1.length c0_1, .slice A0_2 l0_2.length c0_2, .slice A0_3 l0_3.length c0_3, .slice A0_4 l0_4.length c0_4]) (t := 48) ?hr ?_; (case hd => rfl); (case hg => rfl); (case hr => first | (go_simp; done) | (go_simp; rfl)); intro gb216 hg w27 hbox hb; have n0_ := Az.mk (below_step (by repeat (first | (with_reducible first | exact HB.out | apply bal | apply bdN | apply bdr) | exact HB.out)) hb); have n1_ := Az.mk (hbox); have n2_ := Az.mk ((by rw [hg]; exact (below_size (by repeat (first | (with_reducible first | exact HB.out | apply bal | apply bdN | apply bdr) | exact HB.out))) : w.heap.size ≤ gb216)); have n3_ := Az.mk ((by rw [hg]; exact (below_size (by repeat (first | (with_reducible first | exact HB.out | apply bal | apply bdN | apply bdr) | exact HB.out))) : w.heap.size ≤ gb216)); clear HB; have HB := n0_; have BK216 := n1_; have GW216 := n2_; have GE216 := n3_; clear n0_ n1_ n2_ n3_; clear hb hbox hg) | ((with_reducible refine gate_dst (N := 3) rfl ?_); refine box_event ?hg (N := 3) ?hd (cs := #[.slice A1_0 l1_0.length c1_0, .slice A1_1 l1_1.length c1_1, .slice A1_2 l1_2.length c1_2, .slice A1_3 l1_3.length c1_3, .slice A1_4 l1_4.length c1_4]) (t := 48) ?hr ?_; (case hd => rfl); (case hg => rfl); (case hr => first | (go_simp; done) | (go_simp; rfl)); intro gb217 hg w28 hbox hb; have n0_ := Az.mk (blk_below (g := gb216) (o := .cells #[.slice A0_0 l0_0.length c0_0, .slice A0_1 l0_1.length c0_1, .slice A0_2 l0_2.length c0_2, .slice A0_3 l0_3.length c0_3, .slice A0_4 l0_4.length c0_4] 48 (0, 0)) (by (with_reducible repeat (first | refine blk_drewN ?_ _ | refine blk_drew ?_ | refine blk_alloc ?_ _)); exact BK216.out) hb); have n1_ := Az.mk (below_step (by repeat (first | (with_reducible first | exact HB.out | apply bal | apply bdN | apply bdr | refine bS ?_ GE216.out) | exact HB.out)) hb); have n2_ := Az.mk (hbox); have n3_ := Az.mk ((by rw [hg]; exact (below_size (by repeat (first | (with_reducible first | exact HB.out | apply bal | apply bdN | apply bdr | refine bS ?_ GE216.out) | exact HB.out))) : w.heap.size ≤ gb217)); have n4_ := Az.mk ((by rw [hg]; exact (below_size (by repeat (first | (with_reducible first | exact HB.out | apply bal | apply bdN | apply bdr | refine bS ?_ GE216.out) | exact HB.out))) : w.heap.size ≤ gb217)); have n5_ := Az.mk ((by rw [hg]; exact Nat.ne_of_lt (blk_lt (g := gb216) (o := .cells #[.slice A0_0 l0_0.length c0_0, .slice A0_1 l0_1.length c0_1, .slice A0_2 l0_2.length c0_2, .slice A0_3 l0_3.length c0_3, .slice A0_4 l0_4.length c0_4] 48 (0, 0)) (by (with_reducible repeat (first | refine blk_drewN ?_ _ | refine blk_drew ?_ | refine blk_alloc ?_ _)); exact BK216.out)) : gb216 ≠ gb217)); have n6_ := Az.mk ((by rw [hg]; exact Nat.ne_of_gt (blk_lt (g := gb216) (o := .cells #[.slice A0_0 l0_0.length c0_0, .slice A0_1 l0_1.length c0_1, .slice A0_2 l0_2.length c0_2, .slice A0_3 l0_3.length c0_3, .slice A0_4 l0_4.length c0_4] 48 (0, 0)) (by (with_reducible repeat (first | refine blk_drewN ?_ _ | refine blk_drew ?_ | refine blk_alloc ?_ _)); exact BK216.out)) : gb217 ≠ gb216)); clear BK216; clear HB; have BK216 := n0_; have HB := n1_; have BK217 := n2_; have GW217 := n3_; have GE217 := n4_; have NB216_217 := n5_; have NB217_216 := n6_; clear n0_ n1_ n2_ n3_ n4_ n5_ n6_; clear hb hbox hg; have hnb29 := NB216_217.out; have hnc29 := NB217_216.out; have hcz30_0 : w28.cell? ⟨gb216, 0, none⟩ = some (.slice A0_0 l0_0.length c0_0) := (bC BK216.out 0).trans rfl; have hcz30_1 : w28.cell? ⟨gb216, 1, none⟩ = some (.slice A0_1 l0_1.length c0_1) := (bC BK216.out 1).trans rfl; have hcz30_2 : w28.cell? ⟨gb216, 2, none⟩ = some (.slice A0_2 l0_2.length c0_2) := (bC BK216.out 2).trans rfl; have hcz30_3 : w28.cell? ⟨gb216, 3, none⟩ = some (.slice A0_3 l0_3.length c0_3) := (bC BK216.out 3).trans rfl; have hcz30_4 : w28.cell? ⟨gb216, 4, none⟩ = some (.slice A0_4 l0_4.length c0_4) := (bC BK216.out 4).trans rfl; have hfz30_0 := bF BK216.out 0; have hfz30_1 := bF BK216.out 1; have hfz30_2 := bF BK216.out 2; have hfz30_3 := bF BK216.out 3; have hfz30_4 := bF BK216.out 4; have hcz31_0 : w28.cell? ⟨gb217, 0, none⟩ = some (.slice A1_0 l1_0.length c1_0) := (bC BK217.out 0).trans rfl; have hcz31_1 : w28.cell? ⟨gb217, 1, none⟩ = some (.slice A1_1 l1_1.length c1_1) := (bC BK217.out 1).trans rfl; have hcz31_2 : w28.cell? ⟨gb217, 2, none⟩ = some (.slice A1_2 l1_2.length c1_2) := (bC BK217.out 2).trans rfl; have hcz31_3 : w28.cell? ⟨gb217, 3, none⟩ = some (.slice A1_3 l1_3.length c1_3) := (bC BK217.out 3).trans rfl; have hcz31_4 : w28.cell? ⟨gb217, 4, none⟩ = some (.slice A1_4 l1_4.length c1_4) := (bC BK217.out 4).trans rfl; have hfz31_0 := bF BK217.out 0; have hfz31_1 := bF BK217.out 1; have hfz31_2 := bF BK217.out 2; have hfz31_3 := bF BK217.out 3; have hfz31_4 := bF BK217.out 4) | ((with_reducible refine gate_callee (f := 70) rfl ?_); refine goesL_ (some 9) rfl rfl Try.func70 (by kernel_rfl) rfl #[.slice A0_0 l0_0.length c0_0, .slice A1_0 l1_0.length c1_0] rfl (by (try simp only [List.map_toArray, List.map_cons, List.map_nil]); first | done | rfl | (simp only [List.length_drop, List.length_take]; rfl)) ?_; (with_reducible refine (spec_sameNums.calls k _ _ l0_0 _ _ l1_0 true _ ?side1 ?side2 ?side3 ?side4 A3.out).mono ?_); (case side1 => repeat (first | exact (Kd.C_below HR0_0.out HB.out) | (with_reducible refine Kd.C_alloc ?_ _) | (with_reducible refine Kd.C_drewN ?_ _) | (with_reducible refine Kd.C_drew ?_))); (case side2 => exact HC0_0.out); (case side3 => repeat (first | exact (Kd.C_below HR1_0.out HB.out) | (with_reducible refine Kd.C_alloc ?_ _) | (with_reducible refine Kd.C_drewN ?_ _) | (with_reducible refine Kd.C_drew ?_))); (case side4 => exact HC1_0.out); rintro e w' ⟨rfl, ⟨nd, rfl⟩⟩; refine ⟨_, rfl, ?_⟩) | (go_at_call 70; (with_reducible refine (spec_sameNums.calls k _ _ l0_1 _ _ l1_1 false _ ?side1 ?side2 ?side3 ?side4 A5.out).mono ?_); (case side1 => repeat (first | exact (Kd.C_below HR0_1.out (by repeat (first | (with_reducible first | exact HB.out | apply bal | apply bdN | apply bdr | refine bS ?_ GE216.out | refine bS ?_ GE217.out) | exact HB.out))) | (with_reducible refine Kd.C_alloc ?_ _) | (with_reducible refine Kd.C_drewN ?_ _) | (with_reducible refine Kd.C_drew ?_))); (case side2 => exact HC0_1.out); (case side3 => repeat (first | exact (Kd.C_below HR1_1.out (by repeat (first | (with_reducible first | exact HB.out | apply bal | apply bdN | apply bdr | refine bS ?_ GE216.out | refine bS ?_ GE217.out) | exact HB.out))) | (with_reducible refine Kd.C_alloc ?_ _) | (with_reducible refine Kd.C_drewN ?_ _) | (with_reducible refine Kd.C_drew ?_))); (case side4 => exact HC1_1.out); rintro e w' ⟨rfl, ⟨nd, rfl⟩⟩))
   go_ret
   exact ⟨by first | rfl | (simp [errW_none, errW_some] <;> rfl) | (simp [*, errW_none, errW_some] <;> rfl), by repeat (first | (with_reducible first | exact HB.out | apply bal | apply bdN | apply bdr | refine bS ?_ GE216.out | refine bS ?_ GE217.out) | exact HB.out)⟩
 ·replace c4 := Bool.eq_false_iff.mpr c4
  subst c4
  have H1 : (some false) = some r := by rw [if_neg (show ¬ (false = true) by decide)] at H; exact H
  clear H
  have H := H1
  clear H1
  obtain rfl := Option.some.inj H
  go_enter Try.func25, Try.ntmps25
  go_wp2_with (first | ((with_reducible refine gate_dst (N := 2) rfl ?_); refine box_event ?hg (N := 2) ?hd (cs := #[.slice A0_0 l0_0.length c0_0, .slice A0_1 l0_1.length c0_1, .slice A0_2 l0_2.length c0_2, .slice A0_3 l0_3.length c0_3, .slice A0_4 l0_4.length c0_4]) (t := 48) ?hr ?_; (case hd => rfl); (case hg => rfl); (case hr => first | (go_simp; done) | (go_simp; rfl)); intro gb216 hg w32 hbox hb; have n0_ := Az.mk (below_step (by repeat (first | (with_reducible first | exact HB.out | apply bal | apply bdN | apply bdr) | exact HB.out)) hb); have n1_ := Az.mk (hbox); have n2_ := Az.mk ((by rw [hg]; exact (below_size (by repeat (first | (with_reducible first | exact HB.out | apply bal | apply bdN | apply bdr) | exact HB.out))) : w.heap.size ≤ gb216)); have n3_ := Az.mk ((by rw [hg]; exact (below_size (by repeat (first | (with_reducible first | exact HB.out | apply bal | apply bdN | apply bdr) | exact HB.out))) : w.heap.size ≤ gb216)); clear HB; have HB := n0_; have BK216 := n1_; have GW216 := n2_; have GE216 := n3_; clear n0_ n1_ n2_ n3_; clear hb hbox hg) | ((with_reducible refine gate_dst (N := 3) rfl ?_); refine box_event ?hg (N := 3) ?hd (cs := #[.slice A1_0 l1_0.length c1_0, .slice A1_1 l1_1.length c1_1, .slice A1_2 l1_2.length c1_2, .slice A1_3 l1_3.length c1_3, .slice A1_4 l1_4.length c1_4]) (t := 48) ?hr ?_; (case hd => rfl); (case hg => rfl); (case hr => first | (go_simp; done) | (go_simp; rfl)); intro gb217 hg w33 hbox hb; have n0_ := Az.mk (blk_below (g := gb216) (o := .cells #[.slice A0_0 l0_0.length c0_0, .slice A0_1 l0_1.length c0_1, .slice A0_2 l0_2.length c0_2, .slice A0_3 l0_3.length c0_3, .slice A0_4 l0_4.length c0_4] 48 (0, 0)) (by (with_reducible repeat (first | refine blk_drewN ?_ _ | refine blk_drew ?_ | refine blk_alloc ?_ _)); exact BK216.out) hb); have n1_ := Az.mk (below_step (by repeat (first | (with_reducible first | exact HB.out | apply bal | apply bdN | apply bdr | refine bS ?_ GE216.out) | exact HB.out)) hb); have n2_ := Az.mk (hbox); have n3_ := Az.mk ((by rw [hg]; exact (below_size (by repeat (first | (with_reducible first | exact HB.out | apply bal | apply bdN | apply bdr | refine bS ?_ GE216.out) | exact HB.out))) : w.heap.size ≤ gb217)); have n4_ := Az.mk ((by rw [hg]; exact (below_size (by repeat (first | (with_reducible first | exact HB.out | apply bal | apply bdN | apply bdr | refine bS ?_ GE216.out) | exact HB.out))) : w.heap.size ≤ gb217)); have n5_ := Az.mk ((by rw [hg]; exact Nat.ne_of_lt (blk_lt (g := gb216) (o := .cells #[.slice A0_0 l0_0.length c0_0, .slice A0_1 l0_1.length c0_1, .slice A0_2 l0_2.length c0_2, .slice A0_3 l0_3.length c0_3, .slice A0_4 l0_4.length c0_4] 48 (0, 0)) (by (with_reducible repeat (first | refine blk_drewN ?_ _ | refine blk_drew ?_ | refine blk_alloc ?_ _)); exact BK216.out)) : gb216 ≠ gb217)); have n6_ := Az.mk ((by rw [hg]; exact Nat.ne_of_gt (blk_lt (g := gb216) (o := .cells #[.slice A0_0 l0_0.length c0_0, .slice A0_1 l0_1.length c0_1, .slice A0_2 l0_2.length c0_2, .slice A0_3 l0_3.length c0_3, .slice A0_4 l0_4.length c0_4] 48 (0, 0)) (by (with_reducible repeat (first | refine blk_drewN ?_ _ | refine blk_drew ?_ | refine blk_alloc ?_ _)); exact BK216.out)) : gb217 ≠ gb216)); clear BK216; clear HB; have BK216 := n0_; have HB := n1_; have BK217 := n2_; have GW217 := n3_; have GE217 := n4_; have NB216_217 := n5_; have NB217_216 := n6_; clear n0_ n1_ n2_ n3_ n4_ n5_ n6_; clear hb hbox hg; have hnb34 := NB216_217.out; have hnc34 := NB217_216.out; have hcz35_0 : w33.cell? ⟨gb216, 0, none⟩ = some (.slice A0_0 l0_0.length c0_0) := (bC BK216.out 0).trans rfl; have hcz35_1 : w33.cell? ⟨gb216, 1, none⟩ = some (.slice A0_1 l0_1.length c0_1) := (bC BK216.out 1).trans rfl; have hcz35_2 : w33.cell? ⟨gb216, 2, none⟩ = some (.slice A0_2 l0_2.length c0_2) := (bC BK216.out 2).trans rfl; have hcz35_3 : w33.cell? ⟨gb216, 3, none⟩ = some (.slice A0_3 l0_3.length c0_3) := (bC BK216.out 3).trans rfl; have hcz35_4 : w33.cell? ⟨gb216, 4, none⟩ = some (.slice A0_4 l0_4.length c0_4) := (bC BK216.out 4).trans rfl; have hfz35_0 := bF BK216.out 0; have hfz35_1 := bF BK216.out 1; have hfz35_2 := bF BK216.out 2; have hfz35_3 := bF BK216.out 3; have hfz35_4 := bF BK216.out 4; have hcz36_0 : w33.cell? ⟨gb217, 0, none⟩ = some (.slice A1_0 l1_0.length c1_0) := (bC BK217.out 0).trans rfl; have hcz36_1 : w33.cell? ⟨gb217, 1, none⟩ = some (.slice A1_1 l1_1.length c1_1) := (bC BK217.out 1).trans rfl; have hcz36_2 : w33.cell? ⟨gb217, 2, none⟩ = some (.slice A1_2 l1_2.length c1_2) := (bC BK217.out 2).trans rfl; have hcz36_3 : w33.cell? ⟨gb217, 3, none⟩ = some (.slice A1_3 l1_3.length c1_3) := (bC BK217.out 3).trans rfl; have hcz36_4 : w33.cell? ⟨gb217, 4, none⟩ = some (.slice A1_4 l1_4.length c1_4) := (bC BK217.out 4).trans rfl; have hfz36_0 := bF BK217.out 0; have hfz36_1 := bF BK217.out 1; have hfz36_2 := bF BK217.out 2; have hfz36_3 := bF BK217.out 3; have hfz36_4 := bF BK217.out 4) | ((with_reducible refine gate_callee (f := 70) rfl ?_); refine goesL_ (some 9) rfl rfl Try.func70 (by kernel_rfl) rfl #[.slice A0_0 l0_0.length c0_0, .slice A1_0 l1_0.length c1_0] rfl (by (try simp only [List.map_toArray, List.map_cons, List.map_nil]); first | done | rfl | (simp only [List.length_drop, List.length_take]; rfl)) ?_; (with_reducible refine (spec_sameNums.calls k _ _ l0_0 _ _ l1_0 false _ ?side1 ?side2 ?side3 ?side4 A3.out).mono ?_); (case side1 => repeat (first | exact (Kd.C_below HR0_0.out HB.out) | (with_reducible refine Kd.C_alloc ?_ _) | (with_reducible refine Kd.C_drewN ?_ _) | (with_reducible refine Kd.C_drew ?_))); (case side2 => exact HC0_0.out); (case side3 => repeat (first | exact (Kd.C_below HR1_0.out HB.out) | (with_reducible refine Kd.C_alloc ?_ _) | (with_reducible refine Kd.C_drewN ?_ _) | (with_reducible refine Kd.C_drew ?_))); (case side4 => exact HC1_0.out); rintro e w' ⟨rfl, ⟨nd, rfl⟩⟩; refine ⟨_, rfl, ?_⟩))
  go_ret
  exact ⟨by first | rfl | (simp [errW_none, errW_some] <;> rfl) | (simp [*, errW_none, errW_some] <;> rfl), by repeat (first | (with_reducible first | exact HB.out | apply bal | apply bdN | apply bdr | refine bS ?_ GE216.out | refine bS ?_ GE217.out) | exact HB.out)⟩
def spec_inRange.f (a0 : Int) (a1 : Int) (a2 : Int) : Option (Bool) := if a0 ≥ a1 then (some (decide (a0 ≤ a2))) else (some false)
theorem spec_inRange.calls (a0 : Int) (a1 : Int) (a2 : Int) (r : Bool) (w : World) (h : spec_inRange.f a0 a1 a2 = some r) :
  Calls Try.prog 54 #[.int .i64 a0, .int .i64 a1, .int .i64 a2] w fun e w' => e = .returned (.bool r) ∧ Drawn0 w w' := by
 have H : (if a0 ≥ a1 then (some (decide (a0 ≤ a2))) else (some false)) = some r := h
 clear h
 by_cases c4 : a0 ≥ a1
 ·rw [if_pos c4] at H
  have c4b0 : decide (a1 ≤ a0) = true := decide_eq_true c4
  clear c4
  obtain rfl := Option.some.inj H
  go_enter Try.func54, Try.ntmps54
  go_wp2
  go_ret
  exact ⟨by first | rfl | (simp; done) | (simp [*]; done), by repeat (first | exact Drawn0.refl _ | apply Drawn0.step)⟩
 ·rw [if_neg c4] at H
  have c4b0 : decide (a1 ≤ a0) = false := decide_eq_false c4
  clear c4
  obtain rfl := Option.some.inj H
  go_enter Try.func54, Try.ntmps54
  go_wp2
  go_ret
  exact ⟨by first | rfl | (simp; done) | (simp [*]; done), by repeat (first | exact Drawn0.refl _ | apply Drawn0.step)⟩
def spec_letter.f (a0 : Int) : Option (Bool) := if a0 ≥ 97 then (if a0 ≤ 122 then (some true) else (if a0 ≥ 65 then (if a0 ≤ 90 then (some true) else (some (a0 == 95))) else (some (a0 == 95)))) else (if a0 ≥ 65 then (if a0 ≤ 90 then (some true) else (some (a0 == 95))) else (some (a0 == 95)))
theorem spec_letter.calls (a0 : Int) (r : Bool) (w : World) (h : spec_letter.f a0 = some r) :
  Calls Try.prog 124 #[.int .u8 a0] w fun e w' => e = .returned (.bool r) ∧ Drawn0 w w' := by
 have H : (if a0 ≥ 97 then (if a0 ≤ 122 then (some true) else (if a0 ≥ 65 then (if a0 ≤ 90 then (some true) else (some (a0 == 95))) else (some (a0 == 95)))) else (if a0 ≥ 65 then (if a0 ≤ 90 then (some true) else (some (a0 == 95))) else (some (a0 == 95)))) = some r := h
 clear h
 by_cases c2 : a0 ≥ 97
 ·rw [if_pos c2] at H
  have c2b0 : decide (97 ≤ a0) = true := decide_eq_true c2
  clear c2
  by_cases c3 : a0 ≤ 122
  ·rw [if_pos c3] at H
   have c3b0 : decide (a0 ≤ 122) = true := decide_eq_true c3
   clear c3
   obtain rfl := Option.some.inj H
   go_enter Try.func124, Try.ntmps124
   go_wp2
   go_ret
   exact ⟨by first | rfl | (simp; done) | (simp [*]; done), by repeat (first | exact Drawn0.refl _ | apply Drawn0.step)⟩
  ·rw [if_neg c3] at H
   have c3b0 : decide (a0 ≤ 122) = false := decide_eq_false c3
   clear c3
   by_cases c4 : a0 ≥ 65
   ·rw [if_pos c4] at H
    have c4b0 : decide (65 ≤ a0) = true := decide_eq_true c4
    clear c4
    by_cases c5 : a0 ≤ 90
    ·rw [if_pos c5] at H
     have c5b0 : decide (a0 ≤ 90) = true := decide_eq_true c5
     clear c5
     obtain rfl := Option.some.inj H
     go_enter Try.func124, Try.ntmps124
     go_wp2
     go_ret
     exact ⟨by first | rfl | (simp; done) | (simp [*]; done), by repeat (first | exact Drawn0.refl _ | apply Drawn0.step)⟩
    ·rw [if_neg c5] at H
     have c5b0 : decide (a0 ≤ 90) = false := decide_eq_false c5
     clear c5
     obtain rfl := Option.some.inj H
     go_enter Try.func124, Try.ntmps124
     go_wp2
     go_ret
     exact ⟨by first | rfl | (simp; done) | (simp [*]; done), by repeat (first | exact Drawn0.refl _ | apply Drawn0.step)⟩
   ·rw [if_neg c4] at H
    have c4b0 : decide (65 ≤ a0) = false := decide_eq_false c4
    clear c4
    obtain rfl := Option.some.inj H
    go_enter Try.func124, Try.ntmps124
    go_wp2
    go_ret
    exact ⟨by first | rfl | (simp; done) | (simp [*]; done), by repeat (first | exact Drawn0.refl _ | apply Drawn0.step)⟩
 ·rw [if_neg c2] at H
  have c2b0 : decide (97 ≤ a0) = false := decide_eq_false c2
  clear c2
  by_cases c6 : a0 ≥ 65
  ·rw [if_pos c6] at H
   have c6b0 : decide (65 ≤ a0) = true := decide_eq_true c6
   clear c6
   by_cases c7 : a0 ≤ 90
   ·rw [if_pos c7] at H
    have c7b0 : decide (a0 ≤ 90) = true := decide_eq_true c7
    clear c7
    obtain rfl := Option.some.inj H
    go_enter Try.func124, Try.ntmps124
    go_wp2
    go_ret
    exact ⟨by first | rfl | (simp; done) | (simp [*]; done), by repeat (first | exact Drawn0.refl _ | apply Drawn0.step)⟩
   ·rw [if_neg c7] at H
    have c7b0 : decide (a0 ≤ 90) = false := decide_eq_false c7
    clear c7
    obtain rfl := Option.some.inj H
    go_enter Try.func124, Try.ntmps124
    go_wp2
    go_ret
    exact ⟨by first | rfl | (simp; done) | (simp [*]; done), by repeat (first | exact Drawn0.refl _ | apply Drawn0.step)⟩
  ·rw [if_neg c6] at H
   have c6b0 : decide (65 ≤ a0) = false := decide_eq_false c6
   clear c6
   obtain rfl := Option.some.inj H
   go_enter Try.func124, Try.ntmps124
   go_wp2
   go_ret
   exact ⟨by first | rfl | (simp; done) | (simp [*]; done), by repeat (first | exact Drawn0.refl _ | apply Drawn0.step)⟩
def spec_digit.f (a0 : Int) : Option (Bool) := if a0 ≥ 48 then (some (decide (a0 ≤ 57))) else (some false)
theorem spec_digit.calls (a0 : Int) (r : Bool) (w : World) (h : spec_digit.f a0 = some r) :
  Calls Try.prog 125 #[.int .u8 a0] w fun e w' => e = .returned (.bool r) ∧ Drawn0 w w' := by
 have H : (if a0 ≥ 48 then (some (decide (a0 ≤ 57))) else (some false)) = some r := h
 clear h
 by_cases c2 : a0 ≥ 48
 ·rw [if_pos c2] at H
  have c2b0 : decide (48 ≤ a0) = true := decide_eq_true c2
  clear c2
  obtain rfl := Option.some.inj H
  go_enter Try.func125, Try.ntmps125
  go_wp2
  go_ret
  exact ⟨by first | rfl | (simp; done) | (simp [*]; done), by repeat (first | exact Drawn0.refl _ | apply Drawn0.step)⟩
 ·rw [if_neg c2] at H
  have c2b0 : decide (48 ≤ a0) = false := decide_eq_false c2
  clear c2
  obtain rfl := Option.some.inj H
  go_enter Try.func125, Try.ntmps125
  go_wp2
  go_ret
  exact ⟨by first | rfl | (simp; done) | (simp [*]; done), by repeat (first | exact Drawn0.refl _ | apply Drawn0.step)⟩
end Go.Proofs.Ytehhhlhedmfdiaa.PFnImportRun
end
section
namespace Go.Proofs.Ytehhhlhedmfdiaa.PFnImportRun
open Go.RowKit Go.Proofs.Yz0.PrintWords Go.Proofs.Yz0.PrintLast Go.Proofs.Yz0.PrintMore
attribute [local go_sem] max2_int min2_int max_two min_two max_three min_three max_four min_four
set_option linter.unusedVariables false
set_option linter.unusedSimpArgs false
def spec_isOne.l0 : Nat → List ByteArray → ByteArray → Int → Option (Bool)
 | 0, _, _, _ => none
 | k + 1, x0, x1, x5 => if x5 < (x0.length : Int) then (if 0 ≤ x5 then (if (rdOf ByteArray.empty x0 x5).toList = x1.toList then (some true) else (spec_isOne.l0 k x0 x1 (wrap64 (x5 + 1)))) else (none)) else (some false)
def spec_isOne.f (k : Nat) (l0 : List ByteArray) (a1 : ByteArray) : Option (Bool) := spec_isOne.l0 k l0 a1 0
theorem spec_isOne.calls (k : Nat) (A0 : Option Addr) (c0 : Nat) (l0 : List ByteArray) (a1 : ByteArray) (r : Bool) (w : World) (hr0 : Kd.C Kd.string w A0 l0.length l0) (hc0 : l0.length ≤ c0) (h : spec_isOne.f k l0 a1 = some r) :
  Calls Try.prog 139 #[.slice A0 l0.length c0, .string a1] w fun e w' => e = .returned (.bool r) ∧ Drawn0 w w' := by
 have HR0 := Az.mk hr0
 have HC0 := Az.mk hc0
 clear hr0 hc0
 have H : (spec_isOne.l0 k l0 a1 0) = some r := h
 clear h
 have H' := Az.mk H
 clear H
 go_enter Try.func139, Try.ntmps139
 go_wp2
 go_loopg [5] k (fun kq v5 w' => ∃ (x5_1 : Int), v5 = .int .i64 x5_1 ∧ Az (spec_isOne.l0 kq l0 a1 x5_1 = some r) ∧ Az (kq ≤ k) ∧ Drawn0 w w')
 case atStart => exact ⟨(0), (by first | rfl | (simp; done) | (simp [*]; done)), H', ⟨Nat.le_refl _⟩, by repeat (first | exact Drawn0.refl _ | apply Drawn0.step)⟩
 case round =>
  clear H'
  try clear c1
  try clear p2
  obtain ⟨x5_1, rfl, HA, HK1, ⟨m1, rfl⟩⟩ := hrel
  cases gk with
  | zero => exact absurd HA.out (by simp [spec_isOne.l0])
  | succ k1 =>
   have H := HA.out
   clear HA
   simp only [spec_isOne.l0] at H
   by_cases c3 : x5_1 < (l0.length : Int)
   ·rw [if_pos c3] at H
    have c3b0 : decide (x5_1 < (l0.length : Int)) = true := decide_eq_true c3
    clear c3
    by_cases c4 : 0 ≤ x5_1
    ·rw [if_pos c4] at H
     have c4b0 : decide (0 ≤ x5_1) = true := decide_eq_true c4
     clear c4
     by_cases c5 : (rdOf ByteArray.empty l0 x5_1).toList = a1.toList
     ·rw [if_pos c5] at H
      have c5b0 : ((rdOf ByteArray.empty l0 x5_1).toList == a1.toList) = true := beq_iff_eq.mpr c5
      have c5b1 : ((rdOf ByteArray.empty l0 x5_1).toList != a1.toList) = false := bne_eq_false_iff_eq.mpr c5
      clear c5
      obtain rfl := Option.some.inj H
      have p223 : 0 ≤ (x5_1 : Int) := of_decide_eq_true (by first | (with_reducible assumption) | assumption)
      have q223 : x5_1 < (l0.length : Int) := of_decide_eq_true (by first | (with_reducible assumption) | assumption)
      obtain ⟨ad223, e223, hx223_0⟩ := Kd.at_string HR0.out x5_1 p223 q223
      cases e223
      replace p223 := eq_true p223
      replace q223 := eq_true q223
      go_wp2
      go_ret
      exact ⟨by first | rfl | (simp; done) | (simp [*]; done), by repeat (first | exact Drawn0.refl _ | apply Drawn0.step)⟩
     ·rw [if_neg c5] at H
      have c5b0 : ((rdOf ByteArray.empty l0 x5_1).toList == a1.toList) = false := beq_eq_false_iff_ne.mpr c5
      have c5b1 : ((rdOf ByteArray.empty l0 x5_1).toList != a1.toList) = true := bne_iff_ne.mpr c5
      have H' := Az.mk H
      clear H
      have p223 : 0 ≤ (x5_1 : Int) := of_decide_eq_true (by first | (with_reducible assumption) | assumption)
      have q223 : x5_1 < (l0.length : Int) := of_decide_eq_true (by first | (with_reducible assumption) | assumption)
      obtain ⟨ad223, e223, hx223_0⟩ := Kd.at_string HR0.out x5_1 p223 q223
      cases e223
      replace p223 := eq_true p223
      replace q223 := eq_true q223
      go_wp2
      go_roundg k1
      case measure => have := HK1.out; omega
      case rel => exact ⟨(wrap64 (x5_1 + 1)), (by first | rfl | (simp; done) | (simp [*]; done)), H', ⟨by have := HK1.out; omega⟩, by repeat (first | exact Drawn0.refl _ | apply Drawn0.step)⟩
    ·rw [if_neg c4] at H
     exact absurd H (by simp)
   ·rw [if_neg c3] at H
    have c3b0 : decide (x5_1 < (l0.length : Int)) = false := decide_eq_false c3
    clear c3
    obtain rfl := Option.some.inj H
    go_wp2
    go_ret
    exact ⟨by first | rfl | (simp; done) | (simp [*]; done), by repeat (first | exact Drawn0.refl _ | apply Drawn0.step)⟩
def spec_keywords.f  : Option (List ByteArray) := some (([(⟨#[78, 111, 110, 101]⟩ : ByteArray), (⟨#[84, 114, 117, 101]⟩ : ByteArray), (⟨#[70, 97, 108, 115, 101]⟩ : ByteArray), (⟨#[97, 110, 100]⟩ : ByteArray), (⟨#[111, 114]⟩ : ByteArray), (⟨#[110, 111, 116]⟩ : ByteArray), (⟨#[105, 110]⟩ : ByteArray), (⟨#[105, 115]⟩ : ByteArray), (⟨#[105, 102]⟩ : ByteArray), (⟨#[101, 108, 105, 102]⟩ : ByteArray), (⟨#[101, 108, 115, 101]⟩ : ByteArray), (⟨#[119, 104, 105, 108, 101]⟩ : ByteArray), (⟨#[102, 111, 114]⟩ : ByteArray), (⟨#[98, 114, 101, 97, 107]⟩ : ByteArray), (⟨#[99, 111, 110, 116, 105, 110, 117, 101]⟩ : ByteArray), (⟨#[112, 97, 115, 115]⟩ : ByteArray), (⟨#[100, 101, 102]⟩ : ByteArray), (⟨#[114, 101, 116, 117, 114, 110]⟩ : ByteArray), (⟨#[108, 97, 109, 98, 100, 97]⟩ : ByteArray), (⟨#[99, 108, 97, 115, 115]⟩ : ByteArray), (⟨#[116, 114, 121]⟩ : ByteArray), (⟨#[101, 120, 99, 101, 112, 116]⟩ : ByteArray), (⟨#[102, 105, 110, 97, 108, 108, 121]⟩ : ByteArray), (⟨#[114, 97, 105, 115, 101]⟩ : ByteArray), (⟨#[97, 115]⟩ : ByteArray), (⟨#[103, 108, 111, 98, 97, 108]⟩ : ByteArray), (⟨#[110, 111, 110, 108, 111, 99, 97, 108]⟩ : ByteArray), (⟨#[121, 105, 101, 108, 100]⟩ : ByteArray), (⟨#[105, 109, 112, 111, 114, 116]⟩ : ByteArray), (⟨#[100, 101, 108]⟩ : ByteArray), (⟨#[97, 115, 115, 101, 114, 116]⟩ : ByteArray)] : List ByteArray))
theorem spec_keywords.calls  (r : List ByteArray) (w : World) (h : spec_keywords.f  = some r) :
  Calls Try.prog 140 #[] w fun e w' => ∃ v0_ : Value, e = .returned (v0_) ∧ Kd.R Kd.string 9 w' w.heap.size (fun _ => True) v0_ r ∧ Below w.heap.size w w' := by
 have HB := Az.mk (Below.refl w.heap.size w)
 have H : (some (([(⟨#[78, 111, 110, 101]⟩ : ByteArray), (⟨#[84, 114, 117, 101]⟩ : ByteArray), (⟨#[70, 97, 108, 115, 101]⟩ : ByteArray), (⟨#[97, 110, 100]⟩ : ByteArray), (⟨#[111, 114]⟩ : ByteArray), (⟨#[110, 111, 116]⟩ : ByteArray), (⟨#[105, 110]⟩ : ByteArray), (⟨#[105, 115]⟩ : ByteArray), (⟨#[105, 102]⟩ : ByteArray), (⟨#[101, 108, 105, 102]⟩ : ByteArray), (⟨#[101, 108, 115, 101]⟩ : ByteArray), (⟨#[119, 104, 105, 108, 101]⟩ : ByteArray), (⟨#[102, 111, 114]⟩ : ByteArray), (⟨#[98, 114, 101, 97, 107]⟩ : ByteArray), (⟨#[99, 111, 110, 116, 105, 110, 117, 101]⟩ : ByteArray), (⟨#[112, 97, 115, 115]⟩ : ByteArray), (⟨#[100, 101, 102]⟩ : ByteArray), (⟨#[114, 101, 116, 117, 114, 110]⟩ : ByteArray), (⟨#[108, 97, 109, 98, 100, 97]⟩ : ByteArray), (⟨#[99, 108, 97, 115, 115]⟩ : ByteArray), (⟨#[116, 114, 121]⟩ : ByteArray), (⟨#[101, 120, 99, 101, 112, 116]⟩ : ByteArray), (⟨#[102, 105, 110, 97, 108, 108, 121]⟩ : ByteArray), (⟨#[114, 97, 105, 115, 101]⟩ : ByteArray), (⟨#[97, 115]⟩ : ByteArray), (⟨#[103, 108, 111, 98, 97, 108]⟩ : ByteArray), (⟨#[110, 111, 110, 108, 111, 99, 97, 108]⟩ : ByteArray), (⟨#[121, 105, 101, 108, 100]⟩ : ByteArray), (⟨#[105, 109, 112, 111, 114, 116]⟩ : ByteArray), (⟨#[100, 101, 108]⟩ : ByteArray), (⟨#[97, 115, 115, 101, 114, 116]⟩ : ByteArray)] : List ByteArray))) = some r := h
 clear h
 obtain ⟨y224, hy224⟩ : ∃ y_ : List ByteArray, y_ = (([(⟨#[78, 111, 110, 101]⟩ : ByteArray), (⟨#[84, 114, 117, 101]⟩ : ByteArray), (⟨#[70, 97, 108, 115, 101]⟩ : ByteArray), (⟨#[97, 110, 100]⟩ : ByteArray), (⟨#[111, 114]⟩ : ByteArray), (⟨#[110, 111, 116]⟩ : ByteArray), (⟨#[105, 110]⟩ : ByteArray), (⟨#[105, 115]⟩ : ByteArray), (⟨#[105, 102]⟩ : ByteArray), (⟨#[101, 108, 105, 102]⟩ : ByteArray), (⟨#[101, 108, 115, 101]⟩ : ByteArray), (⟨#[119, 104, 105, 108, 101]⟩ : ByteArray), (⟨#[102, 111, 114]⟩ : ByteArray), (⟨#[98, 114, 101, 97, 107]⟩ : ByteArray), (⟨#[99, 111, 110, 116, 105, 110, 117, 101]⟩ : ByteArray), (⟨#[112, 97, 115, 115]⟩ : ByteArray), (⟨#[100, 101, 102]⟩ : ByteArray), (⟨#[114, 101, 116, 117, 114, 110]⟩ : ByteArray), (⟨#[108, 97, 109, 98, 100, 97]⟩ : ByteArray), (⟨#[99, 108, 97, 115, 115]⟩ : ByteArray), (⟨#[116, 114, 121]⟩ : ByteArray), (⟨#[101, 120, 99, 101, 112, 116]⟩ : ByteArray), (⟨#[102, 105, 110, 97, 108, 108, 121]⟩ : ByteArray), (⟨#[114, 97, 105, 115, 101]⟩ : ByteArray), (⟨#[97, 115]⟩ : ByteArray), (⟨#[103, 108, 111, 98, 97, 108]⟩ : ByteArray), (⟨#[110, 111, 110, 108, 111, 99, 97, 108]⟩ : ByteArray), (⟨#[121, 105, 101, 108, 100]⟩ : ByteArray), (⟨#[105, 109, 112, 111, 114, 116]⟩ : ByteArray), (⟨#[100, 101, 108]⟩ : ByteArray), (⟨#[97, 115, 115, 101, 114, 116]⟩ : ByteArray)] : List ByteArray)) := ⟨_, rfl⟩
 replace H : (some y224) = some r := by first | (rw [hy224]; with_reducible exact H) | (have H2_ := (Option.bind_some _ _).symm.trans H; rw [hy224]; with_reducible exact H2_) | (have H2_ := (Option.bind_some _ _).symm.trans H; with_reducible exact H2_) | with_reducible exact H | (rw [hy224]; exact H) | exact H
 have Ny224 := Az.mk hy224
 clear hy224
 obtain rfl := Option.some.inj H
 go_enter Try.func140, Try.ntmps140
 go_wp2_with (first | ((with_reducible refine gate_dst (N := 1) rfl ?_); refine Kd.R_lit Kd.string _ 9 ?hg (N := 1) ?hd (xs := ([(⟨#[78, 111, 110, 101]⟩ : ByteArray), (⟨#[84, 114, 117, 101]⟩ : ByteArray), (⟨#[70, 97, 108, 115, 101]⟩ : ByteArray), (⟨#[97, 110, 100]⟩ : ByteArray), (⟨#[111, 114]⟩ : ByteArray), (⟨#[110, 111, 116]⟩ : ByteArray), (⟨#[105, 110]⟩ : ByteArray), (⟨#[105, 115]⟩ : ByteArray), (⟨#[105, 102]⟩ : ByteArray), (⟨#[101, 108, 105, 102]⟩ : ByteArray), (⟨#[101, 108, 115, 101]⟩ : ByteArray), (⟨#[119, 104, 105, 108, 101]⟩ : ByteArray), (⟨#[102, 111, 114]⟩ : ByteArray), (⟨#[98, 114, 101, 97, 107]⟩ : ByteArray), (⟨#[99, 111, 110, 116, 105, 110, 117, 101]⟩ : ByteArray), (⟨#[112, 97, 115, 115]⟩ : ByteArray), (⟨#[100, 101, 102]⟩ : ByteArray), (⟨#[114, 101, 116, 117, 114, 110]⟩ : ByteArray), (⟨#[108, 97, 109, 98, 100, 97]⟩ : ByteArray), (⟨#[99, 108, 97, 115, 115]⟩ : ByteArray), (⟨#[116, 114, 121]⟩ : ByteArray), (⟨#[101, 120, 99, 101, 112, 116]⟩ : ByteArray), (⟨#[102, 105, 110, 97, 108, 108, 121]⟩ : ByteArray), (⟨#[114, 97, 105, 115, 101]⟩ : ByteArray), (⟨#[97, 115]⟩ : ByteArray), (⟨#[103, 108, 111, 98, 97, 108]⟩ : ByteArray), (⟨#[110, 111, 110, 108, 111, 99, 97, 108]⟩ : ByteArray), (⟨#[121, 105, 101, 108, 100]⟩ : ByteArray), (⟨#[105, 109, 112, 111, 114, 116]⟩ : ByteArray), (⟨#[100, 101, 108]⟩ : ByteArray), (⟨#[97, 115, 115, 101, 114, 116]⟩ : ByteArray)] : List ByteArray)) (inner := [.string (⟨#[78, 111, 110, 101]⟩ : ByteArray), .string (⟨#[84, 114, 117, 101]⟩ : ByteArray), .string (⟨#[70, 97, 108, 115, 101]⟩ : ByteArray), .string (⟨#[97, 110, 100]⟩ : ByteArray), .string (⟨#[111, 114]⟩ : ByteArray), .string (⟨#[110, 111, 116]⟩ : ByteArray), .string (⟨#[105, 110]⟩ : ByteArray), .string (⟨#[105, 115]⟩ : ByteArray), .string (⟨#[105, 102]⟩ : ByteArray), .string (⟨#[101, 108, 105, 102]⟩ : ByteArray), .string (⟨#[101, 108, 115, 101]⟩ : ByteArray), .string (⟨#[119, 104, 105, 108, 101]⟩ : ByteArray), .string (⟨#[102, 111, 114]⟩ : ByteArray), .string (⟨#[98, 114, 101, 97, 107]⟩ : ByteArray), .string (⟨#[99, 111, 110, 116, 105, 110, 117, 101]⟩ : ByteArray), .string (⟨#[112, 97, 115, 115]⟩ : ByteArray), .string (⟨#[100, 101, 102]⟩ : ByteArray), .string (⟨#[114, 101, 116, 117, 114, 110]⟩ : ByteArray), .string (⟨#[108, 97, 109, 98, 100, 97]⟩ : ByteArray), .string (⟨#[99, 108, 97, 115, 115]⟩ : ByteArray), .string (⟨#[116, 114, 121]⟩ : ByteArray), .string (⟨#[101, 120, 99, 101, 112, 116]⟩ : ByteArray), .string (⟨#[102, 105, 110, 97, 108, 108, 121]⟩ : ByteArray), .string (⟨#[114, 97, 105, 115, 101]⟩ : ByteArray), .string (⟨#[97, 115]⟩ : ByteArray), .string (⟨#[103, 108, 111, 98, 97, 108]⟩ : ByteArray), .string (⟨#[110, 111, 110, 108, 111, 99, 97, 108]⟩ : ByteArray), .string (⟨#[121, 105, 101, 108, 100]⟩ : ByteArray), .string (⟨#[105, 109, 112, 111, 114, 116]⟩ : ByteArray), .string (⟨#[100, 101, 108]⟩ : ByteArray), .string (⟨#[97, 115, 115, 101, 114, 116]⟩ : ByteArray)]) (ok := fun _ => True) (okp := fun _ => True) ?hr ?hp (fun _ hk => hk) trivial (Below.refl _ _) (Nat.le_refl _) (by simp) ?_; (case hd => rfl); (case hg => rfl); (case hr => first | (go_simp; done) | (go_simp; rfl)); (case hp => exact (Reps.one (show Kd.M Kd.string _ _ _ (⟨#[78, 111, 110, 101]⟩ : ByteArray) [.string (⟨#[78, 111, 110, 101]⟩ : ByteArray)] from rfl) (Reps.one (show Kd.M Kd.string _ _ _ (⟨#[84, 114, 117, 101]⟩ : ByteArray) [.string (⟨#[84, 114, 117, 101]⟩ : ByteArray)] from rfl) (Reps.one (show Kd.M Kd.string _ _ _ (⟨#[70, 97, 108, 115, 101]⟩ : ByteArray) [.string (⟨#[70, 97, 108, 115, 101]⟩ : ByteArray)] from rfl) (Reps.one (show Kd.M Kd.string _ _ _ (⟨#[97, 110, 100]⟩ : ByteArray) [.string (⟨#[97, 110, 100]⟩ : ByteArray)] from rfl) (Reps.one (show Kd.M Kd.string _ _ _ (⟨#[111, 114]⟩ : ByteArray) [.string (⟨#[111, 114]⟩ : ByteArray)] from rfl) (Reps.one (show Kd.M Kd.string _ _ _ (⟨#[110, 111, 116]⟩ : ByteArray) [.string (⟨#[110, 111, 116]⟩ : ByteArray)] from rfl) (Reps.one (show Kd.M Kd.string _ _ _ (⟨#[105, 110]⟩ : ByteArray) [.string (⟨#[105, 110]⟩ : ByteArray)] from rfl) (Reps.one (show Kd.M Kd.string _ _ _ (⟨#[105, 115]⟩ : ByteArray) [.string (⟨#[105, 115]⟩ : ByteArray)] from rfl) (Reps.one (show Kd.M Kd.string _ _ _ (⟨#[105, 102]⟩ : ByteArray) [.string (⟨#[105, 102]⟩ : ByteArray)] from rfl) (Reps.one (show Kd.M Kd.string _ _ _ (⟨#[101, 108, 105, 102]⟩ : ByteArray) [.string (⟨#[101, 108, 105, 102]⟩ : ByteArray)] from rfl) (Reps.one (show Kd.M Kd.string _ _ _ (⟨#[101, 108, 115, 101]⟩ : ByteArray) [.string (⟨#[101, 108, 115, 101]⟩ : ByteArray)] from rfl) (Reps.one (show Kd.M Kd.string _ _ _ (⟨#[119, 104, 105, 108, 101]⟩ : ByteArray) [.string (⟨#[119, 104, 105, 108, 101]⟩ : ByteArray)] from rfl) (Reps.one (show Kd.M Kd.string _ _ _ (⟨#[102, 111, 114]⟩ : ByteArray) [.string (⟨#[102, 111, 114]⟩ : ByteArray)] from rfl) (Reps.one (show Kd.M Kd.string _ _ _ (⟨#[98, 114, 101, 97, 107]⟩ : ByteArray) [.string (⟨#[98, 114, 101, 97, 107]⟩ : ByteArray)] from rfl) (Reps.one (show Kd.M Kd.string _ _ _ (⟨#[99, 111, 110, 116, 105, 110, 117, 101]⟩ : ByteArray) [.string (⟨#[99, 111, 110, 116, 105, 110, 117, 101]⟩ : ByteArray)] from rfl) (Reps.one (show Kd.M Kd.string _ _ _ (⟨#[112, 97, 115, 115]⟩ : ByteArray) [.string (⟨#[112, 97, 115, 115]⟩ : ByteArray)] from rfl) (Reps.one (show Kd.M Kd.string _ _ _ (⟨#[100, 101, 102]⟩ : ByteArray) [.string (⟨#[100, 101, 102]⟩ : ByteArray)] from rfl) (Reps.one (show Kd.M Kd.string _ _ _ (⟨#[114, 101, 116, 117, 114, 110]⟩ : ByteArray) [.string (⟨#[114, 101, 116, 117, 114, 110]⟩ : ByteArray)] from rfl) (Reps.one (show Kd.M Kd.string _ _ _ (⟨#[108, 97, 109, 98, 100, 97]⟩ : ByteArray) [.string (⟨#[108, 97, 109, 98, 100, 97]⟩ : ByteArray)] from rfl) (Reps.one (show Kd.M Kd.string _ _ _ (⟨#[99, 108, 97, 115, 115]⟩ : ByteArray) [.string (⟨#[99, 108, 97, 115, 115]⟩ : ByteArray)] from rfl) (Reps.one (show Kd.M Kd.string _ _ _ (⟨#[116, 114, 121]⟩ : ByteArray) [.string (⟨#[116, 114, 121]⟩ : ByteArray)] from rfl) (Reps.one (show Kd.M Kd.string _ _ _ (⟨#[101, 120, 99, 101, 112, 116]⟩ : ByteArray) [.string (⟨#[101, 120, 99, 101, 112, 116]⟩ : ByteArray)] from rfl) (Reps.one (show Kd.M Kd.string _ _ _ (⟨#[102, 105, 110, 97, 108, 108, 121]⟩ : ByteArray) [.string (⟨#[102, 105, 110, 97, 108, 108, 121]⟩ : ByteArray)] from rfl) (Reps.one (show Kd.M Kd.string _ _ _ (⟨#[114, 97, 105, 115, 101]⟩ : ByteArray) [.string (⟨#[114, 97, 105, 115, 101]⟩ : ByteArray)] from rfl) (Reps.one (show Kd.M Kd.string _ _ _ (⟨#[97, 115]⟩ : ByteArray) [.string (⟨#[97, 115]⟩ : ByteArray)] from rfl) (Reps.one (show Kd.M Kd.string _ _ _ (⟨#[103, 108, 111, 98, 97, 108]⟩ : ByteArray) [.string (⟨#[103, 108, 111, 98, 97, 108]⟩ : ByteArray)] from rfl) (Reps.one (show Kd.M Kd.string _ _ _ (⟨#[110, 111, 110, 108, 111, 99, 97, 108]⟩ : ByteArray) [.string (⟨#[110, 111, 110, 108, 111, 99, 97, 108]⟩ : ByteArray)] from rfl) (Reps.one (show Kd.M Kd.string _ _ _ (⟨#[121, 105, 101, 108, 100]⟩ : ByteArray) [.string (⟨#[121, 105, 101, 108, 100]⟩ : ByteArray)] from rfl) (Reps.one (show Kd.M Kd.string _ _ _ (⟨#[105, 109, 112, 111, 114, 116]⟩ : ByteArray) [.string (⟨#[105, 109, 112, 111, 114, 116]⟩ : ByteArray)] from rfl) (Reps.one (show Kd.M Kd.string _ _ _ (⟨#[100, 101, 108]⟩ : ByteArray) [.string (⟨#[100, 101, 108]⟩ : ByteArray)] from rfl) (Reps.one (show Kd.M Kd.string _ _ _ (⟨#[97, 115, 115, 101, 114, 116]⟩ : ByteArray) [.string (⟨#[97, 115, 115, 101, 114, 116]⟩ : ByteArray)] from rfl) (Reps.none _ _))))))))))))))))))))))))))))))))); intro v225 w1 ho2 hb hg_ hnew_; clear hg_ hnew_; (first | rw [← Ny224.out] at ho2 | (simp only [Int.reduceToNat] at ho2; rw [← Ny224.out] at ho2)); have n0_ := Az.mk (Kd.R_lower ho2 (below_size (by repeat (first | (with_reducible first | exact HB.out | apply bal | apply bdN | apply bdr) | exact HB.out)))); have n1_ := Az.mk (below_step (by repeat (first | (with_reducible first | exact HB.out | apply bal | apply bdN | apply bdr) | exact HB.out)) hb); clear HB; have HO226 := n0_; have HB := n1_; clear n0_ n1_; clear hb ho2))
 go_ret
 exact ⟨_, by first | rfl | (simp [errW_none, errW_some] <;> rfl) | (simp [*, errW_none, errW_some] <;> rfl), by (with_reducible repeat (first | apply Kd.R_alloc | apply Kd.R_drewN | apply Kd.R_drew)); exact HO226.out, by repeat (first | (with_reducible first | exact HB.out | apply bal | apply bdN | apply bdr) | exact HB.out)⟩
def spec_isKeyword.f (k : Nat) (a0 : ByteArray) : Option (Bool) := (spec_keywords.f).bind fun t227 => ((spec_isOne.f k t227 a0).bind fun t230 => (some t230))
theorem spec_isKeyword.calls (k : Nat) (a0 : ByteArray) (r : Bool) (w : World) (h : spec_isKeyword.f k a0 = some r) :
  Calls Try.prog 126 #[.string a0] w fun e w' => e = .returned (.bool r) ∧ Below w.heap.size w w' := by
 have HB := Az.mk (Below.refl w.heap.size w)
 have H : ((spec_keywords.f).bind fun t227 => ((spec_isOne.f k t227 a0).bind fun t230 => (some t230))) = some r := h
 clear h
 replace H := Option.bind_eq_some_iff.mp H
 obtain ⟨t227, A20, H⟩ := H
 replace H : ((spec_isOne.f k t227 a0).bind fun t230 => (some t230)) = some r := H
 have A2 := Az.mk A20
 clear A20
 replace H := Option.bind_eq_some_iff.mp H
 obtain ⟨t230, A30, H⟩ := H
 replace H : (some t230) = some r := H
 have A3 := Az.mk A30
 clear A30
 obtain rfl := Option.some.inj H
 go_enter Try.func126, Try.ntmps126
 go_wp2_with (first | ((with_reducible refine gate_callee (f := 140) rfl ?_); refine goesL_ (some 3) rfl rfl Try.func140 (by kernel_rfl) rfl #[] rfl (by (try simp only [List.map_toArray, List.map_cons, List.map_nil]); first | done | rfl | (simp only [List.length_drop, List.length_take]; rfl)) ?_; (with_reducible refine (spec_keywords.calls  t227 _ A2.out).mono ?_); rintro e w4 ⟨v228, rfl, ho0, hb⟩; refine ⟨_, rfl, ?_⟩; have n0_ := Az.mk (Kd.R_lower ho0 (below_size (by repeat (first | (with_reducible first | exact HB.out | apply bal | apply bdN | apply bdr) | exact HB.out)))); have n1_ := Az.mk (below_step (by repeat (first | (with_reducible first | exact HB.out | apply bal | apply bdN | apply bdr) | exact HB.out)) hb); clear HB; have HO229 := n0_; have HB := n1_; clear n0_ n1_; (try clear hb); (try clear hb2); (try clear hk); (try clear hi); (try clear ho0); obtain ⟨Ao5, co5, eo5⟩ := Kd.R_slice HO229.out; subst eo5) | ((with_reducible refine gate_callee (f := 139) rfl ?_); refine goesL_ (some 5) rfl rfl Try.func139 (by kernel_rfl) rfl #[.slice Ao5 t227.length co5, .string a0] rfl (by (try simp only [List.map_toArray, List.map_cons, List.map_nil]); first | done | rfl | (simp only [List.length_drop, List.length_take]; rfl)) ?_; (with_reducible refine (spec_isOne.calls k _ _ t227 a0 t230 _ ?side1 ?side2 A3.out).mono ?_); (case side1 => repeat (first | exact (Kd.R_reads' HO229.out).2.2 | (with_reducible refine Kd.C_alloc ?_ _) | (with_reducible refine Kd.C_drewN ?_ _) | (with_reducible refine Kd.C_drew ?_))); (case side2 => exact (Kd.R_reads' HO229.out).2.1); rintro e w' ⟨rfl, ⟨nd, rfl⟩⟩; refine ⟨_, rfl, ?_⟩))
 go_ret
 exact ⟨by first | rfl | (simp [errW_none, errW_some] <;> rfl) | (simp [*, errW_none, errW_some] <;> rfl), by repeat (first | (with_reducible first | exact HB.out | apply bal | apply bdN | apply bdr) | exact HB.out)⟩
def spec_validName.l0 : Nat → ByteArray → Int → Option (Bool)
 | 0, _, _ => none
 | k + 1, x0, x3 => if x3 < (x0.size : Int) then (if 0 ≤ x3 then ((spec_letter.f (bt x0 x3)).bind fun t233 => (if t233 = true then (spec_validName.l0 k x0 (wrap64 (x3 + 1))) else (if x3 = 0 then (some false) else ((spec_digit.f (bt x0 x3)).bind fun t234 => (if t234 = true then (spec_validName.l0 k x0 (wrap64 (x3 + 1))) else (some false)))))) else (none)) else ((spec_inRange.f (x0.size : Int) 1 12).bind fun t231 => (if t231 = true then ((spec_isKeyword.f k x0).bind fun t232 => (some (!t232))) else (some false)))
def spec_validName.f (k : Nat) (a0 : ByteArray) : Option (Bool) := spec_validName.l0 k a0 0
theorem spec_validName.calls (k : Nat) (a0 : ByteArray) (r : Bool) (w : World) (h : spec_validName.f k a0 = some r) :
  Calls Try.prog 100 #[.string a0] w fun e w' => e = .returned (.bool r) ∧ Below w.heap.size w w' := by
 have HB := Az.mk (Below.refl w.heap.size w)
 have H : (spec_validName.l0 k a0 0) = some r := h
 clear h
 have H' := Az.mk H
 clear H
 go_enter Try.func100, Try.ntmps100
 go_wp2
 go_loopg [3] k (fun kq v3 w' => ∃ (x3_1 : Int), v3 = .int .i64 x3_1 ∧ Az (spec_validName.l0 kq a0 x3_1 = some r) ∧ Az (kq ≤ k) ∧ Az (Below w.heap.size w w'))
 case atStart => exact ⟨(0), (by first | rfl | (simp; done) | (simp [*]; done)), H', ⟨Nat.le_refl _⟩, ⟨by repeat (first | (with_reducible first | exact HB.out | apply bal | apply bdN | apply bdr) | exact HB.out)⟩⟩
 case round =>
  clear H'
  try clear c1
  obtain ⟨x3_1, rfl, HA, HK1, HB⟩ := hrel
  cases gk with
  | zero => exact absurd HA.out (by simp [spec_validName.l0])
  | succ k1 =>
   have H := HA.out
   clear HA
   simp only [spec_validName.l0] at H
   by_cases c2 : x3_1 < (a0.size : Int)
   ·rw [if_pos c2] at H
    have c2b0 : decide (x3_1 < (a0.size : Int)) = true := decide_eq_true c2
    clear c2
    by_cases c3 : 0 ≤ x3_1
    ·rw [if_pos c3] at H
     have c3b0 : decide (0 ≤ x3_1) = true := decide_eq_true c3
     clear c3
     replace H := Option.bind_eq_some_iff.mp H
     obtain ⟨t233, A50, H⟩ := H
     replace H : (if t233 = true then (spec_validName.l0 k1 a0 (wrap64 (x3_1 + 1))) else (if x3_1 = 0 then (some false) else ((spec_digit.f (bt a0 x3_1)).bind fun t234 => (if t234 = true then (spec_validName.l0 k1 a0 (wrap64 (x3_1 + 1))) else (some false))))) = some r := H
     have A5 := Az.mk A50
     clear A50
     by_cases c6 : t233 = true
     ·subst c6
      have H1 : (spec_validName.l0 k1 a0 (wrap64 (x3_1 + 1))) = some r := by rw [if_pos rfl] at H; exact H
      clear H
      have H := H1
      clear H1
      have H' := Az.mk H
      clear H
      have p4 : 0 ≤ (x3_1 : Int) := of_decide_eq_true (by first | (with_reducible assumption) | assumption)
      have q4 : x3_1 < (a0.size : Int) := of_decide_eq_true (by first | (with_reducible assumption) | assumption)
      have hx4 := bt_at a0 x3_1
      replace p4 := eq_true p4
      replace q4 := eq_true q4
      go_wp2_with (first | ((with_reducible refine gate_callee (f := 124) rfl ?_); refine goesL_ (some 13) rfl rfl Try.func124 (by kernel_rfl) rfl #[.int .u8 (bt a0 x3_1)] rfl (by (try simp only [List.map_toArray, List.map_cons, List.map_nil]); first | done | rfl | (simp only [List.length_drop, List.length_take]; rfl)) ?_; (with_reducible refine (spec_letter.calls (bt a0 x3_1) true _ A5.out).mono ?_); rintro e w' ⟨rfl, ⟨nd, rfl⟩⟩; refine ⟨_, rfl, ?_⟩))
      go_roundg k1
      case measure => have := HK1.out; omega
      case rel => exact ⟨(wrap64 (x3_1 + 1)), (by first | rfl | (simp; done) | (simp [*]; done)), H', ⟨by have := HK1.out; omega⟩, ⟨by repeat (first | (with_reducible first | exact HB.out | apply bal | apply bdN | apply bdr) | exact HB.out)⟩⟩
     ·replace c6 := Bool.eq_false_iff.mpr c6
      subst c6
      have H1 : (if x3_1 = 0 then (some false) else ((spec_digit.f (bt a0 x3_1)).bind fun t234 => (if t234 = true then (spec_validName.l0 k1 a0 (wrap64 (x3_1 + 1))) else (some false)))) = some r := by rw [if_neg (show ¬ (false = true) by decide)] at H; exact H
      clear H
      have H := H1
      clear H1
      by_cases c7 : x3_1 = 0
      ·rw [if_pos c7] at H
       have c7b0 : (x3_1 == 0) = true := beq_iff_eq.mpr c7
       have c7b1 : (x3_1 != 0) = false := bne_eq_false_iff_eq.mpr c7
       clear c7
       obtain rfl := Option.some.inj H
       have p4 : 0 ≤ (x3_1 : Int) := of_decide_eq_true (by first | (with_reducible assumption) | assumption)
       have q4 : x3_1 < (a0.size : Int) := of_decide_eq_true (by first | (with_reducible assumption) | assumption)
       have hx4 := bt_at a0 x3_1
       replace p4 := eq_true p4
       replace q4 := eq_true q4
       go_wp2_with (first | ((with_reducible refine gate_callee (f := 124) rfl ?_); refine goesL_ (some 13) rfl rfl Try.func124 (by kernel_rfl) rfl #[.int .u8 (bt a0 x3_1)] rfl (by (try simp only [List.map_toArray, List.map_cons, List.map_nil]); first | done | rfl | (simp only [List.length_drop, List.length_take]; rfl)) ?_; (with_reducible refine (spec_letter.calls (bt a0 x3_1) false _ A5.out).mono ?_); rintro e w' ⟨rfl, ⟨nd, rfl⟩⟩; refine ⟨_, rfl, ?_⟩))
       go_ret
       exact ⟨by first | rfl | (simp [errW_none, errW_some] <;> rfl) | (simp [*, errW_none, errW_some] <;> rfl), by repeat (first | (with_reducible first | exact HB.out | apply bal | apply bdN | apply bdr) | exact HB.out)⟩
      ·rw [if_neg c7] at H
       have c7b0 : (x3_1 == 0) = false := beq_eq_false_iff_ne.mpr c7
       have c7b1 : (x3_1 != 0) = true := bne_iff_ne.mpr c7
       replace H := Option.bind_eq_some_iff.mp H
       obtain ⟨t234, A90, H⟩ := H
       replace H : (if t234 = true then (spec_validName.l0 k1 a0 (wrap64 (x3_1 + 1))) else (some false)) = some r := H
       have A9 := Az.mk A90
       clear A90
       by_cases c10 : t234 = true
       ·subst c10
        have H1 : (spec_validName.l0 k1 a0 (wrap64 (x3_1 + 1))) = some r := by rw [if_pos rfl] at H; exact H
        clear H
        have H := H1
        clear H1
        have H' := Az.mk H
        clear H
        have p4 : 0 ≤ (x3_1 : Int) := of_decide_eq_true (by first | (with_reducible assumption) | assumption)
        have q4 : x3_1 < (a0.size : Int) := of_decide_eq_true (by first | (with_reducible assumption) | assumption)
        have hx4 := bt_at a0 x3_1
        replace p4 := eq_true p4
        replace q4 := eq_true q4
        go_wp2_with (first | ((with_reducible refine gate_callee (f := 124) rfl ?_); refine goesL_ (some 13) rfl rfl Try.func124 (by kernel_rfl) rfl #[.int .u8 (bt a0 x3_1)] rfl (by (try simp only [List.map_toArray, List.map_cons, List.map_nil]); first | done | rfl | (simp only [List.length_drop, List.length_take]; rfl)) ?_; (with_reducible refine (spec_letter.calls (bt a0 x3_1) false _ A5.out).mono ?_); rintro e w' ⟨rfl, ⟨nd, rfl⟩⟩; refine ⟨_, rfl, ?_⟩; have p8 : 0 ≤ (x3_1 : Int) := of_decide_eq_true (by first | (with_reducible assumption) | assumption); have q8 : x3_1 < (a0.size : Int) := of_decide_eq_true (by first | (with_reducible assumption) | assumption); have hx8 := bt_at a0 x3_1; replace p8 := eq_true p8; replace q8 := eq_true q8) | (go_at_call 125; (with_reducible refine (spec_digit.calls (bt a0 x3_1) true _ A9.out).mono ?_); rintro e w' ⟨rfl, ⟨nd, rfl⟩⟩))
        go_roundg k1
        case measure => have := HK1.out; omega
        case rel => exact ⟨(wrap64 (x3_1 + 1)), (by first | rfl | (simp; done) | (simp [*]; done)), H', ⟨by have := HK1.out; omega⟩, ⟨by repeat (first | (with_reducible first | exact HB.out | apply bal | apply bdN | apply bdr) | exact HB.out)⟩⟩
       ·replace c10 := Bool.eq_false_iff.mpr c10
        subst c10
        have H1 : (some false) = some r := by rw [if_neg (show ¬ (false = true) by decide)] at H; exact H
        clear H
        have H := H1
        clear H1
        obtain rfl := Option.some.inj H
        have p4 : 0 ≤ (x3_1 : Int) := of_decide_eq_true (by first | (with_reducible assumption) | assumption)
        have q4 : x3_1 < (a0.size : Int) := of_decide_eq_true (by first | (with_reducible assumption) | assumption)
        have hx4 := bt_at a0 x3_1
        replace p4 := eq_true p4
        replace q4 := eq_true q4
        go_wp2_with (first | ((with_reducible refine gate_callee (f := 124) rfl ?_); refine goesL_ (some 13) rfl rfl Try.func124 (by kernel_rfl) rfl #[.int .u8 (bt a0 x3_1)] rfl (by (try simp only [List.map_toArray, List.map_cons, List.map_nil]); first | done | rfl | (simp only [List.length_drop, List.length_take]; rfl)) ?_; (with_reducible refine (spec_letter.calls (bt a0 x3_1) false _ A5.out).mono ?_); rintro e w' ⟨rfl, ⟨nd, rfl⟩⟩; refine ⟨_, rfl, ?_⟩; have p8 : 0 ≤ (x3_1 : Int) := of_decide_eq_true (by first | (with_reducible assumption) | assumption); have q8 : x3_1 < (a0.size : Int) := of_decide_eq_true (by first | (with_reducible assumption) | assumption); have hx8 := bt_at a0 x3_1; replace p8 := eq_true p8; replace q8 := eq_true q8) | (go_at_call 125; (with_reducible refine (spec_digit.calls (bt a0 x3_1) false _ A9.out).mono ?_); rintro e w' ⟨rfl, ⟨nd, rfl⟩⟩))
        go_ret
        exact ⟨by first | rfl | (simp [errW_none, errW_some] <;> rfl) | (simp [*, errW_none, errW_some] <;> rfl), by repeat (first | (with_reducible first | exact HB.out | apply bal | apply bdN | apply bdr) | exact HB.out)⟩
    ·rw [if_neg c3] at H
     exact absurd H (by simp)
   ·rw [if_neg c2] at H
    have c2b0 : decide (x3_1 < (a0.size : Int)) = false := decide_eq_false c2
    clear c2
    replace H := Option.bind_eq_some_iff.mp H
    obtain ⟨t231, A110, H⟩ := H
    replace H : (if t231 = true then ((spec_isKeyword.f k1 a0).bind fun t232 => (some (!t232))) else (some false)) = some r := H
    have A11 := Az.mk A110
    clear A110
    by_cases c12 : t231 = true
    ·subst c12
     have H1 : ((spec_isKeyword.f k1 a0).bind fun t232 => (some (!t232))) = some r := by rw [if_pos rfl] at H; exact H
     clear H
     have H := H1
     clear H1
     replace H := Option.bind_eq_some_iff.mp H
     obtain ⟨t232, A130, H⟩ := H
     replace H : (some (!t232)) = some r := H
     have A13 := Az.mk A130
     clear A130
     obtain rfl := Option.some.inj H
     go_wp2_with (first | ((with_reducible refine gate_callee (f := 54) rfl ?_); refine goesL_ (some 28) rfl rfl Try.func54 (by kernel_rfl) rfl #[.int .i64 (a0.size : Int), .int .i64 1, .int .i64 12] rfl (by (try simp only [List.map_toArray, List.map_cons, List.map_nil]); first | done | rfl | (simp only [List.length_drop, List.length_take]; rfl)) ?_; (with_reducible refine (spec_inRange.calls (a0.size : Int) 1 12 true _ A11.out).mono ?_); rintro e w' ⟨rfl, ⟨nd, rfl⟩⟩; refine ⟨_, rfl, ?_⟩) | (go_at_call 126; (with_reducible refine (spec_isKeyword.calls k1 a0 t232 _ A13.out).mono ?_); rintro e w14 ⟨rfl, hb⟩; have n0_ := Az.mk (below_step (by repeat (first | (with_reducible first | exact HB.out | apply bal | apply bdN | apply bdr) | exact HB.out)) hb); clear HB; have HB := n0_; clear n0_; (try clear hb); (try clear hb2); (try clear hk); (try clear hi)))
     go_ret
     exact ⟨by first | rfl | (simp [errW_none, errW_some] <;> rfl) | (simp [*, errW_none, errW_some] <;> rfl), by repeat (first | (with_reducible first | exact HB.out | apply bal | apply bdN | apply bdr) | exact HB.out)⟩
    ·replace c12 := Bool.eq_false_iff.mpr c12
     subst c12
     have H1 : (some false) = some r := by rw [if_neg (show ¬ (false = true) by decide)] at H; exact H
     clear H
     have H := H1
     clear H1
     obtain rfl := Option.some.inj H
     go_wp2_with (first | ((with_reducible refine gate_callee (f := 54) rfl ?_); refine goesL_ (some 28) rfl rfl Try.func54 (by kernel_rfl) rfl #[.int .i64 (a0.size : Int), .int .i64 1, .int .i64 12] rfl (by (try simp only [List.map_toArray, List.map_cons, List.map_nil]); first | done | rfl | (simp only [List.length_drop, List.length_take]; rfl)) ?_; (with_reducible refine (spec_inRange.calls (a0.size : Int) 1 12 false _ A11.out).mono ?_); rintro e w' ⟨rfl, ⟨nd, rfl⟩⟩; refine ⟨_, rfl, ?_⟩))
     go_ret
     exact ⟨by first | rfl | (simp [errW_none, errW_some] <;> rfl) | (simp [*, errW_none, errW_some] <;> rfl), by repeat (first | (with_reducible first | exact HB.out | apply bal | apply bdN | apply bdr) | exact HB.out)⟩
end Go.Proofs.Ytehhhlhedmfdiaa.PFnImportRun
end
section
namespace Go.Proofs.Ytehhhlhedmfdiaa.PFnImportRun
open Go.RowKit Go.Proofs.Yz0.PrintWords Go.Proofs.Yz0.PrintLast Go.Proofs.Yz0.PrintMore
set_option linter.unusedVariables false
def Tells (g : Nat → Option Bool) (P : Prop) : Prop := ∃ b, Ev g b ∧ (b = true ↔ P)
theorem Tells.step {g f : Nat → Option Bool} {P : Prop} (h : ∀ k, g (k + 1) = f k) (t : Tells f P) : Tells g P := by
 obtain ⟨b, e, hb⟩ := t; exact ⟨b, Ev.step h e, hb⟩
theorem Tells.congr {g f : Nat → Option Bool} {P Q : Prop} (h : ∀ k, g k = f k) (t : Tells f P) (hPQ : P ↔ Q) : Tells g Q := by
 obtain ⟨b, e, hb⟩ := t; exact ⟨b, Ev.congr h e, hb.trans hPQ⟩
theorem Tells.now {b : Bool} {P : Prop} (h : b = true ↔ P) : Tells (fun _ => some b) P := ⟨b, Ev.now b, h⟩
theorem Tells.iff {g : Nat → Option Bool} {P Q : Prop} (t : Tells g P) (h : P ↔ Q) : Tells g Q := by
 obtain ⟨b, e, hb⟩ := t; exact ⟨b, e, hb.trans h⟩
theorem Tells.same {g f : Nat → Option Bool} {P : Prop} (t : Tells g P) (u : Tells f P) : ∃ b, Ev g b ∧ Ev f b ∧ (b = true ↔ P) := by
 obtain ⟨b, e, hb⟩ := t
 obtain ⟨c, e2, hc⟩ := u
 have : b = c := Bool.eq_iff_iff.2 (hb.trans hc.symm)
 subst this
 exact ⟨b, e, e2, hb⟩
theorem Tells.ask {g : Nat → Option Bool} {f : Nat → Bool → Option Bool} {P Q : Prop} (t : Tells g P) (h1 : P → Tells (fun k => f k true) Q) (h2 : ¬ P → Tells (fun k => f k false) Q) : Tells (fun k => (g k).bind (f k)) Q := by
 obtain ⟨b, e, hb⟩ := t
 cases b with
 | true => obtain ⟨c, e2, hc⟩ := h1 (hb.1 rfl); exact ⟨c, Ev.bind e e2, hc⟩
 | false => obtain ⟨c, e2, hc⟩ := h2 (fun p => by have := hb.2 p; cases this); exact ⟨c, Ev.bind e e2, hc⟩
theorem bindSome {α : Type} (o : Option α) : (o.bind fun t => some t) = o := by cases o <;> rfl
theorem up1 {i : Int} (h0 : 0 ≤ i) (h : i < 4611686018427387904) : wrap64 (i + 1) = i + 1 := by unfold wrap64; omega
def IsW (c : Int) : Prop := 97 ≤ c ∧ c ≤ 122 ∨ 65 ≤ c ∧ c ≤ 90 ∨ c = 95
def IsD (c : Int) : Prop := 48 ≤ c ∧ c ≤ 57
theorem letter_tells (c : Int) : Tells (fun _ => spec_letter.f c) (IsW c) := by
 unfold spec_letter.f IsW
 repeat' first
  | (refine Tells.now ?_; simp; omega)
  | split
theorem isLetter_tells (c : Int) : Tells (fun _ => impl_isLetter.f c) (IsW c) := by
 unfold impl_isLetter.f IsW
 repeat' first
  | (refine Tells.now ?_; simp; omega)
  | split
theorem digit_tells (c : Int) : Tells (fun _ => spec_digit.f c) (IsD c) := by
 unfold spec_digit.f IsD
 repeat' first
  | (refine Tells.now ?_; simp; omega)
  | split
theorem isDigit_tells (c : Int) : Tells (fun _ => impl_isDigit.f c) (IsD c) := by
 unfold impl_isDigit.f IsD
 repeat' first
  | (refine Tells.now ?_; simp; omega)
  | split
theorem inRange_tells (a b c : Int) : Tells (fun _ => spec_inRange.f a b c) (b ≤ a ∧ a ≤ c) := by
 unfold spec_inRange.f
 repeat' first
  | (refine Tells.now ?_; simp; omega)
  | split
theorem within_tells (a b c : Int) : Tells (fun _ => impl_within.f a b c) (b ≤ a ∧ a ≤ c) := by
 unfold impl_within.f
 repeat' first
  | (refine Tells.now ?_; simp; omega)
  | split
theorem rdOf_at {l : List ByteArray} {i : Int} (h0 : 0 ≤ i) (h : i < (l.length : Int)) : l.drop i.toNat = rdOf ByteArray.empty l i :: l.drop (i + 1).toNat := by
 have hl : i.toNat < l.length := by omega
 unfold rdOf
 rw [List.getD_eq_getElem?_getD, List.getElem?_eq_getElem hl, List.drop_eq_getElem_cons hl, show (i + 1).toNat = i.toNat + 1 from by omega]
 rfl
def Has (l : List ByteArray) (s : ByteArray) : Prop := ∃ x ∈ l, x.toList = s.toList
theorem isOne_tells (l : List ByteArray) (s : ByteArray) (hl : l.length < 1000) (d : Nat) : ∀ i : Int, 0 ≤ i → i ≤ l.length → (l.length : Int) - i = d → Tells (fun k => spec_isOne.l0 k l s i) (Has (l.drop i.toNat) s) := by
 induction d with
 | zero =>
  intro i h0 h1 hd
  refine Tells.step (f := fun _ => some false) (fun k => by simp only [spec_isOne.l0]; rw [if_neg (by omega)]) (Tells.now ?_)
  rw [List.drop_eq_nil_of_le (by omega)]
  simp [Has]
 | succ d ih =>
  intro i h0 h1 hd
  have hlt : i < (l.length : Int) := by omega
  have hp := rdOf_at h0 hlt
  by_cases he : (rdOf ByteArray.empty l i).toList = s.toList
  ·refine Tells.step (f := fun _ => some true) (fun k => by simp only [spec_isOne.l0]; rw [if_pos hlt, if_pos h0, if_pos he]) (Tells.now ?_)
   rw [hp]
   simp only [true_iff]
   exact ⟨_, List.mem_cons_self, he⟩
  ·refine Tells.step (fun k => by simp only [spec_isOne.l0]; rw [if_pos hlt, if_pos h0, if_neg he, up1 h0 (by omega)]) ((ih (i + 1) (by omega) (by omega) (by omega)).iff ?_)
   rw [hp]
   unfold Has
   constructor
   ·rintro ⟨x, hx, e⟩; exact ⟨x, List.mem_cons_of_mem _ hx, e⟩
   ·rintro ⟨x, hx, e⟩
    rcases List.mem_cons.1 hx with rfl | hx
    ·exact absurd e he
    ·exact ⟨x, hx, e⟩
theorem index_tells (l : List ByteArray) (s : ByteArray) (hl : l.length < 1000) (d : Nat) : ∀ i : Int, 0 ≤ i → i ≤ l.length → (l.length : Int) - i = d → ∃ r, Ev (fun k => slices_Index_string_string.l0 k l s (l.length : Int) i) r ∧ (r ≥ 0 ↔ Has (l.drop i.toNat) s) := by
 induction d with
 | zero =>
  intro i h0 h1 hd
  refine ⟨-1, Ev.step (f := fun _ => some (-1)) (fun k => by simp only [slices_Index_string_string.l0]; rw [if_neg (by omega)]) (Ev.now _), ?_⟩
  rw [List.drop_eq_nil_of_le (by omega)]
  simp [Has]
 | succ d ih =>
  intro i h0 h1 hd
  have hlt : i < (l.length : Int) := by omega
  have hp := rdOf_at h0 hlt
  by_cases he : s.toList = (rdOf ByteArray.empty l i).toList
  ·refine ⟨i, Ev.step (f := fun _ => some i) (fun k => by simp only [slices_Index_string_string.l0]; rw [if_pos hlt, if_pos h0, if_pos hlt, if_pos he]) (Ev.now _), ?_⟩
   rw [hp]
   exact ⟨fun _ => ⟨_, List.mem_cons_self, he.symm⟩, fun _ => h0⟩
  ·obtain ⟨r, e, hr⟩ := ih (i + 1) (by omega) (by omega) (by omega)
   refine ⟨r, Ev.step (fun k => by simp only [slices_Index_string_string.l0]; rw [if_pos hlt, if_pos h0, if_pos hlt, if_neg he, up1 h0 (by omega)]) e, hr.trans ?_⟩
   rw [hp]
   unfold Has
   constructor
   ·rintro ⟨x, hx, e⟩; exact ⟨x, List.mem_cons_of_mem _ hx, e⟩
   ·rintro ⟨x, hx, e⟩
    rcases List.mem_cons.1 hx with rfl | hx
    ·exact absurd e.symm he
    ·exact ⟨x, hx, e⟩
def kws : List ByteArray := spec_keywords.f.getD []
theorem kws_len : kws.length < 1000 := by decide
theorem spec_kw (s : ByteArray) : Tells (fun k => spec_isKeyword.f k s) (Has kws s) := by
 have h := isOne_tells kws s kws_len kws.length 0 (by omega) (by omega) (by omega)
 rw [show (0 : Int).toNat = 0 from rfl, List.drop_zero] at h
 refine Tells.congr (fun k => ?_) h Iff.rfl
 show (some kws).bind (fun t => (spec_isOne.f k t s).bind fun t => some t) = _
 simp only [Option.bind_some]
 show (spec_isOne.l0 k kws s 0).bind (fun t => some t) = _
 rw [bindSome]
theorem impl_kw (s : ByteArray) : Tells (fun k => impl_IsKeyword.f k s) (Has kws s) := by
 obtain ⟨r, e, hr⟩ := index_tells kws s kws_len kws.length 0 (by omega) (by omega) (by omega)
 rw [show (0 : Int).toNat = 0 from rfl, List.drop_zero] at hr
 refine ⟨decide (r ≥ 0), ?_, by rw [decide_eq_true_iff]; exact hr⟩
 refine Ev.congr (f := fun k => (slices_Index_string_string.l0 k kws s (kws.length : Int) 0).bind fun t => some (decide (t ≥ 0))) (fun k => ?_) (Ev.bind e (Ev.now _))
 show ((some kws).bind fun t => ((slices_Contains_string_string.f k t s).bind fun t => some t)) = _
 simp only [Option.bind_some]
 rw [bindSome]
 rfl
def NameP (s : ByteArray) : Prop := (∀ j : Int, 0 ≤ j → j < s.size → IsW (bt s j) ∨ j ≠ 0 ∧ IsD (bt s j)) ∧ (1 ≤ s.size ∧ s.size ≤ 12) ∧ ¬ Has kws s
theorem validName_from (s : ByteArray) (hs : s.size ≤ 140737488355328) (d : Nat) : ∀ i : Int, 0 ≤ i → i ≤ s.size → (s.size : Int) - i = d →
  Tells (fun k => spec_validName.l0 k s i) ((∀ j : Int, i ≤ j → j < s.size → IsW (bt s j) ∨ j ≠ 0 ∧ IsD (bt s j)) ∧ (1 ≤ s.size ∧ s.size ≤ 12) ∧ ¬ Has kws s) := by
 induction d with
 | zero =>
  intro i h0 h1 hd
  have hv : ∀ j : Int, i ≤ j → j < s.size → IsW (bt s j) ∨ j ≠ 0 ∧ IsD (bt s j) := fun j a b => by omega
  refine Tells.step (fun k => by simp only [spec_validName.l0]; rw [if_neg (by omega)]) ?_
  refine Tells.ask (f := fun k t => if t = true then ((spec_isKeyword.f k s).bind fun t => some (!t)) else some false) (inRange_tells _ _ _) (fun hp => ?_) (fun hp => ?_)
  ·refine Tells.congr (f := fun k => (spec_isKeyword.f k s).bind fun t => some (!t)) (fun k => by rw [if_pos rfl]) (Tells.ask (f := fun _ t => some (!t)) (spec_kw s) (fun hk => Tells.now ?_) (fun hk => Tells.now ?_)) Iff.rfl
   ·simp only [Bool.not_true, Bool.false_eq_true, false_iff]; exact fun h => h.2.2 hk
   ·simp only [Bool.not_false, true_iff]; exact ⟨hv, by omega, hk⟩
  ·refine Tells.congr (f := fun _ => some false) (fun k => by rw [if_neg (by decide)]) (Tells.now ?_) Iff.rfl
   simp only [Bool.false_eq_true, false_iff]; exact fun h => hp (by omega)
 | succ d ih =>
  intro i h0 h1 hd
  have hlt : i < (s.size : Int) := by omega
  have hw : wrap64 (i + 1) = i + 1 := up1 h0 (by omega)
  have next : (IsW (bt s i) ∨ i ≠ 0 ∧ IsD (bt s i)) → Tells (fun k => spec_validName.l0 k s (i + 1)) ((∀ j : Int, i ≤ j → j < s.size → IsW (bt s j) ∨ j ≠ 0 ∧ IsD (bt s j)) ∧ (1 ≤ s.size ∧ s.size ≤ 12) ∧ ¬ Has kws s) := fun hi =>
   (ih (i + 1) (by omega) (by omega) (by omega)).iff (and_congr ⟨fun h j a b => by
    by_cases e : j = i
    ·rw [e]; exact hi
    ·exact h j (by omega) b, fun h j a b => h j (by omega) b⟩ Iff.rfl)
  have fails : ¬ (IsW (bt s i) ∨ i ≠ 0 ∧ IsD (bt s i)) → Tells (fun _ => some false) ((∀ j : Int, i ≤ j → j < s.size → IsW (bt s j) ∨ j ≠ 0 ∧ IsD (bt s j)) ∧ (1 ≤ s.size ∧ s.size ≤ 12) ∧ ¬ Has kws s) := fun hi =>
   Tells.now (by simp only [Bool.false_eq_true, false_iff]; exact fun h => hi (h.1 i (by omega) hlt))
  refine Tells.step (fun k => by simp only [spec_validName.l0]; rw [if_pos hlt, if_pos h0, hw]) ?_
  refine Tells.ask (f := fun k t => if t = true then (spec_validName.l0 k s (i + 1)) else (if i = 0 then (some false) else ((spec_digit.f (bt s i)).bind fun t119 => (if t119 = true then (spec_validName.l0 k s (i + 1)) else (some false))))) (letter_tells _) (fun hp => ?_) (fun hp => ?_)
  ·exact Tells.congr (fun k => by rw [if_pos rfl]) (next (.inl hp)) Iff.rfl
  ·by_cases hz : i = 0
   ·exact Tells.congr (f := fun _ => some false) (fun k => by rw [if_neg (by decide), if_pos hz]) (fails (fun h => h.elim hp (fun h => h.1 hz))) Iff.rfl
   ·refine Tells.congr (f := fun k => (spec_digit.f (bt s i)).bind fun t119 => (if t119 = true then (spec_validName.l0 k s (i + 1)) else (some false))) (fun k => by rw [if_neg (by decide), if_neg hz]) (Tells.ask (f := fun k t119 => (if t119 = true then (spec_validName.l0 k s (i + 1)) else (some false))) (digit_tells _) (fun hq => ?_) (fun hq => ?_)) Iff.rfl
    ·exact Tells.congr (fun k => by rw [if_pos rfl]) (next (.inr ⟨hz, hq⟩)) Iff.rfl
    ·exact Tells.congr (f := fun _ => some false) (fun k => by rw [if_neg (by decide)]) (fails (fun h => h.elim hp (fun h => hq h.2))) Iff.rfl
theorem validName_tells (s : ByteArray) (hs : s.size ≤ 140737488355328) : Tells (fun k => spec_validName.f k s) (NameP s) :=
 validName_from s hs s.size 0 (by omega) (by omega) (by omega)
theorem nameOk_from (s : ByteArray) (hs : s.size ≤ 140737488355328) (d : Nat) : ∀ i : Int, 0 ≤ i → i ≤ s.size → (s.size : Int) - i = d →
  Tells (fun k => impl_NameOk.l0 k s (s.size : Int) i) (∀ j : Int, i ≤ j → j < s.size → IsW (bt s j) ∨ IsD (bt s j)) := by
 induction d with
 | zero =>
  intro i h0 h1 hd
  exact Tells.step (f := fun _ => some true) (fun k => by simp only [impl_NameOk.l0]; rw [if_neg (by omega)]) (Tells.now (by simp only [true_iff]; exact fun j a b => by omega))
 | succ d ih =>
  intro i h0 h1 hd
  have hlt : i < (s.size : Int) := by omega
  have hw : wrap64 (i + 1) = i + 1 := up1 h0 (by omega)
  have next : (IsW (bt s i) ∨ IsD (bt s i)) → Tells (fun k => impl_NameOk.l0 k s (s.size : Int) (i + 1)) (∀ j : Int, i ≤ j → j < s.size → IsW (bt s j) ∨ IsD (bt s j)) := fun hi =>
   (ih (i + 1) (by omega) (by omega) (by omega)).iff ⟨fun h j a b => by
    by_cases e : j = i
    ·rw [e]; exact hi
    ·exact h j (by omega) b, fun h j a b => h j (by omega) b⟩
  refine Tells.step (fun k => by simp only [impl_NameOk.l0]; rw [if_pos hlt, if_pos h0, if_pos hlt, hw]) ?_
  refine Tells.ask (f := fun k t => if t = true then (impl_NameOk.l0 k s (s.size : Int) (i + 1)) else ((impl_isDigit.f (bt s i)).bind fun t224 => (if t224 = true then (impl_NameOk.l0 k s (s.size : Int) (i + 1)) else (some false)))) (isLetter_tells _) (fun hp => ?_) (fun hp => ?_)
  ·exact Tells.congr (fun k => by rw [if_pos rfl]) (next (.inl hp)) Iff.rfl
  ·refine Tells.congr (f := fun k => (impl_isDigit.f (bt s i)).bind fun t224 => (if t224 = true then (impl_NameOk.l0 k s (s.size : Int) (i + 1)) else (some false))) (fun k => by rw [if_neg (by decide)]) (Tells.ask (f := fun k t224 => (if t224 = true then (impl_NameOk.l0 k s (s.size : Int) (i + 1)) else (some false))) (isDigit_tells _) (fun hq => ?_) (fun hq => ?_)) Iff.rfl
   ·exact Tells.congr (fun k => by rw [if_pos rfl]) (next (.inr hq)) Iff.rfl
   ·exact Tells.congr (f := fun _ => some false) (fun k => by rw [if_neg (by decide)]) (Tells.now (by simp only [Bool.false_eq_true, false_iff]; exact fun h => (h i (by omega) hlt).elim hp hq)) Iff.rfl
theorem nameOk_tells (s : ByteArray) (hs : s.size ≤ 140737488355328) : Tells (fun k => impl_NameOk.f k s) (NameP s) := by
 have no : ¬ NameP s → Tells (fun k => impl_NameOk.j0 k s true) (NameP s) := fun h =>
  Tells.step (f := fun _ => some false) (fun k => by simp only [impl_NameOk.j0]; exact if_pos trivial) (Tells.now (by simp only [Bool.false_eq_true, false_iff]; exact h))
 unfold impl_NameOk.f
 by_cases h1 : (s.size : Int) < 1
 ·exact Tells.congr (fun k => by rw [if_pos h1]) (no (fun h => by have := h.2.1.1; omega)) Iff.rfl
 by_cases h2 : (s.size : Int) > 12
 ·exact Tells.congr (fun k => by rw [if_neg h1, if_pos h2]) (no (fun h => by have := h.2.1.2; omega)) Iff.rfl
 refine Tells.congr (f := fun k => (impl_isDigit.f (bt s 0)).bind fun t221 => (if t221 = true then (impl_NameOk.j0 k s true) else ((impl_IsKeyword.f k s).bind fun t222 => (impl_NameOk.j0 k s t222)))) (fun k => by rw [if_neg h1, if_neg h2, if_pos (by omega)]) ?_ Iff.rfl
 refine Tells.ask (f := fun k t221 => (if t221 = true then (impl_NameOk.j0 k s true) else ((impl_IsKeyword.f k s).bind fun t222 => (impl_NameOk.j0 k s t222)))) (isDigit_tells _) (fun hd => ?_) (fun hd => ?_)
 ·refine Tells.congr (fun k => by rw [if_pos rfl]) (no (fun h => ?_)) Iff.rfl
  rcases h.1 0 (by omega) (by omega) with hw | hw
  ·unfold IsW at hw; unfold IsD at hd; omega
  ·exact hw.1 rfl
 ·refine Tells.congr (f := fun k => (impl_IsKeyword.f k s).bind fun t222 => (impl_NameOk.j0 k s t222)) (fun k => by rw [if_neg (by decide)]) ?_ Iff.rfl
  refine Tells.ask (f := fun k t222 => impl_NameOk.j0 k s t222) (impl_kw s) (fun hk => no (fun h => h.2.2 hk)) (fun hk => ?_)
  refine Tells.step (fun k => by simp only [impl_NameOk.j0]; exact if_neg (by decide)) ((nameOk_from s hs s.size 0 (by omega) (by omega) (by omega)).iff ?_)
  constructor
  ·intro h
   refine ⟨fun j a b => ?_, by omega, hk⟩
   by_cases hz : j = 0
   ·subst hz; exact .inl ((h 0 a b).resolve_right hd)
   ·exact (h j a b).imp id (fun h => ⟨hz, h⟩)
  ·intro h j a b
   exact (h.1 j a b).imp id (fun h => h.2)
end Go.Proofs.Ytehhhlhedmfdiaa.PFnImportRun
end
section
namespace Go.Proofs.Ytehhhlhedmfdiaa.PFnImportRun
open Go.RowKit Go.Proofs.Yz0.PrintWords Go.Proofs.Yz0.PrintLast Go.Proofs.Yz0.PrintMore
attribute [local go_sem] max2_int min2_int max_two min_two max_three min_three max_four min_four
set_option linter.unusedVariables false
set_option linter.unusedSimpArgs false
theorem bne_empty_t {x : Bool} {l : List UInt8} (h : (x != (l != ([] : List UInt8))) = true) : (x = !l.isEmpty) = False := by
 cases x <;> cases l <;> simp at h ⊢
theorem bne_empty_f {x : Bool} {l : List UInt8} (h : ¬ (x != (l != ([] : List UInt8))) = true) : (x = !l.isEmpty) = True := by
 cases x <;> cases l <;> simp at h ⊢
theorem ne_of_true {l : List UInt8} (h : (true = !l.isEmpty) = True) : (l = []) = False ∧ l.isEmpty = false := by
 cases l <;> simp at h ⊢
theorem eq_of_false {l : List UInt8} (h : (false = !l.isEmpty) = True) : (l = []) = True ∧ l.isEmpty = true := by
 cases l <;> simp at h ⊢
mutual
def spec_validMods.l0 : Nat → List (S72) → Int → Option (Bool)
 | 0, _, _ => none
 | k + 1, x0, x3 => if x3 < (x0.length : Int) then (spec_validMods.l1 k x0 x3 0) else ((spec_inRange.f (x0.length : Int) 1 6).bind fun t235 => (some t235))
def spec_validMods.l1 : Nat → List (S72) → Int → Int → Option (Bool)
 | 0, _, _, _ => none
 | k + 1, x0, x3, x4 => if 0 ≤ x3 then (if x3 < (x0.length : Int) then (if x4 < (((rX x0 x3).f0).length : Int) then (if 0 ≤ x4 then (if ((rY ((rX x0 x3).f0) x4).f0) = 3 then (spec_validMods.j2 k x0 x3 x4 0 (wrap64 ((x0.length : Int) - 1)) true ((rY ((rX x0 x3).f0) x4).f0) ((rY ((rX x0 x3).f0) x4).f1) ((rY ((rX x0 x3).f0) x4).f2)) else (spec_validMods.j2 k x0 x3 x4 0 (wrap64 ((x0.length : Int) - 1)) (((rY ((rX x0 x3).f0) x4).f0) == 5) ((rY ((rX x0 x3).f0) x4).f0) ((rY ((rX x0 x3).f0) x4).f1) ((rY ((rX x0 x3).f0) x4).f2))) else (none)) else (if (((rX x0 x3).f0).length : Int) > 8 then (some false) else (spec_validMods.l0 k x0 (wrap64 (x3 + 1))))) else (none)) else (none)
def spec_validMods.j2 : Nat → List (S72) → Int → Int → Int → Int → Bool → Int → Int → ByteArray → Option (Bool)
 | 0, _, _, _, _, _, _, _, _, _ => none
 | k + 1, x0, x3, x4, x6, x7, x43, x241000, x241001, x241002 => if x43 = true then (spec_validMods.j3 k x0 x3 x4 x6 1000000 x241000 x241001 x241002) else (spec_validMods.j3 k x0 x3 x4 x6 x7 x241000 x241001 x241002)
def spec_validMods.j3 : Nat → List (S72) → Int → Int → Int → Int → Int → Int → ByteArray → Option (Bool)
 | 0, _, _, _, _, _, _, _, _ => none
 | k + 1, x0, x3, x4, x6, x7, x241000, x241001, x241002 => if x241000 = 3 then (spec_validMods.j4 k x0 x3 x4 x6 x7 true x241000 x241001 x241002) else (spec_validMods.j4 k x0 x3 x4 x6 x7 (x241000 == 4) x241000 x241001 x241002)
def spec_validMods.j4 : Nat → List (S72) → Int → Int → Int → Int → Bool → Int → Int → ByteArray → Option (Bool)
 | 0, _, _, _, _, _, _, _, _, _ => none
 | k + 1, x0, x3, x4, x6, x7, x8, x241000, x241001, x241002 => (spec_inRange.f x241000 1 5).bind fun t241 => (if t241 = true then ((spec_inRange.f x241001 x6 x7).bind fun t242 => (if t242 = true then (if (x8 != (x241002.toList != ([] : List UInt8))) = true then (some false) else (if x8 = true then ((spec_validName.f k x241002).bind fun t243 => (if t243 = true then (spec_validMods.l1 k x0 x3 (wrap64 (x4 + 1))) else (some false))) else (spec_validMods.l1 k x0 x3 (wrap64 (x4 + 1))))) else (some false))) else (some false))
end
def spec_validMods.f (k : Nat) (l0 : List (S72)) : Option (Bool) := spec_validMods.l0 k l0 0
theorem spec_validMods.calls (k : Nat) (A0 : Option Addr) (c0 : Nat) (l0 : List (S72)) (r : Bool) (w : World) (hr0 : Kd.C k72 w A0 l0.length l0) (hc0 : l0.length ≤ c0) (h : spec_validMods.f k l0 = some r) :
  Calls Try.prog 53 #[.slice A0 l0.length c0] w fun e w' => e = .returned (.bool r) ∧ Below w.heap.size w w' := by
 have hu74 := Try.underlying74
 have HR0 := Az.mk hr0
 have HC0 := Az.mk hc0
 clear hr0 hc0
 have HB := Az.mk (Below.refl w.heap.size w)
 have H : (spec_validMods.l0 k l0 0) = some r := h
 clear h
 have H' := Az.mk H
 clear H
 go_enter Try.func53, Try.ntmps53
 go_wp2
 go_loopg [3] k (fun kq v3 w' => ∃ (x3_1 : Int), v3 = .int .i64 x3_1 ∧ Az (spec_validMods.l0 kq l0 x3_1 = some r) ∧ Az (kq ≤ k) ∧ Az (Below w.heap.size w w'))
 case atStart => exact ⟨(0), (by first | rfl | (simp; done) | (simp [*]; done)), H', ⟨Nat.le_refl _⟩, ⟨by repeat (first | (with_reducible first | exact HB.out | apply bal | apply bdN | apply bdr) | exact HB.out)⟩⟩
 case round =>
  clear H'
  obtain ⟨x3_1, rfl, HA, HK1, HB⟩ := hrel
  cases gk with
  | zero => exact absurd HA.out (by simp [spec_validMods.l0])
  | succ k1 =>
   have H := HA.out
   clear HA
   simp only [spec_validMods.l0] at H
   by_cases c2 : x3_1 < (l0.length : Int)
   ·rw [if_pos c2] at H
    have c2b0 : decide (x3_1 < (l0.length : Int)) = true := decide_eq_true c2
    clear c2
    have H' := Az.mk H
    clear H
    go_wp2
    go_loopg [4] k1 (fun kq v4 w' => ∃ (x4_2 : Int), v4 = .int .i64 x4_2 ∧ Az (spec_validMods.l1 kq l0 x3_1 x4_2 = some r) ∧ Az (kq ≤ k1) ∧ Az (Below w.heap.size w w'))
    case atStart => exact ⟨(0), (by first | rfl | (simp; done) | (simp [*]; done)), H', ⟨Nat.le_refl _⟩, ⟨by repeat (first | (with_reducible first | exact HB.out | apply bal | apply bdN | apply bdr) | exact HB.out)⟩⟩
    case round =>
     clear H'
     try clear c2
     try clear c2b0
     try clear p2
     obtain ⟨x4_2, rfl, HA, HK2, HB⟩ := hrel
     cases gk with
     | zero => exact absurd HA.out (by simp [spec_validMods.l1])
     | succ k2 =>
      have H := HA.out
      clear HA
      simp only [spec_validMods.l1] at H
      by_cases c3 : 0 ≤ x3_1
      ·rw [if_pos c3] at H
       have c3b0 : decide (0 ≤ x3_1) = true := decide_eq_true c3
       clear c3
       by_cases c4 : x3_1 < (l0.length : Int)
       ·rw [if_pos c4] at H
        have c4b0 : decide (x3_1 < (l0.length : Int)) = true := decide_eq_true c4
        clear c4
        by_cases c5 : x4_2 < (((rX l0 x3_1).f0).length : Int)
        ·rw [if_pos c5] at H
         have c5b0 : decide (x4_2 < (((rX l0 x3_1).f0).length : Int)) = true := decide_eq_true c5
         clear c5
         by_cases c6 : 0 ≤ x4_2
         ·rw [if_pos c6] at H
          have c6b0 : decide (0 ≤ x4_2) = true := decide_eq_true c6
          clear c6
          have HC7 := Az.mk H
          clear H
          have p236 : 0 ≤ (x3_1 : Int) := of_decide_eq_true (by first | (with_reducible assumption) | assumption)
          have q236 : x3_1 < (l0.length : Int) := of_decide_eq_true (by first | (with_reducible assumption) | assumption)
          obtain ⟨ad236, A236_0, c236_0, e236, hx236_0, hl236_0, hi236_0⟩ := at_T72 HR0.out x3_1 p236 q236
          cases e236
          replace hx236_0 := (HB.out.cell (World.block_lt_of_cell? w _ hx236_0)).trans hx236_0
          have HR236_0 := Az.mk hi236_0
          have HC236_0 := Az.mk hl236_0
          clear hi236_0 hl236_0
          replace p236 := eq_true p236
          replace q236 := eq_true q236
          have p238 : 0 ≤ (x3_1 : Int) := of_decide_eq_true (by first | (with_reducible assumption) | assumption)
          have q238 : x3_1 < (l0.length : Int) := of_decide_eq_true (by first | (with_reducible assumption) | assumption)
          obtain ⟨ad238, A238_0, c238_0, e238, hx238_0, hl238_0, hi238_0⟩ := at_T72 HR0.out x3_1 p238 q238
          obtain rfl : ad236 = ad238 := (by injection e238)
          replace hx238_0 := (HB.out.cell (World.block_lt_of_cell? w _ hx238_0)).trans hx238_0
          have HR238_0 := Az.mk hi238_0
          have HC238_0 := Az.mk hl238_0
          clear hi238_0 hl238_0
          replace p238 := eq_true p238
          replace q238 := eq_true q238
          have ea_ := Option.some.inj (hx236_0.symm.trans hx238_0)
          injection ea_ with ea_ en_ ec_
          subst ea_
          subst ec_
          clear en_
          have p239 : 0 ≤ (x4_2 : Int) := of_decide_eq_true (by first | (with_reducible assumption) | assumption)
          have q239 : x4_2 < (((rX l0 x3_1).f0).length : Int) := of_decide_eq_true (by first | (with_reducible assumption) | assumption)
          obtain ⟨ad239, e239, hx239_0, hx239_1, hx239_2⟩ := at_T74 HR238_0.out x4_2 p239 q239
          cases e239
          replace hx239_0 := (HB.out.cell (World.block_lt_of_cell? w _ hx239_0)).trans hx239_0
          replace hx239_1 := (HB.out.cell (World.block_lt_of_cell? w _ hx239_1)).trans hx239_1
          replace hx239_2 := (HB.out.cell (World.block_lt_of_cell? w _ hx239_2)).trans hx239_2
          replace p239 := eq_true p239
          replace q239 := eq_true q239
          go_upto_region 10 with (first | ((with_reducible refine gate_dst (N := 5) rfl ?_); refine box_event ?hg (N := 5) ?hd (cs := #[.int .i64 0, .int .i64 0, .string (⟨#[]⟩ : ByteArray)]) (t := 74) ?hr ?_; (case hd => rfl); (case hg => rfl); (case hr => first | (go_simp; done) | (go_simp; rfl)); intro gb240 hg w8 hbox hb; have n0_ := Az.mk (below_step (by repeat (first | (with_reducible first | exact HB.out | apply bal | apply bdN | apply bdr) | exact HB.out)) hb); have n1_ := Az.mk (hbox); have n2_ := Az.mk ((by rw [hg]; exact (below_size (by repeat (first | (with_reducible first | exact HB.out | apply bal | apply bdN | apply bdr) | exact HB.out))) : w.heap.size ≤ gb240)); have n3_ := Az.mk ((by rw [hg]; exact (below_size (by repeat (first | (with_reducible first | exact HB.out | apply bal | apply bdN | apply bdr) | exact HB.out))) : w.heap.size ≤ gb240)); clear HB; have HB := n0_; have BK240 := n1_; have GW240 := n2_; have GE240 := n3_; clear n0_ n1_ n2_ n3_; clear hb hbox hg; have hcz9_0 : w8.cell? ⟨gb240, 0, none⟩ = some (.int .i64 0) := (bC BK240.out 0).trans rfl; have hcz9_1 : w8.cell? ⟨gb240, 1, none⟩ = some (.int .i64 0) := (bC BK240.out 1).trans rfl; have hcz9_2 : w8.cell? ⟨gb240, 2, none⟩ = some (.string (⟨#[]⟩ : ByteArray)) := (bC BK240.out 2).trans rfl; have hfz9_0 := bF BK240.out 0; have hfz9_1 := bF BK240.out 1; have hfz9_2 := bF BK240.out 2))
          (try simp only [Act.put, List.setIfInBounds_toArray, List.set_cons_zero, List.set_cons_succ])
          go_cut [43] (fun v43 wc => ∃ (kq : Nat) (x43_6 : Bool), v43 = .bool x43_6 ∧ Az (spec_validMods.j2 kq l0 x3_1 x4_2 0 (wrap64 ((l0.length : Int) - 1)) x43_6 ((rY ((rX l0 x3_1).f0) x4_2).f0) ((rY ((rX l0 x3_1).f0) x4_2).f1) ((rY ((rX l0 x3_1).f0) x4_2).f2) = some r) ∧ Az (kq ≤ k2) ∧ Az (wc.heap[gb240]? = some (.cells #[.int .i64 ((rY ((rX l0 x3_1).f0) x4_2).f0), .int .i64 ((rY ((rX l0 x3_1).f0) x4_2).f1), .string ((rY ((rX l0 x3_1).f0) x4_2).f2)] 74 (0, 0))) ∧ Az (Below w.heap.size w wc))
          case first =>
           have H := HC7.out
           clear HC7
           by_cases c10 : ((rY ((rX l0 x3_1).f0) x4_2).f0) = 3
           ·rw [if_pos c10] at H
            have c10b0 : (((rY ((rX l0 x3_1).f0) x4_2).f0) == 3) = true := beq_iff_eq.mpr c10
            have c10b1 : (((rY ((rX l0 x3_1).f0) x4_2).f0) != 3) = false := bne_eq_false_iff_eq.mpr c10
            clear c10
            (first | rw [c10b0] | (simp only [i64_w, i32_w]; rw [c10b0]) | skip)
            have H' := Az.mk H
            clear H
            have hcz11_0 : w8.cell? ⟨gb240, 0, none⟩ = some (.int .i64 0) := (bC BK240.out 0).trans rfl
            have hcz11_1 : w8.cell? ⟨gb240, 1, none⟩ = some (.int .i64 0) := (bC BK240.out 1).trans rfl
            have hcz11_2 : w8.cell? ⟨gb240, 2, none⟩ = some (.string (⟨#[]⟩ : ByteArray)) := (bC BK240.out 2).trans rfl
            have hfz11_0 := bF BK240.out 0
            have hfz11_1 := bF BK240.out 1
            have hfz11_2 := bF BK240.out 2
            go_wp2
            go_meet
            case rel => exact ⟨_, (true), (by first | rfl | (simp; done) | (simp [*]; done)), H', ⟨by have := HK1.out; have := HK2.out; first | omega | exact Nat.le_refl _⟩, ⟨by (with_reducible repeat (first | refine blk_drewN ?_ _ | refine blk_drew ?_ | refine blk_alloc ?_ _)); refine blk_put (cs := #[.int .i64 ((rY ((rX l0 x3_1).f0) x4_2).f0), .int .i64 ((rY ((rX l0 x3_1).f0) x4_2).f1), .string (⟨#[]⟩ : ByteArray)]) ?_ 2 _ rfl; (with_reducible repeat (first | refine blk_drewN ?_ _ | refine blk_drew ?_ | refine blk_alloc ?_ _)); refine blk_put (cs := #[.int .i64 ((rY ((rX l0 x3_1).f0) x4_2).f0), .int .i64 0, .string (⟨#[]⟩ : ByteArray)]) ?_ 1 _ rfl; (with_reducible repeat (first | refine blk_drewN ?_ _ | refine blk_drew ?_ | refine blk_alloc ?_ _)); refine blk_put (cs := #[.int .i64 0, .int .i64 0, .string (⟨#[]⟩ : ByteArray)]) ?_ 0 _ rfl; (with_reducible repeat (first | refine blk_drewN ?_ _ | refine blk_drew ?_ | refine blk_alloc ?_ _)); exact BK240.out⟩, ⟨by repeat (first | (with_reducible first | exact HB.out | apply bal | apply bdN | apply bdr | refine bS ?_ GE240.out) | exact HB.out)⟩⟩
           ·rw [if_neg c10] at H
            have c10b0 : (((rY ((rX l0 x3_1).f0) x4_2).f0) == 3) = false := beq_eq_false_iff_ne.mpr c10
            have c10b1 : (((rY ((rX l0 x3_1).f0) x4_2).f0) != 3) = true := bne_iff_ne.mpr c10
            (first | rw [c10b0] | (simp only [i64_w, i32_w]; rw [c10b0]) | skip)
            have H' := Az.mk H
            clear H
            have hcz12_0 : w8.cell? ⟨gb240, 0, none⟩ = some (.int .i64 0) := (bC BK240.out 0).trans rfl
            have hcz12_1 : w8.cell? ⟨gb240, 1, none⟩ = some (.int .i64 0) := (bC BK240.out 1).trans rfl
            have hcz12_2 : w8.cell? ⟨gb240, 2, none⟩ = some (.string (⟨#[]⟩ : ByteArray)) := (bC BK240.out 2).trans rfl
            have hfz12_0 := bF BK240.out 0
            have hfz12_1 := bF BK240.out 1
            have hfz12_2 := bF BK240.out 2
            go_wp2
            go_meet
            case rel => exact ⟨_, ((((rY ((rX l0 x3_1).f0) x4_2).f0) == 5)), (by first | rfl | (simp; done) | (simp [*]; done)), H', ⟨by have := HK1.out; have := HK2.out; first | omega | exact Nat.le_refl _⟩, ⟨by (with_reducible repeat (first | refine blk_drewN ?_ _ | refine blk_drew ?_ | refine blk_alloc ?_ _)); refine blk_put (cs := #[.int .i64 ((rY ((rX l0 x3_1).f0) x4_2).f0), .int .i64 ((rY ((rX l0 x3_1).f0) x4_2).f1), .string (⟨#[]⟩ : ByteArray)]) ?_ 2 _ rfl; (with_reducible repeat (first | refine blk_drewN ?_ _ | refine blk_drew ?_ | refine blk_alloc ?_ _)); refine blk_put (cs := #[.int .i64 ((rY ((rX l0 x3_1).f0) x4_2).f0), .int .i64 0, .string (⟨#[]⟩ : ByteArray)]) ?_ 1 _ rfl; (with_reducible repeat (first | refine blk_drewN ?_ _ | refine blk_drew ?_ | refine blk_alloc ?_ _)); refine blk_put (cs := #[.int .i64 0, .int .i64 0, .string (⟨#[]⟩ : ByteArray)]) ?_ 0 _ rfl; (with_reducible repeat (first | refine blk_drewN ?_ _ | refine blk_drew ?_ | refine blk_alloc ?_ _)); exact BK240.out⟩, ⟨by repeat (first | (with_reducible first | exact HB.out | apply bal | apply bdN | apply bdr | refine bS ?_ GE240.out) | exact HB.out)⟩⟩
          case rest =>
           clear HC7
           try clear c1
           try clear c2
           try clear c2b0
           try clear p2
           try clear q2
           try clear hx2
           try clear c3
           try clear c3b0
           try clear c4
           try clear c4b0
           try clear c5
           try clear c5b0
           try clear c6
           try clear c6b0
           try clear p6
           try clear c10
           try clear c10b0
           try clear c10b1
           try clear hcz11_0
           try clear hcz11_1
           try clear hcz11_2
           try clear hcz12_0
           try clear hcz12_1
           try clear hcz12_2
           try clear hcz9_0
           try clear hcz9_1
           try clear hcz9_2
           try clear hfz11_0
           try clear hfz11_1
           try clear hfz11_2
           try clear hfz12_0
           try clear hfz12_1
           try clear hfz12_2
           try clear hfz9_0
           try clear hfz9_1
           try clear hfz9_2
           try clear hx236_0
           try clear hx238_0
           try clear hx239_0
           try clear hx239_1
           try clear hx239_2
           try clear p2
           try clear p236
           try clear p238
           try clear p239
           try clear q236
           try clear q238
           try clear q239
           obtain ⟨kq, x43_6, rfl, HA, HJ6, BK240, HB⟩ := hcut
           cases kq with
           | zero => exact absurd HA.out (by simp [spec_validMods.j2])
           | succ kj6 =>
            have H := HA.out
            clear HA
            simp only [spec_validMods.j2] at H
            have HC13 := Az.mk H
            clear H
            go_upto_if 43 with (fail)
            go_cut [7] (fun v7 wc => ∃ (kq : Nat) (x7_12 : Int), v7 = .int .i64 x7_12 ∧ Az (spec_validMods.j3 kq l0 x3_1 x4_2 0 x7_12 ((rY ((rX l0 x3_1).f0) x4_2).f0) ((rY ((rX l0 x3_1).f0) x4_2).f1) ((rY ((rX l0 x3_1).f0) x4_2).f2) = some r) ∧ Az (kq ≤ kj6) ∧ Az (wc.heap[gb240]? = some (.cells #[.int .i64 ((rY ((rX l0 x3_1).f0) x4_2).f0), .int .i64 ((rY ((rX l0 x3_1).f0) x4_2).f1), .string ((rY ((rX l0 x3_1).f0) x4_2).f2)] 74 (0, 0))) ∧ Az (Below w.heap.size w wc))
            case first =>
             have H := HC13.out
             clear HC13
             by_cases c14 : x43_6 = true
             ·subst c14
              have H1 : (spec_validMods.j3 kj6 l0 x3_1 x4_2 0 1000000 ((rY ((rX l0 x3_1).f0) x4_2).f0) ((rY ((rX l0 x3_1).f0) x4_2).f1) ((rY ((rX l0 x3_1).f0) x4_2).f2)) = some r := by rw [if_pos rfl] at H; exact H
              clear H
              have H := H1
              clear H1
              have H' := Az.mk H
              clear H
              go_wp2
              go_meet
              case rel => exact ⟨_, (1000000), (by first | rfl | (simp; done) | (simp [*]; done)), H', ⟨by have := HK1.out; have := HK2.out; have := HJ6.out; first | omega | exact Nat.le_refl _⟩, ⟨by (with_reducible repeat (first | refine blk_drewN ?_ _ | refine blk_drew ?_ | refine blk_alloc ?_ _)); exact BK240.out⟩, ⟨by repeat (first | (with_reducible first | exact HB.out | apply bal | apply bdN | apply bdr | refine bS ?_ GE240.out) | exact HB.out)⟩⟩
             ·replace c14 := Bool.eq_false_iff.mpr c14
              subst c14
              have H1 : (spec_validMods.j3 kj6 l0 x3_1 x4_2 0 (wrap64 ((l0.length : Int) - 1)) ((rY ((rX l0 x3_1).f0) x4_2).f0) ((rY ((rX l0 x3_1).f0) x4_2).f1) ((rY ((rX l0 x3_1).f0) x4_2).f2)) = some r := by rw [if_neg (show ¬ (false = true) by decide)] at H; exact H
              clear H
              have H := H1
              clear H1
              have H' := Az.mk H
              clear H
              go_wp2
              go_meet
              case rel => exact ⟨_, ((wrap64 ((l0.length : Int) - 1))), (by first | rfl | (simp; done) | (simp [*]; done)), H', ⟨by have := HK1.out; have := HK2.out; have := HJ6.out; first | omega | exact Nat.le_refl _⟩, ⟨by (with_reducible repeat (first | refine blk_drewN ?_ _ | refine blk_drew ?_ | refine blk_alloc ?_ _)); exact BK240.out⟩, ⟨by repeat (first | (with_reducible first | exact HB.out | apply bal | apply bdN | apply bdr | refine bS ?_ GE240.out) | exact HB.out)⟩⟩
            case rest =>
             clear HC13
             try clear c1
             try clear c2
             try clear c2b0
             try clear p2
             try clear q2
             try clear hx2
             try clear c3
             try clear c3b0
             try clear c4
             try clear c4b0
             try clear c5
             try clear c5b0
             try clear c6
             try clear c6b0
             try clear p6
             try clear c10
             try clear c10b0
             try clear c10b1
             try clear c14
             try clear hcz11_0
             try clear hcz11_1
             try clear hcz11_2
             try clear hcz12_0
             try clear hcz12_1
             try clear hcz12_2
             try clear hcz9_0
             try clear hcz9_1
             try clear hcz9_2
             try clear hfz11_0
             try clear hfz11_1
             try clear hfz11_2
             try clear hfz12_0
             try clear hfz12_1
             try clear hfz12_2
             try clear hfz9_0
             try clear hfz9_1
             try clear hfz9_2
             try clear hx236_0
             try clear hx238_0
             try clear hx239_0
             try clear hx239_1
             try clear hx239_2
             try clear p2
             try clear p236
             try clear p238
             try clear p239
             try clear p6
             try clear q2
             try clear q236
             try clear q238
             try clear q239
             obtain ⟨kq, x7_12, rfl, HA, HJ12, BK240, HB⟩ := hcut
             cases kq with
             | zero => exact absurd HA.out (by simp [spec_validMods.j3])
             | succ kj12 =>
              have H := HA.out
              clear HA
              simp only [spec_validMods.j3] at H
              have HC15 := Az.mk H
              clear H
              go_upto_region 12 with (fail)
              go_cut [8] (fun v8 wc => ∃ (kq : Nat) (x8_14 : Bool), v8 = .bool x8_14 ∧ Az (spec_validMods.j4 kq l0 x3_1 x4_2 0 x7_12 x8_14 ((rY ((rX l0 x3_1).f0) x4_2).f0) ((rY ((rX l0 x3_1).f0) x4_2).f1) ((rY ((rX l0 x3_1).f0) x4_2).f2) = some r) ∧ Az (kq ≤ kj12) ∧ Az (wc.heap[gb240]? = some (.cells #[.int .i64 ((rY ((rX l0 x3_1).f0) x4_2).f0), .int .i64 ((rY ((rX l0 x3_1).f0) x4_2).f1), .string ((rY ((rX l0 x3_1).f0) x4_2).f2)] 74 (0, 0))) ∧ Az (Below w.heap.size w wc))
              case first =>
               have H := HC15.out
               clear HC15
               by_cases c16 : ((rY ((rX l0 x3_1).f0) x4_2).f0) = 3
               ·rw [if_pos c16] at H
                have c16b0 : (((rY ((rX l0 x3_1).f0) x4_2).f0) == 3) = true := beq_iff_eq.mpr c16
                have c16b1 : (((rY ((rX l0 x3_1).f0) x4_2).f0) != 3) = false := bne_eq_false_iff_eq.mpr c16
                clear c16
                (first | rw [c16b0] | (simp only [i64_w, i32_w]; rw [c16b0]) | skip)
                have H' := Az.mk H
                clear H
                have hcz17_0 : wc.cell? ⟨gb240, 0, none⟩ = some (.int .i64 ((rY ((rX l0 x3_1).f0) x4_2).f0)) := (bC BK240.out 0).trans rfl
                have hcz17_1 : wc.cell? ⟨gb240, 1, none⟩ = some (.int .i64 ((rY ((rX l0 x3_1).f0) x4_2).f1)) := (bC BK240.out 1).trans rfl
                have hcz17_2 : wc.cell? ⟨gb240, 2, none⟩ = some (.string ((rY ((rX l0 x3_1).f0) x4_2).f2)) := (bC BK240.out 2).trans rfl
                have hfz17_0 := bF BK240.out 0
                have hfz17_1 := bF BK240.out 1
                have hfz17_2 := bF BK240.out 2
                go_wp2
                go_meet
                case rel => exact ⟨_, (true), (by first | rfl | (simp; done) | (simp [*]; done)), H', ⟨by have := HK1.out; have := HK2.out; have := HJ6.out; have := HJ12.out; first | omega | exact Nat.le_refl _⟩, ⟨by (with_reducible repeat (first | refine blk_drewN ?_ _ | refine blk_drew ?_ | refine blk_alloc ?_ _)); exact BK240.out⟩, ⟨by repeat (first | (with_reducible first | exact HB.out | apply bal | apply bdN | apply bdr | refine bS ?_ GE240.out) | exact HB.out)⟩⟩
               ·rw [if_neg c16] at H
                have c16b0 : (((rY ((rX l0 x3_1).f0) x4_2).f0) == 3) = false := beq_eq_false_iff_ne.mpr c16
                have c16b1 : (((rY ((rX l0 x3_1).f0) x4_2).f0) != 3) = true := bne_iff_ne.mpr c16
                (first | rw [c16b0] | (simp only [i64_w, i32_w]; rw [c16b0]) | skip)
                have H' := Az.mk H
                clear H
                have hcz18_0 : wc.cell? ⟨gb240, 0, none⟩ = some (.int .i64 ((rY ((rX l0 x3_1).f0) x4_2).f0)) := (bC BK240.out 0).trans rfl
                have hcz18_1 : wc.cell? ⟨gb240, 1, none⟩ = some (.int .i64 ((rY ((rX l0 x3_1).f0) x4_2).f1)) := (bC BK240.out 1).trans rfl
                have hcz18_2 : wc.cell? ⟨gb240, 2, none⟩ = some (.string ((rY ((rX l0 x3_1).f0) x4_2).f2)) := (bC BK240.out 2).trans rfl
                have hfz18_0 := bF BK240.out 0
                have hfz18_1 := bF BK240.out 1
                have hfz18_2 := bF BK240.out 2
                go_wp2
                go_meet
                case rel => exact ⟨_, ((((rY ((rX l0 x3_1).f0) x4_2).f0) == 4)), (by first | rfl | (simp; done) | (simp [*]; done)), H', ⟨by have := HK1.out; have := HK2.out; have := HJ6.out; have := HJ12.out; first | omega | exact Nat.le_refl _⟩, ⟨by (with_reducible repeat (first | refine blk_drewN ?_ _ | refine blk_drew ?_ | refine blk_alloc ?_ _)); exact BK240.out⟩, ⟨by repeat (first | (with_reducible first | exact HB.out | apply bal | apply bdN | apply bdr | refine bS ?_ GE240.out) | exact HB.out)⟩⟩
              case rest =>
               clear HC15
               try clear c1
               try clear c2
               try clear c2b0
               try clear p2
               try clear q2
               try clear hx2
               try clear c3
               try clear c3b0
               try clear c4
               try clear c4b0
               try clear c5
               try clear c5b0
               try clear c6
               try clear c6b0
               try clear p6
               try clear c10
               try clear c10b0
               try clear c10b1
               try clear c14
               try clear c16
               try clear c16b0
               try clear c16b1
               try clear hcz11_0
               try clear hcz11_1
               try clear hcz11_2
               try clear hcz12_0
               try clear hcz12_1
               try clear hcz12_2
               try clear hcz17_0
               try clear hcz17_1
               try clear hcz17_2
               try clear hcz18_0
               try clear hcz18_1
               try clear hcz18_2
               try clear hcz9_0
               try clear hcz9_1
               try clear hcz9_2
               try clear hfz11_0
               try clear hfz11_1
               try clear hfz11_2
               try clear hfz12_0
               try clear hfz12_1
               try clear hfz12_2
               try clear hfz17_0
               try clear hfz17_1
               try clear hfz17_2
               try clear hfz18_0
               try clear hfz18_1
               try clear hfz18_2
               try clear hfz9_0
               try clear hfz9_1
               try clear hfz9_2
               try clear hx236_0
               try clear hx238_0
               try clear hx239_0
               try clear hx239_1
               try clear hx239_2
               try clear p2
               try clear p236
               try clear p238
               try clear p239
               try clear p6
               try clear q2
               try clear q236
               try clear q238
               try clear q239
               obtain ⟨kq, x8_14, rfl, HA, HJ14, BK240, HB⟩ := hcut
               cases kq with
               | zero => exact absurd HA.out (by simp [spec_validMods.j4])
               | succ kj14 =>
                have H := HA.out
                clear HA
                simp only [spec_validMods.j4] at H
                replace H := Option.bind_eq_some_iff.mp H
                obtain ⟨t241, A190, H⟩ := H
                replace H : (if t241 = true then ((spec_inRange.f ((rY ((rX l0 x3_1).f0) x4_2).f1) 0 x7_12).bind fun t242 => (if t242 = true then (if (x8_14 != (((rY ((rX l0 x3_1).f0) x4_2).f2).toList != ([] : List UInt8))) = true then (some false) else (if x8_14 = true then ((spec_validName.f kj14 ((rY ((rX l0 x3_1).f0) x4_2).f2)).bind fun t243 => (if t243 = true then (spec_validMods.l1 kj14 l0 x3_1 (wrap64 (x4_2 + 1))) else (some false))) else (spec_validMods.l1 kj14 l0 x3_1 (wrap64 (x4_2 + 1))))) else (some false))) else (some false)) = some r := H
                have A19 := Az.mk A190
                clear A190
                by_cases c20 : t241 = true
                ·subst c20
                 have H1 : ((spec_inRange.f ((rY ((rX l0 x3_1).f0) x4_2).f1) 0 x7_12).bind fun t242 => (if t242 = true then (if (x8_14 != (((rY ((rX l0 x3_1).f0) x4_2).f2).toList != ([] : List UInt8))) = true then (some false) else (if x8_14 = true then ((spec_validName.f kj14 ((rY ((rX l0 x3_1).f0) x4_2).f2)).bind fun t243 => (if t243 = true then (spec_validMods.l1 kj14 l0 x3_1 (wrap64 (x4_2 + 1))) else (some false))) else (spec_validMods.l1 kj14 l0 x3_1 (wrap64 (x4_2 + 1))))) else (some false))) = some r := by rw [if_pos rfl] at H; exact H
                 clear H
                 have H := H1
                 clear H1
                 replace H := Option.bind_eq_some_iff.mp H
                 obtain ⟨t242, A210, H⟩ := H
                 replace H : (if t242 = true then (if (x8_14 != (((rY ((rX l0 x3_1).f0) x4_2).f2).toList != ([] : List UInt8))) = true then (some false) else (if x8_14 = true then ((spec_validName.f kj14 ((rY ((rX l0 x3_1).f0) x4_2).f2)).bind fun t243 => (if t243 = true then (spec_validMods.l1 kj14 l0 x3_1 (wrap64 (x4_2 + 1))) else (some false))) else (spec_validMods.l1 kj14 l0 x3_1 (wrap64 (x4_2 + 1))))) else (some false)) = some r := H
                 have A21 := Az.mk A210
                 clear A210
                 by_cases c22 : t242 = true
                 ·subst c22
                  have H1 : (if (x8_14 != (((rY ((rX l0 x3_1).f0) x4_2).f2).toList != ([] : List UInt8))) = true then (some false) else (if x8_14 = true then ((spec_validName.f kj14 ((rY ((rX l0 x3_1).f0) x4_2).f2)).bind fun t243 => (if t243 = true then (spec_validMods.l1 kj14 l0 x3_1 (wrap64 (x4_2 + 1))) else (some false))) else (spec_validMods.l1 kj14 l0 x3_1 (wrap64 (x4_2 + 1))))) = some r := by rw [if_pos rfl] at H; exact H
                  clear H
                  have H := H1
                  clear H1
                  by_cases c23 : (x8_14 != (((rY ((rX l0 x3_1).f0) x4_2).f2).toList != ([] : List UInt8))) = true
                  ·rw [if_pos c23] at H
                   have c23b0 : (x8_14 != (((rY ((rX l0 x3_1).f0) x4_2).f2).toList != ([] : List UInt8))) = true := c23
                   have c23b9 := bne_empty_t c23
                   (try (have c23b1 : decide (x8_14 = (((rY ((rX l0 x3_1).f0) x4_2).f2).toList != ([] : List UInt8))) = false := by simpa using c23))
                   (try (have c23b2 : (x8_14 == (((rY ((rX l0 x3_1).f0) x4_2).f2).toList != ([] : List UInt8))) = false := by simpa using c23))
                   (try (have c23b3 : ¬ (x8_14 = (((rY ((rX l0 x3_1).f0) x4_2).f2).toList != ([] : List UInt8))) := by simpa using c23))
                   clear c23
                   obtain rfl := Option.some.inj H
                   have hcz24_0 : wc.cell? ⟨gb240, 0, none⟩ = some (.int .i64 ((rY ((rX l0 x3_1).f0) x4_2).f0)) := (bC BK240.out 0).trans rfl
                   have hcz24_1 : wc.cell? ⟨gb240, 1, none⟩ = some (.int .i64 ((rY ((rX l0 x3_1).f0) x4_2).f1)) := (bC BK240.out 1).trans rfl
                   have hcz24_2 : wc.cell? ⟨gb240, 2, none⟩ = some (.string ((rY ((rX l0 x3_1).f0) x4_2).f2)) := (bC BK240.out 2).trans rfl
                   have hfz24_0 := bF BK240.out 0
                   have hfz24_1 := bF BK240.out 1
                   have hfz24_2 := bF BK240.out 2
                   go_wp2_with (first | ((with_reducible refine gate_callee (f := 54) rfl ?_); refine goesL_ (some 54) rfl rfl Try.func54 (by kernel_rfl) rfl #[.int .i64 ((rY ((rX l0 x3_1).f0) x4_2).f0), .int .i64 1, .int .i64 5] rfl (by (try simp only [List.map_toArray, List.map_cons, List.map_nil]); first | done | rfl | (simp only [List.length_drop, List.length_take]; rfl)) ?_; (with_reducible refine (spec_inRange.calls ((rY ((rX l0 x3_1).f0) x4_2).f0) 1 5 true _ A19.out).mono ?_); rintro e w' ⟨rfl, ⟨nd, rfl⟩⟩; refine ⟨_, rfl, ?_⟩) | (go_at_call 54; (with_reducible refine (spec_inRange.calls ((rY ((rX l0 x3_1).f0) x4_2).f1) 0 x7_12 true _ A21.out).mono ?_); rintro e w' ⟨rfl, ⟨nd, rfl⟩⟩))
                   go_ret
                   exact ⟨by first | rfl | (simp [errW_none, errW_some] <;> rfl) | (simp [*, errW_none, errW_some] <;> rfl), by repeat (first | (with_reducible first | exact HB.out | apply bal | apply bdN | apply bdr | refine bS ?_ GE240.out) | exact HB.out)⟩
                  ·rw [if_neg c23] at H
                   have c23b0 : (x8_14 != (((rY ((rX l0 x3_1).f0) x4_2).f2).toList != ([] : List UInt8))) = false := by simpa using c23
                   have c23b9 := bne_empty_f c23
                   (try (have c23b1 : decide (x8_14 = (((rY ((rX l0 x3_1).f0) x4_2).f2).toList != ([] : List UInt8))) = true := by simpa using c23))
                   (try (have c23b2 : (x8_14 == (((rY ((rX l0 x3_1).f0) x4_2).f2).toList != ([] : List UInt8))) = true := by simpa using c23))
                   clear c23
                   by_cases c25 : x8_14 = true
                   ·subst c25
                    obtain ⟨c25e1, c25e2⟩ := ne_of_true c23b9
                    have H1 : ((spec_validName.f kj14 ((rY ((rX l0 x3_1).f0) x4_2).f2)).bind fun t243 => (if t243 = true then (spec_validMods.l1 kj14 l0 x3_1 (wrap64 (x4_2 + 1))) else (some false))) = some r := by rw [if_pos rfl] at H; exact H
                    clear H
                    have H := H1
                    clear H1
                    replace H := Option.bind_eq_some_iff.mp H
                    obtain ⟨t243, A260, H⟩ := H
                    replace H : (if t243 = true then (spec_validMods.l1 kj14 l0 x3_1 (wrap64 (x4_2 + 1))) else (some false)) = some r := H
                    have A26 := Az.mk A260
                    clear A260
                    by_cases c27 : t243 = true
                    ·subst c27
                     have H1 : (spec_validMods.l1 kj14 l0 x3_1 (wrap64 (x4_2 + 1))) = some r := by rw [if_pos rfl] at H; exact H
                     clear H
                     have H := H1
                     clear H1
                     have H' := Az.mk H
                     clear H
                     have hcz28_0 : wc.cell? ⟨gb240, 0, none⟩ = some (.int .i64 ((rY ((rX l0 x3_1).f0) x4_2).f0)) := (bC BK240.out 0).trans rfl
                     have hcz28_1 : wc.cell? ⟨gb240, 1, none⟩ = some (.int .i64 ((rY ((rX l0 x3_1).f0) x4_2).f1)) := (bC BK240.out 1).trans rfl
                     have hcz28_2 : wc.cell? ⟨gb240, 2, none⟩ = some (.string ((rY ((rX l0 x3_1).f0) x4_2).f2)) := (bC BK240.out 2).trans rfl
                     have hfz28_0 := bF BK240.out 0
                     have hfz28_1 := bF BK240.out 1
                     have hfz28_2 := bF BK240.out 2
                     go_wp2_with (first | ((with_reducible refine gate_callee (f := 54) rfl ?_); refine goesL_ (some 54) rfl rfl Try.func54 (by kernel_rfl) rfl #[.int .i64 ((rY ((rX l0 x3_1).f0) x4_2).f0), .int .i64 1, .int .i64 5] rfl (by (try simp only [List.map_toArray, List.map_cons, List.map_nil]); first | done | rfl | (simp only [List.length_drop, List.length_take]; rfl)) ?_; (with_reducible refine (spec_inRange.calls ((rY ((rX l0 x3_1).f0) x4_2).f0) 1 5 true _ A19.out).mono ?_); rintro e w' ⟨rfl, ⟨nd, rfl⟩⟩; refine ⟨_, rfl, ?_⟩) | (go_at_call 54; (with_reducible refine (spec_inRange.calls ((rY ((rX l0 x3_1).f0) x4_2).f1) 0 x7_12 true _ A21.out).mono ?_); rintro e w' ⟨rfl, ⟨nd, rfl⟩⟩) | (go_at_call 100; (with_reducible refine (spec_validName.calls kj14 ((rY ((rX l0 x3_1).f0) x4_2).f2) true _ A26.out).mono ?_); rintro e w29 ⟨rfl, hb⟩; have n0_ := Az.mk (blk_below (g := gb240) (o := .cells #[.int .i64 ((rY ((rX l0 x3_1).f0) x4_2).f0), .int .i64 ((rY ((rX l0 x3_1).f0) x4_2).f1), .string ((rY ((rX l0 x3_1).f0) x4_2).f2)] 74 (0, 0)) (by (with_reducible repeat (first | refine blk_drewN ?_ _ | refine blk_drew ?_ | refine blk_alloc ?_ _)); exact BK240.out) hb); have n1_ := Az.mk (below_step (by repeat (first | (with_reducible first | exact HB.out | apply bal | apply bdN | apply bdr | refine bS ?_ GE240.out) | exact HB.out)) hb); clear BK240; clear HB; have BK240 := n0_; have HB := n1_; clear n0_ n1_; (try clear hb); (try clear hb2); (try clear hk); (try clear hi)))
                     go_roundg kj14
                     case measure => have := HK1.out; have := HK2.out; have := HJ6.out; have := HJ12.out; have := HJ14.out; omega
                     case rel => exact ⟨(wrap64 (x4_2 + 1)), (by first | rfl | (simp; done) | (simp [*]; done)), H', ⟨by have := HK1.out; have := HK2.out; have := HJ6.out; have := HJ12.out; have := HJ14.out; omega⟩, ⟨by repeat (first | (with_reducible first | exact HB.out | apply bal | apply bdN | apply bdr | refine bS ?_ GE240.out) | exact HB.out)⟩⟩
                    ·replace c27 := Bool.eq_false_iff.mpr c27
                     subst c27
                     have H1 : (some false) = some r := by rw [if_neg (show ¬ (false = true) by decide)] at H; exact H
                     clear H
                     have H := H1
                     clear H1
                     obtain rfl := Option.some.inj H
                     have hcz30_0 : wc.cell? ⟨gb240, 0, none⟩ = some (.int .i64 ((rY ((rX l0 x3_1).f0) x4_2).f0)) := (bC BK240.out 0).trans rfl
                     have hcz30_1 : wc.cell? ⟨gb240, 1, none⟩ = some (.int .i64 ((rY ((rX l0 x3_1).f0) x4_2).f1)) := (bC BK240.out 1).trans rfl
                     have hcz30_2 : wc.cell? ⟨gb240, 2, none⟩ = some (.string ((rY ((rX l0 x3_1).f0) x4_2).f2)) := (bC BK240.out 2).trans rfl
                     have hfz30_0 := bF BK240.out 0
                     have hfz30_1 := bF BK240.out 1
                     have hfz30_2 := bF BK240.out 2
                     go_wp2_with (first | ((with_reducible refine gate_callee (f := 54) rfl ?_); refine goesL_ (some 54) rfl rfl Try.func54 (by kernel_rfl) rfl #[.int .i64 ((rY ((rX l0 x3_1).f0) x4_2).f0), .int .i64 1, .int .i64 5] rfl (by (try simp only [List.map_toArray, List.map_cons, List.map_nil]); first | done | rfl | (simp only [List.length_drop, List.length_take]; rfl)) ?_; (with_reducible refine (spec_inRange.calls ((rY ((rX l0 x3_1).f0) x4_2).f0) 1 5 true _ A19.out).mono ?_); rintro e w' ⟨rfl, ⟨nd, rfl⟩⟩; refine ⟨_, rfl, ?_⟩) | (go_at_call 54; (with_reducible refine (spec_inRange.calls ((rY ((rX l0 x3_1).f0) x4_2).f1) 0 x7_12 true _ A21.out).mono ?_); rintro e w' ⟨rfl, ⟨nd, rfl⟩⟩) | (go_at_call 100; (with_reducible refine (spec_validName.calls kj14 ((rY ((rX l0 x3_1).f0) x4_2).f2) false _ A26.out).mono ?_); rintro e w31 ⟨rfl, hb⟩; have n0_ := Az.mk (blk_below (g := gb240) (o := .cells #[.int .i64 ((rY ((rX l0 x3_1).f0) x4_2).f0), .int .i64 ((rY ((rX l0 x3_1).f0) x4_2).f1), .string ((rY ((rX l0 x3_1).f0) x4_2).f2)] 74 (0, 0)) (by (with_reducible repeat (first | refine blk_drewN ?_ _ | refine blk_drew ?_ | refine blk_alloc ?_ _)); exact BK240.out) hb); have n1_ := Az.mk (below_step (by repeat (first | (with_reducible first | exact HB.out | apply bal | apply bdN | apply bdr | refine bS ?_ GE240.out) | exact HB.out)) hb); clear BK240; clear HB; have BK240 := n0_; have HB := n1_; clear n0_ n1_; (try clear hb); (try clear hb2); (try clear hk); (try clear hi)))
                     go_ret
                     exact ⟨by first | rfl | (simp [errW_none, errW_some] <;> rfl) | (simp [*, errW_none, errW_some] <;> rfl), by repeat (first | (with_reducible first | exact HB.out | apply bal | apply bdN | apply bdr | refine bS ?_ GE240.out) | exact HB.out)⟩
                   ·replace c25 := Bool.eq_false_iff.mpr c25
                    subst c25
                    obtain ⟨c25e1, c25e2⟩ := eq_of_false c23b9
                    have H1 : (spec_validMods.l1 kj14 l0 x3_1 (wrap64 (x4_2 + 1))) = some r := by rw [if_neg (show ¬ (false = true) by decide)] at H; exact H
                    clear H
                    have H := H1
                    clear H1
                    have H' := Az.mk H
                    clear H
                    have hcz32_0 : wc.cell? ⟨gb240, 0, none⟩ = some (.int .i64 ((rY ((rX l0 x3_1).f0) x4_2).f0)) := (bC BK240.out 0).trans rfl
                    have hcz32_1 : wc.cell? ⟨gb240, 1, none⟩ = some (.int .i64 ((rY ((rX l0 x3_1).f0) x4_2).f1)) := (bC BK240.out 1).trans rfl
                    have hcz32_2 : wc.cell? ⟨gb240, 2, none⟩ = some (.string ((rY ((rX l0 x3_1).f0) x4_2).f2)) := (bC BK240.out 2).trans rfl
                    have hfz32_0 := bF BK240.out 0
                    have hfz32_1 := bF BK240.out 1
                    have hfz32_2 := bF BK240.out 2
                    go_wp2_with (first | ((with_reducible refine gate_callee (f := 54) rfl ?_); refine goesL_ (some 54) rfl rfl Try.func54 (by kernel_rfl) rfl #[.int .i64 ((rY ((rX l0 x3_1).f0) x4_2).f0), .int .i64 1, .int .i64 5] rfl (by (try simp only [List.map_toArray, List.map_cons, List.map_nil]); first | done | rfl | (simp only [List.length_drop, List.length_take]; rfl)) ?_; (with_reducible refine (spec_inRange.calls ((rY ((rX l0 x3_1).f0) x4_2).f0) 1 5 true _ A19.out).mono ?_); rintro e w' ⟨rfl, ⟨nd, rfl⟩⟩; refine ⟨_, rfl, ?_⟩) | (go_at_call 54; (with_reducible refine (spec_inRange.calls ((rY ((rX l0 x3_1).f0) x4_2).f1) 0 x7_12 true _ A21.out).mono ?_); rintro e w' ⟨rfl, ⟨nd, rfl⟩⟩))
                    go_roundg kj14
                    case measure => have := HK1.out; have := HK2.out; have := HJ6.out; have := HJ12.out; have := HJ14.out; omega
                    case rel => exact ⟨(wrap64 (x4_2 + 1)), (by first | rfl | (simp; done) | (simp [*]; done)), H', ⟨by have := HK1.out; have := HK2.out; have := HJ6.out; have := HJ12.out; have := HJ14.out; omega⟩, ⟨by repeat (first | (with_reducible first | exact HB.out | apply bal | apply bdN | apply bdr | refine bS ?_ GE240.out) | exact HB.out)⟩⟩
                 ·replace c22 := Bool.eq_false_iff.mpr c22
                  subst c22
                  have H1 : (some false) = some r := by rw [if_neg (show ¬ (false = true) by decide)] at H; exact H
                  clear H
                  have H := H1
                  clear H1
                  obtain rfl := Option.some.inj H
                  have hcz33_0 : wc.cell? ⟨gb240, 0, none⟩ = some (.int .i64 ((rY ((rX l0 x3_1).f0) x4_2).f0)) := (bC BK240.out 0).trans rfl
                  have hcz33_1 : wc.cell? ⟨gb240, 1, none⟩ = some (.int .i64 ((rY ((rX l0 x3_1).f0) x4_2).f1)) := (bC BK240.out 1).trans rfl
                  have hcz33_2 : wc.cell? ⟨gb240, 2, none⟩ = some (.string ((rY ((rX l0 x3_1).f0) x4_2).f2)) := (bC BK240.out 2).trans rfl
                  have hfz33_0 := bF BK240.out 0
                  have hfz33_1 := bF BK240.out 1
                  have hfz33_2 := bF BK240.out 2
                  go_wp2_with (first | ((with_reducible refine gate_callee (f := 54) rfl ?_); refine goesL_ (some 54) rfl rfl Try.func54 (by kernel_rfl) rfl #[.int .i64 ((rY ((rX l0 x3_1).f0) x4_2).f0), .int .i64 1, .int .i64 5] rfl (by (try simp only [List.map_toArray, List.map_cons, List.map_nil]); first | done | rfl | (simp only [List.length_drop, List.length_take]; rfl)) ?_; (with_reducible refine (spec_inRange.calls ((rY ((rX l0 x3_1).f0) x4_2).f0) 1 5 true _ A19.out).mono ?_); rintro e w' ⟨rfl, ⟨nd, rfl⟩⟩; refine ⟨_, rfl, ?_⟩) | (go_at_call 54; (with_reducible refine (spec_inRange.calls ((rY ((rX l0 x3_1).f0) x4_2).f1) 0 x7_12 false _ A21.out).mono ?_); rintro e w' ⟨rfl, ⟨nd, rfl⟩⟩))
                  go_ret
                  exact ⟨by first | rfl | (simp [errW_none, errW_some] <;> rfl) | (simp [*, errW_none, errW_some] <;> rfl), by repeat (first | (with_reducible first | exact HB.out | apply bal | apply bdN | apply bdr | refine bS ?_ GE240.out) | exact HB.out)⟩
                ·replace c20 := Bool.eq_false_iff.mpr c20
                 subst c20
                 have H1 : (some false) = some r := by rw [if_neg (show ¬ (false = true) by decide)] at H; exact H
                 clear H
                 have H := H1
                 clear H1
                 obtain rfl := Option.some.inj H
                 have hcz34_0 : wc.cell? ⟨gb240, 0, none⟩ = some (.int .i64 ((rY ((rX l0 x3_1).f0) x4_2).f0)) := (bC BK240.out 0).trans rfl
                 have hcz34_1 : wc.cell? ⟨gb240, 1, none⟩ = some (.int .i64 ((rY ((rX l0 x3_1).f0) x4_2).f1)) := (bC BK240.out 1).trans rfl
                 have hcz34_2 : wc.cell? ⟨gb240, 2, none⟩ = some (.string ((rY ((rX l0 x3_1).f0) x4_2).f2)) := (bC BK240.out 2).trans rfl
                 have hfz34_0 := bF BK240.out 0
                 have hfz34_1 := bF BK240.out 1
                 have hfz34_2 := bF BK240.out 2
                 go_wp2_with (first | ((with_reducible refine gate_callee (f := 54) rfl ?_); refine goesL_ (some 54) rfl rfl Try.func54 (by kernel_rfl) rfl #[.int .i64 ((rY ((rX l0 x3_1).f0) x4_2).f0), .int .i64 1, .int .i64 5] rfl (by (try simp only [List.map_toArray, List.map_cons, List.map_nil]); first | done | rfl | (simp only [List.length_drop, List.length_take]; rfl)) ?_; (with_reducible refine (spec_inRange.calls ((rY ((rX l0 x3_1).f0) x4_2).f0) 1 5 false _ A19.out).mono ?_); rintro e w' ⟨rfl, ⟨nd, rfl⟩⟩; refine ⟨_, rfl, ?_⟩))
                 go_ret
                 exact ⟨by first | rfl | (simp [errW_none, errW_some] <;> rfl) | (simp [*, errW_none, errW_some] <;> rfl), by repeat (first | (with_reducible first | exact HB.out | apply bal | apply bdN | apply bdr | refine bS ?_ GE240.out) | exact HB.out)⟩
         ·rw [if_neg c6] at H
          exact absurd H (by simp)
        ·rw [if_neg c5] at H
         have c5b0 : decide (x4_2 < (((rX l0 x3_1).f0).length : Int)) = false := decide_eq_false c5
         clear c5
         by_cases c35 : (((rX l0 x3_1).f0).length : Int) > 8
         ·rw [if_pos c35] at H
          have c35b0 : decide (8 < (((rX l0 x3_1).f0).length : Int)) = true := decide_eq_true c35
          have c35b1 : decide (8 < ((rX l0 x3_1).f0).length) = true := decide_eq_true (by omega)
          clear c35
          obtain rfl := Option.some.inj H
          have p236 : 0 ≤ (x3_1 : Int) := of_decide_eq_true (by first | (with_reducible assumption) | assumption)
          have q236 : x3_1 < (l0.length : Int) := of_decide_eq_true (by first | (with_reducible assumption) | assumption)
          obtain ⟨ad236, A236_0, c236_0, e236, hx236_0, hl236_0, hi236_0⟩ := at_T72 HR0.out x3_1 p236 q236
          cases e236
          replace hx236_0 := (HB.out.cell (World.block_lt_of_cell? w _ hx236_0)).trans hx236_0
          have HR236_0 := Az.mk hi236_0
          have HC236_0 := Az.mk hl236_0
          clear hi236_0 hl236_0
          replace p236 := eq_true p236
          replace q236 := eq_true q236
          have p237 : 0 ≤ (x3_1 : Int) := of_decide_eq_true (by first | (with_reducible assumption) | assumption)
          have q237 : x3_1 < (l0.length : Int) := of_decide_eq_true (by first | (with_reducible assumption) | assumption)
          obtain ⟨ad237, A237_0, c237_0, e237, hx237_0, hl237_0, hi237_0⟩ := at_T72 HR0.out x3_1 p237 q237
          obtain rfl : ad236 = ad237 := (by injection e237)
          replace hx237_0 := (HB.out.cell (World.block_lt_of_cell? w _ hx237_0)).trans hx237_0
          have HR237_0 := Az.mk hi237_0
          have HC237_0 := Az.mk hl237_0
          clear hi237_0 hl237_0
          replace p237 := eq_true p237
          replace q237 := eq_true q237
          have ea_ := Option.some.inj (hx236_0.symm.trans hx237_0)
          injection ea_ with ea_ en_ ec_
          subst ea_
          subst ec_
          clear en_
          go_wp2
          go_ret
          exact ⟨by first | rfl | (simp [errW_none, errW_some] <;> rfl) | (simp [*, errW_none, errW_some] <;> rfl), by repeat (first | (with_reducible first | exact HB.out | apply bal | apply bdN | apply bdr) | exact HB.out)⟩
         ·rw [if_neg c35] at H
          have c35b0 : decide (8 < (((rX l0 x3_1).f0).length : Int)) = false := decide_eq_false c35
          have c35b1 : decide (8 < ((rX l0 x3_1).f0).length) = false := decide_eq_false (by omega)
          clear c35
          have H' := Az.mk H
          clear H
          have p236 : 0 ≤ (x3_1 : Int) := of_decide_eq_true (by first | (with_reducible assumption) | assumption)
          have q236 : x3_1 < (l0.length : Int) := of_decide_eq_true (by first | (with_reducible assumption) | assumption)
          obtain ⟨ad236, A236_0, c236_0, e236, hx236_0, hl236_0, hi236_0⟩ := at_T72 HR0.out x3_1 p236 q236
          cases e236
          replace hx236_0 := (HB.out.cell (World.block_lt_of_cell? w _ hx236_0)).trans hx236_0
          have HR236_0 := Az.mk hi236_0
          have HC236_0 := Az.mk hl236_0
          clear hi236_0 hl236_0
          replace p236 := eq_true p236
          replace q236 := eq_true q236
          have p237 : 0 ≤ (x3_1 : Int) := of_decide_eq_true (by first | (with_reducible assumption) | assumption)
          have q237 : x3_1 < (l0.length : Int) := of_decide_eq_true (by first | (with_reducible assumption) | assumption)
          obtain ⟨ad237, A237_0, c237_0, e237, hx237_0, hl237_0, hi237_0⟩ := at_T72 HR0.out x3_1 p237 q237
          obtain rfl : ad236 = ad237 := (by injection e237)
          replace hx237_0 := (HB.out.cell (World.block_lt_of_cell? w _ hx237_0)).trans hx237_0
          have HR237_0 := Az.mk hi237_0
          have HC237_0 := Az.mk hl237_0
          clear hi237_0 hl237_0
          replace p237 := eq_true p237
          replace q237 := eq_true q237
          have ea_ := Option.some.inj (hx236_0.symm.trans hx237_0)
          injection ea_ with ea_ en_ ec_
          subst ea_
          subst ec_
          clear en_
          go_wp2
          go_roundg k2
          case measure => have := HK1.out; have := HK2.out; omega
          case rel => exact ⟨(wrap64 (x3_1 + 1)), (by first | rfl | (simp; done) | (simp [*]; done)), H', ⟨by have := HK1.out; have := HK2.out; omega⟩, ⟨by repeat (first | (with_reducible first | exact HB.out | apply bal | apply bdN | apply bdr) | exact HB.out)⟩⟩
       ·rw [if_neg c4] at H
        exact absurd H (by simp)
      ·rw [if_neg c3] at H
       exact absurd H (by simp)
   ·rw [if_neg c2] at H
    have c2b0 : decide (x3_1 < (l0.length : Int)) = false := decide_eq_false c2
    clear c2
    replace H := Option.bind_eq_some_iff.mp H
    obtain ⟨t235, A360, H⟩ := H
    replace H : (some t235) = some r := H
    have A36 := Az.mk A360
    clear A360
    obtain rfl := Option.some.inj H
    go_wp2_with (first | ((with_reducible refine gate_callee (f := 54) rfl ?_); refine goesL_ (some 89) rfl rfl Try.func54 (by kernel_rfl) rfl #[.int .i64 (l0.length : Int), .int .i64 1, .int .i64 6] rfl (by (try simp only [List.map_toArray, List.map_cons, List.map_nil]); first | done | rfl | (simp only [List.length_drop, List.length_take]; rfl)) ?_; (with_reducible refine (spec_inRange.calls (l0.length : Int) 1 6 t235 _ A36.out).mono ?_); rintro e w' ⟨rfl, ⟨nd, rfl⟩⟩; refine ⟨_, rfl, ?_⟩))
    go_ret
    exact ⟨by first | rfl | (simp [errW_none, errW_some] <;> rfl) | (simp [*, errW_none, errW_some] <;> rfl), by repeat (first | (with_reducible first | exact HB.out | apply bal | apply bdN | apply bdr) | exact HB.out)⟩
end Go.Proofs.Ytehhhlhedmfdiaa.PFnImportRun
end
section
namespace Go.Proofs.Ytehhhlhedmfdiaa.PFnImportRun
open Go.RowKit Go.Proofs.Yz0.PrintWords Go.Proofs.Yz0.PrintLast Go.Proofs.Yz0.PrintMore
attribute [local go_sem] max2_int min2_int max_two min_two max_three min_three max_four min_four
set_option linter.unusedVariables false
set_option linter.unusedSimpArgs false
theorem isEmpty_bne (l : List UInt8) : (!l.isEmpty) = (l != ([] : List UInt8)) := by
 cases l <;> simp
mutual
def impl_ModsOk.l0 : Nat → List (S72) → List (S72) → Int → Int → Option (Bool)
 | 0, _, _, _, _ => none
 | k + 1, x0, x9, x10, x11 => if x11 < x10 then (if 0 ≤ x11 then (if x11 < (x9.length : Int) then (if (((rX x9 x11).f0).length : Int) > 8 then (some false) else (impl_ModsOk.l1 k x0 x9 x10 x11 ((rX x9 x11).f0) (((rX x9 x11).f0).length : Int) 0)) else (none)) else (none)) else ((impl_within.f (x0.length : Int) 1 6).bind fun t196 => (some t196))
def impl_ModsOk.l1 : Nat → List (S72) → List (S72) → Int → Int → List (S74) → Int → Int → Option (Bool)
 | 0, _, _, _, _, _, _, _ => none
 | k + 1, x0, x9, x10, x11, x20, x21, x22 => if x22 < x21 then (if 0 ≤ x22 then (if x22 < (x20.length : Int) then (if ((rY x20 x22).f0) = 3 then (impl_ModsOk.j2 k x0 true x9 x10 x11 x20 x21 x22 ((rY x20 x22).f0) ((rY x20 x22).f1) ((rY x20 x22).f2)) else (impl_ModsOk.j2 k x0 (((rY x20 x22).f0) == 4) x9 x10 x11 x20 x21 x22 ((rY x20 x22).f0) ((rY x20 x22).f1) ((rY x20 x22).f2))) else (none)) else (none)) else (impl_ModsOk.l0 k x0 x9 x10 (wrap64 (x11 + 1)))
def impl_ModsOk.j2 : Nat → List (S72) → Bool → List (S72) → Int → Int → List (S74) → Int → Int → Int → Int → ByteArray → Option (Bool)
 | 0, _, _, _, _, _, _, _, _, _, _, _ => none
 | k + 1, x0, x7, x9, x10, x11, x20, x21, x22, x201000, x201001, x201002 => if x7 = true then ((impl_NameOk.f k x201002).bind fun t201 => (if t201 = true then (impl_ModsOk.j3 k x0 x9 x10 x11 x20 x21 x22 false x201000 x201001 x201002) else (impl_ModsOk.j3 k x0 x9 x10 x11 x20 x21 x22 true x201000 x201001 x201002))) else (impl_ModsOk.j3 k x0 x9 x10 x11 x20 x21 x22 (x201002.toList != ([] : List UInt8)) x201000 x201001 x201002)
def impl_ModsOk.j3 : Nat → List (S72) → List (S72) → Int → Int → List (S74) → Int → Int → Bool → Int → Int → ByteArray → Option (Bool)
 | 0, _, _, _, _, _, _, _, _, _, _, _ => none
 | k + 1, x0, x9, x10, x11, x20, x21, x22, x49, x201000, x201001, x201002 => if x49 = true then (some false) else (if x201000 = 1 then (impl_ModsOk.j4 k x0 (-1) x9 x10 x11 x20 x21 x22 x201000 (x201000 == 1) x201000 x201001 x201002) else (if x201000 = 2 then (impl_ModsOk.j4 k x0 (-1) x9 x10 x11 x20 x21 x22 x201000 (x201000 == 2) x201000 x201001 x201002) else (impl_ModsOk.j4 k x0 (-1) x9 x10 x11 x20 x21 x22 x201000 (x201000 == 4) x201000 x201001 x201002)))
def impl_ModsOk.j4 : Nat → List (S72) → Int → List (S72) → Int → Int → List (S74) → Int → Int → Int → Bool → Int → Int → ByteArray → Option (Bool)
 | 0, _, _, _, _, _, _, _, _, _, _, _, _, _ => none
 | k + 1, x0, x8, x9, x10, x11, x20, x21, x22, x51, x52, x201000, x201001, x201002 => if x52 = true then ((impl_within.f x201001 0 (wrap64 ((x0.length : Int) - 1))).bind fun t202 => (if t202 = true then (impl_ModsOk.l1 k x0 x9 x10 x11 x20 x21 (wrap64 (x22 + 1))) else (some false))) else (if x51 = 3 then (impl_ModsOk.j5 k x0 x8 x9 x10 x11 x20 x21 x22 (x51 == 3) x201000 x201001 x201002) else (impl_ModsOk.j5 k x0 x8 x9 x10 x11 x20 x21 x22 (x51 == 5) x201000 x201001 x201002))
def impl_ModsOk.j5 : Nat → List (S72) → Int → List (S72) → Int → Int → List (S74) → Int → Int → Bool → Int → Int → ByteArray → Option (Bool)
 | 0, _, _, _, _, _, _, _, _, _, _, _, _ => none
 | k + 1, x0, x8, x9, x10, x11, x20, x21, x22, x59, x201000, x201001, x201002 => if x59 = true then ((impl_within.f x201001 0 1000000).bind fun t203 => (if t203 = true then (impl_ModsOk.l1 k x0 x9 x10 x11 x20 x21 (wrap64 (x22 + 1))) else (some false))) else ((impl_within.f x201001 0 x8).bind fun t204 => (if t204 = true then (impl_ModsOk.l1 k x0 x9 x10 x11 x20 x21 (wrap64 (x22 + 1))) else (some false)))
end
def impl_ModsOk.f (k : Nat) (l0 : List (S72)) : Option (Bool) := impl_ModsOk.l0 k l0 l0 (l0.length : Int) 0
theorem impl_ModsOk.calls (k : Nat) (A0 : Option Addr) (c0 : Nat) (l0 : List (S72)) (r : Bool) (w : World) (hr0 : Kd.C k72 w A0 l0.length l0) (hc0 : l0.length ≤ c0) (h : impl_ModsOk.f k l0 = some r) :
  Calls Try.prog 59 #[.slice A0 l0.length c0] w fun e w' => e = .returned (.bool r) ∧ Below w.heap.size w w' := by
 have hu72 := Try.underlying72
 have hu74 := Try.underlying74
 have HR0 := Az.mk hr0
 have HC0 := Az.mk hc0
 clear hr0 hc0
 have HB := Az.mk (Below.refl w.heap.size w)
 have H : (impl_ModsOk.l0 k l0 l0 (l0.length : Int) 0) = some r := h
 clear h
 have H' := Az.mk H
 clear H
 go_enter Try.func59, Try.ntmps59
 go_wp2
 go_loopg [11] k (fun kq v11 w' => ∃ (x11_1 : Int), v11 = .int .i64 x11_1 ∧ Az (impl_ModsOk.l0 kq l0 l0 (l0.length : Int) x11_1 = some r) ∧ Az (kq ≤ k) ∧ Az (Below w.heap.size w w'))
 case atStart => exact ⟨(0), (by first | rfl | (simp; done) | (simp [*]; done) | exact congrArg Value.bool (isEmpty_bne _)), H', ⟨Nat.le_refl _⟩, ⟨by repeat (first | (with_reducible first | exact HB.out | apply bal | apply bdN | apply bdr) | exact HB.out)⟩⟩
 case round =>
  clear H'
  obtain ⟨x11_1, rfl, HA, HK1, HB⟩ := hrel
  cases gk with
  | zero => exact absurd HA.out (by simp [impl_ModsOk.l0])
  | succ k1 =>
   have H := HA.out
   clear HA
   simp only [impl_ModsOk.l0] at H
   by_cases c2 : x11_1 < (l0.length : Int)
   ·rw [if_pos c2] at H
    have c2b0 : decide (x11_1 < (l0.length : Int)) = true := decide_eq_true c2
    clear c2
    by_cases c3 : 0 ≤ x11_1
    ·rw [if_pos c3] at H
     have c3b0 : decide (0 ≤ x11_1) = true := decide_eq_true c3
     clear c3
     by_cases c4 : x11_1 < (l0.length : Int)
     ·rw [if_pos c4] at H
      have c4b0 : decide (x11_1 < (l0.length : Int)) = true := decide_eq_true c4
      clear c4
      by_cases c5 : (((rX l0 x11_1).f0).length : Int) > 8
      ·rw [if_pos c5] at H
       have c5b0 : decide (8 < (((rX l0 x11_1).f0).length : Int)) = true := decide_eq_true c5
       have c5b1 : decide (8 < ((rX l0 x11_1).f0).length) = true := decide_eq_true (by omega)
       clear c5
       obtain rfl := Option.some.inj H
       have p197 : 0 ≤ (x11_1 : Int) := of_decide_eq_true (by first | (with_reducible assumption) | assumption)
       have q197 : x11_1 < (l0.length : Int) := of_decide_eq_true (by first | (with_reducible assumption) | assumption)
       obtain ⟨ad197, A197_0, c197_0, e197, hx197_0, hl197_0, hi197_0⟩ := at_T72 HR0.out x11_1 p197 q197
       cases e197
       replace hx197_0 := (HB.out.cell (World.block_lt_of_cell? w _ hx197_0)).trans hx197_0
       have HR197_0 := Az.mk hi197_0
       have HC197_0 := Az.mk hl197_0
       clear hi197_0 hl197_0
       replace p197 := eq_true p197
       replace q197 := eq_true q197
       go_wp2_with (first | ((with_reducible refine gate_dst (N := 4) rfl ?_); refine box_event ?hg (N := 4) ?hd (cs := #[.slice none 0 0]) (t := 72) ?hr ?_; (case hd => rfl); (case hg => rfl); (case hr => first | (go_simp; done) | (go_simp; rfl)); intro gb198 hg w6 hbox hb; have n0_ := Az.mk (below_step (by repeat (first | (with_reducible first | exact HB.out | apply bal | apply bdN | apply bdr) | exact HB.out)) hb); have n1_ := Az.mk (hbox); have n2_ := Az.mk ((by rw [hg]; exact (below_size (by repeat (first | (with_reducible first | exact HB.out | apply bal | apply bdN | apply bdr) | exact HB.out))) : w.heap.size ≤ gb198)); have n3_ := Az.mk ((by rw [hg]; exact (below_size (by repeat (first | (with_reducible first | exact HB.out | apply bal | apply bdN | apply bdr) | exact HB.out))) : w.heap.size ≤ gb198)); clear HB; have HB := n0_; have BK198 := n1_; have GW198 := n2_; have GE198 := n3_; clear n0_ n1_ n2_ n3_; clear hb hbox hg; have hcz7_0 : w6.cell? ⟨gb198, 0, none⟩ = some (.slice none 0 0) := (bC BK198.out 0).trans rfl; have hfz7_0 := bF BK198.out 0))
       go_ret
       exact ⟨by first | rfl | (simp [errW_none, errW_some] <;> rfl) | (simp [*, errW_none, errW_some] <;> rfl), by repeat (first | (with_reducible first | exact HB.out | apply bal | apply bdN | apply bdr | refine bS ?_ GE198.out) | exact HB.out)⟩
      ·rw [if_neg c5] at H
       have c5b0 : decide (8 < (((rX l0 x11_1).f0).length : Int)) = false := decide_eq_false c5
       have c5b1 : decide (8 < ((rX l0 x11_1).f0).length) = false := decide_eq_false (by omega)
       clear c5
       have H' := Az.mk H
       clear H
       have p197 : 0 ≤ (x11_1 : Int) := of_decide_eq_true (by first | (with_reducible assumption) | assumption)
       have q197 : x11_1 < (l0.length : Int) := of_decide_eq_true (by first | (with_reducible assumption) | assumption)
       obtain ⟨ad197, A197_0, c197_0, e197, hx197_0, hl197_0, hi197_0⟩ := at_T72 HR0.out x11_1 p197 q197
       cases e197
       replace hx197_0 := (HB.out.cell (World.block_lt_of_cell? w _ hx197_0)).trans hx197_0
       have HR197_0 := Az.mk hi197_0
       have HC197_0 := Az.mk hl197_0
       clear hi197_0 hl197_0
       replace p197 := eq_true p197
       replace q197 := eq_true q197
       go_wp2_with (first | ((with_reducible refine gate_dst (N := 4) rfl ?_); refine box_event ?hg (N := 4) ?hd (cs := #[.slice none 0 0]) (t := 72) ?hr ?_; (case hd => rfl); (case hg => rfl); (case hr => first | (go_simp; done) | (go_simp; rfl)); intro gb198 hg w8 hbox hb; have n0_ := Az.mk (below_step (by repeat (first | (with_reducible first | exact HB.out | apply bal | apply bdN | apply bdr) | exact HB.out)) hb); have n1_ := Az.mk (hbox); have n2_ := Az.mk ((by rw [hg]; exact (below_size (by repeat (first | (with_reducible first | exact HB.out | apply bal | apply bdN | apply bdr) | exact HB.out))) : w.heap.size ≤ gb198)); have n3_ := Az.mk ((by rw [hg]; exact (below_size (by repeat (first | (with_reducible first | exact HB.out | apply bal | apply bdN | apply bdr) | exact HB.out))) : w.heap.size ≤ gb198)); clear HB; have HB := n0_; have BK198 := n1_; have GW198 := n2_; have GE198 := n3_; clear n0_ n1_ n2_ n3_; clear hb hbox hg; have hcz9_0 : w8.cell? ⟨gb198, 0, none⟩ = some (.slice none 0 0) := (bC BK198.out 0).trans rfl; have hfz9_0 := bF BK198.out 0))
       go_loopg [22] k1 (fun kq v22 w' => ∃ (x22_2 : Int), v22 = .int .i64 x22_2 ∧ Az (impl_ModsOk.l1 kq l0 l0 (l0.length : Int) x11_1 ((rX l0 x11_1).f0) (((rX l0 x11_1).f0).length : Int) x22_2 = some r) ∧ Az (kq ≤ k1) ∧ Az (w'.heap[gb198]? = some (.cells #[(.slice A197_0 ((rX l0 x11_1).f0).length c197_0)] 72 (0, 0))) ∧ Az (Below w.heap.size w w'))
       case atStart => exact ⟨(0), (by first | rfl | (simp; done) | (simp [*]; done) | exact congrArg Value.bool (isEmpty_bne _)), H', ⟨Nat.le_refl _⟩, ⟨by (with_reducible repeat (first | refine blk_drewN ?_ _ | refine blk_drew ?_ | refine blk_alloc ?_ _)); refine blk_put (cs := #[.slice none 0 0]) ?_ 0 _ rfl; (with_reducible repeat (first | refine blk_drewN ?_ _ | refine blk_drew ?_ | refine blk_alloc ?_ _)); exact BK198.out⟩, ⟨by repeat (first | (with_reducible first | exact HB.out | apply bal | apply bdN | apply bdr | refine bS ?_ GE198.out) | exact HB.out)⟩⟩
       case round =>
        clear H'
        try clear c1
        try clear p1
        try clear q1
        try clear hx1
        try clear c2
        try clear c2b0
        try clear p2
        try clear c3
        try clear c3b0
        try clear c4
        try clear c4b0
        try clear c5
        try clear c5b0
        try clear c5b1
        try clear hcz7_0
        try clear hcz9_0
        try clear hfz7_0
        try clear hfz9_0
        try clear hx197_0
        try clear p197
        try clear q197
        obtain ⟨x22_2, rfl, HA, HK2, BK198, HB⟩ := hrel
        cases gk with
        | zero => exact absurd HA.out (by simp [impl_ModsOk.l1])
        | succ k2 =>
         have H := HA.out
         clear HA
         simp only [impl_ModsOk.l1] at H
         by_cases c10 : x22_2 < (((rX l0 x11_1).f0).length : Int)
         ·rw [if_pos c10] at H
          have c10b0 : decide (x22_2 < (((rX l0 x11_1).f0).length : Int)) = true := decide_eq_true c10
          clear c10
          by_cases c11 : 0 ≤ x22_2
          ·rw [if_pos c11] at H
           have c11b0 : decide (0 ≤ x22_2) = true := decide_eq_true c11
           clear c11
           by_cases c12 : x22_2 < (((rX l0 x11_1).f0).length : Int)
           ·rw [if_pos c12] at H
            have c12b0 : decide (x22_2 < (((rX l0 x11_1).f0).length : Int)) = true := decide_eq_true c12
            clear c12
            have HC13 := Az.mk H
            clear H
            have p199 : 0 ≤ (x22_2 : Int) := of_decide_eq_true (by first | (with_reducible assumption) | assumption)
            have q199 : x22_2 < (((rX l0 x11_1).f0).length : Int) := of_decide_eq_true (by first | (with_reducible assumption) | assumption)
            obtain ⟨ad199, e199, hx199_0, hx199_1, hx199_2⟩ := at_T74 HR197_0.out x22_2 p199 q199
            cases e199
            replace hx199_0 := (HB.out.cell (World.block_lt_of_cell? w _ hx199_0)).trans hx199_0
            replace hx199_1 := (HB.out.cell (World.block_lt_of_cell? w _ hx199_1)).trans hx199_1
            replace hx199_2 := (HB.out.cell (World.block_lt_of_cell? w _ hx199_2)).trans hx199_2
            replace p199 := eq_true p199
            replace q199 := eq_true q199
            go_upto_region 9 with (first | ((with_reducible refine gate_dst (N := 6) rfl ?_); refine box_event ?hg (N := 6) ?hd (cs := #[.int .i64 0, .int .i64 0, .string (⟨#[]⟩ : ByteArray)]) (t := 74) ?hr ?_; (case hd => rfl); (case hg => rfl); (case hr => first | (go_simp; done) | (go_simp; rfl)); intro gb200 hg w14 hbox hb; have n0_ := Az.mk (blk_below (g := gb198) (o := .cells #[.slice (some ad199) ((rX l0 x11_1).f0).length c197_0] 72 (0, 0)) (by (with_reducible repeat (first | refine blk_drewN ?_ _ | refine blk_drew ?_ | refine blk_alloc ?_ _)); exact BK198.out) hb); have n1_ := Az.mk (below_step (by repeat (first | (with_reducible first | exact HB.out | apply bal | apply bdN | apply bdr | refine bS ?_ GE198.out) | exact HB.out)) hb); have n2_ := Az.mk (hbox); have n3_ := Az.mk ((by rw [hg]; exact (below_size (by repeat (first | (with_reducible first | exact HB.out | apply bal | apply bdN | apply bdr | refine bS ?_ GE198.out) | exact HB.out))) : w.heap.size ≤ gb200)); have n4_ := Az.mk ((by rw [hg]; exact (below_size (by repeat (first | (with_reducible first | exact HB.out | apply bal | apply bdN | apply bdr | refine bS ?_ GE198.out) | exact HB.out))) : w.heap.size ≤ gb200)); have n5_ := Az.mk ((by rw [hg]; exact Nat.ne_of_lt (blk_lt (g := gb198) (o := .cells #[.slice (some ad199) ((rX l0 x11_1).f0).length c197_0] 72 (0, 0)) (by (with_reducible repeat (first | refine blk_drewN ?_ _ | refine blk_drew ?_ | refine blk_alloc ?_ _)); exact BK198.out)) : gb198 ≠ gb200)); have n6_ := Az.mk ((by rw [hg]; exact Nat.ne_of_gt (blk_lt (g := gb198) (o := .cells #[.slice (some ad199) ((rX l0 x11_1).f0).length c197_0] 72 (0, 0)) (by (with_reducible repeat (first | refine blk_drewN ?_ _ | refine blk_drew ?_ | refine blk_alloc ?_ _)); exact BK198.out)) : gb200 ≠ gb198)); clear BK198; clear HB; have BK198 := n0_; have HB := n1_; have BK200 := n2_; have GW200 := n3_; have GE200 := n4_; have NB198_200 := n5_; have NB200_198 := n6_; clear n0_ n1_ n2_ n3_ n4_ n5_ n6_; clear hb hbox hg; have hnb15 := NB200_198.out; have hnc15 := NB198_200.out; have hcz16_0 : w14.cell? ⟨gb200, 0, none⟩ = some (.int .i64 0) := (bC BK200.out 0).trans rfl; have hcz16_1 : w14.cell? ⟨gb200, 1, none⟩ = some (.int .i64 0) := (bC BK200.out 1).trans rfl; have hcz16_2 : w14.cell? ⟨gb200, 2, none⟩ = some (.string (⟨#[]⟩ : ByteArray)) := (bC BK200.out 2).trans rfl; have hfz16_0 := bF BK200.out 0; have hfz16_1 := bF BK200.out 1; have hfz16_2 := bF BK200.out 2))
            (try simp only [Act.put, List.setIfInBounds_toArray, List.set_cons_zero, List.set_cons_succ])
            go_cut [7] (fun v7 wc => ∃ (kq : Nat) (x7_12 : Bool), v7 = .bool x7_12 ∧ Az (impl_ModsOk.j2 kq l0 x7_12 l0 (l0.length : Int) x11_1 ((rX l0 x11_1).f0) (((rX l0 x11_1).f0).length : Int) x22_2 ((rY ((rX l0 x11_1).f0) x22_2).f0) ((rY ((rX l0 x11_1).f0) x22_2).f1) ((rY ((rX l0 x11_1).f0) x22_2).f2) = some r) ∧ Az (kq ≤ k2) ∧ Az (wc.heap[gb198]? = some (.cells #[(.slice (some ad199) ((rX l0 x11_1).f0).length c197_0)] 72 (0, 0))) ∧ Az (wc.heap[gb200]? = some (.cells #[.int .i64 ((rY ((rX l0 x11_1).f0) x22_2).f0), .int .i64 ((rY ((rX l0 x11_1).f0) x22_2).f1), .string ((rY ((rX l0 x11_1).f0) x22_2).f2)] 74 (0, 0))) ∧ Az (Below w.heap.size w wc))
            case first =>
             have H := HC13.out
             clear HC13
             by_cases c17 : ((rY ((rX l0 x11_1).f0) x22_2).f0) = 3
             ·rw [if_pos c17] at H
              have c17b0 : (((rY ((rX l0 x11_1).f0) x22_2).f0) == 3) = true := beq_iff_eq.mpr c17
              have c17b1 : (((rY ((rX l0 x11_1).f0) x22_2).f0) != 3) = false := bne_eq_false_iff_eq.mpr c17
              clear c17
              (first | rw [c17b0] | (simp only [i64_w, i32_w]; rw [c17b0]) | skip)
              have H' := Az.mk H
              clear H
              have hnb18 := NB200_198.out
              have hnc18 := NB198_200.out
              have hcz19_0 : w14.cell? ⟨gb200, 0, none⟩ = some (.int .i64 0) := (bC BK200.out 0).trans rfl
              have hcz19_1 : w14.cell? ⟨gb200, 1, none⟩ = some (.int .i64 0) := (bC BK200.out 1).trans rfl
              have hcz19_2 : w14.cell? ⟨gb200, 2, none⟩ = some (.string (⟨#[]⟩ : ByteArray)) := (bC BK200.out 2).trans rfl
              have hfz19_0 := bF BK200.out 0
              have hfz19_1 := bF BK200.out 1
              have hfz19_2 := bF BK200.out 2
              go_wp2
              go_meet
              case rel => exact ⟨_, (true), (by first | rfl | (simp; done) | (simp [*]; done) | exact congrArg Value.bool (isEmpty_bne _)), H', ⟨by have := HK1.out; have := HK2.out; first | omega | exact Nat.le_refl _⟩, ⟨by (with_reducible repeat (first | refine blk_drewN ?_ _ | refine blk_drew ?_ | refine blk_alloc ?_ _)); refine blk_far ?_ NB198_200.out _; (with_reducible repeat (first | refine blk_drewN ?_ _ | refine blk_drew ?_ | refine blk_alloc ?_ _)); refine blk_far ?_ NB198_200.out _; (with_reducible repeat (first | refine blk_drewN ?_ _ | refine blk_drew ?_ | refine blk_alloc ?_ _)); refine blk_far ?_ NB198_200.out _; (with_reducible repeat (first | refine blk_drewN ?_ _ | refine blk_drew ?_ | refine blk_alloc ?_ _)); exact BK198.out⟩, ⟨by (with_reducible repeat (first | refine blk_drewN ?_ _ | refine blk_drew ?_ | refine blk_alloc ?_ _)); refine blk_put (cs := #[.int .i64 ((rY ((rX l0 x11_1).f0) x22_2).f0), .int .i64 ((rY ((rX l0 x11_1).f0) x22_2).f1), .string (⟨#[]⟩ : ByteArray)]) ?_ 2 _ rfl; (with_reducible repeat (first | refine blk_drewN ?_ _ | refine blk_drew ?_ | refine blk_alloc ?_ _)); refine blk_put (cs := #[.int .i64 ((rY ((rX l0 x11_1).f0) x22_2).f0), .int .i64 0, .string (⟨#[]⟩ : ByteArray)]) ?_ 1 _ rfl; (with_reducible repeat (first | refine blk_drewN ?_ _ | refine blk_drew ?_ | refine blk_alloc ?_ _)); refine blk_put (cs := #[.int .i64 0, .int .i64 0, .string (⟨#[]⟩ : ByteArray)]) ?_ 0 _ rfl; (with_reducible repeat (first | refine blk_drewN ?_ _ | refine blk_drew ?_ | refine blk_alloc ?_ _)); exact BK200.out⟩, ⟨by repeat (first | (with_reducible first | exact HB.out | apply bal | apply bdN | apply bdr | refine bS ?_ GE198.out | refine bS ?_ GE200.out) | exact HB.out)⟩⟩
             ·rw [if_neg c17] at H
              have c17b0 : (((rY ((rX l0 x11_1).f0) x22_2).f0) == 3) = false := beq_eq_false_iff_ne.mpr c17
              have c17b1 : (((rY ((rX l0 x11_1).f0) x22_2).f0) != 3) = true := bne_iff_ne.mpr c17
              (first | rw [c17b0] | (simp only [i64_w, i32_w]; rw [c17b0]) | skip)
              have H' := Az.mk H
              clear H
              have hnb20 := NB200_198.out
              have hnc20 := NB198_200.out
              have hcz21_0 : w14.cell? ⟨gb200, 0, none⟩ = some (.int .i64 0) := (bC BK200.out 0).trans rfl
              have hcz21_1 : w14.cell? ⟨gb200, 1, none⟩ = some (.int .i64 0) := (bC BK200.out 1).trans rfl
              have hcz21_2 : w14.cell? ⟨gb200, 2, none⟩ = some (.string (⟨#[]⟩ : ByteArray)) := (bC BK200.out 2).trans rfl
              have hfz21_0 := bF BK200.out 0
              have hfz21_1 := bF BK200.out 1
              have hfz21_2 := bF BK200.out 2
              go_wp2
              go_meet
              case rel => exact ⟨_, ((((rY ((rX l0 x11_1).f0) x22_2).f0) == 4)), (by first | rfl | (simp; done) | (simp [*]; done) | exact congrArg Value.bool (isEmpty_bne _)), H', ⟨by have := HK1.out; have := HK2.out; first | omega | exact Nat.le_refl _⟩, ⟨by (with_reducible repeat (first | refine blk_drewN ?_ _ | refine blk_drew ?_ | refine blk_alloc ?_ _)); refine blk_far ?_ NB198_200.out _; (with_reducible repeat (first | refine blk_drewN ?_ _ | refine blk_drew ?_ | refine blk_alloc ?_ _)); refine blk_far ?_ NB198_200.out _; (with_reducible repeat (first | refine blk_drewN ?_ _ | refine blk_drew ?_ | refine blk_alloc ?_ _)); refine blk_far ?_ NB198_200.out _; (with_reducible repeat (first | refine blk_drewN ?_ _ | refine blk_drew ?_ | refine blk_alloc ?_ _)); exact BK198.out⟩, ⟨by (with_reducible repeat (first | refine blk_drewN ?_ _ | refine blk_drew ?_ | refine blk_alloc ?_ _)); refine blk_put (cs := #[.int .i64 ((rY ((rX l0 x11_1).f0) x22_2).f0), .int .i64 ((rY ((rX l0 x11_1).f0) x22_2).f1), .string (⟨#[]⟩ : ByteArray)]) ?_ 2 _ rfl; (with_reducible repeat (first | refine blk_drewN ?_ _ | refine blk_drew ?_ | refine blk_alloc ?_ _)); refine blk_put (cs := #[.int .i64 ((rY ((rX l0 x11_1).f0) x22_2).f0), .int .i64 0, .string (⟨#[]⟩ : ByteArray)]) ?_ 1 _ rfl; (with_reducible repeat (first | refine blk_drewN ?_ _ | refine blk_drew ?_ | refine blk_alloc ?_ _)); refine blk_put (cs := #[.int .i64 0, .int .i64 0, .string (⟨#[]⟩ : ByteArray)]) ?_ 0 _ rfl; (with_reducible repeat (first | refine blk_drewN ?_ _ | refine blk_drew ?_ | refine blk_alloc ?_ _)); exact BK200.out⟩, ⟨by repeat (first | (with_reducible first | exact HB.out | apply bal | apply bdN | apply bdr | refine bS ?_ GE198.out | refine bS ?_ GE200.out) | exact HB.out)⟩⟩
            case rest =>
             clear HC13
             try clear c1
             try clear p1
             try clear q1
             try clear hx1
             try clear c2
             try clear c2b0
             try clear p2
             try clear c3
             try clear c3b0
             try clear c4
             try clear c4b0
             try clear c5
             try clear c5b0
             try clear c5b1
             try clear c10
             try clear c10b0
             try clear c11
             try clear c11b0
             try clear c12
             try clear c12b0
             try clear c15
             try clear c17
             try clear c17b0
             try clear c17b1
             try clear c18
             try clear c19
             try clear p19
             try clear q19
             try clear hx19
             try clear c20
             try clear hcz16_0
             try clear hcz16_1
             try clear hcz16_2
             try clear hcz19_0
             try clear hcz19_1
             try clear hcz19_2
             try clear hcz21_0
             try clear hcz21_1
             try clear hcz21_2
             try clear hcz7_0
             try clear hcz9_0
             try clear hfz16_0
             try clear hfz16_1
             try clear hfz16_2
             try clear hfz19_0
             try clear hfz19_1
             try clear hfz19_2
             try clear hfz21_0
             try clear hfz21_1
             try clear hfz21_2
             try clear hfz7_0
             try clear hfz9_0
             try clear hx197_0
             try clear hx199_0
             try clear hx199_1
             try clear hx199_2
             try clear p1
             try clear p197
             try clear p199
             try clear p2
             try clear q1
             try clear q197
             try clear q199
             obtain ⟨kq, x7_12, rfl, HA, HJ12, BK198, BK200, HB⟩ := hcut
             cases kq with
             | zero => exact absurd HA.out (by simp [impl_ModsOk.j2])
             | succ kj12 =>
              have H := HA.out
              clear HA
              simp only [impl_ModsOk.j2] at H
              have HC22 := Az.mk H
              clear H
              go_upto_region 10 with (fail)
              go_cut [49] (fun v49 wc => ∃ (kq : Nat) (x49_21 : Bool), v49 = .bool x49_21 ∧ Az (impl_ModsOk.j3 kq l0 l0 (l0.length : Int) x11_1 ((rX l0 x11_1).f0) (((rX l0 x11_1).f0).length : Int) x22_2 x49_21 ((rY ((rX l0 x11_1).f0) x22_2).f0) ((rY ((rX l0 x11_1).f0) x22_2).f1) ((rY ((rX l0 x11_1).f0) x22_2).f2) = some r) ∧ Az (kq ≤ kj12) ∧ Az (wc.heap[gb198]? = some (.cells #[(.slice (some ad199) ((rX l0 x11_1).f0).length c197_0)] 72 (0, 0))) ∧ Az (wc.heap[gb200]? = some (.cells #[.int .i64 ((rY ((rX l0 x11_1).f0) x22_2).f0), .int .i64 ((rY ((rX l0 x11_1).f0) x22_2).f1), .string ((rY ((rX l0 x11_1).f0) x22_2).f2)] 74 (0, 0))) ∧ Az (Below w.heap.size w wc))
              case first =>
               have H := HC22.out
               clear HC22
               by_cases c23 : x7_12 = true
               ·subst c23
                have H1 : ((impl_NameOk.f kj12 ((rY ((rX l0 x11_1).f0) x22_2).f2)).bind fun t201 => (if t201 = true then (impl_ModsOk.j3 kj12 l0 l0 (l0.length : Int) x11_1 ((rX l0 x11_1).f0) (((rX l0 x11_1).f0).length : Int) x22_2 false ((rY ((rX l0 x11_1).f0) x22_2).f0) ((rY ((rX l0 x11_1).f0) x22_2).f1) ((rY ((rX l0 x11_1).f0) x22_2).f2)) else (impl_ModsOk.j3 kj12 l0 l0 (l0.length : Int) x11_1 ((rX l0 x11_1).f0) (((rX l0 x11_1).f0).length : Int) x22_2 true ((rY ((rX l0 x11_1).f0) x22_2).f0) ((rY ((rX l0 x11_1).f0) x22_2).f1) ((rY ((rX l0 x11_1).f0) x22_2).f2)))) = some r := by rw [if_pos rfl] at H; exact H
                clear H
                have H := H1
                clear H1
                replace H := Option.bind_eq_some_iff.mp H
                obtain ⟨t201, A240, H⟩ := H
                replace H : (if t201 = true then (impl_ModsOk.j3 kj12 l0 l0 (l0.length : Int) x11_1 ((rX l0 x11_1).f0) (((rX l0 x11_1).f0).length : Int) x22_2 false ((rY ((rX l0 x11_1).f0) x22_2).f0) ((rY ((rX l0 x11_1).f0) x22_2).f1) ((rY ((rX l0 x11_1).f0) x22_2).f2)) else (impl_ModsOk.j3 kj12 l0 l0 (l0.length : Int) x11_1 ((rX l0 x11_1).f0) (((rX l0 x11_1).f0).length : Int) x22_2 true ((rY ((rX l0 x11_1).f0) x22_2).f0) ((rY ((rX l0 x11_1).f0) x22_2).f1) ((rY ((rX l0 x11_1).f0) x22_2).f2))) = some r := H
                have A24 := Az.mk A240
                clear A240
                by_cases c25 : t201 = true
                ·subst c25
                 have H1 : (impl_ModsOk.j3 kj12 l0 l0 (l0.length : Int) x11_1 ((rX l0 x11_1).f0) (((rX l0 x11_1).f0).length : Int) x22_2 false ((rY ((rX l0 x11_1).f0) x22_2).f0) ((rY ((rX l0 x11_1).f0) x22_2).f1) ((rY ((rX l0 x11_1).f0) x22_2).f2)) = some r := by rw [if_pos rfl] at H; exact H
                 clear H
                 have H := H1
                 clear H1
                 have H' := Az.mk H
                 clear H
                 have hnb26 := NB200_198.out
                 have hnc26 := NB198_200.out
                 have hcz27_0 : wc.cell? ⟨gb200, 0, none⟩ = some (.int .i64 ((rY ((rX l0 x11_1).f0) x22_2).f0)) := (bC BK200.out 0).trans rfl
                 have hcz27_1 : wc.cell? ⟨gb200, 1, none⟩ = some (.int .i64 ((rY ((rX l0 x11_1).f0) x22_2).f1)) := (bC BK200.out 1).trans rfl
                 have hcz27_2 : wc.cell? ⟨gb200, 2, none⟩ = some (.string ((rY ((rX l0 x11_1).f0) x22_2).f2)) := (bC BK200.out 2).trans rfl
                 have hfz27_0 := bF BK200.out 0
                 have hfz27_1 := bF BK200.out 1
                 have hfz27_2 := bF BK200.out 2
                 go_wp2_with (first | (go_at_call 94; (with_reducible refine (impl_NameOk.calls kj12 ((rY ((rX l0 x11_1).f0) x22_2).f2) true _ A24.out).mono ?_); rintro e w28 ⟨rfl, hb⟩; have n0_ := Az.mk (blk_below (g := gb198) (o := .cells #[.slice (some ad199) ((rX l0 x11_1).f0).length c197_0] 72 (0, 0)) (by (with_reducible repeat (first | refine blk_drewN ?_ _ | refine blk_drew ?_ | refine blk_alloc ?_ _)); exact BK198.out) hb); have n1_ := Az.mk (blk_below (g := gb200) (o := .cells #[.int .i64 ((rY ((rX l0 x11_1).f0) x22_2).f0), .int .i64 ((rY ((rX l0 x11_1).f0) x22_2).f1), .string ((rY ((rX l0 x11_1).f0) x22_2).f2)] 74 (0, 0)) (by (with_reducible repeat (first | refine blk_drewN ?_ _ | refine blk_drew ?_ | refine blk_alloc ?_ _)); exact BK200.out) hb); have n2_ := Az.mk (below_step (by repeat (first | (with_reducible first | exact HB.out | apply bal | apply bdN | apply bdr | refine bS ?_ GE198.out | refine bS ?_ GE200.out) | exact HB.out)) hb); clear BK198; clear BK200; clear HB; have BK198 := n0_; have BK200 := n1_; have HB := n2_; clear n0_ n1_ n2_; (try clear hb); (try clear hb2); (try clear hk); (try clear hi)))
                 go_meet
                 case rel => exact ⟨_, (false), (by first | rfl | (simp; done) | (simp [*]; done) | exact congrArg Value.bool (isEmpty_bne _)), H', ⟨by have := HK1.out; have := HK2.out; have := HJ12.out; first | omega | exact Nat.le_refl _⟩, ⟨by (with_reducible repeat (first | refine blk_drewN ?_ _ | refine blk_drew ?_ | refine blk_alloc ?_ _)); exact BK198.out⟩, ⟨by (with_reducible repeat (first | refine blk_drewN ?_ _ | refine blk_drew ?_ | refine blk_alloc ?_ _)); exact BK200.out⟩, ⟨by repeat (first | (with_reducible first | exact HB.out | apply bal | apply bdN | apply bdr | refine bS ?_ GE198.out | refine bS ?_ GE200.out) | exact HB.out)⟩⟩
                ·replace c25 := Bool.eq_false_iff.mpr c25
                 subst c25
                 have H1 : (impl_ModsOk.j3 kj12 l0 l0 (l0.length : Int) x11_1 ((rX l0 x11_1).f0) (((rX l0 x11_1).f0).length : Int) x22_2 true ((rY ((rX l0 x11_1).f0) x22_2).f0) ((rY ((rX l0 x11_1).f0) x22_2).f1) ((rY ((rX l0 x11_1).f0) x22_2).f2)) = some r := by rw [if_neg (show ¬ (false = true) by decide)] at H; exact H
                 clear H
                 have H := H1
                 clear H1
                 have H' := Az.mk H
                 clear H
                 have hnb29 := NB200_198.out
                 have hnc29 := NB198_200.out
                 have hcz30_0 : wc.cell? ⟨gb200, 0, none⟩ = some (.int .i64 ((rY ((rX l0 x11_1).f0) x22_2).f0)) := (bC BK200.out 0).trans rfl
                 have hcz30_1 : wc.cell? ⟨gb200, 1, none⟩ = some (.int .i64 ((rY ((rX l0 x11_1).f0) x22_2).f1)) := (bC BK200.out 1).trans rfl
                 have hcz30_2 : wc.cell? ⟨gb200, 2, none⟩ = some (.string ((rY ((rX l0 x11_1).f0) x22_2).f2)) := (bC BK200.out 2).trans rfl
                 have hfz30_0 := bF BK200.out 0
                 have hfz30_1 := bF BK200.out 1
                 have hfz30_2 := bF BK200.out 2
                 go_wp2_with (first | (go_at_call 94; (with_reducible refine (impl_NameOk.calls kj12 ((rY ((rX l0 x11_1).f0) x22_2).f2) false _ A24.out).mono ?_); rintro e w31 ⟨rfl, hb⟩; have n0_ := Az.mk (blk_below (g := gb198) (o := .cells #[.slice (some ad199) ((rX l0 x11_1).f0).length c197_0] 72 (0, 0)) (by (with_reducible repeat (first | refine blk_drewN ?_ _ | refine blk_drew ?_ | refine blk_alloc ?_ _)); exact BK198.out) hb); have n1_ := Az.mk (blk_below (g := gb200) (o := .cells #[.int .i64 ((rY ((rX l0 x11_1).f0) x22_2).f0), .int .i64 ((rY ((rX l0 x11_1).f0) x22_2).f1), .string ((rY ((rX l0 x11_1).f0) x22_2).f2)] 74 (0, 0)) (by (with_reducible repeat (first | refine blk_drewN ?_ _ | refine blk_drew ?_ | refine blk_alloc ?_ _)); exact BK200.out) hb); have n2_ := Az.mk (below_step (by repeat (first | (with_reducible first | exact HB.out | apply bal | apply bdN | apply bdr | refine bS ?_ GE198.out | refine bS ?_ GE200.out) | exact HB.out)) hb); clear BK198; clear BK200; clear HB; have BK198 := n0_; have BK200 := n1_; have HB := n2_; clear n0_ n1_ n2_; (try clear hb); (try clear hb2); (try clear hk); (try clear hi)))
                 go_meet
                 case rel => exact ⟨_, (true), (by first | rfl | (simp; done) | (simp [*]; done) | exact congrArg Value.bool (isEmpty_bne _)), H', ⟨by have := HK1.out; have := HK2.out; have := HJ12.out; first | omega | exact Nat.le_refl _⟩, ⟨by (with_reducible repeat (first | refine blk_drewN ?_ _ | refine blk_drew ?_ | refine blk_alloc ?_ _)); exact BK198.out⟩, ⟨by (with_reducible repeat (first | refine blk_drewN ?_ _ | refine blk_drew ?_ | refine blk_alloc ?_ _)); exact BK200.out⟩, ⟨by repeat (first | (with_reducible first | exact HB.out | apply bal | apply bdN | apply bdr | refine bS ?_ GE198.out | refine bS ?_ GE200.out) | exact HB.out)⟩⟩
               ·replace c23 := Bool.eq_false_iff.mpr c23
                subst c23
                have H1 : (impl_ModsOk.j3 kj12 l0 l0 (l0.length : Int) x11_1 ((rX l0 x11_1).f0) (((rX l0 x11_1).f0).length : Int) x22_2 (((rY ((rX l0 x11_1).f0) x22_2).f2).toList != ([] : List UInt8)) ((rY ((rX l0 x11_1).f0) x22_2).f0) ((rY ((rX l0 x11_1).f0) x22_2).f1) ((rY ((rX l0 x11_1).f0) x22_2).f2)) = some r := by rw [if_neg (show ¬ (false = true) by decide)] at H; exact H
                clear H
                have H := H1
                clear H1
                have H' := Az.mk H
                clear H
                have hnb32 := NB200_198.out
                have hnc32 := NB198_200.out
                have hcz33_0 : wc.cell? ⟨gb200, 0, none⟩ = some (.int .i64 ((rY ((rX l0 x11_1).f0) x22_2).f0)) := (bC BK200.out 0).trans rfl
                have hcz33_1 : wc.cell? ⟨gb200, 1, none⟩ = some (.int .i64 ((rY ((rX l0 x11_1).f0) x22_2).f1)) := (bC BK200.out 1).trans rfl
                have hcz33_2 : wc.cell? ⟨gb200, 2, none⟩ = some (.string ((rY ((rX l0 x11_1).f0) x22_2).f2)) := (bC BK200.out 2).trans rfl
                have hfz33_0 := bF BK200.out 0
                have hfz33_1 := bF BK200.out 1
                have hfz33_2 := bF BK200.out 2
                go_wp2
                go_meet
                case rel => exact ⟨_, ((((rY ((rX l0 x11_1).f0) x22_2).f2).toList != ([] : List UInt8))), (by first | rfl | (simp; done) | (simp [*]; done) | exact congrArg Value.bool (isEmpty_bne _)), H', ⟨by have := HK1.out; have := HK2.out; have := HJ12.out; first | omega | exact Nat.le_refl _⟩, ⟨by (with_reducible repeat (first | refine blk_drewN ?_ _ | refine blk_drew ?_ | refine blk_alloc ?_ _)); exact BK198.out⟩, ⟨by (with_reducible repeat (first | refine blk_drewN ?_ _ | refine blk_drew ?_ | refine blk_alloc ?_ _)); exact BK200.out⟩, ⟨by repeat (first | (with_reducible first | exact HB.out | apply bal | apply bdN | apply bdr | refine bS ?_ GE198.out | refine bS ?_ GE200.out) | exact HB.out)⟩⟩
              case rest =>
               clear HC22
               try clear c1
               try clear p1
               try clear q1
               try clear hx1
               try clear c2
               try clear c2b0
               try clear p2
               try clear c3
               try clear c3b0
               try clear c4
               try clear c4b0
               try clear c5
               try clear c5b0
               try clear c5b1
               try clear c10
               try clear c10b0
               try clear c11
               try clear c11b0
               try clear c12
               try clear c12b0
               try clear c15
               try clear c17
               try clear c17b0
               try clear c17b1
               try clear c18
               try clear c19
               try clear p19
               try clear q19
               try clear hx19
               try clear c20
               try clear c23
               try clear c25
               try clear c26
               try clear c29
               try clear c32
               try clear hcz16_0
               try clear hcz16_1
               try clear hcz16_2
               try clear hcz19_0
               try clear hcz19_1
               try clear hcz19_2
               try clear hcz21_0
               try clear hcz21_1
               try clear hcz21_2
               try clear hcz27_0
               try clear hcz27_1
               try clear hcz27_2
               try clear hcz30_0
               try clear hcz30_1
               try clear hcz30_2
               try clear hcz33_0
               try clear hcz33_1
               try clear hcz33_2
               try clear hcz7_0
               try clear hcz9_0
               try clear hfz16_0
               try clear hfz16_1
               try clear hfz16_2
               try clear hfz19_0
               try clear hfz19_1
               try clear hfz19_2
               try clear hfz21_0
               try clear hfz21_1
               try clear hfz21_2
               try clear hfz27_0
               try clear hfz27_1
               try clear hfz27_2
               try clear hfz30_0
               try clear hfz30_1
               try clear hfz30_2
               try clear hfz33_0
               try clear hfz33_1
               try clear hfz33_2
               try clear hfz7_0
               try clear hfz9_0
               try clear hx197_0
               try clear hx199_0
               try clear hx199_1
               try clear hx199_2
               try clear p1
               try clear p19
               try clear p197
               try clear p199
               try clear p2
               try clear q1
               try clear q19
               try clear q197
               try clear q199
               obtain ⟨kq, x49_21, rfl, HA, HJ21, BK198, BK200, HB⟩ := hcut
               cases kq with
               | zero => exact absurd HA.out (by simp [impl_ModsOk.j3])
               | succ kj21 =>
                have H := HA.out
                clear HA
                simp only [impl_ModsOk.j3] at H
                by_cases c34 : x49_21 = true
                ·subst c34
                 have H1 : (some false) = some r := by rw [if_pos rfl] at H; exact H
                 clear H
                 have H := H1
                 clear H1
                 obtain rfl := Option.some.inj H
                 go_wp2
                 go_ret
                 exact ⟨by first | rfl | (simp [errW_none, errW_some] <;> rfl) | (simp [*, errW_none, errW_some] <;> rfl), by repeat (first | (with_reducible first | exact HB.out | apply bal | apply bdN | apply bdr | refine bS ?_ GE198.out | refine bS ?_ GE200.out) | exact HB.out)⟩
                ·replace c34 := Bool.eq_false_iff.mpr c34
                 subst c34
                 have H1 : (if ((rY ((rX l0 x11_1).f0) x22_2).f0) = 1 then (impl_ModsOk.j4 kj21 l0 (-1) l0 (l0.length : Int) x11_1 ((rX l0 x11_1).f0) (((rX l0 x11_1).f0).length : Int) x22_2 ((rY ((rX l0 x11_1).f0) x22_2).f0) (((rY ((rX l0 x11_1).f0) x22_2).f0) == 1) ((rY ((rX l0 x11_1).f0) x22_2).f0) ((rY ((rX l0 x11_1).f0) x22_2).f1) ((rY ((rX l0 x11_1).f0) x22_2).f2)) else (if ((rY ((rX l0 x11_1).f0) x22_2).f0) = 2 then (impl_ModsOk.j4 kj21 l0 (-1) l0 (l0.length : Int) x11_1 ((rX l0 x11_1).f0) (((rX l0 x11_1).f0).length : Int) x22_2 ((rY ((rX l0 x11_1).f0) x22_2).f0) (((rY ((rX l0 x11_1).f0) x22_2).f0) == 2) ((rY ((rX l0 x11_1).f0) x22_2).f0) ((rY ((rX l0 x11_1).f0) x22_2).f1) ((rY ((rX l0 x11_1).f0) x22_2).f2)) else (impl_ModsOk.j4 kj21 l0 (-1) l0 (l0.length : Int) x11_1 ((rX l0 x11_1).f0) (((rX l0 x11_1).f0).length : Int) x22_2 ((rY ((rX l0 x11_1).f0) x22_2).f0) (((rY ((rX l0 x11_1).f0) x22_2).f0) == 4) ((rY ((rX l0 x11_1).f0) x22_2).f0) ((rY ((rX l0 x11_1).f0) x22_2).f1) ((rY ((rX l0 x11_1).f0) x22_2).f2)))) = some r := by rw [if_neg (show ¬ (false = true) by decide)] at H; exact H
                 clear H
                 have H := H1
                 clear H1
                 have HC35 := Az.mk H
                 clear H
                 have hnb36 := NB200_198.out
                 have hnc36 := NB198_200.out
                 have hcz37_0 : wc.cell? ⟨gb200, 0, none⟩ = some (.int .i64 ((rY ((rX l0 x11_1).f0) x22_2).f0)) := (bC BK200.out 0).trans rfl
                 have hcz37_1 : wc.cell? ⟨gb200, 1, none⟩ = some (.int .i64 ((rY ((rX l0 x11_1).f0) x22_2).f1)) := (bC BK200.out 1).trans rfl
                 have hcz37_2 : wc.cell? ⟨gb200, 2, none⟩ = some (.string ((rY ((rX l0 x11_1).f0) x22_2).f2)) := (bC BK200.out 2).trans rfl
                 have hfz37_0 := bF BK200.out 0
                 have hfz37_1 := bF BK200.out 1
                 have hfz37_2 := bF BK200.out 2
                 go_upto_if 52 with (fail)
                 go_cut [52] (fun v52 wc => ∃ (kq : Nat) (x52_34 : Bool), v52 = .bool x52_34 ∧ Az (impl_ModsOk.j4 kq l0 (-1) l0 (l0.length : Int) x11_1 ((rX l0 x11_1).f0) (((rX l0 x11_1).f0).length : Int) x22_2 ((rY ((rX l0 x11_1).f0) x22_2).f0) x52_34 ((rY ((rX l0 x11_1).f0) x22_2).f0) ((rY ((rX l0 x11_1).f0) x22_2).f1) ((rY ((rX l0 x11_1).f0) x22_2).f2) = some r) ∧ Az (kq ≤ kj21) ∧ Az (wc.heap[gb198]? = some (.cells #[(.slice (some ad199) ((rX l0 x11_1).f0).length c197_0)] 72 (0, 0))) ∧ Az (wc.heap[gb200]? = some (.cells #[.int .i64 ((rY ((rX l0 x11_1).f0) x22_2).f0), .int .i64 ((rY ((rX l0 x11_1).f0) x22_2).f1), .string ((rY ((rX l0 x11_1).f0) x22_2).f2)] 74 (0, 0))) ∧ Az (Below w.heap.size w wc))
                 case first =>
                  have H := HC35.out
                  clear HC35
                  by_cases c38 : ((rY ((rX l0 x11_1).f0) x22_2).f0) = 1
                  ·rw [if_pos c38] at H
                   have c38b0 : (((rY ((rX l0 x11_1).f0) x22_2).f0) == 1) = true := beq_iff_eq.mpr c38
                   have c38b1 : (((rY ((rX l0 x11_1).f0) x22_2).f0) != 1) = false := bne_eq_false_iff_eq.mpr c38
                   clear c38
                   (first | rw [c38b0] | (simp only [i64_w, i32_w]; rw [c38b0]) | skip)
                   have H' := Az.mk H
                   clear H
                   go_wp2
                   go_meet
                   case rel => exact ⟨_, ((((rY ((rX l0 x11_1).f0) x22_2).f0) == 1)), (by first | rfl | (simp; done) | (simp [*]; done) | exact congrArg Value.bool (isEmpty_bne _)), H', ⟨by have := HK1.out; have := HK2.out; have := HJ12.out; have := HJ21.out; first | omega | exact Nat.le_refl _⟩, ⟨by (with_reducible repeat (first | refine blk_drewN ?_ _ | refine blk_drew ?_ | refine blk_alloc ?_ _)); exact BK198.out⟩, ⟨by (with_reducible repeat (first | refine blk_drewN ?_ _ | refine blk_drew ?_ | refine blk_alloc ?_ _)); exact BK200.out⟩, ⟨by repeat (first | (with_reducible first | exact HB.out | apply bal | apply bdN | apply bdr | refine bS ?_ GE198.out | refine bS ?_ GE200.out) | exact HB.out)⟩⟩
                  ·rw [if_neg c38] at H
                   have c38b0 : (((rY ((rX l0 x11_1).f0) x22_2).f0) == 1) = false := beq_eq_false_iff_ne.mpr c38
                   have c38b1 : (((rY ((rX l0 x11_1).f0) x22_2).f0) != 1) = true := bne_iff_ne.mpr c38
                   (first | rw [c38b0] | (simp only [i64_w, i32_w]; rw [c38b0]) | skip)
                   by_cases c39 : ((rY ((rX l0 x11_1).f0) x22_2).f0) = 2
                   ·rw [if_pos c39] at H
                    have c39b0 : (((rY ((rX l0 x11_1).f0) x22_2).f0) == 2) = true := beq_iff_eq.mpr c39
                    have c39b1 : (((rY ((rX l0 x11_1).f0) x22_2).f0) != 2) = false := bne_eq_false_iff_eq.mpr c39
                    clear c39
                    have H' := Az.mk H
                    clear H
                    go_wp2
                    go_meet
                    case rel => exact ⟨_, ((((rY ((rX l0 x11_1).f0) x22_2).f0) == 2)), (by first | rfl | (simp; done) | (simp [*]; done) | exact congrArg Value.bool (isEmpty_bne _)), H', ⟨by have := HK1.out; have := HK2.out; have := HJ12.out; have := HJ21.out; first | omega | exact Nat.le_refl _⟩, ⟨by (with_reducible repeat (first | refine blk_drewN ?_ _ | refine blk_drew ?_ | refine blk_alloc ?_ _)); exact BK198.out⟩, ⟨by (with_reducible repeat (first | refine blk_drewN ?_ _ | refine blk_drew ?_ | refine blk_alloc ?_ _)); exact BK200.out⟩, ⟨by repeat (first | (with_reducible first | exact HB.out | apply bal | apply bdN | apply bdr | refine bS ?_ GE198.out | refine bS ?_ GE200.out) | exact HB.out)⟩⟩
                   ·rw [if_neg c39] at H
                    have c39b0 : (((rY ((rX l0 x11_1).f0) x22_2).f0) == 2) = false := beq_eq_false_iff_ne.mpr c39
                    have c39b1 : (((rY ((rX l0 x11_1).f0) x22_2).f0) != 2) = true := bne_iff_ne.mpr c39
                    have H' := Az.mk H
                    clear H
                    go_wp2
                    go_meet
                    case rel => exact ⟨_, ((((rY ((rX l0 x11_1).f0) x22_2).f0) == 4)), (by first | rfl | (simp; done) | (simp [*]; done) | exact congrArg Value.bool (isEmpty_bne _)), H', ⟨by have := HK1.out; have := HK2.out; have := HJ12.out; have := HJ21.out; first | omega | exact Nat.le_refl _⟩, ⟨by (with_reducible repeat (first | refine blk_drewN ?_ _ | refine blk_drew ?_ | refine blk_alloc ?_ _)); exact BK198.out⟩, ⟨by (with_reducible repeat (first | refine blk_drewN ?_ _ | refine blk_drew ?_ | refine blk_alloc ?_ _)); exact BK200.out⟩, ⟨by repeat (first | (with_reducible first | exact HB.out | apply bal | apply bdN | apply bdr | refine bS ?_ GE198.out | refine bS ?_ GE200.out) | exact HB.out)⟩⟩
                 case rest =>
                  clear HC35
                  try clear c1
                  try clear p1
                  try clear q1
                  try clear hx1
                  try clear c2
                  try clear c2b0
                  try clear p2
                  try clear c3
                  try clear c3b0
                  try clear c4
                  try clear c4b0
                  try clear c5
                  try clear c5b0
                  try clear c5b1
                  try clear c10
                  try clear c10b0
                  try clear c11
                  try clear c11b0
                  try clear c12
                  try clear c12b0
                  try clear c15
                  try clear c17
                  try clear c17b0
                  try clear c17b1
                  try clear c18
                  try clear c19
                  try clear p19
                  try clear q19
                  try clear hx19
                  try clear c20
                  try clear c23
                  try clear c25
                  try clear c26
                  try clear c29
                  try clear c32
                  try clear c34
                  try clear c36
                  try clear c38
                  try clear c38b0
                  try clear c38b1
                  try clear c39
                  try clear c39b0
                  try clear c39b1
                  try clear hcz16_0
                  try clear hcz16_1
                  try clear hcz16_2
                  try clear hcz19_0
                  try clear hcz19_1
                  try clear hcz19_2
                  try clear hcz21_0
                  try clear hcz21_1
                  try clear hcz21_2
                  try clear hcz27_0
                  try clear hcz27_1
                  try clear hcz27_2
                  try clear hcz30_0
                  try clear hcz30_1
                  try clear hcz30_2
                  try clear hcz33_0
                  try clear hcz33_1
                  try clear hcz33_2
                  try clear hcz37_0
                  try clear hcz37_1
                  try clear hcz37_2
                  try clear hcz7_0
                  try clear hcz9_0
                  try clear hfz16_0
                  try clear hfz16_1
                  try clear hfz16_2
                  try clear hfz19_0
                  try clear hfz19_1
                  try clear hfz19_2
                  try clear hfz21_0
                  try clear hfz21_1
                  try clear hfz21_2
                  try clear hfz27_0
                  try clear hfz27_1
                  try clear hfz27_2
                  try clear hfz30_0
                  try clear hfz30_1
                  try clear hfz30_2
                  try clear hfz33_0
                  try clear hfz33_1
                  try clear hfz33_2
                  try clear hfz37_0
                  try clear hfz37_1
                  try clear hfz37_2
                  try clear hfz7_0
                  try clear hfz9_0
                  try clear hx197_0
                  try clear hx199_0
                  try clear hx199_1
                  try clear hx199_2
                  try clear p1
                  try clear p19
                  try clear p197
                  try clear p199
                  try clear p2
                  try clear q1
                  try clear q19
                  try clear q197
                  try clear q199
                  obtain ⟨kq, x52_34, rfl, HA, HJ34, BK198, BK200, HB⟩ := hcut
                  cases kq with
                  | zero => exact absurd HA.out (by simp [impl_ModsOk.j4])
                  | succ kj34 =>
                   have H := HA.out
                   clear HA
                   simp only [impl_ModsOk.j4] at H
                   by_cases c40 : x52_34 = true
                   ·subst c40
                    have H1 : ((impl_within.f ((rY ((rX l0 x11_1).f0) x22_2).f1) 0 (wrap64 ((l0.length : Int) - 1))).bind fun t202 => (if t202 = true then (impl_ModsOk.l1 kj34 l0 l0 (l0.length : Int) x11_1 ((rX l0 x11_1).f0) (((rX l0 x11_1).f0).length : Int) (wrap64 (x22_2 + 1))) else (some false))) = some r := by rw [if_pos rfl] at H; exact H
                    clear H
                    have H := H1
                    clear H1
                    replace H := Option.bind_eq_some_iff.mp H
                    obtain ⟨t202, A410, H⟩ := H
                    replace H : (if t202 = true then (impl_ModsOk.l1 kj34 l0 l0 (l0.length : Int) x11_1 ((rX l0 x11_1).f0) (((rX l0 x11_1).f0).length : Int) (wrap64 (x22_2 + 1))) else (some false)) = some r := H
                    have A41 := Az.mk A410
                    clear A410
                    by_cases c42 : t202 = true
                    ·subst c42
                     have H1 : (impl_ModsOk.l1 kj34 l0 l0 (l0.length : Int) x11_1 ((rX l0 x11_1).f0) (((rX l0 x11_1).f0).length : Int) (wrap64 (x22_2 + 1))) = some r := by rw [if_pos rfl] at H; exact H
                     clear H
                     have H := H1
                     clear H1
                     have H' := Az.mk H
                     clear H
                     have hnb43 := NB200_198.out
                     have hnc43 := NB198_200.out
                     have hcz44_0 : wc.cell? ⟨gb200, 0, none⟩ = some (.int .i64 ((rY ((rX l0 x11_1).f0) x22_2).f0)) := (bC BK200.out 0).trans rfl
                     have hcz44_1 : wc.cell? ⟨gb200, 1, none⟩ = some (.int .i64 ((rY ((rX l0 x11_1).f0) x22_2).f1)) := (bC BK200.out 1).trans rfl
                     have hcz44_2 : wc.cell? ⟨gb200, 2, none⟩ = some (.string ((rY ((rX l0 x11_1).f0) x22_2).f2)) := (bC BK200.out 2).trans rfl
                     have hfz44_0 := bF BK200.out 0
                     have hfz44_1 := bF BK200.out 1
                     have hfz44_2 := bF BK200.out 2
                     go_wp2_with (first | ((with_reducible refine gate_callee (f := 91) rfl ?_); refine goesL_ (some 65) rfl rfl Try.func91 (by kernel_rfl) rfl #[.int .i64 ((rY ((rX l0 x11_1).f0) x22_2).f1), .int .i64 0, .int .i64 (wrap64 ((l0.length : Int) - 1))] rfl (by (try simp only [List.map_toArray, List.map_cons, List.map_nil]); first | done | rfl | (simp only [List.length_drop, List.length_take]; rfl)) ?_; (with_reducible refine (impl_within.calls ((rY ((rX l0 x11_1).f0) x22_2).f1) 0 (wrap64 ((l0.length : Int) - 1)) true _ A41.out).mono ?_); rintro e w' ⟨rfl, ⟨nd, rfl⟩⟩; refine ⟨_, rfl, ?_⟩))
                     go_roundg kj34
                     case measure => have := HK1.out; have := HK2.out; have := HJ12.out; have := HJ21.out; have := HJ34.out; omega
                     case rel => exact ⟨(wrap64 (x22_2 + 1)), (by first | rfl | (simp; done) | (simp [*]; done) | exact congrArg Value.bool (isEmpty_bne _)), H', ⟨by have := HK1.out; have := HK2.out; have := HJ12.out; have := HJ21.out; have := HJ34.out; omega⟩, ⟨by (with_reducible repeat (first | refine blk_drewN ?_ _ | refine blk_drew ?_ | refine blk_alloc ?_ _)); exact BK198.out⟩, ⟨by repeat (first | (with_reducible first | exact HB.out | apply bal | apply bdN | apply bdr | refine bS ?_ GE198.out | refine bS ?_ GE200.out) | exact HB.out)⟩⟩
                    ·replace c42 := Bool.eq_false_iff.mpr c42
                     subst c42
                     have H1 : (some false) = some r := by rw [if_neg (show ¬ (false = true) by decide)] at H; exact H
                     clear H
                     have H := H1
                     clear H1
                     obtain rfl := Option.some.inj H
                     have hnb45 := NB200_198.out
                     have hnc45 := NB198_200.out
                     have hcz46_0 : wc.cell? ⟨gb200, 0, none⟩ = some (.int .i64 ((rY ((rX l0 x11_1).f0) x22_2).f0)) := (bC BK200.out 0).trans rfl
                     have hcz46_1 : wc.cell? ⟨gb200, 1, none⟩ = some (.int .i64 ((rY ((rX l0 x11_1).f0) x22_2).f1)) := (bC BK200.out 1).trans rfl
                     have hcz46_2 : wc.cell? ⟨gb200, 2, none⟩ = some (.string ((rY ((rX l0 x11_1).f0) x22_2).f2)) := (bC BK200.out 2).trans rfl
                     have hfz46_0 := bF BK200.out 0
                     have hfz46_1 := bF BK200.out 1
                     have hfz46_2 := bF BK200.out 2
                     go_wp2_with (first | ((with_reducible refine gate_callee (f := 91) rfl ?_); refine goesL_ (some 65) rfl rfl Try.func91 (by kernel_rfl) rfl #[.int .i64 ((rY ((rX l0 x11_1).f0) x22_2).f1), .int .i64 0, .int .i64 (wrap64 ((l0.length : Int) - 1))] rfl (by (try simp only [List.map_toArray, List.map_cons, List.map_nil]); first | done | rfl | (simp only [List.length_drop, List.length_take]; rfl)) ?_; (with_reducible refine (impl_within.calls ((rY ((rX l0 x11_1).f0) x22_2).f1) 0 (wrap64 ((l0.length : Int) - 1)) false _ A41.out).mono ?_); rintro e w' ⟨rfl, ⟨nd, rfl⟩⟩; refine ⟨_, rfl, ?_⟩))
                     go_ret
                     exact ⟨by first | rfl | (simp [errW_none, errW_some] <;> rfl) | (simp [*, errW_none, errW_some] <;> rfl), by repeat (first | (with_reducible first | exact HB.out | apply bal | apply bdN | apply bdr | refine bS ?_ GE198.out | refine bS ?_ GE200.out) | exact HB.out)⟩
                   ·replace c40 := Bool.eq_false_iff.mpr c40
                    subst c40
                    have H1 : (if ((rY ((rX l0 x11_1).f0) x22_2).f0) = 3 then (impl_ModsOk.j5 kj34 l0 (-1) l0 (l0.length : Int) x11_1 ((rX l0 x11_1).f0) (((rX l0 x11_1).f0).length : Int) x22_2 (((rY ((rX l0 x11_1).f0) x22_2).f0) == 3) ((rY ((rX l0 x11_1).f0) x22_2).f0) ((rY ((rX l0 x11_1).f0) x22_2).f1) ((rY ((rX l0 x11_1).f0) x22_2).f2)) else (impl_ModsOk.j5 kj34 l0 (-1) l0 (l0.length : Int) x11_1 ((rX l0 x11_1).f0) (((rX l0 x11_1).f0).length : Int) x22_2 (((rY ((rX l0 x11_1).f0) x22_2).f0) == 5) ((rY ((rX l0 x11_1).f0) x22_2).f0) ((rY ((rX l0 x11_1).f0) x22_2).f1) ((rY ((rX l0 x11_1).f0) x22_2).f2))) = some r := by rw [if_neg (show ¬ (false = true) by decide)] at H; exact H
                    clear H
                    have H := H1
                    clear H1
                    have HC47 := Az.mk H
                    clear H
                    go_upto_if 59 with (fail)
                    go_cut [59] (fun v59 wc => ∃ (kq : Nat) (x59_46 : Bool), v59 = .bool x59_46 ∧ Az (impl_ModsOk.j5 kq l0 (-1) l0 (l0.length : Int) x11_1 ((rX l0 x11_1).f0) (((rX l0 x11_1).f0).length : Int) x22_2 x59_46 ((rY ((rX l0 x11_1).f0) x22_2).f0) ((rY ((rX l0 x11_1).f0) x22_2).f1) ((rY ((rX l0 x11_1).f0) x22_2).f2) = some r) ∧ Az (kq ≤ kj34) ∧ Az (wc.heap[gb198]? = some (.cells #[(.slice (some ad199) ((rX l0 x11_1).f0).length c197_0)] 72 (0, 0))) ∧ Az (wc.heap[gb200]? = some (.cells #[.int .i64 ((rY ((rX l0 x11_1).f0) x22_2).f0), .int .i64 ((rY ((rX l0 x11_1).f0) x22_2).f1), .string ((rY ((rX l0 x11_1).f0) x22_2).f2)] 74 (0, 0))) ∧ Az (Below w.heap.size w wc))
                    case first =>
                     have H := HC47.out
                     clear HC47
                     by_cases c48 : ((rY ((rX l0 x11_1).f0) x22_2).f0) = 3
                     ·rw [if_pos c48] at H
                      have c48b0 : (((rY ((rX l0 x11_1).f0) x22_2).f0) == 3) = true := beq_iff_eq.mpr c48
                      have c48b1 : (((rY ((rX l0 x11_1).f0) x22_2).f0) != 3) = false := bne_eq_false_iff_eq.mpr c48
                      clear c48
                      (first | rw [c48b0] | (simp only [i64_w, i32_w]; rw [c48b0]) | skip)
                      have H' := Az.mk H
                      clear H
                      go_wp2
                      go_meet
                      case rel => exact ⟨_, ((((rY ((rX l0 x11_1).f0) x22_2).f0) == 3)), (by first | rfl | (simp; done) | (simp [*]; done) | exact congrArg Value.bool (isEmpty_bne _)), H', ⟨by have := HK1.out; have := HK2.out; have := HJ12.out; have := HJ21.out; have := HJ34.out; first | omega | exact Nat.le_refl _⟩, ⟨by (with_reducible repeat (first | refine blk_drewN ?_ _ | refine blk_drew ?_ | refine blk_alloc ?_ _)); exact BK198.out⟩, ⟨by (with_reducible repeat (first | refine blk_drewN ?_ _ | refine blk_drew ?_ | refine blk_alloc ?_ _)); exact BK200.out⟩, ⟨by repeat (first | (with_reducible first | exact HB.out | apply bal | apply bdN | apply bdr | refine bS ?_ GE198.out | refine bS ?_ GE200.out) | exact HB.out)⟩⟩
                     ·rw [if_neg c48] at H
                      have c48b0 : (((rY ((rX l0 x11_1).f0) x22_2).f0) == 3) = false := beq_eq_false_iff_ne.mpr c48
                      have c48b1 : (((rY ((rX l0 x11_1).f0) x22_2).f0) != 3) = true := bne_iff_ne.mpr c48
                      (first | rw [c48b0] | (simp only [i64_w, i32_w]; rw [c48b0]) | skip)
                      have H' := Az.mk H
                      clear H
                      go_wp2
                      go_meet
                      case rel => exact ⟨_, ((((rY ((rX l0 x11_1).f0) x22_2).f0) == 5)), (by first | rfl | (simp; done) | (simp [*]; done) | exact congrArg Value.bool (isEmpty_bne _)), H', ⟨by have := HK1.out; have := HK2.out; have := HJ12.out; have := HJ21.out; have := HJ34.out; first | omega | exact Nat.le_refl _⟩, ⟨by (with_reducible repeat (first | refine blk_drewN ?_ _ | refine blk_drew ?_ | refine blk_alloc ?_ _)); exact BK198.out⟩, ⟨by (with_reducible repeat (first | refine blk_drewN ?_ _ | refine blk_drew ?_ | refine blk_alloc ?_ _)); exact BK200.out⟩, ⟨by repeat (first | (with_reducible first | exact HB.out | apply bal | apply bdN | apply bdr | refine bS ?_ GE198.out | refine bS ?_ GE200.out) | exact HB.out)⟩⟩
                    case rest =>
                     clear HC47
                     try clear c1
                     try clear p1
                     try clear q1
                     try clear hx1
                     try clear c2
                     try clear c2b0
                     try clear p2
                     try clear c3
                     try clear c3b0
                     try clear c4
                     try clear c4b0
                     try clear c5
                     try clear c5b0
                     try clear c5b1
                     try clear p6
                     try clear c9
                     try clear c10
                     try clear c10b0
                     try clear c11
                     try clear c11b0
                     try clear c12
                     try clear c12b0
                     try clear c15
                     try clear c17
                     try clear c17b0
                     try clear c17b1
                     try clear c18
                     try clear c19
                     try clear p19
                     try clear q19
                     try clear hx19
                     try clear c20
                     try clear c23
                     try clear c25
                     try clear c26
                     try clear c29
                     try clear c32
                     try clear c34
                     try clear c36
                     try clear c38
                     try clear c38b0
                     try clear c38b1
                     try clear c39
                     try clear c39b0
                     try clear c39b1
                     try clear c40
                     try clear c42
                     try clear c43
                     try clear c45
                     try clear c48
                     try clear c48b0
                     try clear c48b1
                     try clear hcz16_0
                     try clear hcz16_1
                     try clear hcz16_2
                     try clear hcz19_0
                     try clear hcz19_1
                     try clear hcz19_2
                     try clear hcz21_0
                     try clear hcz21_1
                     try clear hcz21_2
                     try clear hcz27_0
                     try clear hcz27_1
                     try clear hcz27_2
                     try clear hcz30_0
                     try clear hcz30_1
                     try clear hcz30_2
                     try clear hcz33_0
                     try clear hcz33_1
                     try clear hcz33_2
                     try clear hcz37_0
                     try clear hcz37_1
                     try clear hcz37_2
                     try clear hcz44_0
                     try clear hcz44_1
                     try clear hcz44_2
                     try clear hcz46_0
                     try clear hcz46_1
                     try clear hcz46_2
                     try clear hcz7_0
                     try clear hcz9_0
                     try clear hfz16_0
                     try clear hfz16_1
                     try clear hfz16_2
                     try clear hfz19_0
                     try clear hfz19_1
                     try clear hfz19_2
                     try clear hfz21_0
                     try clear hfz21_1
                     try clear hfz21_2
                     try clear hfz27_0
                     try clear hfz27_1
                     try clear hfz27_2
                     try clear hfz30_0
                     try clear hfz30_1
                     try clear hfz30_2
                     try clear hfz33_0
                     try clear hfz33_1
                     try clear hfz33_2
                     try clear hfz37_0
                     try clear hfz37_1
                     try clear hfz37_2
                     try clear hfz44_0
                     try clear hfz44_1
                     try clear hfz44_2
                     try clear hfz46_0
                     try clear hfz46_1
                     try clear hfz46_2
                     try clear hfz7_0
                     try clear hfz9_0
                     try clear hx197_0
                     try clear hx199_0
                     try clear hx199_1
                     try clear hx199_2
                     try clear p1
                     try clear p19
                     try clear p197
                     try clear p199
                     try clear p2
                     try clear q1
                     try clear q19
                     try clear q197
                     try clear q199
                     obtain ⟨kq, x59_46, rfl, HA, HJ46, BK198, BK200, HB⟩ := hcut
                     cases kq with
                     | zero => exact absurd HA.out (by simp [impl_ModsOk.j5])
                     | succ kj46 =>
                      have H := HA.out
                      clear HA
                      simp only [impl_ModsOk.j5] at H
                      by_cases c49 : x59_46 = true
                      ·subst c49
                       have H1 : ((impl_within.f ((rY ((rX l0 x11_1).f0) x22_2).f1) 0 1000000).bind fun t203 => (if t203 = true then (impl_ModsOk.l1 kj46 l0 l0 (l0.length : Int) x11_1 ((rX l0 x11_1).f0) (((rX l0 x11_1).f0).length : Int) (wrap64 (x22_2 + 1))) else (some false))) = some r := by rw [if_pos rfl] at H; exact H
                       clear H
                       have H := H1
                       clear H1
                       replace H := Option.bind_eq_some_iff.mp H
                       obtain ⟨t203, A500, H⟩ := H
                       replace H : (if t203 = true then (impl_ModsOk.l1 kj46 l0 l0 (l0.length : Int) x11_1 ((rX l0 x11_1).f0) (((rX l0 x11_1).f0).length : Int) (wrap64 (x22_2 + 1))) else (some false)) = some r := H
                       have A50 := Az.mk A500
                       clear A500
                       by_cases c51 : t203 = true
                       ·subst c51
                        have H1 : (impl_ModsOk.l1 kj46 l0 l0 (l0.length : Int) x11_1 ((rX l0 x11_1).f0) (((rX l0 x11_1).f0).length : Int) (wrap64 (x22_2 + 1))) = some r := by rw [if_pos rfl] at H; exact H
                        clear H
                        have H := H1
                        clear H1
                        have H' := Az.mk H
                        clear H
                        have hnb52 := NB200_198.out
                        have hnc52 := NB198_200.out
                        have hcz53_0 : wc.cell? ⟨gb200, 0, none⟩ = some (.int .i64 ((rY ((rX l0 x11_1).f0) x22_2).f0)) := (bC BK200.out 0).trans rfl
                        have hcz53_1 : wc.cell? ⟨gb200, 1, none⟩ = some (.int .i64 ((rY ((rX l0 x11_1).f0) x22_2).f1)) := (bC BK200.out 1).trans rfl
                        have hcz53_2 : wc.cell? ⟨gb200, 2, none⟩ = some (.string ((rY ((rX l0 x11_1).f0) x22_2).f2)) := (bC BK200.out 2).trans rfl
                        have hfz53_0 := bF BK200.out 0
                        have hfz53_1 := bF BK200.out 1
                        have hfz53_2 := bF BK200.out 2
                        go_wp2_with (first | ((with_reducible refine gate_callee (f := 91) rfl ?_); refine goesL_ (some 65) rfl rfl Try.func91 (by kernel_rfl) rfl #[.int .i64 ((rY ((rX l0 x11_1).f0) x22_2).f1), .int .i64 0, .int .i64 1000000] rfl (by (try simp only [List.map_toArray, List.map_cons, List.map_nil]); first | done | rfl | (simp only [List.length_drop, List.length_take]; rfl)) ?_; (with_reducible refine (impl_within.calls ((rY ((rX l0 x11_1).f0) x22_2).f1) 0 1000000 true _ A50.out).mono ?_); rintro e w' ⟨rfl, ⟨nd, rfl⟩⟩; refine ⟨_, rfl, ?_⟩))
                        go_roundg kj46
                        case measure => have := HK1.out; have := HK2.out; have := HJ12.out; have := HJ21.out; have := HJ34.out; have := HJ46.out; omega
                        case rel => exact ⟨(wrap64 (x22_2 + 1)), (by first | rfl | (simp; done) | (simp [*]; done) | exact congrArg Value.bool (isEmpty_bne _)), H', ⟨by have := HK1.out; have := HK2.out; have := HJ12.out; have := HJ21.out; have := HJ34.out; have := HJ46.out; omega⟩, ⟨by (with_reducible repeat (first | refine blk_drewN ?_ _ | refine blk_drew ?_ | refine blk_alloc ?_ _)); exact BK198.out⟩, ⟨by repeat (first | (with_reducible first | exact HB.out | apply bal | apply bdN | apply bdr | refine bS ?_ GE198.out | refine bS ?_ GE200.out) | exact HB.out)⟩⟩
                       ·replace c51 := Bool.eq_false_iff.mpr c51
                        subst c51
                        have H1 : (some false) = some r := by rw [if_neg (show ¬ (false = true) by decide)] at H; exact H
                        clear H
                        have H := H1
                        clear H1
                        obtain rfl := Option.some.inj H
                        have hnb54 := NB200_198.out
                        have hnc54 := NB198_200.out
                        have hcz55_0 : wc.cell? ⟨gb200, 0, none⟩ = some (.int .i64 ((rY ((rX l0 x11_1).f0) x22_2).f0)) := (bC BK200.out 0).trans rfl
                        have hcz55_1 : wc.cell? ⟨gb200, 1, none⟩ = some (.int .i64 ((rY ((rX l0 x11_1).f0) x22_2).f1)) := (bC BK200.out 1).trans rfl
                        have hcz55_2 : wc.cell? ⟨gb200, 2, none⟩ = some (.string ((rY ((rX l0 x11_1).f0) x22_2).f2)) := (bC BK200.out 2).trans rfl
                        have hfz55_0 := bF BK200.out 0
                        have hfz55_1 := bF BK200.out 1
                        have hfz55_2 := bF BK200.out 2
                        go_wp2_with (first | ((with_reducible refine gate_callee (f := 91) rfl ?_); refine goesL_ (some 65) rfl rfl Try.func91 (by kernel_rfl) rfl #[.int .i64 ((rY ((rX l0 x11_1).f0) x22_2).f1), .int .i64 0, .int .i64 1000000] rfl (by (try simp only [List.map_toArray, List.map_cons, List.map_nil]); first | done | rfl | (simp only [List.length_drop, List.length_take]; rfl)) ?_; (with_reducible refine (impl_within.calls ((rY ((rX l0 x11_1).f0) x22_2).f1) 0 1000000 false _ A50.out).mono ?_); rintro e w' ⟨rfl, ⟨nd, rfl⟩⟩; refine ⟨_, rfl, ?_⟩))
                        go_ret
                        exact ⟨by first | rfl | (simp [errW_none, errW_some] <;> rfl) | (simp [*, errW_none, errW_some] <;> rfl), by repeat (first | (with_reducible first | exact HB.out | apply bal | apply bdN | apply bdr | refine bS ?_ GE198.out | refine bS ?_ GE200.out) | exact HB.out)⟩
                      ·replace c49 := Bool.eq_false_iff.mpr c49
                       subst c49
                       have H1 : ((impl_within.f ((rY ((rX l0 x11_1).f0) x22_2).f1) 0 (-1)).bind fun t204 => (if t204 = true then (impl_ModsOk.l1 kj46 l0 l0 (l0.length : Int) x11_1 ((rX l0 x11_1).f0) (((rX l0 x11_1).f0).length : Int) (wrap64 (x22_2 + 1))) else (some false))) = some r := by rw [if_neg (show ¬ (false = true) by decide)] at H; exact H
                       clear H
                       have H := H1
                       clear H1
                       replace H := Option.bind_eq_some_iff.mp H
                       obtain ⟨t204, A560, H⟩ := H
                       replace H : (if t204 = true then (impl_ModsOk.l1 kj46 l0 l0 (l0.length : Int) x11_1 ((rX l0 x11_1).f0) (((rX l0 x11_1).f0).length : Int) (wrap64 (x22_2 + 1))) else (some false)) = some r := H
                       have A56 := Az.mk A560
                       clear A560
                       by_cases c57 : t204 = true
                       ·subst c57
                        have H1 : (impl_ModsOk.l1 kj46 l0 l0 (l0.length : Int) x11_1 ((rX l0 x11_1).f0) (((rX l0 x11_1).f0).length : Int) (wrap64 (x22_2 + 1))) = some r := by rw [if_pos rfl] at H; exact H
                        clear H
                        have H := H1
                        clear H1
                        have H' := Az.mk H
                        clear H
                        have hnb58 := NB200_198.out
                        have hnc58 := NB198_200.out
                        have hcz59_0 : wc.cell? ⟨gb200, 0, none⟩ = some (.int .i64 ((rY ((rX l0 x11_1).f0) x22_2).f0)) := (bC BK200.out 0).trans rfl
                        have hcz59_1 : wc.cell? ⟨gb200, 1, none⟩ = some (.int .i64 ((rY ((rX l0 x11_1).f0) x22_2).f1)) := (bC BK200.out 1).trans rfl
                        have hcz59_2 : wc.cell? ⟨gb200, 2, none⟩ = some (.string ((rY ((rX l0 x11_1).f0) x22_2).f2)) := (bC BK200.out 2).trans rfl
                        have hfz59_0 := bF BK200.out 0
                        have hfz59_1 := bF BK200.out 1
                        have hfz59_2 := bF BK200.out 2
                        go_wp2_with (first | ((with_reducible refine gate_callee (f := 91) rfl ?_); refine goesL_ (some 65) rfl rfl Try.func91 (by kernel_rfl) rfl #[.int .i64 ((rY ((rX l0 x11_1).f0) x22_2).f1), .int .i64 0, .int .i64 (-1)] rfl (by (try simp only [List.map_toArray, List.map_cons, List.map_nil]); first | done | rfl | (simp only [List.length_drop, List.length_take]; rfl)) ?_; (with_reducible refine (impl_within.calls ((rY ((rX l0 x11_1).f0) x22_2).f1) 0 (-1) true _ A56.out).mono ?_); rintro e w' ⟨rfl, ⟨nd, rfl⟩⟩; refine ⟨_, rfl, ?_⟩))
                        go_roundg kj46
                        case measure => have := HK1.out; have := HK2.out; have := HJ12.out; have := HJ21.out; have := HJ34.out; have := HJ46.out; omega
                        case rel => exact ⟨(wrap64 (x22_2 + 1)), (by first | rfl | (simp; done) | (simp [*]; done) | exact congrArg Value.bool (isEmpty_bne _)), H', ⟨by have := HK1.out; have := HK2.out; have := HJ12.out; have := HJ21.out; have := HJ34.out; have := HJ46.out; omega⟩, ⟨by (with_reducible repeat (first | refine blk_drewN ?_ _ | refine blk_drew ?_ | refine blk_alloc ?_ _)); exact BK198.out⟩, ⟨by repeat (first | (with_reducible first | exact HB.out | apply bal | apply bdN | apply bdr | refine bS ?_ GE198.out | refine bS ?_ GE200.out) | exact HB.out)⟩⟩
                       ·replace c57 := Bool.eq_false_iff.mpr c57
                        subst c57
                        have H1 : (some false) = some r := by rw [if_neg (show ¬ (false = true) by decide)] at H; exact H
                        clear H
                        have H := H1
                        clear H1
                        obtain rfl := Option.some.inj H
                        have hnb60 := NB200_198.out
                        have hnc60 := NB198_200.out
                        have hcz61_0 : wc.cell? ⟨gb200, 0, none⟩ = some (.int .i64 ((rY ((rX l0 x11_1).f0) x22_2).f0)) := (bC BK200.out 0).trans rfl
                        have hcz61_1 : wc.cell? ⟨gb200, 1, none⟩ = some (.int .i64 ((rY ((rX l0 x11_1).f0) x22_2).f1)) := (bC BK200.out 1).trans rfl
                        have hcz61_2 : wc.cell? ⟨gb200, 2, none⟩ = some (.string ((rY ((rX l0 x11_1).f0) x22_2).f2)) := (bC BK200.out 2).trans rfl
                        have hfz61_0 := bF BK200.out 0
                        have hfz61_1 := bF BK200.out 1
                        have hfz61_2 := bF BK200.out 2
                        go_wp2_with (first | ((with_reducible refine gate_callee (f := 91) rfl ?_); refine goesL_ (some 65) rfl rfl Try.func91 (by kernel_rfl) rfl #[.int .i64 ((rY ((rX l0 x11_1).f0) x22_2).f1), .int .i64 0, .int .i64 (-1)] rfl (by (try simp only [List.map_toArray, List.map_cons, List.map_nil]); first | done | rfl | (simp only [List.length_drop, List.length_take]; rfl)) ?_; (with_reducible refine (impl_within.calls ((rY ((rX l0 x11_1).f0) x22_2).f1) 0 (-1) false _ A56.out).mono ?_); rintro e w' ⟨rfl, ⟨nd, rfl⟩⟩; refine ⟨_, rfl, ?_⟩))
                        go_ret
                        exact ⟨by first | rfl | (simp [errW_none, errW_some] <;> rfl) | (simp [*, errW_none, errW_some] <;> rfl), by repeat (first | (with_reducible first | exact HB.out | apply bal | apply bdN | apply bdr | refine bS ?_ GE198.out | refine bS ?_ GE200.out) | exact HB.out)⟩
           ·rw [if_neg c12] at H
            exact absurd H (by simp)
          ·rw [if_neg c11] at H
           exact absurd H (by simp)
         ·rw [if_neg c10] at H
          have c10b0 : decide (x22_2 < (((rX l0 x11_1).f0).length : Int)) = false := decide_eq_false c10
          clear c10
          have H' := Az.mk H
          clear H
          go_wp2
          go_roundg k2
          case measure => have := HK1.out; have := HK2.out; omega
          case rel => exact ⟨(wrap64 (x11_1 + 1)), (by first | rfl | (simp; done) | (simp [*]; done) | exact congrArg Value.bool (isEmpty_bne _)), H', ⟨by have := HK1.out; have := HK2.out; omega⟩, ⟨by repeat (first | (with_reducible first | exact HB.out | apply bal | apply bdN | apply bdr | refine bS ?_ GE198.out) | exact HB.out)⟩⟩
     ·rw [if_neg c4] at H
      exact absurd H (by simp)
    ·rw [if_neg c3] at H
     exact absurd H (by simp)
   ·rw [if_neg c2] at H
    have c2b0 : decide (x11_1 < (l0.length : Int)) = false := decide_eq_false c2
    clear c2
    replace H := Option.bind_eq_some_iff.mp H
    obtain ⟨t196, A620, H⟩ := H
    replace H : (some t196) = some r := H
    have A62 := Az.mk A620
    clear A620
    obtain rfl := Option.some.inj H
    go_wp2_with (first | ((with_reducible refine gate_callee (f := 91) rfl ?_); refine goesL_ (some 71) rfl rfl Try.func91 (by kernel_rfl) rfl #[.int .i64 (l0.length : Int), .int .i64 1, .int .i64 6] rfl (by (try simp only [List.map_toArray, List.map_cons, List.map_nil]); first | done | rfl | (simp only [List.length_drop, List.length_take]; rfl)) ?_; (with_reducible refine (impl_within.calls (l0.length : Int) 1 6 t196 _ A62.out).mono ?_); rintro e w' ⟨rfl, ⟨nd, rfl⟩⟩; refine ⟨_, rfl, ?_⟩))
    go_ret
    exact ⟨by first | rfl | (simp [errW_none, errW_some] <;> rfl) | (simp [*, errW_none, errW_some] <;> rfl), by repeat (first | (with_reducible first | exact HB.out | apply bal | apply bdN | apply bdr) | exact HB.out)⟩
end Go.Proofs.Ytehhhlhedmfdiaa.PFnImportRun
end
section
namespace Go.Proofs.Ytehhhlhedmfdiaa.PFnImportRun
open Go.RowKit Go.Proofs.Yz0.PrintWords Go.Proofs.Yz0.PrintLast Go.Proofs.Yz0.PrintMore
set_option linter.unusedVariables false
def Named (s : S74) : Prop := s.f0 = 3 ∨ s.f0 = 4
def top (n : Nat) (s : S74) : Int := if s.f0 = 3 ∨ s.f0 = 5 then 1000000 else (n : Int) - 1
def StepP (n : Nat) (s : S74) : Prop := (1 ≤ s.f0 ∧ s.f0 ≤ 5) ∧ (0 ≤ s.f1 ∧ s.f1 ≤ top n s) ∧ (Named s ↔ s.f2.toList ≠ []) ∧ (Named s → NameP s.f2)
def ModP (n : Nat) (x : S72) : Prop := (∀ s ∈ x.f0, StepP n s) ∧ x.f0.length ≤ 8
def ModsP (m : List S72) : Prop := (∀ x ∈ m, ModP m.length x) ∧ 1 ≤ m.length ∧ m.length ≤ 6
def Small (m : List S72) : Prop := m.length ≤ 140737488355328 ∧ ∀ x ∈ m, x.f0.length ≤ 140737488355328 ∧ ∀ s ∈ x.f0, s.f2.size ≤ 140737488355328
theorem at_cons {α : Type} (z : α) {l : List α} {i : Int} (h0 : 0 ≤ i) (h : i < (l.length : Int)) : l.drop i.toNat = l.getD i.toNat z :: l.drop (i + 1).toNat := by
 have hl : i.toNat < l.length := by omega
 rw [List.getD_eq_getElem?_getD, List.getElem?_eq_getElem hl, List.drop_eq_getElem_cons hl, show (i + 1).toNat = i.toNat + 1 from by omega]
 rfl
theorem at_mem {α : Type} (z : α) {l : List α} {i : Int} (h0 : 0 ≤ i) (h : i < (l.length : Int)) : l.getD i.toNat z ∈ l := by
 have hl : i.toNat < l.length := by omega
 rw [List.getD_eq_getElem?_getD, List.getElem?_eq_getElem hl]
 exact List.getElem_mem hl
theorem all_cons {α : Type} {P : α → Prop} {a : α} {l : List α} : (∀ x ∈ a :: l, P x) ↔ P a ∧ ∀ x ∈ l, P x := by simp
theorem toList_nil {s : ByteArray} (h : NameP s) : s.toList ≠ [] := by
 intro e
 have h1 := h.2.1.1
 have : s.data.toList = [] := by rw [← Lib.toList_data]; exact e
 have h2 : s.size = s.data.toList.length := by rw [Array.length_toList]; rfl
 rw [h2, this] at h1
 simp at h1
theorem bne_iff (b : Bool) (l : List UInt8) : (b != (l != ([] : List UInt8))) = true ↔ ¬ (b = true ↔ l ≠ []) := by
 cases b <;> cases l <;> simp
theorem spec_j4 (m : List S72) (i j lo hi : Int) (nm : Bool) (s : S74) (hs : s.f2.size ≤ 140737488355328) {R : Prop} (hw : wrap64 (j + 1) = j + 1) (rest : Tells (fun k => spec_validMods.l1 k m i (j + 1)) R) :
  Tells (fun k => spec_validMods.j4 k m i j lo hi nm s.f0 s.f1 s.f2) (((1 ≤ s.f0 ∧ s.f0 ≤ 5) ∧ (lo ≤ s.f1 ∧ s.f1 ≤ hi) ∧ (nm = true ↔ s.f2.toList ≠ []) ∧ (nm = true → NameP s.f2)) ∧ R) := by
 have no : ∀ {Q : Prop}, ¬ Q → Tells (fun _ => some false) Q := fun h => Tells.now (by simp only [Bool.false_eq_true, false_iff]; exact h)
 refine Tells.step (fun k => by simp only [spec_validMods.j4]; rfl) ?_
 refine Tells.ask (f := fun k t126 => (if t126 = true then ((spec_inRange.f s.f1 lo hi).bind fun t127 => (if t127 = true then (if (nm != (s.f2.toList != ([] : List UInt8))) = true then (some false) else (if nm = true then ((spec_validName.f k s.f2).bind fun t128 => (if t128 = true then (spec_validMods.l1 k m i (wrap64 (j + 1))) else (some false))) else (spec_validMods.l1 k m i (wrap64 (j + 1))))) else (some false))) else (some false))) (inRange_tells _ _ _) (fun h1 => ?_) (fun h1 => ?_)
 rotate_left
 ·exact Tells.congr (f := fun _ => some false) (fun k => by rw [if_neg (by decide)]) (no (fun h => h1 h.1.1)) Iff.rfl
 refine Tells.congr (fun k => by rw [if_pos rfl]) ?_ Iff.rfl
 refine Tells.ask (f := fun k t127 => (if t127 = true then (if (nm != (s.f2.toList != ([] : List UInt8))) = true then (some false) else (if nm = true then ((spec_validName.f k s.f2).bind fun t128 => (if t128 = true then (spec_validMods.l1 k m i (wrap64 (j + 1))) else (some false))) else (spec_validMods.l1 k m i (wrap64 (j + 1))))) else (some false))) (inRange_tells _ _ _) (fun h2 => ?_) (fun h2 => ?_)
 rotate_left
 ·exact Tells.congr (f := fun _ => some false) (fun k => by rw [if_neg (by decide)]) (no (fun h => h2 h.1.2.1)) Iff.rfl
 by_cases h3 : (nm != (s.f2.toList != ([] : List UInt8))) = true
 ·exact Tells.congr (f := fun _ => some false) (fun k => by rw [if_pos rfl, if_pos h3]) (no (fun h => (bne_iff _ _).1 h3 h.1.2.2.1)) Iff.rfl
 have h3' : nm = true ↔ s.f2.toList ≠ [] := Classical.not_not.1 (fun h => h3 ((bne_iff _ _).2 h))
 by_cases h4 : nm = true
 ·refine Tells.congr (fun k => by rw [if_pos rfl, if_neg h3, if_pos h4, hw]) ?_ Iff.rfl
  refine Tells.ask (f := fun k t128 => (if t128 = true then (spec_validMods.l1 k m i (j + 1)) else (some false))) (validName_tells s.f2 hs) (fun h5 => ?_) (fun h5 => ?_)
  ·exact Tells.congr (fun k => by rw [if_pos rfl]) rest ⟨fun h => ⟨⟨h1, h2, h3', fun _ => h5⟩, h⟩, fun h => h.2⟩
  ·exact Tells.congr (f := fun _ => some false) (fun k => by rw [if_neg (by decide)]) (no (fun h => h5 (h.1.2.2.2 h4))) Iff.rfl
 ·exact Tells.congr (fun k => by rw [if_pos rfl, if_neg h3, if_neg h4, hw]) rest ⟨fun h => ⟨⟨h1, h2, h3', fun h => absurd h h4⟩, h⟩, fun h => h.2⟩
theorem spec_step (m : List S72) (i j : Int) (s : S74) (hs : s.f2.size ≤ 140737488355328) (hm : m.length ≤ 140737488355328) {R : Prop} (hw : wrap64 (j + 1) = j + 1) (rest : Tells (fun k => spec_validMods.l1 k m i (j + 1)) R) :
  Tells (fun k => if s.f0 = 3 then (spec_validMods.j2 k m i j 0 (wrap64 ((m.length : Int) - 1)) true s.f0 s.f1 s.f2) else (spec_validMods.j2 k m i j 0 (wrap64 ((m.length : Int) - 1)) (s.f0 == 5) s.f0 s.f1 s.f2)) (StepP m.length s ∧ R) := by
 have hl : wrap64 ((m.length : Int) - 1) = (m.length : Int) - 1 := by unfold wrap64; omega
 have key : ∀ hi : Int, hi = top m.length s → Tells (fun k => spec_validMods.j3 k m i j 0 hi s.f0 s.f1 s.f2) (StepP m.length s ∧ R) := by
  intro hi e
  subst e
  unfold StepP Named
  by_cases h3 : s.f0 = 3
  ·refine Tells.step (fun k => by simp only [spec_validMods.j3]; rw [if_pos h3]) ((spec_j4 m i j 0 _ true s hs hw rest).iff ?_)
   simp [h3]
  ·refine Tells.step (fun k => by simp only [spec_validMods.j3]; rw [if_neg h3]) ((spec_j4 m i j 0 _ (s.f0 == 4) s hs hw rest).iff ?_)
   simp [h3]
 by_cases h3 : s.f0 = 3
 ·refine Tells.congr (fun k => by rw [if_pos h3]) (Tells.step (f := fun k => spec_validMods.j3 k m i j 0 1000000 s.f0 s.f1 s.f2) (fun k => by simp only [spec_validMods.j2]; exact if_pos trivial) (key _ (by unfold top; rw [if_pos (.inl h3)]))) Iff.rfl
 ·by_cases h5 : s.f0 = 5
  ·refine Tells.congr (fun k => by rw [if_neg h3]) (Tells.step (f := fun k => spec_validMods.j3 k m i j 0 1000000 s.f0 s.f1 s.f2) (fun k => by simp only [spec_validMods.j2]; rw [if_pos (by rw [h5]; rfl)]) (key _ (by unfold top; rw [if_pos (.inr h5)]))) Iff.rfl
  ·refine Tells.congr (fun k => by rw [if_neg h3]) (Tells.step (f := fun k => spec_validMods.j3 k m i j 0 ((m.length : Int) - 1) s.f0 s.f1 s.f2) (fun k => by simp only [spec_validMods.j2]; rw [if_neg (by simpa using h5), hl]) (key _ (by unfold top; rw [if_neg (fun h => h.elim h3 h5)]))) Iff.rfl
theorem spec_inner (m : List S72) (hm : Small m) (i : Int) (h0 : 0 ≤ i) (hi : i < (m.length : Int)) {R : Prop} (rest : Tells (fun k => spec_validMods.l0 k m (i + 1)) R) (d : Nat) :
  ∀ j : Int, 0 ≤ j → j ≤ ((rX m i).f0.length : Int) → ((rX m i).f0.length : Int) - j = d →
   Tells (fun k => spec_validMods.l1 k m i j) ((∀ s ∈ (rX m i).f0.drop j.toNat, StepP m.length s) ∧ (rX m i).f0.length ≤ 8 ∧ R) := by
 have hx := hm.2 _ (at_mem z72 h0 hi)
 have hlen : ((rX m i).f0.length : Int) ≤ 140737488355328 := by have := hx.1; unfold rX; omega
 induction d with
 | zero =>
  intro j j0 j1 hd
  by_cases h8 : ((rX m i).f0.length : Int) > 8
  ·refine Tells.step (f := fun _ => some false) (fun k => by simp only [spec_validMods.l1]; rw [if_pos h0, if_pos hi, if_neg (by omega), if_pos h8]) (Tells.now ?_)
   simp only [Bool.false_eq_true, false_iff]; exact fun h => by have := h.2.1; omega
  ·refine Tells.step (fun k => by simp only [spec_validMods.l1]; rw [if_pos h0, if_pos hi, if_neg (by omega), if_neg h8, up1 h0 (by have := hm.1; omega)]) (rest.iff ?_)
   rw [List.drop_eq_nil_of_le (by omega)]
   simp only [List.not_mem_nil, false_implies, implies_true, true_and]
   exact ⟨fun h => ⟨by omega, h⟩, fun h => h.2⟩
 | succ d ih =>
  intro j j0 j1 hd
  have hj : j < ((rX m i).f0.length : Int) := by omega
  have hs := hx.2 _ (show rY (rX m i).f0 j ∈ (m.getD i.toNat z72).f0 from at_mem z74 j0 hj)
  have hw : wrap64 (j + 1) = j + 1 := up1 j0 (by omega)
  refine Tells.step (fun k => by simp only [spec_validMods.l1]; rw [if_pos h0, if_pos hi, if_pos hj, if_pos j0]) ((spec_step m i j (rY (rX m i).f0 j) hs hm.1 hw (ih (j + 1) (by omega) (by omega) (by omega))).iff ?_)
  rw [at_cons z74 j0 hj, all_cons]
  exact and_assoc.symm
theorem spec_outer (m : List S72) (hm : Small m) (d : Nat) : ∀ i : Int, 0 ≤ i → i ≤ (m.length : Int) → (m.length : Int) - i = d →
  Tells (fun k => spec_validMods.l0 k m i) ((∀ x ∈ m.drop i.toNat, ModP m.length x) ∧ 1 ≤ m.length ∧ m.length ≤ 6) := by
 induction d with
 | zero =>
  intro i h0 h1 hd
  refine Tells.step (fun k => by simp only [spec_validMods.l0]; rw [if_neg (by omega), bindSome]) ((inRange_tells _ _ _).iff ?_)
  rw [List.drop_eq_nil_of_le (by omega)]
  simp only [List.not_mem_nil, false_implies, implies_true, true_and]
  omega
 | succ d ih =>
  intro i h0 h1 hd
  have hi : i < (m.length : Int) := by omega
  refine Tells.step (fun k => by simp only [spec_validMods.l0]; rw [if_pos hi]) ((spec_inner m hm i h0 hi (ih (i + 1) (by omega) (by omega) (by omega)) _ 0 (by omega) (by omega) (by omega : ((rX m i).f0.length : Int) - 0 = (((rX m i).f0.length : Nat) : Int))).iff ?_)
  rw [at_cons z72 h0 hi, all_cons, show (0 : Int).toNat = 0 from rfl, List.drop_zero]
  unfold ModP
  exact ⟨fun h => ⟨⟨⟨h.1, h.2.1⟩, h.2.2.1⟩, h.2.2.2⟩, fun h => ⟨h.1.1.1, h.1.1.2, h.1.2, h.2⟩⟩
theorem validMods_tells (m : List S72) (hm : Small m) : Tells (fun k => spec_validMods.f k m) (ModsP m) := by
 have h := spec_outer m hm m.length 0 (by omega) (by omega) (by omega)
 rw [show (0 : Int).toNat = 0 from rfl, List.drop_zero] at h
 exact h
def StepQ (n : Nat) (s : S74) : Prop := (Named s → NameP s.f2) ∧ (¬ Named s → s.f2.toList = []) ∧ (0 ≤ s.f1 ∧ s.f1 ≤ (if s.f0 = 1 ∨ s.f0 = 2 ∨ s.f0 = 4 then (n : Int) - 1 else if s.f0 = 3 ∨ s.f0 = 5 then 1000000 else -1))
theorem step_same (n : Nat) (s : S74) : StepQ n s ↔ StepP n s := by
 unfold StepQ StepP top
 constructor
 ·rintro ⟨h1, h2, h3⟩
  refine ⟨?_, ?_, ⟨fun h => toList_nil (h1 h), fun h => Classical.not_not.1 (fun hn => h (h2 hn))⟩, h1⟩
  ·split at h3
   ·omega
   ·split at h3 <;> omega
  ·split at h3
   ·rw [if_neg (by omega)]; exact h3
   ·split at h3
    ·rw [if_pos (by omega)]; exact h3
    ·omega
 ·rintro ⟨h1, h2, h3, h4⟩
  refine ⟨h4, fun hn => Classical.not_not.1 (fun h => hn (h3.2 h)), ?_⟩
  split at h2
  ·rw [if_neg (by omega), if_pos (by omega)]; exact h2
  ·rw [if_pos (by omega)]; exact h2
theorem impl_j5 (m x9 : List S72) (x10 i : Int) (x20 : List S74) (x21 j : Int) (b : Bool) (s : S74) {R : Prop} (hw : wrap64 (j + 1) = j + 1) (rest : Tells (fun k => impl_ModsOk.l1 k m x9 x10 i x20 x21 (j + 1)) R) :
  Tells (fun k => impl_ModsOk.j5 k m (-1) x9 x10 i x20 x21 j b s.f0 s.f1 s.f2) ((0 ≤ s.f1 ∧ s.f1 ≤ (if b = true then 1000000 else -1)) ∧ R) := by
 cases b with
 | true =>
  refine Tells.step (f := fun k => (impl_within.f s.f1 0 1000000).bind fun t232 => (if t232 = true then (impl_ModsOk.l1 k m x9 x10 i x20 x21 (j + 1)) else (some false))) (fun k => by simp only [impl_ModsOk.j5, hw]; exact if_pos trivial) (Tells.ask (f := fun k t232 => (if t232 = true then (impl_ModsOk.l1 k m x9 x10 i x20 x21 (j + 1)) else (some false))) (within_tells _ _ _) (fun h => ?_) (fun h => ?_))
  ·exact Tells.congr (fun k => by rw [if_pos rfl]) rest ⟨fun r => ⟨by rw [if_pos rfl]; exact h, r⟩, fun r => r.2⟩
  ·exact Tells.congr (f := fun _ => some false) (fun k => by rw [if_neg (by decide)]) (Tells.now (by simp only [Bool.false_eq_true, false_iff]; exact fun r => h (by have := r.1; rw [if_pos trivial] at this; exact this))) Iff.rfl
 | false =>
  refine Tells.step (f := fun k => (impl_within.f s.f1 0 (-1)).bind fun t232 => (if t232 = true then (impl_ModsOk.l1 k m x9 x10 i x20 x21 (j + 1)) else (some false))) (fun k => by simp only [impl_ModsOk.j5, hw]; exact if_neg (by decide)) (Tells.ask (f := fun k t232 => (if t232 = true then (impl_ModsOk.l1 k m x9 x10 i x20 x21 (j + 1)) else (some false))) (within_tells _ _ _) (fun h => ?_) (fun h => ?_))
  ·exact Tells.congr (fun k => by rw [if_pos rfl]) rest ⟨fun r => ⟨by rw [if_neg (by decide)]; exact h, r⟩, fun r => r.2⟩
  ·exact Tells.congr (f := fun _ => some false) (fun k => by rw [if_neg (by decide)]) (Tells.now (by simp only [Bool.false_eq_true, false_iff]; exact fun r => h (by have := r.1; rw [if_neg (by decide)] at this; exact this))) Iff.rfl
theorem impl_j4 (m x9 : List S72) (x10 i : Int) (x20 : List S74) (x21 j : Int) (b : Bool) (s : S74) (hm : m.length ≤ 140737488355328) {R : Prop} (hw : wrap64 (j + 1) = j + 1) (rest : Tells (fun k => impl_ModsOk.l1 k m x9 x10 i x20 x21 (j + 1)) R) :
  Tells (fun k => impl_ModsOk.j4 k m (-1) x9 x10 i x20 x21 j s.f0 b s.f0 s.f1 s.f2) ((0 ≤ s.f1 ∧ s.f1 ≤ (if b = true then (m.length : Int) - 1 else if s.f0 = 3 ∨ s.f0 = 5 then 1000000 else -1)) ∧ R) := by
 have hl : wrap64 ((m.length : Int) - 1) = (m.length : Int) - 1 := by unfold wrap64; omega
 cases b with
 | true =>
  refine Tells.step (f := fun k => (impl_within.f s.f1 0 ((m.length : Int) - 1)).bind fun t232 => (if t232 = true then (impl_ModsOk.l1 k m x9 x10 i x20 x21 (j + 1)) else (some false))) (fun k => by simp only [impl_ModsOk.j4, hw, hl]; exact if_pos trivial) (Tells.ask (f := fun k t232 => (if t232 = true then (impl_ModsOk.l1 k m x9 x10 i x20 x21 (j + 1)) else (some false))) (within_tells _ _ _) (fun h => ?_) (fun h => ?_))
  ·exact Tells.congr (fun k => by rw [if_pos rfl]) rest ⟨fun r => ⟨by rw [if_pos rfl]; exact h, r⟩, fun r => r.2⟩
  ·exact Tells.congr (f := fun _ => some false) (fun k => by rw [if_neg (by decide)]) (Tells.now (by simp only [Bool.false_eq_true, false_iff]; exact fun r => h (by have := r.1; rw [if_pos trivial] at this; exact this))) Iff.rfl
 | false =>
  by_cases h3 : s.f0 = 3
  ·refine Tells.step (f := fun k => impl_ModsOk.j5 k m (-1) x9 x10 i x20 x21 j (s.f0 == 3) s.f0 s.f1 s.f2) (fun k => by simp only [impl_ModsOk.j4]; rw [if_neg (by decide), if_pos h3]) ((impl_j5 m x9 x10 i x20 x21 j _ s hw rest).iff ?_)
   rw [if_pos (by rw [h3]; rfl), if_neg (by decide), if_pos (.inl h3)]
  ·refine Tells.step (f := fun k => impl_ModsOk.j5 k m (-1) x9 x10 i x20 x21 j (s.f0 == 5) s.f0 s.f1 s.f2) (fun k => by simp only [impl_ModsOk.j4]; rw [if_neg (by decide), if_neg h3]) ((impl_j5 m x9 x10 i x20 x21 j _ s hw rest).iff ?_)
   by_cases h5 : s.f0 = 5
   ·rw [if_pos (by rw [h5]; rfl), if_neg (by decide), if_pos (.inr h5)]
   ·rw [if_neg (by simpa using h5), if_neg (by decide), if_neg (fun h => h.elim h3 h5)]
theorem impl_j3 (m x9 : List S72) (x10 i : Int) (x20 : List S74) (x21 j : Int) (b : Bool) (s : S74) (hm : m.length ≤ 140737488355328) {R : Prop} (hw : wrap64 (j + 1) = j + 1) (rest : Tells (fun k => impl_ModsOk.l1 k m x9 x10 i x20 x21 (j + 1)) R) :
  Tells (fun k => impl_ModsOk.j3 k m x9 x10 i x20 x21 j b s.f0 s.f1 s.f2) ((b = false ∧ (0 ≤ s.f1 ∧ s.f1 ≤ (if s.f0 = 1 ∨ s.f0 = 2 ∨ s.f0 = 4 then (m.length : Int) - 1 else if s.f0 = 3 ∨ s.f0 = 5 then 1000000 else -1))) ∧ R) := by
 cases b with
 | true =>
  refine Tells.step (f := fun _ => some false) (fun k => by simp only [impl_ModsOk.j3]; exact if_pos trivial) (Tells.now ?_)
  simp
 | false =>
  have go : ∀ c : Bool, (c = true ↔ s.f0 = 1 ∨ s.f0 = 2 ∨ s.f0 = 4) → Tells (fun k => impl_ModsOk.j4 k m (-1) x9 x10 i x20 x21 j s.f0 c s.f0 s.f1 s.f2) ((false = false ∧ (0 ≤ s.f1 ∧ s.f1 ≤ (if s.f0 = 1 ∨ s.f0 = 2 ∨ s.f0 = 4 then (m.length : Int) - 1 else if s.f0 = 3 ∨ s.f0 = 5 then 1000000 else -1))) ∧ R) := by
   intro c hc
   refine (impl_j4 m x9 x10 i x20 x21 j c s hm hw rest).iff ?_
   by_cases h : c = true
   ·rw [if_pos h, if_pos (hc.1 h)]; simp
   ·rw [if_neg h, if_neg (fun h2 => h (hc.2 h2))]; simp
  by_cases h1 : s.f0 = 1
  ·exact Tells.step (fun k => by simp only [impl_ModsOk.j3]; rw [if_neg (by decide), if_pos h1]) (go (s.f0 == 1) (by rw [beq_iff_eq]; omega))
  ·by_cases h2 : s.f0 = 2
   ·exact Tells.step (fun k => by simp only [impl_ModsOk.j3]; rw [if_neg (by decide), if_neg h1, if_pos h2]) (go (s.f0 == 2) (by rw [beq_iff_eq]; omega))
   ·exact Tells.step (fun k => by simp only [impl_ModsOk.j3]; rw [if_neg (by decide), if_neg h1, if_neg h2]) (go (s.f0 == 4) (by rw [beq_iff_eq]; omega))
theorem impl_step (m x9 : List S72) (x10 i : Int) (x20 : List S74) (x21 j : Int) (s : S74) (hs : s.f2.size ≤ 140737488355328) (hm : m.length ≤ 140737488355328) {R : Prop} (hw : wrap64 (j + 1) = j + 1) (rest : Tells (fun k => impl_ModsOk.l1 k m x9 x10 i x20 x21 (j + 1)) R) :
  Tells (fun k => if s.f0 = 3 then (impl_ModsOk.j2 k m true x9 x10 i x20 x21 j s.f0 s.f1 s.f2) else (impl_ModsOk.j2 k m (s.f0 == 4) x9 x10 i x20 x21 j s.f0 s.f1 s.f2)) (StepP m.length s ∧ R) := by
 have key : ∀ c : Bool, (c = true ↔ Named s) → Tells (fun k => impl_ModsOk.j2 k m c x9 x10 i x20 x21 j s.f0 s.f1 s.f2) (StepP m.length s ∧ R) := by
  intro c hc
  cases c with
  | true =>
   have hn : Named s := hc.1 rfl
   refine Tells.step (f := fun k => ((impl_NameOk.f k s.f2).bind fun t230 => (if t230 = true then (impl_ModsOk.j3 k m x9 x10 i x20 x21 j false s.f0 s.f1 s.f2) else (impl_ModsOk.j3 k m x9 x10 i x20 x21 j true s.f0 s.f1 s.f2)))) (fun k => by simp only [impl_ModsOk.j2]; exact if_pos trivial) (Tells.ask (f := fun k t230 => (if t230 = true then (impl_ModsOk.j3 k m x9 x10 i x20 x21 j false s.f0 s.f1 s.f2) else (impl_ModsOk.j3 k m x9 x10 i x20 x21 j true s.f0 s.f1 s.f2))) (nameOk_tells s.f2 hs) (fun h => ?_) (fun h => ?_))
   ·refine Tells.congr (fun k => by rw [if_pos rfl]) (impl_j3 m x9 x10 i x20 x21 j false s hm hw rest) ?_
    rw [← step_same]; unfold StepQ
    exact ⟨fun r => ⟨⟨fun _ => h, fun h2 => absurd hn h2, r.1.2⟩, r.2⟩, fun r => ⟨⟨rfl, r.1.2.2⟩, r.2⟩⟩
   ·refine Tells.congr (fun k => by rw [if_neg (by decide)]) (impl_j3 m x9 x10 i x20 x21 j true s hm hw rest) ?_
    rw [← step_same]; unfold StepQ
    exact ⟨(fun r => absurd r.1.1 (by decide)), fun r => absurd (r.1.1 hn) h⟩
  | false =>
   have hn : ¬ Named s := fun h => by have := hc.2 h; cases this
   refine Tells.step (f := fun k => impl_ModsOk.j3 k m x9 x10 i x20 x21 j (s.f2.toList != ([] : List UInt8)) s.f0 s.f1 s.f2) (fun k => by simp only [impl_ModsOk.j2]; exact if_neg (by decide)) ((impl_j3 m x9 x10 i x20 x21 j _ s hm hw rest).iff ?_)
   rw [← step_same]; unfold StepQ
   have hb : (s.f2.toList != ([] : List UInt8)) = false ↔ s.f2.toList = [] := by simp
   rw [hb]
   exact ⟨fun r => ⟨⟨fun h2 => absurd h2 hn, fun _ => r.1.1, r.1.2⟩, r.2⟩, fun r => ⟨⟨r.1.2.1 hn, r.1.2.2⟩, r.2⟩⟩
 by_cases h3 : s.f0 = 3
 ·exact Tells.congr (fun k => by rw [if_pos h3]) (key true (by simp [Named, h3])) Iff.rfl
 ·exact Tells.congr (fun k => by rw [if_neg h3]) (key (s.f0 == 4) (by simp [Named, h3])) Iff.rfl
theorem impl_inner (m : List S72) (hm : Small m) (i : Int) (h0 : 0 ≤ i) (hi : i < (m.length : Int)) {R : Prop} (rest : Tells (fun k => impl_ModsOk.l0 k m m (m.length : Int) (i + 1)) R) (d : Nat) :
  ∀ j : Int, 0 ≤ j → j ≤ ((rX m i).f0.length : Int) → ((rX m i).f0.length : Int) - j = d →
   Tells (fun k => impl_ModsOk.l1 k m m (m.length : Int) i (rX m i).f0 ((rX m i).f0.length : Int) j) ((∀ s ∈ (rX m i).f0.drop j.toNat, StepP m.length s) ∧ R) := by
 have hx := hm.2 _ (at_mem z72 h0 hi)
 have hlen : ((rX m i).f0.length : Int) ≤ 140737488355328 := by have := hx.1; unfold rX; omega
 induction d with
 | zero =>
  intro j j0 j1 hd
  refine Tells.step (fun k => by simp only [impl_ModsOk.l1]; rw [if_neg (by omega), up1 h0 (by have := hm.1; omega)]) (rest.iff ?_)
  rw [List.drop_eq_nil_of_le (by omega)]
  simp
 | succ d ih =>
  intro j j0 j1 hd
  have hj : j < ((rX m i).f0.length : Int) := by omega
  have hs := hx.2 _ (show rY (rX m i).f0 j ∈ (m.getD i.toNat z72).f0 from at_mem z74 j0 hj)
  have hw : wrap64 (j + 1) = j + 1 := up1 j0 (by omega)
  refine Tells.step (fun k => by simp only [impl_ModsOk.l1]; rw [if_pos hj, if_pos j0, if_pos hj]) ((impl_step m m (m.length : Int) i (rX m i).f0 ((rX m i).f0.length : Int) j (rY (rX m i).f0 j) hs hm.1 hw (ih (j + 1) (by omega) (by omega) (by omega))).iff ?_)
  rw [at_cons z74 j0 hj, all_cons]
  exact and_assoc.symm
theorem impl_outer (m : List S72) (hm : Small m) (d : Nat) : ∀ i : Int, 0 ≤ i → i ≤ (m.length : Int) → (m.length : Int) - i = d →
  Tells (fun k => impl_ModsOk.l0 k m m (m.length : Int) i) ((∀ x ∈ m.drop i.toNat, ModP m.length x) ∧ 1 ≤ m.length ∧ m.length ≤ 6) := by
 induction d with
 | zero =>
  intro i h0 h1 hd
  refine Tells.step (fun k => by simp only [impl_ModsOk.l0]; rw [if_neg (by omega), bindSome]) ((within_tells _ _ _).iff ?_)
  rw [List.drop_eq_nil_of_le (by omega)]
  simp only [List.not_mem_nil, false_implies, implies_true, true_and]
  omega
 | succ d ih =>
  intro i h0 h1 hd
  have hi : i < (m.length : Int) := by omega
  by_cases h8 : ((rX m i).f0.length : Int) > 8
  ·refine Tells.step (f := fun _ => some false) (fun k => by simp only [impl_ModsOk.l0]; rw [if_pos hi, if_pos h0, if_pos hi, if_pos h8]) (Tells.now ?_)
   simp only [Bool.false_eq_true, false_iff]
   rw [at_cons z72 h0 hi, all_cons]
   exact fun h => by have := h.1.1.2; unfold rX at h8; omega
  ·refine Tells.step (fun k => by simp only [impl_ModsOk.l0]; rw [if_pos hi, if_pos h0, if_pos hi, if_neg h8]) ((impl_inner m hm i h0 hi (ih (i + 1) (by omega) (by omega) (by omega)) _ 0 (by omega) (by omega) (by omega : ((rX m i).f0.length : Int) - 0 = (((rX m i).f0.length : Nat) : Int))).iff ?_)
   rw [at_cons z72 h0 hi, all_cons, show (0 : Int).toNat = 0 from rfl, List.drop_zero]
   unfold ModP
   exact ⟨fun h => ⟨⟨⟨h.1, by unfold rX at h8; omega⟩, h.2.1⟩, h.2.2⟩, fun h => ⟨h.1.1.1, h.1.2, h.2⟩⟩
theorem modsOk_tells (m : List S72) (hm : Small m) : Tells (fun k => impl_ModsOk.f k m) (ModsP m) := by
 have h := impl_outer m hm m.length 0 (by omega) (by omega) (by omega)
 rw [show (0 : Int).toNat = 0 from rfl, List.drop_zero] at h
 exact h
end Go.Proofs.Ytehhhlhedmfdiaa.PFnImportRun
end
section
namespace Go.Proofs.Ytehhhlhedmfdiaa.PFnImportRun
open Go.RowKit Go.Proofs.Yz0.PrintWords Go.Proofs.Yz0.PrintLast Go.Proofs.Yz0.PrintMore
set_option linter.unusedVariables false
def sel (l : List S74) : List Int := (l.filter fun s => s.f0 == 1 || s.f0 == 2).map (·.f1)
def edges (m : List S72) : List (List Int) := m.map fun x => sel x.f0
end Go.Proofs.Ytehhhlhedmfdiaa.PFnImportRun
end
