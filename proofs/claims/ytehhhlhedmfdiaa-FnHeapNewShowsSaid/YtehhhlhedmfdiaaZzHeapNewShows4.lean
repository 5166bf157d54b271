/- FnHeapNewShows: for every input in the statement's domain the law's walk ends with true -/
import Derived.Test.YtehhhlhedmfdiaaZzHeapNewShows3
import Derived.Lib.Strings
import Derived.Lib.Builder
import Derived.Lib.AppendStr
import Derived.Lib.UnsafeStr
import Derived.Laws.Externs
import Derived.OpenShut
import Derived.SizedLaws
import Derived.ChangeSlices
import Derived.Test.YtehhhlhedmfdiaaRows
import Derived.WalkKit
import Derived.ProofKit
import Derived.ShutString
import Derived.ChangeOld
import Derived.Below
set_option maxHeartbeats 8000000
set_option maxRecDepth 100000
section
namespace Go.Proofs.Ytehhhlhedmfdiaa.PFnHeapNewShows
open Go.RowKit Go.Proofs.Yz0.PrintWords Go.Proofs.Yz0.PrintLast Go.Proofs.Yz0.PrintMore
attribute [local go_sem] max2_int min2_int max_two min_two max_three min_three max_four min_four
set_option linter.unusedVariables false
set_option linter.unusedSimpArgs false
attribute [local go_sem high] eqA31
def impl_isLetter.f (a0 : Int) : Option (Bool) := if a0 = 95 then (some true) else (if a0 ≥ 97 then (if a0 ≤ 122 then (some true) else (if a0 ≥ 65 then (some (decide (a0 ≤ 90))) else (some false))) else (if a0 ≥ 65 then (some (decide (a0 ≤ 90))) else (some false)))
theorem impl_isLetter.calls (a0 : Int) (r : Bool) (w : World) (h : impl_isLetter.f a0 = some r) :
  Calls Try.prog 116 #[.int .u8 a0] w fun e w' => e = .returned (.bool r) ∧ Drawn0 w w' := by
 have H : (if a0 = 95 then (some true) else (if a0 ≥ 97 then (if a0 ≤ 122 then (some true) else (if a0 ≥ 65 then (some (decide (a0 ≤ 90))) else (some false))) else (if a0 ≥ 65 then (some (decide (a0 ≤ 90))) else (some false)))) = some r := h
 clear h
 by_cases c2 : a0 = 95
 ·rw [if_pos c2] at H
  have c2b0 : (a0 == 95) = true := beq_iff_eq.mpr c2
  have c2b1 : (a0 != 95) = false := bne_eq_false_iff_eq.mpr c2
  clear c2
  obtain rfl := Option.some.inj H
  go_enter Try.func116, Try.ntmps116
  go_wp2
  go_ret
  exact ⟨by first | rfl | (simp; done) | (simp [*]; done), by repeat (first | exact Drawn0.refl _ | apply Drawn0.step)⟩
 ·rw [if_neg c2] at H
  have c2b0 : (a0 == 95) = false := beq_eq_false_iff_ne.mpr c2
  have c2b1 : (a0 != 95) = true := bne_iff_ne.mpr c2
  by_cases c3 : a0 ≥ 97
  ·rw [if_pos c3] at H
   have c3b0 : decide (97 ≤ a0) = true := decide_eq_true c3
   clear c3
   by_cases c4 : a0 ≤ 122
   ·rw [if_pos c4] at H
    have c4b0 : decide (a0 ≤ 122) = true := decide_eq_true c4
    clear c4
    obtain rfl := Option.some.inj H
    go_enter Try.func116, Try.ntmps116
    go_wp2
    go_ret
    exact ⟨by first | rfl | (simp; done) | (simp [*]; done), by repeat (first | exact Drawn0.refl _ | apply Drawn0.step)⟩
   ·rw [if_neg c4] at H
    have c4b0 : decide (a0 ≤ 122) = false := decide_eq_false c4
    clear c4
    by_cases c5 : a0 ≥ 65
    ·rw [if_pos c5] at H
     have c5b0 : decide (65 ≤ a0) = true := decide_eq_true c5
     clear c5
     obtain rfl := Option.some.inj H
     go_enter Try.func116, Try.ntmps116
     go_wp2
     go_ret
     exact ⟨by first | rfl | (simp; done) | (simp [*]; done), by repeat (first | exact Drawn0.refl _ | apply Drawn0.step)⟩
    ·rw [if_neg c5] at H
     have c5b0 : decide (65 ≤ a0) = false := decide_eq_false c5
     clear c5
     obtain rfl := Option.some.inj H
     go_enter Try.func116, Try.ntmps116
     go_wp2
     go_ret
     exact ⟨by first | rfl | (simp; done) | (simp [*]; done), by repeat (first | exact Drawn0.refl _ | apply Drawn0.step)⟩
  ·rw [if_neg c3] at H
   have c3b0 : decide (97 ≤ a0) = false := decide_eq_false c3
   clear c3
   by_cases c6 : a0 ≥ 65
   ·rw [if_pos c6] at H
    have c6b0 : decide (65 ≤ a0) = true := decide_eq_true c6
    clear c6
    obtain rfl := Option.some.inj H
    go_enter Try.func116, Try.ntmps116
    go_wp2
    go_ret
    exact ⟨by first | rfl | (simp; done) | (simp [*]; done), by repeat (first | exact Drawn0.refl _ | apply Drawn0.step)⟩
   ·rw [if_neg c6] at H
    have c6b0 : decide (65 ≤ a0) = false := decide_eq_false c6
    clear c6
    obtain rfl := Option.some.inj H
    go_enter Try.func116, Try.ntmps116
    go_wp2
    go_ret
    exact ⟨by first | rfl | (simp; done) | (simp [*]; done), by repeat (first | exact Drawn0.refl _ | apply Drawn0.step)⟩
mutual
def impl_NameOk.j0 : Nat → ByteArray → Bool → Option (Bool)
 | 0, _, _ => none
 | k + 1, x0, x20 => if x20 = true then (some false) else (impl_NameOk.l0 k x0 (x0.size : Int) 0)
def impl_NameOk.l0 : Nat → ByteArray → Int → Int → Option (Bool)
 | 0, _, _, _ => none
 | k + 1, x0, x22, x23 => if x23 < x22 then (if 0 ≤ x23 then (if x23 < (x0.size : Int) then ((impl_isLetter.f (bt x0 x23)).bind fun t239 => (if t239 = true then (impl_NameOk.l0 k x0 x22 (wrap64 (x23 + 1))) else ((impl_isDigit.f (bt x0 x23)).bind fun t240 => (if t240 = true then (impl_NameOk.l0 k x0 x22 (wrap64 (x23 + 1))) else (some false))))) else (none)) else (none)) else (some true)
end
def impl_NameOk.f (k : Nat) (a0 : ByteArray) : Option (Bool) := if (a0.size : Int) < 1 then (impl_NameOk.j0 k a0 true) else (if (a0.size : Int) > 12 then (impl_NameOk.j0 k a0 true) else (if 0 < (a0.size : Int) then ((impl_isDigit.f (bt a0 0)).bind fun t237 => (if t237 = true then (impl_NameOk.j0 k a0 true) else ((impl_IsKeyword.f k a0).bind fun t238 => (impl_NameOk.j0 k a0 t238)))) else (none)))
theorem impl_NameOk.calls (k : Nat) (a0 : ByteArray) (r : Bool) (w : World) (h : impl_NameOk.f k a0 = some r) :
  Calls Try.prog 94 #[.string a0] w fun e w' => e = .returned (.bool r) ∧ Below w.heap.size w w' := by
 have HB := Az.mk (Below.refl w.heap.size w)
 have H : (if (a0.size : Int) < 1 then (impl_NameOk.j0 k a0 true) else (if (a0.size : Int) > 12 then (impl_NameOk.j0 k a0 true) else (if 0 < (a0.size : Int) then ((impl_isDigit.f (bt a0 0)).bind fun t237 => (if t237 = true then (impl_NameOk.j0 k a0 true) else ((impl_IsKeyword.f k a0).bind fun t238 => (impl_NameOk.j0 k a0 t238)))) else (none)))) = some r := h
 clear h
 have HC2 := Az.mk H
 clear H
 go_enter Try.func94, Try.ntmps94
 go_upto_region 1 with (fail)
 go_cut [20] (fun v20 wc => ∃ (kq : Nat) (x20_1 : Bool), v20 = .bool x20_1 ∧ Az (impl_NameOk.j0 kq a0 x20_1 = some r) ∧ Az (kq ≤ k) ∧ Az (Below w.heap.size w wc))
 case first =>
  have H := HC2.out
  clear HC2
  by_cases c3 : (a0.size : Int) < 1
  ·rw [if_pos c3] at H
   have c3b0 : decide ((a0.size : Int) < 1) = true := decide_eq_true c3
   have c3b1 : decide (a0.size < 1) = true := decide_eq_true (by omega)
   clear c3
   (first | rw [c3b0] | (simp only [i64_w, i32_w]; rw [c3b0]) | skip)
   have H' := Az.mk H
   clear H
   go_wp2
   go_meet
   case rel => exact ⟨_, (true), (by first | rfl | (simp; done) | (simp [*]; done)), H', ⟨by first | omega | exact Nat.le_refl _⟩, ⟨by repeat (first | (with_reducible first | exact HB.out | apply bal | apply bdN | apply bdr) | exact HB.out)⟩⟩
  ·rw [if_neg c3] at H
   have c3b0 : decide ((a0.size : Int) < 1) = false := decide_eq_false c3
   have c3b1 : decide (a0.size < 1) = false := decide_eq_false (by omega)
   clear c3
   (first | rw [c3b0] | (simp only [i64_w, i32_w]; rw [c3b0]) | skip)
   by_cases c4 : (a0.size : Int) > 12
   ·rw [if_pos c4] at H
    have c4b0 : decide (12 < (a0.size : Int)) = true := decide_eq_true c4
    have c4b1 : decide (12 < a0.size) = true := decide_eq_true (by omega)
    clear c4
    have H' := Az.mk H
    clear H
    go_wp2
    go_meet
    case rel => exact ⟨_, (true), (by first | rfl | (simp; done) | (simp [*]; done)), H', ⟨by first | omega | exact Nat.le_refl _⟩, ⟨by repeat (first | (with_reducible first | exact HB.out | apply bal | apply bdN | apply bdr) | exact HB.out)⟩⟩
   ·rw [if_neg c4] at H
    have c4b0 : decide (12 < (a0.size : Int)) = false := decide_eq_false c4
    have c4b1 : decide (12 < a0.size) = false := decide_eq_false (by omega)
    clear c4
    by_cases c5 : 0 < (a0.size : Int)
    ·rw [if_pos c5] at H
     have c5b0 : decide (0 < (a0.size : Int)) = true := decide_eq_true c5
     have c5b1 : decide (0 < a0.size) = true := decide_eq_true (by omega)
     clear c5
     replace H := Option.bind_eq_some_iff.mp H
     obtain ⟨t237, A70, H⟩ := H
     replace H : (if t237 = true then (impl_NameOk.j0 k a0 true) else ((impl_IsKeyword.f k a0).bind fun t238 => (impl_NameOk.j0 k a0 t238))) = some r := H
     have A7 := Az.mk A70
     clear A70
     by_cases c8 : t237 = true
     ·subst c8
      have H1 : (impl_NameOk.j0 k a0 true) = some r := by rw [if_pos rfl] at H; exact H
      clear H
      have H := H1
      clear H1
      have H' := Az.mk H
      clear H
      have p6 : 0 ≤ (0 : Int) := (by omega)
      have q6 : 0 < a0.size := (by have : (0 : Int) < (a0.size : Int) := of_decide_eq_true (by first | (with_reducible assumption) | assumption); omega)
      have hx6 : ∀ h : 0 < a0.size, ((a0[0]'h).toNat : Int) = bt a0 0 := bt_at a0 0
      clear p6
      have qi6 : (0 < (a0.size : Int)) = True := eq_true (of_decide_eq_true (by first | (with_reducible assumption) | assumption))
      replace q6 := eq_true q6
      go_wp2_with (first | (go_at_call 114; (with_reducible refine (impl_isDigit.calls (bt a0 0) true _ A7.out).mono ?_); rintro e w' ⟨rfl, ⟨nd, rfl⟩⟩))
      go_meet
      case rel => exact ⟨_, (true), (by first | rfl | (simp; done) | (simp [*]; done)), H', ⟨by first | omega | exact Nat.le_refl _⟩, ⟨by repeat (first | (with_reducible first | exact HB.out | apply bal | apply bdN | apply bdr) | exact HB.out)⟩⟩
     ·replace c8 := Bool.eq_false_iff.mpr c8
      subst c8
      have H1 : ((impl_IsKeyword.f k a0).bind fun t238 => (impl_NameOk.j0 k a0 t238)) = some r := by rw [if_neg (show ¬ (false = true) by decide)] at H; exact H
      clear H
      have H := H1
      clear H1
      replace H := Option.bind_eq_some_iff.mp H
      obtain ⟨t238, A90, H⟩ := H
      replace H : (impl_NameOk.j0 k a0 t238) = some r := H
      have A9 := Az.mk A90
      clear A90
      have H' := Az.mk H
      clear H
      have p6 : 0 ≤ (0 : Int) := (by omega)
      have q6 : 0 < a0.size := (by have : (0 : Int) < (a0.size : Int) := of_decide_eq_true (by first | (with_reducible assumption) | assumption); omega)
      have hx6 : ∀ h : 0 < a0.size, ((a0[0]'h).toNat : Int) = bt a0 0 := bt_at a0 0
      clear p6
      have qi6 : (0 < (a0.size : Int)) = True := eq_true (of_decide_eq_true (by first | (with_reducible assumption) | assumption))
      replace q6 := eq_true q6
      go_wp2_with (first | (go_at_call 114; (with_reducible refine (impl_isDigit.calls (bt a0 0) false _ A7.out).mono ?_); rintro e w' ⟨rfl, ⟨nd, rfl⟩⟩) | (go_at_call 115; (with_reducible refine (impl_IsKeyword.calls k a0 t238 _ A9.out).mono ?_); rintro e w10 ⟨rfl, hb⟩; have n0_ := Az.mk (below_step (by repeat (first | (with_reducible first | exact HB.out | apply bal | apply bdN | apply bdr) | exact HB.out)) hb); clear HB; have HB := n0_; clear n0_; (try clear hb); (try clear hb2); (try clear hk); (try clear hi)))
      go_meet
      case rel => exact ⟨_, (t238), (by first | rfl | (simp; done) | (simp [*]; done)), H', ⟨by first | omega | exact Nat.le_refl _⟩, ⟨by repeat (first | (with_reducible first | exact HB.out | apply bal | apply bdN | apply bdr) | exact HB.out)⟩⟩
    ·rw [if_neg c5] at H
     exact absurd H (by simp)
 case rest =>
  clear HC2
  try clear p2
  try clear c3
  try clear c3b0
  try clear c3b1
  try clear c4
  try clear c4b0
  try clear c4b1
  try clear c5
  try clear c5b0
  try clear c5b1
  try clear p6
  try clear q6
  try clear hx6
  try clear qi6
  try clear c8
  try clear c9
  try clear p6
  try clear q6
  obtain ⟨kq, x20_1, rfl, HA, HJ1, HB⟩ := hcut
  cases kq with
  | zero => exact absurd HA.out (by simp [impl_NameOk.j0])
  | succ kj1 =>
   have H := HA.out
   clear HA
   simp only [impl_NameOk.j0] at H
   by_cases c11 : x20_1 = true
   ·subst c11
    have H1 : (some false) = some r := by rw [if_pos rfl] at H; exact H
    clear H
    have H := H1
    clear H1
    obtain rfl := Option.some.inj H
    go_wp2
    go_ret
    exact ⟨by first | rfl | (simp [errW_none, errW_some] <;> rfl) | (simp [*, errW_none, errW_some] <;> rfl), by repeat (first | (with_reducible first | exact HB.out | apply bal | apply bdN | apply bdr) | exact HB.out)⟩
   ·replace c11 := Bool.eq_false_iff.mpr c11
    subst c11
    have H1 : (impl_NameOk.l0 kj1 a0 (a0.size : Int) 0) = some r := by rw [if_neg (show ¬ (false = true) by decide)] at H; exact H
    clear H
    have H := H1
    clear H1
    have H' := Az.mk H
    clear H
    go_wp2
    go_loopg [23] kj1 (fun kq v23 w' => ∃ (x23_2 : Int), v23 = .int .i64 x23_2 ∧ Az (impl_NameOk.l0 kq a0 (a0.size : Int) x23_2 = some r) ∧ Az (kq ≤ kj1) ∧ Az (Below w.heap.size w w'))
    case atStart => exact ⟨(0), (by first | rfl | (simp; done) | (simp [*]; done)), H', ⟨Nat.le_refl _⟩, ⟨by repeat (first | (with_reducible first | exact HB.out | apply bal | apply bdN | apply bdr) | exact HB.out)⟩⟩
    case round =>
     clear H'
     try clear c1
     try clear p2
     try clear c3
     try clear c3b0
     try clear c3b1
     try clear c4
     try clear c4b0
     try clear c4b1
     try clear c5
     try clear c5b0
     try clear c5b1
     try clear p6
     try clear q6
     try clear hx6
     try clear qi6
     try clear c8
     try clear c9
     try clear c11
     try clear p2
     try clear p6
     try clear q6
     obtain ⟨x23_2, rfl, HA, HK2, HB⟩ := hrel
     cases gk with
     | zero => exact absurd HA.out (by simp [impl_NameOk.l0])
     | succ k2 =>
      have H := HA.out
      clear HA
      simp only [impl_NameOk.l0] at H
      by_cases c12 : x23_2 < (a0.size : Int)
      ·rw [if_pos c12] at H
       have c12b0 : decide (x23_2 < (a0.size : Int)) = true := decide_eq_true c12
       clear c12
       by_cases c13 : 0 ≤ x23_2
       ·rw [if_pos c13] at H
        have c13b0 : decide (0 ≤ x23_2) = true := decide_eq_true c13
        clear c13
        by_cases c14 : x23_2 < (a0.size : Int)
        ·rw [if_pos c14] at H
         have c14b0 : decide (x23_2 < (a0.size : Int)) = true := decide_eq_true c14
         clear c14
         replace H := Option.bind_eq_some_iff.mp H
         obtain ⟨t239, A160, H⟩ := H
         replace H : (if t239 = true then (impl_NameOk.l0 k2 a0 (a0.size : Int) (wrap64 (x23_2 + 1))) else ((impl_isDigit.f (bt a0 x23_2)).bind fun t240 => (if t240 = true then (impl_NameOk.l0 k2 a0 (a0.size : Int) (wrap64 (x23_2 + 1))) else (some false)))) = some r := H
         have A16 := Az.mk A160
         clear A160
         by_cases c17 : t239 = true
         ·subst c17
          have H1 : (impl_NameOk.l0 k2 a0 (a0.size : Int) (wrap64 (x23_2 + 1))) = some r := by rw [if_pos rfl] at H; exact H
          clear H
          have H := H1
          clear H1
          have H' := Az.mk H
          clear H
          have p15 : 0 ≤ (x23_2 : Int) := of_decide_eq_true (by first | (with_reducible assumption) | assumption)
          have q15 : x23_2 < (a0.size : Int) := of_decide_eq_true (by first | (with_reducible assumption) | assumption)
          have hx15 := bt_at a0 x23_2
          replace p15 := eq_true p15
          replace q15 := eq_true q15
          go_wp2_with (first | ((with_reducible refine gate_callee (f := 116) rfl ?_); refine goesL_ (some 29) rfl rfl Try.func116 (by kernel_rfl) rfl #[.int .u8 (bt a0 x23_2)] rfl (by (try simp only [List.map_toArray, List.map_cons, List.map_nil]); first | done | rfl | (simp only [List.length_drop, List.length_take]; rfl)) ?_; (with_reducible refine (impl_isLetter.calls (bt a0 x23_2) true _ A16.out).mono ?_); rintro e w' ⟨rfl, ⟨nd, rfl⟩⟩; refine ⟨_, rfl, ?_⟩))
          go_roundg k2
          case measure => have := HJ1.out; have := HK2.out; omega
          case rel => exact ⟨(wrap64 (x23_2 + 1)), (by first | rfl | (simp; done) | (simp [*]; done)), H', ⟨by have := HJ1.out; have := HK2.out; omega⟩, ⟨by repeat (first | (with_reducible first | exact HB.out | apply bal | apply bdN | apply bdr) | exact HB.out)⟩⟩
         ·replace c17 := Bool.eq_false_iff.mpr c17
          subst c17
          have H1 : ((impl_isDigit.f (bt a0 x23_2)).bind fun t240 => (if t240 = true then (impl_NameOk.l0 k2 a0 (a0.size : Int) (wrap64 (x23_2 + 1))) else (some false))) = some r := by rw [if_neg (show ¬ (false = true) by decide)] at H; exact H
          clear H
          have H := H1
          clear H1
          replace H := Option.bind_eq_some_iff.mp H
          obtain ⟨t240, A190, H⟩ := H
          replace H : (if t240 = true then (impl_NameOk.l0 k2 a0 (a0.size : Int) (wrap64 (x23_2 + 1))) else (some false)) = some r := H
          have A19 := Az.mk A190
          clear A190
          by_cases c20 : t240 = true
          ·subst c20
           have H1 : (impl_NameOk.l0 k2 a0 (a0.size : Int) (wrap64 (x23_2 + 1))) = some r := by rw [if_pos rfl] at H; exact H
           clear H
           have H := H1
           clear H1
           have H' := Az.mk H
           clear H
           have p15 : 0 ≤ (x23_2 : Int) := of_decide_eq_true (by first | (with_reducible assumption) | assumption)
           have q15 : x23_2 < (a0.size : Int) := of_decide_eq_true (by first | (with_reducible assumption) | assumption)
           have hx15 := bt_at a0 x23_2
           replace p15 := eq_true p15
           replace q15 := eq_true q15
           go_wp2_with (first | ((with_reducible refine gate_callee (f := 116) rfl ?_); refine goesL_ (some 29) rfl rfl Try.func116 (by kernel_rfl) rfl #[.int .u8 (bt a0 x23_2)] rfl (by (try simp only [List.map_toArray, List.map_cons, List.map_nil]); first | done | rfl | (simp only [List.length_drop, List.length_take]; rfl)) ?_; (with_reducible refine (impl_isLetter.calls (bt a0 x23_2) false _ A16.out).mono ?_); rintro e w' ⟨rfl, ⟨nd, rfl⟩⟩; refine ⟨_, rfl, ?_⟩; have p18 : 0 ≤ (x23_2 : Int) := of_decide_eq_true (by first | (with_reducible assumption) | assumption); have q18 : x23_2 < (a0.size : Int) := of_decide_eq_true (by first | (with_reducible assumption) | assumption); have hx18 := bt_at a0 x23_2; replace p18 := eq_true p18; replace q18 := eq_true q18) | (go_at_call 114; (with_reducible refine (impl_isDigit.calls (bt a0 x23_2) true _ A19.out).mono ?_); rintro e w' ⟨rfl, ⟨nd, rfl⟩⟩))
           go_roundg k2
           case measure => have := HJ1.out; have := HK2.out; omega
           case rel => exact ⟨(wrap64 (x23_2 + 1)), (by first | rfl | (simp; done) | (simp [*]; done)), H', ⟨by have := HJ1.out; have := HK2.out; omega⟩, ⟨by repeat (first | (with_reducible first | exact HB.out | apply bal | apply bdN | apply bdr) | exact HB.out)⟩⟩
          ·replace c20 := Bool.eq_false_iff.mpr c20
           subst c20
           have H1 : (some false) = some r := by rw [if_neg (show ¬ (false = true) by decide)] at H; exact H
           clear H
           have H := H1
           clear H1
           obtain rfl := Option.some.inj H
           have p15 : 0 ≤ (x23_2 : Int) := of_decide_eq_true (by first | (with_reducible assumption) | assumption)
           have q15 : x23_2 < (a0.size : Int) := of_decide_eq_true (by first | (with_reducible assumption) | assumption)
           have hx15 := bt_at a0 x23_2
           replace p15 := eq_true p15
           replace q15 := eq_true q15
           go_wp2_with (first | ((with_reducible refine gate_callee (f := 116) rfl ?_); refine goesL_ (some 29) rfl rfl Try.func116 (by kernel_rfl) rfl #[.int .u8 (bt a0 x23_2)] rfl (by (try simp only [List.map_toArray, List.map_cons, List.map_nil]); first | done | rfl | (simp only [List.length_drop, List.length_take]; rfl)) ?_; (with_reducible refine (impl_isLetter.calls (bt a0 x23_2) false _ A16.out).mono ?_); rintro e w' ⟨rfl, ⟨nd, rfl⟩⟩; refine ⟨_, rfl, ?_⟩; have p18 : 0 ≤ (x23_2 : Int) := of_decide_eq_true (by first | (with_reducible assumption) | assumption); have q18 : x23_2 < (a0.size : Int) := of_decide_eq_true (by first | (with_reducible assumption) | assumption); have hx18 := bt_at a0 x23_2; replace p18 := eq_true p18; replace q18 := eq_true q18) | (go_at_call 114; (with_reducible refine (impl_isDigit.calls (bt a0 x23_2) false _ A19.out).mono ?_); rintro e w' ⟨rfl, ⟨nd, rfl⟩⟩))
           go_ret
           exact ⟨by first | rfl | (simp [errW_none, errW_some] <;> rfl) | (simp [*, errW_none, errW_some] <;> rfl), by repeat (first | (with_reducible first | exact HB.out | apply bal | apply bdN | apply bdr) | exact HB.out)⟩
        ·rw [if_neg c14] at H
         exact absurd H (by simp)
       ·rw [if_neg c13] at H
        exact absurd H (by simp)
      ·rw [if_neg c12] at H
       have c12b0 : decide (x23_2 < (a0.size : Int)) = false := decide_eq_false c12
       clear c12
       obtain rfl := Option.some.inj H
       go_wp2
       go_ret
       exact ⟨by first | rfl | (simp [errW_none, errW_some] <;> rfl) | (simp [*, errW_none, errW_some] <;> rfl), by repeat (first | (with_reducible first | exact HB.out | apply bal | apply bdN | apply bdr) | exact HB.out)⟩
end Go.Proofs.Ytehhhlhedmfdiaa.PFnHeapNewShows
end
section
namespace Go.Proofs.Ytehhhlhedmfdiaa.PFnHeapNewShows
open Go.RowKit Go.Proofs.Yz0.PrintWords Go.Proofs.Yz0.PrintLast Go.Proofs.Yz0.PrintMore
attribute [local go_sem] max2_int min2_int max_two min_two max_three min_three max_four min_four
set_option linter.unusedVariables false
set_option linter.unusedSimpArgs false
def OkAt (k : Nat) (l0 : List S79) (kd : Int) (nm : ByteArray) (at_ : Int) (it ks : List S31) (ns : List ByteArray) (vs : List S31) : Prop :=
 (kd = 5 ∨ kd = 10) ∧ at_ = 0 ∧ it.length ≤ 2 ∧ ks.length ≤ 2 ∧ ns = [] ∧ vs = [] ∧ 0 < nm.size ∧ impl_Heap_valuesOk.f k l0 it = some true ∧ impl_Heap_valuesOk.f k l0 ks = some true ∧ impl_Heap_valuesOk.f k l0 vs = some true ∧ impl_NameOk.f k nm = some true
instance (k : Nat) (l0 : List S79) (kd : Int) (nm : ByteArray) (at_ : Int) (it ks : List S31) (ns : List ByteArray) (vs : List S31) : Decidable (OkAt k l0 kd nm at_ it ks ns vs) := by
 unfold OkAt
 have e1 : Decidable (ns = []) := match ns with | [] => isTrue rfl | _ :: _ => isFalse (by simp)
 have e2 : Decidable (vs = []) := match vs with | [] => isTrue rfl | _ :: _ => isFalse (by simp)
 exact inferInstance
def impl_Heap_objectOk.f (k : Nat) (l0_0 : List S79) (a1_0 : Int) (a1_1 : ByteArray) (a1_2 : Int) (l1_3 : List S31) (l1_4 : List S31) (l1_5 : List ByteArray) (l1_6 : List S31) : Option Bool :=
 if OkAt k l0_0 a1_0 a1_1 a1_2 l1_3 l1_4 l1_5 l1_6 then some true else none
structure OkW (w0 w : World) (g2 g3 : Nat) (kd : Int) (A0 : Option Addr) (c0 : Nat) (l0 : List S79) (nm : ByteArray) (A3 : Option Addr) (c3 : Nat) (it : List S31) (A4 : Option Addr) (c4 : Nat) (ks : List S31) (A5 : Option Addr) (c5 : Nat) (A6 : Option Addr) (c6 : Nat) : Prop where
 be : Below w0.heap.size w0 w
 b2 : w.heap[g2]? = some (.cells #[.slice A0 l0.length c0] 25 (0, 0))
 b3 : w.heap[g3]? = some (.cells #[.int .i64 kd, .string nm, .int .i64 0, .slice A3 it.length c3, .slice A4 ks.length c4, .slice A5 0 c5, .slice A6 0 c6] 79 (0, 0))
 r0 : Kd.C k79 w A0 l0.length l0
 r3 : Kd.C k31 w A3 it.length it
 r4 : Kd.C k31 w A4 ks.length ks
 r6 : Kd.C k31 w A6 0 ([] : List S31)
theorem OkW.below {w0 w w2 : World} {g2 g3 : Nat} {kd : Int} {A0 : Option Addr} {c0 : Nat} {l0 : List S79} {nm : ByteArray} {A3 : Option Addr} {c3 : Nat} {it : List S31} {A4 : Option Addr} {c4 : Nat} {ks : List S31} {A5 : Option Addr} {c5 : Nat} {A6 : Option Addr} {c6 : Nat}
  (h : OkW w0 w g2 g3 kd A0 c0 l0 nm A3 c3 it A4 c4 ks A5 c5 A6 c6) (hb : Below w.heap.size w w2) : OkW w0 w2 g2 g3 kd A0 c0 l0 nm A3 c3 it A4 c4 ks A5 c5 A6 c6 :=
 ⟨below_step h.be hb, blk_below h.b2 hb, blk_below h.b3 hb, Kd.C_below h.r0 hb, Kd.C_below h.r3 hb, Kd.C_below h.r4 hb, Kd.C_below h.r6 hb⟩
theorem OkW.cells {w0 w : World} {g2 g3 : Nat} {kd : Int} {A0 : Option Addr} {c0 : Nat} {l0 : List S79} {nm : ByteArray} {A3 : Option Addr} {c3 : Nat} {it : List S31} {A4 : Option Addr} {c4 : Nat} {ks : List S31} {A5 : Option Addr} {c5 : Nat} {A6 : Option Addr} {c6 : Nat}
  (h : OkW w0 w g2 g3 kd A0 c0 l0 nm A3 c3 it A4 c4 ks A5 c5 A6 c6) : w.cell? ⟨g2, 0, none⟩ = some (.slice A0 l0.length c0) ∧ w.cell? ⟨g3, 0, none⟩ = some (.int .i64 kd) ∧ w.cell? ⟨g3, 1, none⟩ = some (.string nm) ∧ w.cell? ⟨g3, 2, none⟩ = some (.int .i64 0) ∧ w.cell? ⟨g3, 3, none⟩ = some (.slice A3 it.length c3) ∧ w.cell? ⟨g3, 4, none⟩ = some (.slice A4 ks.length c4) ∧ w.cell? ⟨g3, 5, none⟩ = some (.slice A5 0 c5) ∧ w.cell? ⟨g3, 6, none⟩ = some (.slice A6 0 c6) :=
 ⟨(bC h.b2 0).trans rfl, (bC h.b3 0).trans rfl, (bC h.b3 1).trans rfl, (bC h.b3 2).trans rfl, (bC h.b3 3).trans rfl, (bC h.b3 4).trans rfl, (bC h.b3 5).trans rfl, (bC h.b3 6).trans rfl⟩
theorem ok_5 (k : Nat) (A0 : Option Addr) (c0 : Nat) (l0 : List S79) (nm : ByteArray) (A3 : Option Addr) (c3 : Nat) (it : List S31) (A4 : Option Addr) (c4 : Nat) (ks : List S31) (A5 : Option Addr) (c5 : Nat) (A6 : Option Addr) (c6 : Nat) (w : World) (hr0 : Kd.C k79 w A0 l0.length l0) (hc0 : l0.length ≤ c0) (hr3 : Kd.C k31 w A3 it.length it) (hc3 : it.length ≤ c3) (hr4 : Kd.C k31 w A4 ks.length ks) (hc4 : ks.length ≤ c4) (hr6 : Kd.C k31 w A6 0 ([] : List S31))
  (h3 : it.length ≤ 2) (h4 : ks.length ≤ 2) (h7 : 0 < nm.size) (h8 : impl_Heap_valuesOk.f k l0 it = some true) (h9 : impl_Heap_valuesOk.f k l0 ks = some true) (h10 : impl_Heap_valuesOk.f k l0 [] = some true) (h11 : impl_NameOk.f k nm = some true) :
  Calls Try.prog 49 #[.agg #[.slice A0 l0.length c0], .agg #[.int .i64 5, .string nm, .int .i64 0, .slice A3 it.length c3, .slice A4 ks.length c4, .slice A5 0 c5, .slice A6 0 c6]] w fun e w' => e = .returned (.bool true) ∧ Below w.heap.size w w' := by
 have HR0 := Az.mk hr0
 have HC0 := Az.mk hc0
 have HR3 := Az.mk hr3
 have HC3 := Az.mk hc3
 have HR4 := Az.mk hr4
 have HC4 := Az.mk hc4
 have HR6 := Az.mk hr6
 have H8 := Az.mk h8
 have H9 := Az.mk h9
 have H10 := Az.mk h10
 have H11 := Az.mk h11
 have t1 : decide ((60 : Int) < (it.length : Int)) = false := decide_eq_false (by omega)
 have t2 : (60 < it.length) = False := eq_false (by omega)
 have t3 : decide ((60 : Int) < (ks.length : Int)) = false := decide_eq_false (by omega)
 have t4 : (60 < ks.length) = False := eq_false (by omega)
 have t5 : (nm.toList = []) = False := eq_false (fun e => by
  rw [Lib.toList_data] at e
  have := data_length nm
  rw [e] at this
  simp at this
  omega)
 have t7 : nm.toList.isEmpty = false := by
  cases e : nm.toList with
  | nil => exact absurd e (of_eq_false t5)
  | cons a b => rfl
 have t6 : (nm = ByteArray.empty) = False := eq_false (fun e => by rw [e] at h7; exact absurd h7 (by decide))
 clear hr0 hc0 hr3 hc3 hr4 hc4 hr6 h3 h4 h7 h8 h9 h10 h11
 go_enter Try.func49, Try.ntmps49
 go_wp2_with fail
 have hI : OkW w ((w.alloc (.cells #[.slice A0 l0.length c0] 25 (0, 0))).alloc (.cells #[.int .i64 5, .string nm, .int .i64 0, .slice A3 it.length c3, .slice A4 ks.length c4, .slice A5 0 c5, .slice A6 0 c6] 79 (0, 0))) w.heap.size (w.heap.size + 1) 5 A0 c0 l0 nm A3 c3 it A4 c4 ks A5 c5 A6 c6 := by
  have hb : Below w.heap.size w ((w.alloc (.cells #[.slice A0 l0.length c0] 25 (0, 0))).alloc (.cells #[.int .i64 5, .string nm, .int .i64 0, .slice A3 it.length c3, .slice A4 ks.length c4, .slice A5 0 c5, .slice A6 0 c6] 79 (0, 0))) := bal (bal (Below.refl _ _) _) _
  refine ⟨hb, blk_alloc (blk_new w _) _, ?_, Kd.C_below HR0.out hb, Kd.C_below HR3.out hb, Kd.C_below HR4.out hb, Kd.C_below HR6.out hb⟩
  have := blk_new (w.alloc (.cells #[.slice A0 l0.length c0] 25 (0, 0))) (.cells #[.int .i64 5, .string nm, .int .i64 0, .slice A3 it.length c3, .slice A4 ks.length c4, .slice A5 0 c5, .slice A6 0 c6] 79 (0, 0))
  have e : (w.alloc (.cells #[.slice A0 l0.length c0] 25 (0, 0))).heap.size = w.heap.size + 1 := by simp
  rw [e] at this
  exact this
 have HI := Az.mk hI
 clear hI HR0 HR3 HR4 HR6
 generalize hg3 : w.heap.size + 1 = g3 at HI ⊢
 generalize hg2 : w.heap.size = g2 at HI ⊢
 clear hg2 hg3
 generalize World.alloc _ _ = w1 at HI ⊢
 refine (impl_within.calls 5 0 10 true _ (by rfl)).mono ?_
 rintro e w2 ⟨rfl, hd⟩
 have n0_ := Az.mk (HI.out.below hd.below)
 clear HI hd
 have HI := n0_
 clear n0_
 obtain ⟨hz0, hz1, hz2, hz3, hz4, hz5, hz6, hz7⟩ := HI.out.cells
 go_wp2_with fail
 refine (impl_Heap_valuesOk.calls k A0 c0 l0 A3 c3 it true _ HI.out.r0 HC0.out HI.out.r3 HC3.out H8.out).mono ?_
 rintro e w3 ⟨rfl, hd⟩
 have n0_ := Az.mk (HI.out.below hd)
 clear HI hd hz0 hz1 hz2 hz3 hz4 hz5 hz6 hz7
 have HI := n0_
 clear n0_
 obtain ⟨hz0, hz1, hz2, hz3, hz4, hz5, hz6, hz7⟩ := HI.out.cells
 go_wp2_with fail
 refine (impl_Heap_valuesOk.calls k A0 c0 l0 A4 c4 ks true _ HI.out.r0 HC0.out HI.out.r4 HC4.out H9.out).mono ?_
 rintro e w4 ⟨rfl, hd⟩
 have n0_ := Az.mk (HI.out.below hd)
 clear HI hd hz0 hz1 hz2 hz3 hz4 hz5 hz6 hz7
 have HI := n0_
 clear n0_
 obtain ⟨hz0, hz1, hz2, hz3, hz4, hz5, hz6, hz7⟩ := HI.out.cells
 go_wp2_with fail
 refine (impl_Heap_valuesOk.calls k A0 c0 l0 A6 c6 [] true _ HI.out.r0 HC0.out HI.out.r6 (Nat.zero_le _) H10.out).mono ?_
 rintro e w5 ⟨rfl, hd⟩
 have n0_ := Az.mk (HI.out.below hd)
 clear HI hd hz0 hz1 hz2 hz3 hz4 hz5 hz6 hz7
 have HI := n0_
 clear n0_
 obtain ⟨hz0, hz1, hz2, hz3, hz4, hz5, hz6, hz7⟩ := HI.out.cells
 go_wp2_with fail
 refine (impl_within.calls 0 0 1000000 true _ (by rfl)).mono ?_
 rintro e w6 ⟨rfl, hd⟩
 have n0_ := Az.mk (HI.out.below hd.below)
 clear HI hd hz0 hz1 hz2 hz3 hz4 hz5 hz6 hz7
 have HI := n0_
 clear n0_
 obtain ⟨hz0, hz1, hz2, hz3, hz4, hz5, hz6, hz7⟩ := HI.out.cells
 go_wp2_with fail
 go_loopg [71] 1 (fun kq v71 w' => v71 = .int .i64 0 ∧ w' = w6)
 case atStart => exact ⟨rfl, rfl⟩
 case round =>
  obtain ⟨rfl, rfl⟩ := hrel
  go_wp2_with fail
  refine (impl_NameOk.calls k nm true _ H11.out).mono ?_
  rintro e w7 ⟨rfl, hd⟩
  have n0_ := Az.mk (HI.out.below hd)
  clear HI hd hz0 hz1 hz2 hz3 hz4 hz5 hz6 hz7
  have HI := n0_
  clear n0_
  obtain ⟨hz0, hz1, hz2, hz3, hz4, hz5, hz6, hz7⟩ := HI.out.cells
  go_wp2_with fail
  refine start_ (n := 10) (S := fun w' => w'.cell? ⟨g3, 4, none⟩ = some (.slice A4 ks.length c4) ∧ w'.cell? ⟨g3, 3, none⟩ = some (.slice A3 it.length c3)) (ds := []) #[false, false, false, false, false, false, false, false, false, false] (by kernel_rfl) rfl rfl ⟨hz5, hz4⟩ (fun hHeld => ?_)
  have n0_ := Az.mk (HI.out.below (below_drew (Below.refl _ _)))
  clear HI hz0 hz1 hz2 hz3 hz4 hz5 hz6 hz7
  have HI := n0_
  clear n0_
  generalize World.drew _ = w8 at HI hHeld ⊢
  refine pure_ (i := 0) (N := some 129) (v := ?_) (a' := ?_) #[true, false, false, false, false, false, false, false, false, false] rfl rfl (by kernel_rfl) (fun _ _ _ h => h) (Or.inl ⟨by rfl, ?_⟩) ?_ ?_
  rotate_left
  ·intro w'
   go_simp
   with_reducible rfl
  rotate_left
  ·simp only [Act.put, List.setIfInBounds_toArray, List.set_cons_zero, List.set_cons_succ, i64_w, i32_w]
   rfl
  refine pure_ (i := 4) (N := some 133) (v := ?_) (a' := ?_) #[true, false, false, false, true, false, false, false, false, false] rfl rfl (by kernel_rfl) (fun _ _ _ h => h) (Or.inl ⟨by rfl, ?_⟩) ?_ ?_
  rotate_left
  ·intro w'
   go_simp
   with_reducible rfl
  rotate_left
  ·simp only [Act.put, List.setIfInBounds_toArray, List.set_cons_zero, List.set_cons_succ, i64_w, i32_w]
   rfl
  refine take_ (i := 1) (N := some 130) (v := ?_) (a' := ?_) #[true, true, false, false, true, false, false, false, false, false] rfl rfl (by kernel_rfl) (fun _ _ _ h => h) (Or.inl ⟨by rfl, ?_⟩) hHeld ?_ ?_
  rotate_left
  ·rintro w' ⟨s0, s1⟩
   go_simp
   with_reducible rfl
  rotate_left
  ·simp only [Act.put, List.setIfInBounds_toArray, List.set_cons_zero, List.set_cons_succ, i64_w, i32_w]
   rfl
  refine pure_ (i := 2) (N := some 131) (v := ?_) (a' := ?_) #[true, true, true, false, true, false, false, false, false, false] rfl rfl (by kernel_rfl) (fun _ _ _ h => h) (Or.inl ⟨by rfl, ?_⟩) ?_ ?_
  rotate_left
  ·intro w'
   go_simp
   with_reducible rfl
  rotate_left
  ·simp only [Act.put, List.setIfInBounds_toArray, List.set_cons_zero, List.set_cons_succ, i64_w, i32_w]
   rfl
  refine pure_ (i := 3) (N := some 132) (v := ?_) (a' := ?_) #[true, true, true, true, true, false, false, false, false, false] rfl rfl (by kernel_rfl) (fun _ _ _ h => h) (Or.inl ⟨by rfl, ?_⟩) ?_ ?_
  rotate_left
  ·intro w'
   go_simp
   with_reducible rfl
  rotate_left
  ·simp only [Act.put, List.setIfInBounds_toArray, List.set_cons_zero, List.set_cons_succ, i64_w, i32_w]
   rfl
  refine pure_ (i := 8) (N := some 8) (v := ?_) (a' := ?_) #[true, true, true, true, true, false, false, false, true, false] rfl rfl (by kernel_rfl) (fun _ _ _ h => h) (Or.inl ⟨by rfl, ?_⟩) ?_ ?_
  rotate_left
  ·intro w'
   go_simp
   with_reducible rfl
  rotate_left
  ·simp only [Act.put, List.setIfInBounds_toArray, List.set_cons_zero, List.set_cons_succ, i64_w, i32_w]
   rfl
  refine take_ (i := 5) (N := some 134) (v := ?_) (a' := ?_) #[true, true, true, true, true, true, false, false, true, false] rfl rfl (by kernel_rfl) (fun _ _ _ h => h) (Or.inl ⟨by rfl, ?_⟩) hHeld ?_ ?_
  rotate_left
  ·rintro w' ⟨s0, s1⟩
   go_simp
   with_reducible rfl
  rotate_left
  ·simp only [Act.put, List.setIfInBounds_toArray, List.set_cons_zero, List.set_cons_succ, i64_w, i32_w]
   rfl
  refine pure_ (i := 6) (N := some 135) (v := ?_) (a' := ?_) #[true, true, true, true, true, true, true, false, true, false] rfl rfl (by kernel_rfl) (fun _ _ _ h => h) (Or.inl ⟨by rfl, ?_⟩) ?_ ?_
  rotate_left
  ·intro w'
   go_simp
   with_reducible rfl
  rotate_left
  ·simp only [Act.put, List.setIfInBounds_toArray, List.set_cons_zero, List.set_cons_succ, i64_w, i32_w]
   rfl
  refine pure_ (i := 7) (N := some 136) (v := ?_) (a' := ?_) #[true, true, true, true, true, true, true, true, true, false] rfl rfl (by kernel_rfl) (fun _ _ _ h => h) (Or.inl ⟨by rfl, ?_⟩) ?_ ?_
  rotate_left
  ·intro w'
   go_simp
   with_reducible rfl
  rotate_left
  ·simp only [Act.put, List.setIfInBounds_toArray, List.set_cons_zero, List.set_cons_succ, i64_w, i32_w]
   rfl
  refine pure_ (i := 9) (N := some 9) (v := ?_) (a' := ?_) #[true, true, true, true, true, true, true, true, true, true] rfl rfl (by kernel_rfl) (fun _ _ _ h => h) (Or.inl ⟨by rfl, ?_⟩) ?_ ?_
  rotate_left
  ·intro w'
   go_simp
   with_reducible rfl
  rotate_left
  ·simp only [Act.put, List.setIfInBounds_toArray, List.set_cons_zero, List.set_cons_succ, i64_w, i32_w]
   rfl
  refine done_ (by kernel_rfl) ?_
  obtain ⟨hz0, hz1, hz2, hz3, hz4, hz5, hz6, hz7⟩ := HI.out.cells
  go_wp2_with fail
  go_ret
  exact ⟨rfl, HI.out.be⟩
theorem ok_10 (k : Nat) (A0 : Option Addr) (c0 : Nat) (l0 : List S79) (nm : ByteArray) (A3 : Option Addr) (c3 : Nat) (it : List S31) (A4 : Option Addr) (c4 : Nat) (ks : List S31) (A5 : Option Addr) (c5 : Nat) (A6 : Option Addr) (c6 : Nat) (w : World) (hr0 : Kd.C k79 w A0 l0.length l0) (hc0 : l0.length ≤ c0) (hr3 : Kd.C k31 w A3 it.length it) (hc3 : it.length ≤ c3) (hr4 : Kd.C k31 w A4 ks.length ks) (hc4 : ks.length ≤ c4) (hr6 : Kd.C k31 w A6 0 ([] : List S31))
  (h3 : it.length ≤ 2) (h4 : ks.length ≤ 2) (h7 : 0 < nm.size) (h8 : impl_Heap_valuesOk.f k l0 it = some true) (h9 : impl_Heap_valuesOk.f k l0 ks = some true) (h10 : impl_Heap_valuesOk.f k l0 [] = some true) (h11 : impl_NameOk.f k nm = some true) :
  Calls Try.prog 49 #[.agg #[.slice A0 l0.length c0], .agg #[.int .i64 10, .string nm, .int .i64 0, .slice A3 it.length c3, .slice A4 ks.length c4, .slice A5 0 c5, .slice A6 0 c6]] w fun e w' => e = .returned (.bool true) ∧ Below w.heap.size w w' := by
 have HR0 := Az.mk hr0
 have HC0 := Az.mk hc0
 have HR3 := Az.mk hr3
 have HC3 := Az.mk hc3
 have HR4 := Az.mk hr4
 have HC4 := Az.mk hc4
 have HR6 := Az.mk hr6
 have H8 := Az.mk h8
 have H9 := Az.mk h9
 have H10 := Az.mk h10
 have H11 := Az.mk h11
 have t1 : decide ((60 : Int) < (it.length : Int)) = false := decide_eq_false (by omega)
 have t2 : (60 < it.length) = False := eq_false (by omega)
 have t3 : decide ((60 : Int) < (ks.length : Int)) = false := decide_eq_false (by omega)
 have t4 : (60 < ks.length) = False := eq_false (by omega)
 have t5 : (nm.toList = []) = False := eq_false (fun e => by
  rw [Lib.toList_data] at e
  have := data_length nm
  rw [e] at this
  simp at this
  omega)
 have t7 : nm.toList.isEmpty = false := by
  cases e : nm.toList with
  | nil => exact absurd e (of_eq_false t5)
  | cons a b => rfl
 have t6 : (nm = ByteArray.empty) = False := eq_false (fun e => by rw [e] at h7; exact absurd h7 (by decide))
 clear hr0 hc0 hr3 hc3 hr4 hc4 hr6 h3 h4 h7 h8 h9 h10 h11
 go_enter Try.func49, Try.ntmps49
 go_wp2_with fail
 have hI : OkW w ((w.alloc (.cells #[.slice A0 l0.length c0] 25 (0, 0))).alloc (.cells #[.int .i64 10, .string nm, .int .i64 0, .slice A3 it.length c3, .slice A4 ks.length c4, .slice A5 0 c5, .slice A6 0 c6] 79 (0, 0))) w.heap.size (w.heap.size + 1) 10 A0 c0 l0 nm A3 c3 it A4 c4 ks A5 c5 A6 c6 := by
  have hb : Below w.heap.size w ((w.alloc (.cells #[.slice A0 l0.length c0] 25 (0, 0))).alloc (.cells #[.int .i64 10, .string nm, .int .i64 0, .slice A3 it.length c3, .slice A4 ks.length c4, .slice A5 0 c5, .slice A6 0 c6] 79 (0, 0))) := bal (bal (Below.refl _ _) _) _
  refine ⟨hb, blk_alloc (blk_new w _) _, ?_, Kd.C_below HR0.out hb, Kd.C_below HR3.out hb, Kd.C_below HR4.out hb, Kd.C_below HR6.out hb⟩
  have := blk_new (w.alloc (.cells #[.slice A0 l0.length c0] 25 (0, 0))) (.cells #[.int .i64 10, .string nm, .int .i64 0, .slice A3 it.length c3, .slice A4 ks.length c4, .slice A5 0 c5, .slice A6 0 c6] 79 (0, 0))
  have e : (w.alloc (.cells #[.slice A0 l0.length c0] 25 (0, 0))).heap.size = w.heap.size + 1 := by simp
  rw [e] at this
  exact this
 have HI := Az.mk hI
 clear hI HR0 HR3 HR4 HR6
 generalize hg3 : w.heap.size + 1 = g3 at HI ⊢
 generalize hg2 : w.heap.size = g2 at HI ⊢
 clear hg2 hg3
 generalize World.alloc _ _ = w1 at HI ⊢
 refine (impl_within.calls 10 0 10 true _ (by rfl)).mono ?_
 rintro e w2 ⟨rfl, hd⟩
 have n0_ := Az.mk (HI.out.below hd.below)
 clear HI hd
 have HI := n0_
 clear n0_
 obtain ⟨hz0, hz1, hz2, hz3, hz4, hz5, hz6, hz7⟩ := HI.out.cells
 go_wp2_with fail
 refine (impl_Heap_valuesOk.calls k A0 c0 l0 A3 c3 it true _ HI.out.r0 HC0.out HI.out.r3 HC3.out H8.out).mono ?_
 rintro e w3 ⟨rfl, hd⟩
 have n0_ := Az.mk (HI.out.below hd)
 clear HI hd hz0 hz1 hz2 hz3 hz4 hz5 hz6 hz7
 have HI := n0_
 clear n0_
 obtain ⟨hz0, hz1, hz2, hz3, hz4, hz5, hz6, hz7⟩ := HI.out.cells
 go_wp2_with fail
 refine (impl_Heap_valuesOk.calls k A0 c0 l0 A4 c4 ks true _ HI.out.r0 HC0.out HI.out.r4 HC4.out H9.out).mono ?_
 rintro e w4 ⟨rfl, hd⟩
 have n0_ := Az.mk (HI.out.below hd)
 clear HI hd hz0 hz1 hz2 hz3 hz4 hz5 hz6 hz7
 have HI := n0_
 clear n0_
 obtain ⟨hz0, hz1, hz2, hz3, hz4, hz5, hz6, hz7⟩ := HI.out.cells
 go_wp2_with fail
 refine (impl_Heap_valuesOk.calls k A0 c0 l0 A6 c6 [] true _ HI.out.r0 HC0.out HI.out.r6 (Nat.zero_le _) H10.out).mono ?_
 rintro e w5 ⟨rfl, hd⟩
 have n0_ := Az.mk (HI.out.below hd)
 clear HI hd hz0 hz1 hz2 hz3 hz4 hz5 hz6 hz7
 have HI := n0_
 clear n0_
 obtain ⟨hz0, hz1, hz2, hz3, hz4, hz5, hz6, hz7⟩ := HI.out.cells
 go_wp2_with fail
 refine (impl_within.calls 0 0 1000000 true _ (by rfl)).mono ?_
 rintro e w6 ⟨rfl, hd⟩
 have n0_ := Az.mk (HI.out.below hd.below)
 clear HI hd hz0 hz1 hz2 hz3 hz4 hz5 hz6 hz7
 have HI := n0_
 clear n0_
 obtain ⟨hz0, hz1, hz2, hz3, hz4, hz5, hz6, hz7⟩ := HI.out.cells
 go_wp2_with fail
 go_loopg [71] 1 (fun kq v71 w' => v71 = .int .i64 0 ∧ w' = w6)
 case atStart => exact ⟨rfl, rfl⟩
 case round =>
  obtain ⟨rfl, rfl⟩ := hrel
  go_wp2_with fail
  refine (impl_NameOk.calls k nm true _ H11.out).mono ?_
  rintro e w7 ⟨rfl, hd⟩
  have n0_ := Az.mk (HI.out.below hd)
  clear HI hd hz0 hz1 hz2 hz3 hz4 hz5 hz6 hz7
  have HI := n0_
  clear n0_
  obtain ⟨hz0, hz1, hz2, hz3, hz4, hz5, hz6, hz7⟩ := HI.out.cells
  go_wp2_with fail
  refine start_ (n := 10) (S := fun w' => w'.cell? ⟨g3, 4, none⟩ = some (.slice A4 ks.length c4) ∧ w'.cell? ⟨g3, 3, none⟩ = some (.slice A3 it.length c3)) (ds := []) #[false, false, false, false, false, false, false, false, false, false] (by kernel_rfl) rfl rfl ⟨hz5, hz4⟩ (fun hHeld => ?_)
  have n0_ := Az.mk (HI.out.below (below_drew (Below.refl _ _)))
  clear HI hz0 hz1 hz2 hz3 hz4 hz5 hz6 hz7
  have HI := n0_
  clear n0_
  generalize World.drew _ = w8 at HI hHeld ⊢
  refine pure_ (i := 0) (N := some 129) (v := ?_) (a' := ?_) #[true, false, false, false, false, false, false, false, false, false] rfl rfl (by kernel_rfl) (fun _ _ _ h => h) (Or.inl ⟨by rfl, ?_⟩) ?_ ?_
  rotate_left
  ·intro w'
   go_simp
   with_reducible rfl
  rotate_left
  ·simp only [Act.put, List.setIfInBounds_toArray, List.set_cons_zero, List.set_cons_succ, i64_w, i32_w]
   rfl
  refine pure_ (i := 4) (N := some 133) (v := ?_) (a' := ?_) #[true, false, false, false, true, false, false, false, false, false] rfl rfl (by kernel_rfl) (fun _ _ _ h => h) (Or.inl ⟨by rfl, ?_⟩) ?_ ?_
  rotate_left
  ·intro w'
   go_simp
   with_reducible rfl
  rotate_left
  ·simp only [Act.put, List.setIfInBounds_toArray, List.set_cons_zero, List.set_cons_succ, i64_w, i32_w]
   rfl
  refine take_ (i := 1) (N := some 130) (v := ?_) (a' := ?_) #[true, true, false, false, true, false, false, false, false, false] rfl rfl (by kernel_rfl) (fun _ _ _ h => h) (Or.inl ⟨by rfl, ?_⟩) hHeld ?_ ?_
  rotate_left
  ·rintro w' ⟨s0, s1⟩
   go_simp
   with_reducible rfl
  rotate_left
  ·simp only [Act.put, List.setIfInBounds_toArray, List.set_cons_zero, List.set_cons_succ, i64_w, i32_w]
   rfl
  refine pure_ (i := 2) (N := some 131) (v := ?_) (a' := ?_) #[true, true, true, false, true, false, false, false, false, false] rfl rfl (by kernel_rfl) (fun _ _ _ h => h) (Or.inl ⟨by rfl, ?_⟩) ?_ ?_
  rotate_left
  ·intro w'
   go_simp
   with_reducible rfl
  rotate_left
  ·simp only [Act.put, List.setIfInBounds_toArray, List.set_cons_zero, List.set_cons_succ, i64_w, i32_w]
   rfl
  refine pure_ (i := 3) (N := some 132) (v := ?_) (a' := ?_) #[true, true, true, true, true, false, false, false, false, false] rfl rfl (by kernel_rfl) (fun _ _ _ h => h) (Or.inl ⟨by rfl, ?_⟩) ?_ ?_
  rotate_left
  ·intro w'
   go_simp
   with_reducible rfl
  rotate_left
  ·simp only [Act.put, List.setIfInBounds_toArray, List.set_cons_zero, List.set_cons_succ, i64_w, i32_w]
   rfl
  refine pure_ (i := 8) (N := some 8) (v := ?_) (a' := ?_) #[true, true, true, true, true, false, false, false, true, false] rfl rfl (by kernel_rfl) (fun _ _ _ h => h) (Or.inl ⟨by rfl, ?_⟩) ?_ ?_
  rotate_left
  ·intro w'
   go_simp
   with_reducible rfl
  rotate_left
  ·simp only [Act.put, List.setIfInBounds_toArray, List.set_cons_zero, List.set_cons_succ, i64_w, i32_w]
   rfl
  refine take_ (i := 5) (N := some 134) (v := ?_) (a' := ?_) #[true, true, true, true, true, true, false, false, true, false] rfl rfl (by kernel_rfl) (fun _ _ _ h => h) (Or.inl ⟨by rfl, ?_⟩) hHeld ?_ ?_
  rotate_left
  ·rintro w' ⟨s0, s1⟩
   go_simp
   with_reducible rfl
  rotate_left
  ·simp only [Act.put, List.setIfInBounds_toArray, List.set_cons_zero, List.set_cons_succ, i64_w, i32_w]
   rfl
  refine pure_ (i := 6) (N := some 135) (v := ?_) (a' := ?_) #[true, true, true, true, true, true, true, false, true, false] rfl rfl (by kernel_rfl) (fun _ _ _ h => h) (Or.inl ⟨by rfl, ?_⟩) ?_ ?_
  rotate_left
  ·intro w'
   go_simp
   with_reducible rfl
  rotate_left
  ·simp only [Act.put, List.setIfInBounds_toArray, List.set_cons_zero, List.set_cons_succ, i64_w, i32_w]
   rfl
  refine pure_ (i := 7) (N := some 136) (v := ?_) (a' := ?_) #[true, true, true, true, true, true, true, true, true, false] rfl rfl (by kernel_rfl) (fun _ _ _ h => h) (Or.inl ⟨by rfl, ?_⟩) ?_ ?_
  rotate_left
  ·intro w'
   go_simp
   with_reducible rfl
  rotate_left
  ·simp only [Act.put, List.setIfInBounds_toArray, List.set_cons_zero, List.set_cons_succ, i64_w, i32_w]
   rfl
  refine pure_ (i := 9) (N := some 9) (v := ?_) (a' := ?_) #[true, true, true, true, true, true, true, true, true, true] rfl rfl (by kernel_rfl) (fun _ _ _ h => h) (Or.inl ⟨by rfl, ?_⟩) ?_ ?_
  rotate_left
  ·intro w'
   go_simp
   with_reducible rfl
  rotate_left
  ·simp only [Act.put, List.setIfInBounds_toArray, List.set_cons_zero, List.set_cons_succ, i64_w, i32_w]
   rfl
  refine done_ (by kernel_rfl) ?_
  obtain ⟨hz0, hz1, hz2, hz3, hz4, hz5, hz6, hz7⟩ := HI.out.cells
  go_wp2_with fail
  go_ret
  exact ⟨rfl, HI.out.be⟩
theorem impl_Heap_objectOk.calls (k : Nat) (A0_0 : Option Addr) (c0_0 : Nat) (l0_0 : List (S79)) (a1_0 : Int) (a1_1 : ByteArray) (a1_2 : Int) (A1_3 : Option Addr) (c1_3 : Nat) (l1_3 : List (S31)) (A1_4 : Option Addr) (c1_4 : Nat) (l1_4 : List (S31)) (A1_5 : Option Addr) (c1_5 : Nat) (l1_5 : List ByteArray) (A1_6 : Option Addr) (c1_6 : Nat) (l1_6 : List (S31)) (r : Bool) (w : World) (hr0_0 : Kd.C k79 w A0_0 l0_0.length l0_0) (hc0_0 : l0_0.length ≤ c0_0) (hr1_3 : Kd.C k31 w A1_3 l1_3.length l1_3) (hc1_3 : l1_3.length ≤ c1_3) (hr1_4 : Kd.C k31 w A1_4 l1_4.length l1_4) (hc1_4 : l1_4.length ≤ c1_4) (hr1_5 : Kd.C Kd.string w A1_5 l1_5.length l1_5) (hc1_5 : l1_5.length ≤ c1_5) (hr1_6 : Kd.C k31 w A1_6 l1_6.length l1_6) (hc1_6 : l1_6.length ≤ c1_6) (h : impl_Heap_objectOk.f k l0_0 a1_0 a1_1 a1_2 l1_3 l1_4 l1_5 l1_6 = some r) :
  Calls Try.prog 49 #[.agg #[.slice A0_0 l0_0.length c0_0], .agg #[.int .i64 a1_0, .string a1_1, .int .i64 a1_2, .slice A1_3 l1_3.length c1_3, .slice A1_4 l1_4.length c1_4, .slice A1_5 l1_5.length c1_5, .slice A1_6 l1_6.length c1_6]] w fun e w' => e = .returned (.bool r) ∧ Below w.heap.size w w' := by
 unfold impl_Heap_objectOk.f at h
 split at h
 ·rename_i hc
  obtain ⟨h1, rfl, h3, h4, rfl, rfl, h7, h8, h9, h10, h11⟩ := hc
  obtain rfl := Option.some.inj h
  rcases h1 with rfl | rfl
  ·exact ok_5 k A0_0 c0_0 l0_0 a1_1 A1_3 c1_3 l1_3 A1_4 c1_4 l1_4 A1_5 c1_5 A1_6 c1_6 w hr0_0 hc0_0 hr1_3 hc1_3 hr1_4 hc1_4 hr1_6 h3 h4 h7 h8 h9 h10 h11
  ·exact ok_10 k A0_0 c0_0 l0_0 a1_1 A1_3 c1_3 l1_3 A1_4 c1_4 l1_4 A1_5 c1_5 A1_6 c1_6 w hr0_0 hc0_0 hr1_3 hc1_3 hr1_4 hc1_4 hr1_6 h3 h4 h7 h8 h9 h10 h11
 ·exact absurd h (by simp)
end Go.Proofs.Ytehhhlhedmfdiaa.PFnHeapNewShows
end
section
namespace Go.Proofs.Ytehhhlhedmfdiaa.PFnHeapNewShows
open Go.RowKit Go.Proofs.Yz0.PrintWords Go.Proofs.Yz0.PrintLast Go.Proofs.Yz0.PrintMore
attribute [local go_sem] max2_int min2_int max_two min_two max_three min_three max_four min_four
set_option linter.unusedVariables false
set_option linter.unusedSimpArgs false
attribute [local go_sem high] eqA31
def impl_HeapOk.l0 : Nat → List (S79) → Int → Int → List (S79) → Option (Bool)
 | 0, _, _, _, _ => none
 | k + 1, x10, x11, x12, x246000 => if x12 < x11 then (if 0 ≤ x12 then (if x12 < (x10.length : Int) then ((impl_Heap_objectOk.f k x246000 ((rd_T79 x10 x12).f0) ((rd_T79 x10 x12).f1) ((rd_T79 x10 x12).f2) ((rd_T79 x10 x12).f3) ((rd_T79 x10 x12).f4) ((rd_T79 x10 x12).f5) ((rd_T79 x10 x12).f6)).bind fun t248 => (if t248 = true then (impl_HeapOk.l0 k x10 x11 (wrap64 (x12 + 1)) x246000) else (some false))) else (none)) else (none)) else (some true)
def impl_HeapOk.f (k : Nat) (l0_0 : List (S79)) : Option (Bool) := if (l0_0.length : Int) > 600 then (some false) else (impl_HeapOk.l0 k l0_0 (l0_0.length : Int) 0 l0_0)
theorem impl_HeapOk.calls (k : Nat) (A0_0 : Option Addr) (c0_0 : Nat) (l0_0 : List (S79)) (r : Bool) (w : World) (hr0_0 : Kd.C k79 w A0_0 l0_0.length l0_0) (hc0_0 : l0_0.length ≤ c0_0) (h : impl_HeapOk.f k l0_0 = some r) :
  Calls Try.prog 12 #[.agg #[.slice A0_0 l0_0.length c0_0]] w fun e w' => e = .returned (.bool r) ∧ Below w.heap.size w w' := by
 have hu25 := Try.underlying25
 have hu79 := Try.underlying79
 have HR0_0 := Az.mk hr0_0
 have HC0_0 := Az.mk hc0_0
 clear hr0_0 hc0_0
 have HB := Az.mk (Below.refl w.heap.size w)
 have H : (if (l0_0.length : Int) > 600 then (some false) else (impl_HeapOk.l0 k l0_0 (l0_0.length : Int) 0 l0_0)) = some r := h
 clear h
 by_cases c2 : (l0_0.length : Int) > 600
 ·rw [if_pos c2] at H
  have c2b0 : decide (600 < (l0_0.length : Int)) = true := decide_eq_true c2
  have c2b1 : decide (600 < l0_0.length) = true := decide_eq_true (by omega)
  clear c2
  obtain rfl := Option.some.inj H
  go_enter Try.func12, Try.ntmps12
  go_wp2_with (first | ((with_reducible refine gate_dst (N := 1) rfl ?_); refine box_event ?hg (N := 1) ?hd (cs := #[.slice A0_0 l0_0.length c0_0]) (t := 25) ?hr ?_; (case hd => rfl); (case hg => rfl); (case hr => first | (go_simp; done) | (go_simp; rfl)); intro gb245 hg w3 hbox hb; have n0_ := Az.mk (below_step (by repeat (first | (with_reducible first | exact HB.out | apply bal | apply bdN | apply bdr) | exact HB.out)) hb); have n1_ := Az.mk (hbox); have n2_ := Az.mk ((by rw [hg]; exact (below_size (by repeat (first | (with_reducible first | exact HB.out | apply bal | apply bdN | apply bdr) | exact HB.out))) : w.heap.size ≤ gb245)); have n3_ := Az.mk ((by rw [hg]; exact (below_size (by repeat (first | (with_reducible first | exact HB.out | apply bal | apply bdN | apply bdr) | exact HB.out))) : w.heap.size ≤ gb245)); clear HB; have HB := n0_; have BK245 := n1_; have GW245 := n2_; have GE245 := n3_; clear n0_ n1_ n2_ n3_; clear hb hbox hg; have hcz4_0 : w3.cell? ⟨gb245, 0, none⟩ = some (.slice A0_0 l0_0.length c0_0) := (bC BK245.out 0).trans rfl; have hfz4_0 := bF BK245.out 0))
  go_ret
  exact ⟨by first | rfl | (simp [errW_none, errW_some] <;> rfl) | (simp [*, errW_none, errW_some] <;> rfl), by repeat (first | (with_reducible first | exact HB.out | apply bal | apply bdN | apply bdr | refine bS ?_ GE245.out) | exact HB.out)⟩
 ·rw [if_neg c2] at H
  have c2b0 : decide (600 < (l0_0.length : Int)) = false := decide_eq_false c2
  have c2b1 : decide (600 < l0_0.length) = false := decide_eq_false (by omega)
  clear c2
  have H' := Az.mk H
  clear H
  go_enter Try.func12, Try.ntmps12
  go_wp2_with (first | ((with_reducible refine gate_dst (N := 1) rfl ?_); refine box_event ?hg (N := 1) ?hd (cs := #[.slice A0_0 l0_0.length c0_0]) (t := 25) ?hr ?_; (case hd => rfl); (case hg => rfl); (case hr => first | (go_simp; done) | (go_simp; rfl)); intro gb245 hg w5 hbox hb; have n0_ := Az.mk (below_step (by repeat (first | (with_reducible first | exact HB.out | apply bal | apply bdN | apply bdr) | exact HB.out)) hb); have n1_ := Az.mk (hbox); have n2_ := Az.mk ((by rw [hg]; exact (below_size (by repeat (first | (with_reducible first | exact HB.out | apply bal | apply bdN | apply bdr) | exact HB.out))) : w.heap.size ≤ gb245)); have n3_ := Az.mk ((by rw [hg]; exact (below_size (by repeat (first | (with_reducible first | exact HB.out | apply bal | apply bdN | apply bdr) | exact HB.out))) : w.heap.size ≤ gb245)); clear HB; have HB := n0_; have BK245 := n1_; have GW245 := n2_; have GE245 := n3_; clear n0_ n1_ n2_ n3_; clear hb hbox hg; have hcz6_0 : w5.cell? ⟨gb245, 0, none⟩ = some (.slice A0_0 l0_0.length c0_0) := (bC BK245.out 0).trans rfl; have hfz6_0 := bF BK245.out 0))
  go_loopg [12] k (fun kq v12 w' => ∃ (x12_1 : Int), v12 = .int .i64 x12_1 ∧ Az (impl_HeapOk.l0 kq l0_0 (l0_0.length : Int) x12_1 l0_0 = some r) ∧ Az (kq ≤ k) ∧ Az (w'.heap[gb245]? = some (.cells #[(.slice A0_0 l0_0.length c0_0)] 25 (0, 0))) ∧ Az (Below w.heap.size w w'))
  case atStart => exact ⟨(0), (by first | rfl | (simp; done) | (simp [*]; done)), H', ⟨Nat.le_refl _⟩, ⟨by (with_reducible repeat (first | refine blk_drewN ?_ _ | refine blk_drew ?_ | refine blk_alloc ?_ _)); exact BK245.out⟩, ⟨by repeat (first | (with_reducible first | exact HB.out | apply bal | apply bdN | apply bdr | refine bS ?_ GE245.out) | exact HB.out)⟩⟩
  case round =>
   clear H'
   try clear c1
   try clear c2
   try clear c2b0
   try clear c2b1
   try clear p2
   try clear hcz4_0
   try clear hcz6_0
   try clear hfz4_0
   try clear hfz6_0
   obtain ⟨x12_1, rfl, HA, HK1, BK245, HB⟩ := hrel
   cases gk with
   | zero => exact absurd HA.out (by simp [impl_HeapOk.l0])
   | succ k1 =>
    have H := HA.out
    clear HA
    simp only [impl_HeapOk.l0] at H
    by_cases c7 : x12_1 < (l0_0.length : Int)
    ·rw [if_pos c7] at H
     have c7b0 : decide (x12_1 < (l0_0.length : Int)) = true := decide_eq_true c7
     clear c7
     by_cases c8 : 0 ≤ x12_1
     ·rw [if_pos c8] at H
      have c8b0 : decide (0 ≤ x12_1) = true := decide_eq_true c8
      clear c8
      by_cases c9 : x12_1 < (l0_0.length : Int)
      ·rw [if_pos c9] at H
       have c9b0 : decide (x12_1 < (l0_0.length : Int)) = true := decide_eq_true c9
       clear c9
       replace H := Option.bind_eq_some_iff.mp H
       obtain ⟨t248, A100, H⟩ := H
       replace H : (if t248 = true then (impl_HeapOk.l0 k1 l0_0 (l0_0.length : Int) (wrap64 (x12_1 + 1)) l0_0) else (some false)) = some r := H
       have A10 := Az.mk A100
       clear A100
       by_cases c11 : t248 = true
       ·subst c11
        have H1 : (impl_HeapOk.l0 k1 l0_0 (l0_0.length : Int) (wrap64 (x12_1 + 1)) l0_0) = some r := by rw [if_pos rfl] at H; exact H
        clear H
        have H := H1
        clear H1
        have H' := Az.mk H
        clear H
        have p246 : 0 ≤ (x12_1 : Int) := of_decide_eq_true (by first | (with_reducible assumption) | assumption)
        have q246 : x12_1 < (l0_0.length : Int) := of_decide_eq_true (by first | (with_reducible assumption) | assumption)
        obtain ⟨ad246, A246_3, c246_3, A246_4, c246_4, A246_5, c246_5, A246_6, c246_6, e246, hx246_0, hx246_1, hx246_2, hx246_3, hx246_4, hx246_5, hx246_6, hl246_3, hi246_3, hl246_4, hi246_4, hl246_5, hi246_5, hl246_6, hi246_6⟩ := at_T79 HR0_0.out x12_1 p246 q246
        cases e246
        replace hx246_0 := (HB.out.cell (World.block_lt_of_cell? w _ hx246_0)).trans hx246_0
        replace hx246_1 := (HB.out.cell (World.block_lt_of_cell? w _ hx246_1)).trans hx246_1
        replace hx246_2 := (HB.out.cell (World.block_lt_of_cell? w _ hx246_2)).trans hx246_2
        replace hx246_3 := (HB.out.cell (World.block_lt_of_cell? w _ hx246_3)).trans hx246_3
        replace hx246_4 := (HB.out.cell (World.block_lt_of_cell? w _ hx246_4)).trans hx246_4
        replace hx246_5 := (HB.out.cell (World.block_lt_of_cell? w _ hx246_5)).trans hx246_5
        replace hx246_6 := (HB.out.cell (World.block_lt_of_cell? w _ hx246_6)).trans hx246_6
        have HR246_3 := Az.mk hi246_3
        have HC246_3 := Az.mk hl246_3
        clear hi246_3 hl246_3
        have HR246_4 := Az.mk hi246_4
        have HC246_4 := Az.mk hl246_4
        clear hi246_4 hl246_4
        have HR246_5 := Az.mk hi246_5
        have HC246_5 := Az.mk hl246_5
        clear hi246_5 hl246_5
        have HR246_6 := Az.mk hi246_6
        have HC246_6 := Az.mk hl246_6
        clear hi246_6 hl246_6
        replace p246 := eq_true p246
        replace q246 := eq_true q246
        go_wp2_with (first | ((with_reducible refine gate_dst (N := 4) rfl ?_); refine box_event ?hg (N := 4) ?hd (cs := #[.int .i64 0, .string (⟨#[]⟩ : ByteArray), .int .i64 0, .slice none 0 0, .slice none 0 0, .slice none 0 0, .slice none 0 0]) (t := 79) ?hr ?_; (case hd => rfl); (case hg => rfl); (case hr => first | (go_simp; done) | (go_simp; rfl)); intro gb247 hg w12 hbox hb; have n0_ := Az.mk (blk_below (g := gb245) (o := .cells #[.slice (some ad246) l0_0.length c0_0] 25 (0, 0)) (by (with_reducible repeat (first | refine blk_drewN ?_ _ | refine blk_drew ?_ | refine blk_alloc ?_ _)); exact BK245.out) hb); have n1_ := Az.mk (below_step (by repeat (first | (with_reducible first | exact HB.out | apply bal | apply bdN | apply bdr | refine bS ?_ GE245.out) | exact HB.out)) hb); have n2_ := Az.mk (hbox); have n3_ := Az.mk ((by rw [hg]; exact (below_size (by repeat (first | (with_reducible first | exact HB.out | apply bal | apply bdN | apply bdr | refine bS ?_ GE245.out) | exact HB.out))) : w.heap.size ≤ gb247)); have n4_ := Az.mk ((by rw [hg]; exact (below_size (by repeat (first | (with_reducible first | exact HB.out | apply bal | apply bdN | apply bdr | refine bS ?_ GE245.out) | exact HB.out))) : w.heap.size ≤ gb247)); have n5_ := Az.mk ((by rw [hg]; exact Nat.ne_of_lt (blk_lt (g := gb245) (o := .cells #[.slice (some ad246) l0_0.length c0_0] 25 (0, 0)) (by (with_reducible repeat (first | refine blk_drewN ?_ _ | refine blk_drew ?_ | refine blk_alloc ?_ _)); exact BK245.out)) : gb245 ≠ gb247)); have n6_ := Az.mk ((by rw [hg]; exact Nat.ne_of_gt (blk_lt (g := gb245) (o := .cells #[.slice (some ad246) l0_0.length c0_0] 25 (0, 0)) (by (with_reducible repeat (first | refine blk_drewN ?_ _ | refine blk_drew ?_ | refine blk_alloc ?_ _)); exact BK245.out)) : gb247 ≠ gb245)); clear BK245; clear HB; have BK245 := n0_; have HB := n1_; have BK247 := n2_; have GW247 := n3_; have GE247 := n4_; have NB245_247 := n5_; have NB247_245 := n6_; clear n0_ n1_ n2_ n3_ n4_ n5_ n6_; clear hb hbox hg; have hnb13 := NB247_245.out; have hnc13 := NB245_247.out; have hcz14_0 : w12.cell? ⟨gb247, 0, none⟩ = some (.int .i64 0) := (bC BK247.out 0).trans rfl; have hcz14_1 : w12.cell? ⟨gb247, 1, none⟩ = some (.string (⟨#[]⟩ : ByteArray)) := (bC BK247.out 1).trans rfl; have hcz14_2 : w12.cell? ⟨gb247, 2, none⟩ = some (.int .i64 0) := (bC BK247.out 2).trans rfl; have hcz14_3 : w12.cell? ⟨gb247, 3, none⟩ = some (.slice none 0 0) := (bC BK247.out 3).trans rfl; have hcz14_4 : w12.cell? ⟨gb247, 4, none⟩ = some (.slice none 0 0) := (bC BK247.out 4).trans rfl; have hcz14_5 : w12.cell? ⟨gb247, 5, none⟩ = some (.slice none 0 0) := (bC BK247.out 5).trans rfl; have hcz14_6 : w12.cell? ⟨gb247, 6, none⟩ = some (.slice none 0 0) := (bC BK247.out 6).trans rfl; have hfz14_0 := bF BK247.out 0; have hfz14_1 := bF BK247.out 1; have hfz14_2 := bF BK247.out 2; have hfz14_3 := bF BK247.out 3; have hfz14_4 := bF BK247.out 4; have hfz14_5 := bF BK247.out 5; have hfz14_6 := bF BK247.out 6; have hcz15_0 : w12.cell? ⟨gb245, 0, none⟩ = some (.slice (some ad246) l0_0.length c0_0) := (bC BK245.out 0).trans rfl; have hfz15_0 := bF BK245.out 0) | ((with_reducible refine gate_callee (f := 49) rfl ?_); refine goesL_ (some 18) rfl rfl Try.func49 (by kernel_rfl) rfl #[.agg #[.slice (some ad246) l0_0.length c0_0], .agg #[.int .i64 ((rd_T79 l0_0 x12_1).f0), .string ((rd_T79 l0_0 x12_1).f1), .int .i64 ((rd_T79 l0_0 x12_1).f2), .slice A246_3 ((rd_T79 l0_0 x12_1).f3).length c246_3, .slice A246_4 ((rd_T79 l0_0 x12_1).f4).length c246_4, .slice A246_5 ((rd_T79 l0_0 x12_1).f5).length c246_5, .slice A246_6 ((rd_T79 l0_0 x12_1).f6).length c246_6]] rfl (by (try simp only [List.map_toArray, List.map_cons, List.map_nil]); first | done | rfl | (simp only [List.length_drop, List.length_take]; rfl)) ?_; (with_reducible refine (impl_Heap_objectOk.calls k1 _ _ l0_0 ((rd_T79 l0_0 x12_1).f0) ((rd_T79 l0_0 x12_1).f1) ((rd_T79 l0_0 x12_1).f2) _ _ ((rd_T79 l0_0 x12_1).f3) _ _ ((rd_T79 l0_0 x12_1).f4) _ _ ((rd_T79 l0_0 x12_1).f5) _ _ ((rd_T79 l0_0 x12_1).f6) true _ ?side1 ?side2 ?side3 ?side4 ?side5 ?side6 ?side7 ?side8 ?side9 ?side10 A10.out).mono ?_); (case side1 => exact Kd.C_below HR0_0.out (by repeat (first | (with_reducible first | exact HB.out | apply bal | apply bdN | apply bdr | refine bS ?_ GE245.out | refine bS ?_ GE247.out) | exact HB.out))); (case side2 => exact HC0_0.out); (case side3 => exact Kd.C_below HR246_3.out (by repeat (first | (with_reducible first | exact HB.out | apply bal | apply bdN | apply bdr | refine bS ?_ GE245.out | refine bS ?_ GE247.out) | exact HB.out))); (case side4 => exact HC246_3.out); (case side5 => exact Kd.C_below HR246_4.out (by repeat (first | (with_reducible first | exact HB.out | apply bal | apply bdN | apply bdr | refine bS ?_ GE245.out | refine bS ?_ GE247.out) | exact HB.out))); (case side6 => exact HC246_4.out); (case side7 => exact Kd.C_below HR246_5.out (by repeat (first | (with_reducible first | exact HB.out | apply bal | apply bdN | apply bdr | refine bS ?_ GE245.out | refine bS ?_ GE247.out) | exact HB.out))); (case side8 => exact HC246_5.out); (case side9 => exact Kd.C_below HR246_6.out (by repeat (first | (with_reducible first | exact HB.out | apply bal | apply bdN | apply bdr | refine bS ?_ GE245.out | refine bS ?_ GE247.out) | exact HB.out))); (case side10 => exact HC246_6.out); rintro e w16 ⟨rfl, hb⟩; refine ⟨_, rfl, ?_⟩; have n0_ := Az.mk (blk_below (g := gb245) (o := .cells #[.slice (some ad246) l0_0.length c0_0] 25 (0, 0)) (by (with_reducible repeat (first | refine blk_drewN ?_ _ | refine blk_drew ?_ | refine blk_alloc ?_ _)); refine blk_far ?_ NB245_247.out _; (with_reducible repeat (first | refine blk_drewN ?_ _ | refine blk_drew ?_ | refine blk_alloc ?_ _)); refine blk_far ?_ NB245_247.out _; (with_reducible repeat (first | refine blk_drewN ?_ _ | refine blk_drew ?_ | refine blk_alloc ?_ _)); refine blk_far ?_ NB245_247.out _; (with_reducible repeat (first | refine blk_drewN ?_ _ | refine blk_drew ?_ | refine blk_alloc ?_ _)); refine blk_far ?_ NB245_247.out _; (with_reducible repeat (first | refine blk_drewN ?_ _ | refine blk_drew ?_ | refine blk_alloc ?_ _)); refine blk_far ?_ NB245_247.out _; (with_reducible repeat (first | refine blk_drewN ?_ _ | refine blk_drew ?_ | refine blk_alloc ?_ _)); refine blk_far ?_ NB245_247.out _; (with_reducible repeat (first | refine blk_drewN ?_ _ | refine blk_drew ?_ | refine blk_alloc ?_ _)); refine blk_far ?_ NB245_247.out _; (with_reducible repeat (first | refine blk_drewN ?_ _ | refine blk_drew ?_ | refine blk_alloc ?_ _)); exact BK245.out) hb); have n1_ := Az.mk (blk_below (g := gb247) (o := .cells #[.int .i64 ((rd_T79 l0_0 x12_1).f0), .string ((rd_T79 l0_0 x12_1).f1), .int .i64 ((rd_T79 l0_0 x12_1).f2), .slice A246_3 ((rd_T79 l0_0 x12_1).f3).length c246_3, .slice A246_4 ((rd_T79 l0_0 x12_1).f4).length c246_4, .slice A246_5 ((rd_T79 l0_0 x12_1).f5).length c246_5, .slice A246_6 ((rd_T79 l0_0 x12_1).f6).length c246_6] 79 (0, 0)) (by (with_reducible repeat (first | refine blk_drewN ?_ _ | refine blk_drew ?_ | refine blk_alloc ?_ _)); refine blk_put (cs := #[.int .i64 ((rd_T79 l0_0 x12_1).f0), .string ((rd_T79 l0_0 x12_1).f1), .int .i64 ((rd_T79 l0_0 x12_1).f2), .slice A246_3 ((rd_T79 l0_0 x12_1).f3).length c246_3, .slice A246_4 ((rd_T79 l0_0 x12_1).f4).length c246_4, .slice A246_5 ((rd_T79 l0_0 x12_1).f5).length c246_5, .slice none 0 0]) ?_ 6 _ rfl; (with_reducible repeat (first | refine blk_drewN ?_ _ | refine blk_drew ?_ | refine blk_alloc ?_ _)); refine blk_put (cs := #[.int .i64 ((rd_T79 l0_0 x12_1).f0), .string ((rd_T79 l0_0 x12_1).f1), .int .i64 ((rd_T79 l0_0 x12_1).f2), .slice A246_3 ((rd_T79 l0_0 x12_1).f3).length c246_3, .slice A246_4 ((rd_T79 l0_0 x12_1).f4).length c246_4, .slice none 0 0, .slice none 0 0]) ?_ 5 _ rfl; (with_reducible repeat (first | refine blk_drewN ?_ _ | refine blk_drew ?_ | refine blk_alloc ?_ _)); refine blk_put (cs := #[.int .i64 ((rd_T79 l0_0 x12_1).f0), .string ((rd_T79 l0_0 x12_1).f1), .int .i64 ((rd_T79 l0_0 x12_1).f2), .slice A246_3 ((rd_T79 l0_0 x12_1).f3).length c246_3, .slice none 0 0, .slice none 0 0, .slice none 0 0]) ?_ 4 _ rfl; (with_reducible repeat (first | refine blk_drewN ?_ _ | refine blk_drew ?_ | refine blk_alloc ?_ _)); refine blk_put (cs := #[.int .i64 ((rd_T79 l0_0 x12_1).f0), .string ((rd_T79 l0_0 x12_1).f1), .int .i64 ((rd_T79 l0_0 x12_1).f2), .slice none 0 0, .slice none 0 0, .slice none 0 0, .slice none 0 0]) ?_ 3 _ rfl; (with_reducible repeat (first | refine blk_drewN ?_ _ | refine blk_drew ?_ | refine blk_alloc ?_ _)); refine blk_put (cs := #[.int .i64 ((rd_T79 l0_0 x12_1).f0), .string ((rd_T79 l0_0 x12_1).f1), .int .i64 0, .slice none 0 0, .slice none 0 0, .slice none 0 0, .slice none 0 0]) ?_ 2 _ rfl; (with_reducible repeat (first | refine blk_drewN ?_ _ | refine blk_drew ?_ | refine blk_alloc ?_ _)); refine blk_put (cs := #[.int .i64 ((rd_T79 l0_0 x12_1).f0), .string (⟨#[]⟩ : ByteArray), .int .i64 0, .slice none 0 0, .slice none 0 0, .slice none 0 0, .slice none 0 0]) ?_ 1 _ rfl; (with_reducible repeat (first | refine blk_drewN ?_ _ | refine blk_drew ?_ | refine blk_alloc ?_ _)); refine blk_put (cs := #[.int .i64 0, .string (⟨#[]⟩ : ByteArray), .int .i64 0, .slice none 0 0, .slice none 0 0, .slice none 0 0, .slice none 0 0]) ?_ 0 _ rfl; (with_reducible repeat (first | refine blk_drewN ?_ _ | refine blk_drew ?_ | refine blk_alloc ?_ _)); exact BK247.out) hb); have n2_ := Az.mk (below_step (by repeat (first | (with_reducible first | exact HB.out | apply bal | apply bdN | apply bdr | refine bS ?_ GE245.out | refine bS ?_ GE247.out) | exact HB.out)) hb); clear BK245; clear BK247; clear HB; have BK245 := n0_; have BK247 := n1_; have HB := n2_; clear n0_ n1_ n2_; (try clear hb); (try clear hb2); (try clear hk); (try clear hi)))
        go_roundg k1
        case measure => have := HK1.out; omega
        case rel => exact ⟨(wrap64 (x12_1 + 1)), (by first | rfl | (simp; done) | (simp [*]; done)), H', ⟨by have := HK1.out; omega⟩, ⟨by (with_reducible repeat (first | refine blk_drewN ?_ _ | refine blk_drew ?_ | refine blk_alloc ?_ _)); exact BK245.out⟩, ⟨by repeat (first | (with_reducible first | exact HB.out | apply bal | apply bdN | apply bdr | refine bS ?_ GE245.out | refine bS ?_ GE247.out) | exact HB.out)⟩⟩
       ·replace c11 := Bool.eq_false_iff.mpr c11
        subst c11
        have H1 : (some false) = some r := by rw [if_neg (show ¬ (false = true) by decide)] at H; exact H
        clear H
        have H := H1
        clear H1
        obtain rfl := Option.some.inj H
        have p246 : 0 ≤ (x12_1 : Int) := of_decide_eq_true (by first | (with_reducible assumption) | assumption)
        have q246 : x12_1 < (l0_0.length : Int) := of_decide_eq_true (by first | (with_reducible assumption) | assumption)
        obtain ⟨ad246, A246_3, c246_3, A246_4, c246_4, A246_5, c246_5, A246_6, c246_6, e246, hx246_0, hx246_1, hx246_2, hx246_3, hx246_4, hx246_5, hx246_6, hl246_3, hi246_3, hl246_4, hi246_4, hl246_5, hi246_5, hl246_6, hi246_6⟩ := at_T79 HR0_0.out x12_1 p246 q246
        cases e246
        replace hx246_0 := (HB.out.cell (World.block_lt_of_cell? w _ hx246_0)).trans hx246_0
        replace hx246_1 := (HB.out.cell (World.block_lt_of_cell? w _ hx246_1)).trans hx246_1
        replace hx246_2 := (HB.out.cell (World.block_lt_of_cell? w _ hx246_2)).trans hx246_2
        replace hx246_3 := (HB.out.cell (World.block_lt_of_cell? w _ hx246_3)).trans hx246_3
        replace hx246_4 := (HB.out.cell (World.block_lt_of_cell? w _ hx246_4)).trans hx246_4
        replace hx246_5 := (HB.out.cell (World.block_lt_of_cell? w _ hx246_5)).trans hx246_5
        replace hx246_6 := (HB.out.cell (World.block_lt_of_cell? w _ hx246_6)).trans hx246_6
        have HR246_3 := Az.mk hi246_3
        have HC246_3 := Az.mk hl246_3
        clear hi246_3 hl246_3
        have HR246_4 := Az.mk hi246_4
        have HC246_4 := Az.mk hl246_4
        clear hi246_4 hl246_4
        have HR246_5 := Az.mk hi246_5
        have HC246_5 := Az.mk hl246_5
        clear hi246_5 hl246_5
        have HR246_6 := Az.mk hi246_6
        have HC246_6 := Az.mk hl246_6
        clear hi246_6 hl246_6
        replace p246 := eq_true p246
        replace q246 := eq_true q246
        go_wp2_with (first | ((with_reducible refine gate_dst (N := 4) rfl ?_); refine box_event ?hg (N := 4) ?hd (cs := #[.int .i64 0, .string (⟨#[]⟩ : ByteArray), .int .i64 0, .slice none 0 0, .slice none 0 0, .slice none 0 0, .slice none 0 0]) (t := 79) ?hr ?_; (case hd => rfl); (case hg => rfl); (case hr => first | (go_simp; done) | (go_simp; rfl)); intro gb247 hg w17 hbox hb; have n0_ := Az.mk (blk_below (g := gb245) (o := .cells #[.slice (some ad246) l0_0.length c0_0] 25 (0, 0)) (by (with_reducible repeat (first | refine blk_drewN ?_ _ | refine blk_drew ?_ | refine blk_alloc ?_ _)); exact BK245.out) hb); have n1_ := Az.mk (below_step (by repeat (first | (with_reducible first | exact HB.out | apply bal | apply bdN | apply bdr | refine bS ?_ GE245.out) | exact HB.out)) hb); have n2_ := Az.mk (hbox); have n3_ := Az.mk ((by rw [hg]; exact (below_size (by repeat (first | (with_reducible first | exact HB.out | apply bal | apply bdN | apply bdr | refine bS ?_ GE245.out) | exact HB.out))) : w.heap.size ≤ gb247)); have n4_ := Az.mk ((by rw [hg]; exact (below_size (by repeat (first | (with_reducible first | exact HB.out | apply bal | apply bdN | apply bdr | refine bS ?_ GE245.out) | exact HB.out))) : w.heap.size ≤ gb247)); have n5_ := Az.mk ((by rw [hg]; exact Nat.ne_of_lt (blk_lt (g := gb245) (o := .cells #[.slice (some ad246) l0_0.length c0_0] 25 (0, 0)) (by (with_reducible repeat (first | refine blk_drewN ?_ _ | refine blk_drew ?_ | refine blk_alloc ?_ _)); exact BK245.out)) : gb245 ≠ gb247)); have n6_ := Az.mk ((by rw [hg]; exact Nat.ne_of_gt (blk_lt (g := gb245) (o := .cells #[.slice (some ad246) l0_0.length c0_0] 25 (0, 0)) (by (with_reducible repeat (first | refine blk_drewN ?_ _ | refine blk_drew ?_ | refine blk_alloc ?_ _)); exact BK245.out)) : gb247 ≠ gb245)); clear BK245; clear HB; have BK245 := n0_; have HB := n1_; have BK247 := n2_; have GW247 := n3_; have GE247 := n4_; have NB245_247 := n5_; have NB247_245 := n6_; clear n0_ n1_ n2_ n3_ n4_ n5_ n6_; clear hb hbox hg; have hnb18 := NB247_245.out; have hnc18 := NB245_247.out; have hcz19_0 : w17.cell? ⟨gb247, 0, none⟩ = some (.int .i64 0) := (bC BK247.out 0).trans rfl; have hcz19_1 : w17.cell? ⟨gb247, 1, none⟩ = some (.string (⟨#[]⟩ : ByteArray)) := (bC BK247.out 1).trans rfl; have hcz19_2 : w17.cell? ⟨gb247, 2, none⟩ = some (.int .i64 0) := (bC BK247.out 2).trans rfl; have hcz19_3 : w17.cell? ⟨gb247, 3, none⟩ = some (.slice none 0 0) := (bC BK247.out 3).trans rfl; have hcz19_4 : w17.cell? ⟨gb247, 4, none⟩ = some (.slice none 0 0) := (bC BK247.out 4).trans rfl; have hcz19_5 : w17.cell? ⟨gb247, 5, none⟩ = some (.slice none 0 0) := (bC BK247.out 5).trans rfl; have hcz19_6 : w17.cell? ⟨gb247, 6, none⟩ = some (.slice none 0 0) := (bC BK247.out 6).trans rfl; have hfz19_0 := bF BK247.out 0; have hfz19_1 := bF BK247.out 1; have hfz19_2 := bF BK247.out 2; have hfz19_3 := bF BK247.out 3; have hfz19_4 := bF BK247.out 4; have hfz19_5 := bF BK247.out 5; have hfz19_6 := bF BK247.out 6; have hcz20_0 : w17.cell? ⟨gb245, 0, none⟩ = some (.slice (some ad246) l0_0.length c0_0) := (bC BK245.out 0).trans rfl; have hfz20_0 := bF BK245.out 0) | ((with_reducible refine gate_callee (f := 49) rfl ?_); refine goesL_ (some 18) rfl rfl Try.func49 (by kernel_rfl) rfl #[.agg #[.slice (some ad246) l0_0.length c0_0], .agg #[.int .i64 ((rd_T79 l0_0 x12_1).f0), .string ((rd_T79 l0_0 x12_1).f1), .int .i64 ((rd_T79 l0_0 x12_1).f2), .slice A246_3 ((rd_T79 l0_0 x12_1).f3).length c246_3, .slice A246_4 ((rd_T79 l0_0 x12_1).f4).length c246_4, .slice A246_5 ((rd_T79 l0_0 x12_1).f5).length c246_5, .slice A246_6 ((rd_T79 l0_0 x12_1).f6).length c246_6]] rfl (by (try simp only [List.map_toArray, List.map_cons, List.map_nil]); first | done | rfl | (simp only [List.length_drop, List.length_take]; rfl)) ?_; (with_reducible refine (impl_Heap_objectOk.calls k1 _ _ l0_0 ((rd_T79 l0_0 x12_1).f0) ((rd_T79 l0_0 x12_1).f1) ((rd_T79 l0_0 x12_1).f2) _ _ ((rd_T79 l0_0 x12_1).f3) _ _ ((rd_T79 l0_0 x12_1).f4) _ _ ((rd_T79 l0_0 x12_1).f5) _ _ ((rd_T79 l0_0 x12_1).f6) false _ ?side1 ?side2 ?side3 ?side4 ?side5 ?side6 ?side7 ?side8 ?side9 ?side10 A10.out).mono ?_); (case side1 => exact Kd.C_below HR0_0.out (by repeat (first | (with_reducible first | exact HB.out | apply bal | apply bdN | apply bdr | refine bS ?_ GE245.out | refine bS ?_ GE247.out) | exact HB.out))); (case side2 => exact HC0_0.out); (case side3 => exact Kd.C_below HR246_3.out (by repeat (first | (with_reducible first | exact HB.out | apply bal | apply bdN | apply bdr | refine bS ?_ GE245.out | refine bS ?_ GE247.out) | exact HB.out))); (case side4 => exact HC246_3.out); (case side5 => exact Kd.C_below HR246_4.out (by repeat (first | (with_reducible first | exact HB.out | apply bal | apply bdN | apply bdr | refine bS ?_ GE245.out | refine bS ?_ GE247.out) | exact HB.out))); (case side6 => exact HC246_4.out); (case side7 => exact Kd.C_below HR246_5.out (by repeat (first | (with_reducible first | exact HB.out | apply bal | apply bdN | apply bdr | refine bS ?_ GE245.out | refine bS ?_ GE247.out) | exact HB.out))); (case side8 => exact HC246_5.out); (case side9 => exact Kd.C_below HR246_6.out (by repeat (first | (with_reducible first | exact HB.out | apply bal | apply bdN | apply bdr | refine bS ?_ GE245.out | refine bS ?_ GE247.out) | exact HB.out))); (case side10 => exact HC246_6.out); rintro e w21 ⟨rfl, hb⟩; refine ⟨_, rfl, ?_⟩; have n0_ := Az.mk (blk_below (g := gb245) (o := .cells #[.slice (some ad246) l0_0.length c0_0] 25 (0, 0)) (by (with_reducible repeat (first | refine blk_drewN ?_ _ | refine blk_drew ?_ | refine blk_alloc ?_ _)); refine blk_far ?_ NB245_247.out _; (with_reducible repeat (first | refine blk_drewN ?_ _ | refine blk_drew ?_ | refine blk_alloc ?_ _)); refine blk_far ?_ NB245_247.out _; (with_reducible repeat (first | refine blk_drewN ?_ _ | refine blk_drew ?_ | refine blk_alloc ?_ _)); refine blk_far ?_ NB245_247.out _; (with_reducible repeat (first | refine blk_drewN ?_ _ | refine blk_drew ?_ | refine blk_alloc ?_ _)); refine blk_far ?_ NB245_247.out _; (with_reducible repeat (first | refine blk_drewN ?_ _ | refine blk_drew ?_ | refine blk_alloc ?_ _)); refine blk_far ?_ NB245_247.out _; (with_reducible repeat (first | refine blk_drewN ?_ _ | refine blk_drew ?_ | refine blk_alloc ?_ _)); refine blk_far ?_ NB245_247.out _; (with_reducible repeat (first | refine blk_drewN ?_ _ | refine blk_drew ?_ | refine blk_alloc ?_ _)); refine blk_far ?_ NB245_247.out _; (with_reducible repeat (first | refine blk_drewN ?_ _ | refine blk_drew ?_ | refine blk_alloc ?_ _)); exact BK245.out) hb); have n1_ := Az.mk (blk_below (g := gb247) (o := .cells #[.int .i64 ((rd_T79 l0_0 x12_1).f0), .string ((rd_T79 l0_0 x12_1).f1), .int .i64 ((rd_T79 l0_0 x12_1).f2), .slice A246_3 ((rd_T79 l0_0 x12_1).f3).length c246_3, .slice A246_4 ((rd_T79 l0_0 x12_1).f4).length c246_4, .slice A246_5 ((rd_T79 l0_0 x12_1).f5).length c246_5, .slice A246_6 ((rd_T79 l0_0 x12_1).f6).length c246_6] 79 (0, 0)) (by (with_reducible repeat (first | refine blk_drewN ?_ _ | refine blk_drew ?_ | refine blk_alloc ?_ _)); refine blk_put (cs := #[.int .i64 ((rd_T79 l0_0 x12_1).f0), .string ((rd_T79 l0_0 x12_1).f1), .int .i64 ((rd_T79 l0_0 x12_1).f2), .slice A246_3 ((rd_T79 l0_0 x12_1).f3).length c246_3, .slice A246_4 ((rd_T79 l0_0 x12_1).f4).length c246_4, .slice A246_5 ((rd_T79 l0_0 x12_1).f5).length c246_5, .slice none 0 0]) ?_ 6 _ rfl; (with_reducible repeat (first | refine blk_drewN ?_ _ | refine blk_drew ?_ | refine blk_alloc ?_ _)); refine blk_put (cs := #[.int .i64 ((rd_T79 l0_0 x12_1).f0), .string ((rd_T79 l0_0 x12_1).f1), .int .i64 ((rd_T79 l0_0 x12_1).f2), .slice A246_3 ((rd_T79 l0_0 x12_1).f3).length c246_3, .slice A246_4 ((rd_T79 l0_0 x12_1).f4).length c246_4, .slice none 0 0, .slice none 0 0]) ?_ 5 _ rfl; (with_reducible repeat (first | refine blk_drewN ?_ _ | refine blk_drew ?_ | refine blk_alloc ?_ _)); refine blk_put (cs := #[.int .i64 ((rd_T79 l0_0 x12_1).f0), .string ((rd_T79 l0_0 x12_1).f1), .int .i64 ((rd_T79 l0_0 x12_1).f2), .slice A246_3 ((rd_T79 l0_0 x12_1).f3).length c246_3, .slice none 0 0, .slice none 0 0, .slice none 0 0]) ?_ 4 _ rfl; (with_reducible repeat (first | refine blk_drewN ?_ _ | refine blk_drew ?_ | refine blk_alloc ?_ _)); refine blk_put (cs := #[.int .i64 ((rd_T79 l0_0 x12_1).f0), .string ((rd_T79 l0_0 x12_1).f1), .int .i64 ((rd_T79 l0_0 x12_1).f2), .slice none 0 0, .slice none 0 0, .slice none 0 0, .slice none 0 0]) ?_ 3 _ rfl; (with_reducible repeat (first | refine blk_drewN ?_ _ | refine blk_drew ?_ | refine blk_alloc ?_ _)); refine blk_put (cs := #[.int .i64 ((rd_T79 l0_0 x12_1).f0), .string ((rd_T79 l0_0 x12_1).f1), .int .i64 0, .slice none 0 0, .slice none 0 0, .slice none 0 0, .slice none 0 0]) ?_ 2 _ rfl; (with_reducible repeat (first | refine blk_drewN ?_ _ | refine blk_drew ?_ | refine blk_alloc ?_ _)); refine blk_put (cs := #[.int .i64 ((rd_T79 l0_0 x12_1).f0), .string (⟨#[]⟩ : ByteArray), .int .i64 0, .slice none 0 0, .slice none 0 0, .slice none 0 0, .slice none 0 0]) ?_ 1 _ rfl; (with_reducible repeat (first | refine blk_drewN ?_ _ | refine blk_drew ?_ | refine blk_alloc ?_ _)); refine blk_put (cs := #[.int .i64 0, .string (⟨#[]⟩ : ByteArray), .int .i64 0, .slice none 0 0, .slice none 0 0, .slice none 0 0, .slice none 0 0]) ?_ 0 _ rfl; (with_reducible repeat (first | refine blk_drewN ?_ _ | refine blk_drew ?_ | refine blk_alloc ?_ _)); exact BK247.out) hb); have n2_ := Az.mk (below_step (by repeat (first | (with_reducible first | exact HB.out | apply bal | apply bdN | apply bdr | refine bS ?_ GE245.out | refine bS ?_ GE247.out) | exact HB.out)) hb); clear BK245; clear BK247; clear HB; have BK245 := n0_; have BK247 := n1_; have HB := n2_; clear n0_ n1_ n2_; (try clear hb); (try clear hb2); (try clear hk); (try clear hi)))
        go_ret
        exact ⟨by first | rfl | (simp [errW_none, errW_some] <;> rfl) | (simp [*, errW_none, errW_some] <;> rfl), by repeat (first | (with_reducible first | exact HB.out | apply bal | apply bdN | apply bdr | refine bS ?_ GE245.out | refine bS ?_ GE247.out) | exact HB.out)⟩
      ·rw [if_neg c9] at H
       exact absurd H (by simp)
     ·rw [if_neg c8] at H
      exact absurd H (by simp)
    ·rw [if_neg c7] at H
     have c7b0 : decide (x12_1 < (l0_0.length : Int)) = false := decide_eq_false c7
     clear c7
     obtain rfl := Option.some.inj H
     go_wp2
     go_ret
     exact ⟨by first | rfl | (simp [errW_none, errW_some] <;> rfl) | (simp [*, errW_none, errW_some] <;> rfl), by repeat (first | (with_reducible first | exact HB.out | apply bal | apply bdN | apply bdr | refine bS ?_ GE245.out) | exact HB.out)⟩
end Go.Proofs.Ytehhhlhedmfdiaa.PFnHeapNewShows
end
section
namespace Go.Proofs.Ytehhhlhedmfdiaa.PFnHeapNewShows
open Go.RowKit Go.Proofs.Yz0.PrintWords Go.Proofs.Yz0.PrintLast Go.Proofs.Yz0.PrintMore
set_option linter.unusedVariables false
set_option linter.unusedSimpArgs false
theorem info126 : ∃ j, Try.prog.info? 126 = some j ∧ j.size = 2 := Option.map_eq_some_iff.1 (by kernel_rfl : (Try.prog.info? 126).map (·.size) = some 2)
theorem lies126 : liesAt Try.prog Try.prog.depth 128 (4 / Try.prog.cellsOf 128) 1 126 1 = true := by kernel_rfl
set_option maxHeartbeats 1000000 in
theorem len119 (g : Nat) (o p i : Value) (w : World) (hb : w.heap[g]? = some (.cells #[o, p, .slice none 0 0, i] 128 (0, 0))) :
  Calls Try.prog 119 #[.pointer (some ⟨g, 1, none⟩)] w fun e w' => e = .returned (.int .i64 0) ∧ w' = w := by
 have c1 : w.cell? ⟨g, 2, none⟩ = some (.slice none 0 0) := (bC hb 2).trans rfl
 clear hb
 go_enter Try.func119, Try.ntmps119
 go_wp2_with fail
 go_ret
 exact ⟨rfl, rfl⟩
set_option maxHeartbeats 1000000 in
theorem copy136 (g : Nat) (o v i : Value) (w : World) (hb : w.heap[g]? = some (.cells #[o, .pointer none, v, i] 128 (0, 0))) :
  Calls Try.prog 136 #[.pointer (some ⟨g, 1, none⟩)] w fun e w' => e = .returned (.tuple #[]) ∧ w' = w.setCell ⟨g, 1, none⟩ (.pointer (some ⟨g, 1, none⟩)) := by
 obtain ⟨j, hj, hjs⟩ := info126
 have hsh : w.shape? g = some (128, 4) := by simp [World.shape?, hb]
 have h0 : w.cell? ⟨g, 1, none⟩ = some (.pointer none) := (bC hb 1).trans rfl
 have hfz : w.frozen? ⟨g, 1, none⟩ = false := bF hb 1
 clear hb
 go_enter Try.func136, Try.ntmps136
 go_wp2_with fail
 rw [Lib.run_to_unsafe w ⟨g, 1, none⟩ Try.underlying124 Try.underlying178 hj (by rw [hjs]; decide) hsh (show 1 < 4 by decide)]
 simp only [Result.andThen]
 rw [Oper.upon_value]
 go_wp2_with fail
 rw [run_callFunc_extern Try.func146 (by kernel_rfl) (by kernel_rfl) (by kernel_rfl) (e := Extern.AbiNoEscape.same) (by kernel_rfl)]
 rw [Lib.run_noEscape]
 simp only [Result.andThen]
 rw [Oper.upon_value]
 go_wp2_with fail
 rw [Lib.run_from_unsafe w ⟨g, 1, none⟩ Try.underlying178 Try.underlying124 hj hsh lies126]
 simp only [Result.andThen]
 rw [Oper.upon_value]
 go_wp2_with fail
 go_end0
 exact ⟨rfl, rfl⟩
theorem info5' : ∃ i, Try.prog.info? 5 = some i ∧ i.zero = some (.int .u8 0) ∧ i.size = 1 ∧ i.bytes = 1 := info_parts (by kernel_rfl : (Try.prog.info? 5).map (fun i => (i.zero, i.size, i.bytes)) = some (some (.int .u8 0), 1, 1))
theorem cells5' : Try.prog.cellsOf 5 = 1 := by kernel_rfl
def Wrote (B : Nat) (w : World) (g : Nat) (o i : Value) (s : ByteArray) : Prop :=
 ∃ g2 cap cur, B ≤ g2 ∧ w.heap[g]? = some (.cells #[o, .pointer (some ⟨g, 1, none⟩), .slice (some ⟨g2, 0, none⟩) s.size cap, i] 128 (0, 0)) ∧ w.heap[g2]? = some (.cells cur 5 (0, 0)) ∧ s.size ≤ cap ∧ cap ≤ maxLen ∧ cur.size = cap ∧ cur.toList.take s.size = Lib.strCells s
set_option maxHeartbeats 2000000 in
theorem write120 (B g : Nat) (o i : Value) (s : ByteArray) (w : World) (hB : B ≤ g) (hb : w.heap[g]? = some (.cells #[o, .pointer none, .slice none 0 0, i] 128 (0, 0))) (hs : s.size ≤ 1000) (hs0 : 0 < s.size) :
  Calls Try.prog 120 #[.pointer (some ⟨g, 1, none⟩), .string s] w fun e w' => e = .returned (.tuple #[.int .i64 s.size, .nilIface]) ∧ Wrote B w' g o i s ∧ Below B w w' := by
 obtain ⟨i0, hi, hz0, hz1, hz2⟩ := info5'
 have hlt := blk_lt hb
 go_enter Try.func120, Try.ntmps120
 go_wp2_with fail
 refine (copy136 g o (.slice none 0 0) i _ hb).mono ?_
 rintro e w1 ⟨rfl, hw1⟩
 have hb1 : w1.heap[g]? = some (.cells #[o, .pointer (some ⟨g, 1, none⟩), .slice none 0 0, i] 128 (0, 0)) := by rw [hw1]; exact blk_put hb 1 _ rfl
 have hbe : Below B w w1 := by rw [hw1]; exact (Below.refl B w).setCell (p := ⟨g, 1, none⟩) hB _
 clear hw1
 have c1 : w1.cell? ⟨g, 2, none⟩ = some (.slice none 0 0) := (bC hb1 2).trans rfl
 go_wp2_with (at_builtin; refine Lib.wpList_append_own_string _ rfl _ _ 22 9 rfl B 5 i0 Try.underlying22 Try.underlying9 hi hz0 hz1 hz2 _ 0 [] rfl (World.ownsRow_nil _ _ _ _) s rfl ?c3 ?c4 ?c5 ?_)
 case c3 => unfold maxLen; omega
 case c4 => omega
 case c5 => have := hbe.size; omega
 intro v' w2 hown' hgrow hnil
 have hb2 : w2.heap[g]? = some (.cells #[o, .pointer (some ⟨g, 1, none⟩), .slice none 0 0, i] 128 (0, 0)) := blk_grown hb1 hgrow (by simp [Value.ownBlock])
 have d1 : w2.cell? ⟨g, 2, none⟩ = some (.slice none 0 0) := (bC hb2 2).trans rfl
 have f1 : w2.frozen? ⟨g, 2, none⟩ = false := bF hb2 2
 obtain ⟨g2, cap, cur, rfl, hg2B, hg2, h1, h2, h3, h4⟩ : ∃ g2 cap cur, v' = .slice (some ⟨g2, 0, none⟩) s.size cap ∧ B ≤ g2 ∧ w2.heap[g2]? = some (.cells cur 5 (0, 0)) ∧ s.size ≤ cap ∧ cap ≤ maxLen ∧ cur.size = cap ∧ cur.toList.take s.size = Lib.strCells s := by
  rcases hown'.2 with ⟨hv, h0⟩ | ⟨g2, cap, cur, hv, r1, r2, r3, r4, r5, r6⟩
  ·omega
  ·exact ⟨g2, cap, cur, by simpa using hv, r1, r2, by omega, r4, by omega, by simpa using r6⟩
 have hne : g ≠ g2 := blk_ne hb2 hg2 (by decide)
 have HBE := Az.mk (((hbe.grown hgrow (by have := hbe.size; omega) (fun k hk => by simp [Value.ownBlock] at hk)).setCell (p := ⟨g, 2, none⟩) hB (.slice (some ⟨g2, 0, none⟩) s.size cap)))
 have HW := Az.mk (show Wrote B (w2.setCell ⟨g, 2, none⟩ (.slice (some ⟨g2, 0, none⟩) s.size cap)) g o i s from ⟨g2, cap, cur, hg2B, blk_put hb2 2 _ rfl, blk_far hg2 (fun e => hne e.symm) _, h1, h2, h3, h4⟩)
 clear hg2B hg2 h1 h2 h3 h4 hown' hgrow hnil hbe hb hb1 hb2 hs hs0 hlt hne
 go_wp2_with fail
 go_ret2
 exact ⟨rfl, HW.out, HBE.out⟩
set_option maxHeartbeats 2000000 in
theorem string98 (B g : Nat) (o i : Value) (s : ByteArray) (w : World) (hB : B ≤ g) (hW : Wrote B w g o i s) (hs : s.size ≤ 1000) (hs0 : 0 < s.size) :
  Calls Try.prog 98 #[.pointer (some ⟨g, 1, none⟩)] w fun e w' => e = .returned (.string s) ∧ Below B w w' := by
 obtain ⟨g2, cap, cur, hbg, hb, hg, hnc, hcm, hcs, htake⟩ := hW
 have hlen : s.data.toList.length = s.size := rfl
 have c1 : w.drew.cell? ⟨g, 2, none⟩ = some (.slice (some ⟨g2, 0, none⟩) s.size cap) := (bC (w := w.drew) hb 2).trans rfl
 have hSD : (Builtin.unsafeSliceData_ #[22] 162 #[.slice (some ⟨g2, 0, none⟩) s.size cap]).run Try.prog w.drew = .ok (.pointer (some ⟨g2, 0, none⟩)) w.drew :=
  Lib.run_unsafeSliceData_row _ _ _ _ _ _ (by omega)
 have hUS : (Builtin.unsafeString_ #[162, 3] 9 #[.pointer (some ⟨g2, 0, none⟩), .int .i64 s.size]).run Try.prog w.drew = .ok (.string s) (w.drew.freeze ⟨g2, 0, none⟩ s.size) := by
  have := Lib.run_unsafeString_row (P := Try.prog) w.drew 162 3 9 5 Try.underlying162 cells5' g2 cur.size (by have hg' : w.drew.heap[g2]? = some (.cells cur 5 (0, 0)) := hg; simp [World.shape?, hg']) s.data.toList (fun e => by rw [e] at hlen; simp at hlen; omega) (by omega) (by omega) ?_
  ·rwa [hlen] at this
  intro j x hx
  have hj : j < s.size := by
   have := (List.getElem?_eq_some_iff.1 hx).1
   omega
  have : (cur.toList.take s.size)[j]? = some (.int .u8 x.toNat) := by rw [htake]; simp [Lib.strCells, hx]
  rw [List.getElem?_take_of_lt hj, Array.getElem?_toList] at this
  rw [← this]
  have h9 := bC (w := w.drew) hg j
  have h8 : ((⟨g2, 0, none⟩ : Addr).add j) = ⟨g2, j, none⟩ := by cases j <;> simp [Addr.add]
  rw [h8]
  exact h9
 clear hnc hcm hcs htake hs hs0 hb hg hlen
 go_enter Try.func98, Try.ntmps98
 go_wp2
 go_region
 all_goals (go_wp2; go_ret; exact ⟨rfl, Lib.below_freeze (Below.drew (Below.refl B w)) (p := ⟨g2, 0, none⟩) hbg _⟩)
end Go.Proofs.Ytehhhlhedmfdiaa.PFnHeapNewShows
end
section
namespace Go.Proofs.Ytehhhlhedmfdiaa.PFnHeapNewShows
open Go.RowKit Go.Proofs.Yz0.PrintWords Go.Proofs.Yz0.PrintLast Go.Proofs.Yz0.PrintMore
attribute [local go_sem] max2_int min2_int max_two min_two max_three min_three max_four min_four
set_option linter.unusedVariables false
set_option linter.unusedSimpArgs false
theorem sz_27 {nm : ByteArray} (h : nm.size ≤ 100) : ((⟨#[60, 99, 108, 97, 115, 115, 32]⟩ : ByteArray) ++ nm ++ (⟨#[62]⟩ : ByteArray)).size ≤ 1000 ∧ 0 < ((⟨#[60, 99, 108, 97, 115, 115, 32]⟩ : ByteArray) ++ nm ++ (⟨#[62]⟩ : ByteArray)).size := by
 have e1 : (⟨#[60, 99, 108, 97, 115, 115, 32]⟩ : ByteArray).size = 7 := rfl
 have e2 : (⟨#[62]⟩ : ByteArray).size = 1 := rfl
 simp only [ByteArray.size_append, e1, e2]
 omega
theorem sz_31 {nm : ByteArray} (h : nm.size ≤ 100) : ((⟨#[60, 98, 117, 105, 108, 116, 32]⟩ : ByteArray) ++ nm ++ (⟨#[62]⟩ : ByteArray)).size ≤ 1000 ∧ 0 < ((⟨#[60, 98, 117, 105, 108, 116, 32]⟩ : ByteArray) ++ nm ++ (⟨#[62]⟩ : ByteArray)).size := by
 have e1 : (⟨#[60, 98, 117, 105, 108, 116, 32]⟩ : ByteArray).size = 7 := rfl
 have e2 : (⟨#[62]⟩ : ByteArray).size = 1 := rfl
 simp only [ByteArray.size_append, e1, e2]
 omega
def shown (kind : Int) (nm : ByteArray) : ByteArray := if kind = 5 then (⟨#[60, 99, 108, 97, 115, 115, 32]⟩ : ByteArray) ++ nm ++ (⟨#[62]⟩ : ByteArray) else (⟨#[60, 98, 117, 105, 108, 116, 32]⟩ : ByteArray) ++ nm ++ (⟨#[62]⟩ : ByteArray)
theorem object122 (B g : Nat) (A : Option Addr) (c : Nat) (l : List S79) (i : Value) (n : Int) (w : World) (hB : B ≤ g) (hb : w.heap[g]? = some (.cells #[.slice A l.length c, .pointer none, .slice none 0 0, i] 128 (0, 0))) (hl : Kd.C k79 w A l.length l) (h0 : 0 ≤ n) (h1 : n < (l.length : Int)) (hk : (rd_T79 l n).f0 = 5 ∨ (rd_T79 l n).f0 = 10) (hs : (rd_T79 l n).f1.size ≤ 100) :
  Calls Try.prog 122 #[.pointer (some ⟨g, 0, none⟩), .int .i64 n] w fun e w' => e = .returned (.tuple #[]) ∧ Wrote B w' g (.slice A l.length c) i (shown (rd_T79 l n).f0 (rd_T79 l n).f1) ∧ Below B w w' := by
 obtain ⟨ad, A3, c3, A4, c4, A5, c5, A6, c6, eA, x0, x1, x2, x3, x4, x5, x6, _, _, _, _, _, _, _, _⟩ := at_T79 hl n h0 h1
 subst eA
 obtain ⟨nm, hnm_⟩ : ∃ nm, nm = (rd_T79 l n).f1 := ⟨_, rfl⟩
 rw [← hnm_] at x1 hs ⊢
 obtain ⟨kd, hkd⟩ : ∃ kd, kd = (rd_T79 l n).f0 := ⟨_, rfl⟩
 rw [← hkd] at x0 hk ⊢
 have HNM := Az.mk hs
 have hz0 : w.cell? ⟨g, 0, none⟩ = some (.slice (some ad) l.length c) := (bC hb 0).trans rfl
 have p0 := eq_true h0
 have p1 := eq_true h1
 have p2 := decide_eq_true h0
 have p3 := decide_eq_true h1
 have hlt := blk_lt hb
 have HBK := Az.mk hb
 have HLT := Az.mk hlt
 have hq1 : (9223372036854775807 < 7 + nm.size) = False := eq_false (by omega)
 have hq2 : (9223372036854775807 < 7 + nm.size + 1) = False := eq_false (by omega)
 clear hs hnm_ hkd hb hl h0 h1 hlt
 rcases hk with rfl | rfl
 ·go_enter Try.func122, Try.ntmps122
  go_wp2_with fail
  have hnew := blk_new w (.cells #[.int .i64 5, .string nm, .int .i64 (rd_T79 l n).f2, .slice A3 (rd_T79 l n).f3.length c3, .slice A4 (rd_T79 l n).f4.length c4, .slice A5 (rd_T79 l n).f5.length c5, .slice A6 (rd_T79 l n).f6.length c6] 79 (0, 0))
  have hbe : Below B w (w.alloc (.cells #[.int .i64 5, .string nm, .int .i64 (rd_T79 l n).f2, .slice A3 (rd_T79 l n).f3.length c3, .slice A4 (rd_T79 l n).f4.length c4, .slice A5 (rd_T79 l n).f5.length c5, .slice A6 (rd_T79 l n).f6.length c6] 79 (0, 0))) := (Below.refl B w).alloc (Nat.le_trans hB (Nat.le_of_lt HLT.out)) _
  have n0_ := Az.mk (blk_alloc HBK.out (.cells #[.int .i64 5, .string nm, .int .i64 (rd_T79 l n).f2, .slice A3 (rd_T79 l n).f3.length c3, .slice A4 (rd_T79 l n).f4.length c4, .slice A5 (rd_T79 l n).f5.length c5, .slice A6 (rd_T79 l n).f6.length c6] 79 (0, 0)))
  obtain ⟨g4, hg4⟩ : ∃ g, g = w.heap.size := ⟨_, rfl⟩
  rw [← hg4] at hnew ⊢
  clear HBK hg4 x0 x1 x2 x3 x4 x5 x6 hz0 HLT p0 p1 p2 p3
  have HBK := n0_
  have HBE := Az.mk hbe
  clear n0_ hbe
  generalize World.alloc _ _ = w1 at HBK HBE hnew ⊢
  have hnm := (bC hnew 1).trans (show _ = some (.string nm) from rfl)
  clear hnew
  refine start_ (n := 8) (S := fun w' => w'.cell? ⟨g4, 1, none⟩ = some (.string nm)) (ds := [7]) #[false, false, false, false, false, false, false, false] (by kernel_rfl) rfl rfl (hnm) (fun hHeld => ?_)
  have n0_ := Az.mk (blk_drew HBK.out)
  have n1_ := Az.mk (HBE.out.drew)
  clear HBK HBE hnm
  have HBK := n0_
  have HBE := n1_
  clear n0_ n1_
  generalize World.drew _ = w3 at HBK HBE hHeld ⊢
  refine pure_ (i := 0) (N := some 138) (v := ?_) (a' := ?_) #[true, false, false, false, false, false, false, false] rfl rfl (by kernel_rfl) (fun _ _ _ h => h) (Or.inl ⟨by rfl, ?_⟩) ?_ ?_
  rotate_left
  ·intro w'
   go_simp
   with_reducible rfl
  rotate_left
  ·simp only [Act.put, List.setIfInBounds_toArray, List.set_cons_zero, List.set_cons_succ, i64_w, i32_w]
   rfl
  refine pure_ (i := 1) (N := some 139) (v := ?_) (a' := ?_) #[true, true, false, false, false, false, false, false] rfl rfl (by kernel_rfl) (fun _ _ _ h => h) (Or.inl ⟨by rfl, ?_⟩) ?_ ?_
  rotate_left
  ·intro w'
   go_simp
   with_reducible rfl
  rotate_left
  ·simp only [Act.put, List.setIfInBounds_toArray, List.set_cons_zero, List.set_cons_succ, i64_w, i32_w]
   rfl
  refine pure_ (i := 2) (N := some 140) (v := ?_) (a' := ?_) #[true, true, true, false, false, false, false, false] rfl rfl (by kernel_rfl) (fun _ _ _ h => h) (Or.inl ⟨by rfl, ?_⟩) ?_ ?_
  rotate_left
  ·intro w'
   go_simp
   with_reducible rfl
  rotate_left
  ·simp only [Act.put, List.setIfInBounds_toArray, List.set_cons_zero, List.set_cons_succ, i64_w, i32_w]
   rfl
  refine pure_ (i := 3) (N := some 141) (v := ?_) (a' := ?_) #[true, true, true, true, false, false, false, false] rfl rfl (by kernel_rfl) (fun _ _ _ h => h) (Or.inl ⟨by rfl, ?_⟩) ?_ ?_
  rotate_left
  ·intro w'
   go_simp
   with_reducible rfl
  rotate_left
  ·simp only [Act.put, List.setIfInBounds_toArray, List.set_cons_zero, List.set_cons_succ, i64_w, i32_w]
   rfl
  refine take_ (i := 4) (N := some 142) (v := ?_) (a' := ?_) #[true, true, true, true, true, false, false, false] rfl rfl (by kernel_rfl) (fun _ _ _ h => h) (Or.inl ⟨by rfl, ?_⟩) hHeld ?_ ?_
  rotate_left
  ·intro w' s0
   go_simp
   with_reducible rfl
  rotate_left
  ·simp only [Act.put, List.setIfInBounds_toArray, List.set_cons_zero, List.set_cons_succ, i64_w, i32_w]
   rfl
  refine pure_ (i := 5) (N := some 143) (v := ?_) (a' := ?_) #[true, true, true, true, true, true, false, false] rfl rfl (by kernel_rfl) (fun _ _ _ h => h) (Or.inl ⟨by rfl, ?_⟩) ?_ ?_
  rotate_left
  ·intro w'
   go_simp
   with_reducible rfl
  rotate_left
  ·simp only [Act.put, List.setIfInBounds_toArray, List.set_cons_zero, List.set_cons_succ, i64_w, i32_w]
   rfl
  refine pure_ (i := 6) (N := some 144) (v := ?_) (a' := ?_) #[true, true, true, true, true, true, true, false] rfl rfl (by kernel_rfl) (fun _ _ _ h => h) (Or.inl ⟨by rfl, ?_⟩) ?_ ?_
  rotate_left
  ·intro w'
   go_simp
   with_reducible rfl
  rotate_left
  ·simp only [Act.put, List.setIfInBounds_toArray, List.set_cons_zero, List.set_cons_succ, i64_w, i32_w]
   rfl
  refine last_ (i := 7) (N := some 145) #[true, true, true, true, true, true, true, true] rfl rfl (by kernel_rfl) (by decide) (fun K hK => ?_)
  refine goes_ Try.func120 (by kernel_rfl) rfl #[.pointer (some ⟨g, 1, none⟩), .string ((⟨#[60, 99, 108, 97, 115, 115, 32]⟩ : ByteArray) ++ nm ++ (⟨#[62]⟩ : ByteArray))] (by rfl) rfl rfl (by simp only [List.map_toArray, List.map_cons, List.map_nil]; rfl) ?_
  with_reducible refine (write120 B g (.slice (some ad) l.length c) i _ _ hB HBK.out (sz_27 HNM.out).1 (sz_27 HNM.out).2).mono ?_
  rintro e w5 ⟨rfl, hW, hb⟩
  refine ⟨_, rfl, ?_⟩
  have HW := Az.mk hW
  have n0_ := Az.mk (HBE.out.trans hb)
  clear HBE hW hb
  have HBE := n0_
  clear n0_
  refine hK.out _ _ ?_
  clear hK K
  refine norm_ (a' := ?_) ?_ ?_
  rotate_left
  ·show Act.put _ (some 145) _ = _
   simp only [Act.put, List.setIfInBounds_toArray, List.set_cons_zero, List.set_cons_succ, i64_w, i32_w]
   rfl
  refine done_ (by kernel_rfl) ?_
  go_wp2_with fail
  go_end0
  exact ⟨rfl, HW.out, HBE.out⟩
 ·go_enter Try.func122, Try.ntmps122
  go_wp2_with fail
  have hnew := blk_new w (.cells #[.int .i64 10, .string nm, .int .i64 (rd_T79 l n).f2, .slice A3 (rd_T79 l n).f3.length c3, .slice A4 (rd_T79 l n).f4.length c4, .slice A5 (rd_T79 l n).f5.length c5, .slice A6 (rd_T79 l n).f6.length c6] 79 (0, 0))
  have hbe : Below B w (w.alloc (.cells #[.int .i64 10, .string nm, .int .i64 (rd_T79 l n).f2, .slice A3 (rd_T79 l n).f3.length c3, .slice A4 (rd_T79 l n).f4.length c4, .slice A5 (rd_T79 l n).f5.length c5, .slice A6 (rd_T79 l n).f6.length c6] 79 (0, 0))) := (Below.refl B w).alloc (Nat.le_trans hB (Nat.le_of_lt HLT.out)) _
  have n0_ := Az.mk (blk_alloc HBK.out (.cells #[.int .i64 10, .string nm, .int .i64 (rd_T79 l n).f2, .slice A3 (rd_T79 l n).f3.length c3, .slice A4 (rd_T79 l n).f4.length c4, .slice A5 (rd_T79 l n).f5.length c5, .slice A6 (rd_T79 l n).f6.length c6] 79 (0, 0)))
  obtain ⟨g4, hg4⟩ : ∃ g, g = w.heap.size := ⟨_, rfl⟩
  rw [← hg4] at hnew ⊢
  clear HBK hg4 x0 x1 x2 x3 x4 x5 x6 hz0 HLT p0 p1 p2 p3
  have HBK := n0_
  have HBE := Az.mk hbe
  clear n0_ hbe
  generalize World.alloc _ _ = w1 at HBK HBE hnew ⊢
  have hnm := (bC hnew 1).trans (show _ = some (.string nm) from rfl)
  clear hnew
  refine start_ (n := 8) (S := fun w' => w'.cell? ⟨g4, 1, none⟩ = some (.string nm)) (ds := [7]) #[false, false, false, false, false, false, false, false] (by kernel_rfl) rfl rfl (hnm) (fun hHeld => ?_)
  have n0_ := Az.mk (blk_drew HBK.out)
  have n1_ := Az.mk (HBE.out.drew)
  clear HBK HBE hnm
  have HBK := n0_
  have HBE := n1_
  clear n0_ n1_
  generalize World.drew _ = w3 at HBK HBE hHeld ⊢
  refine pure_ (i := 0) (N := some 166) (v := ?_) (a' := ?_) #[true, false, false, false, false, false, false, false] rfl rfl (by kernel_rfl) (fun _ _ _ h => h) (Or.inl ⟨by rfl, ?_⟩) ?_ ?_
  rotate_left
  ·intro w'
   go_simp
   with_reducible rfl
  rotate_left
  ·simp only [Act.put, List.setIfInBounds_toArray, List.set_cons_zero, List.set_cons_succ, i64_w, i32_w]
   rfl
  refine pure_ (i := 1) (N := some 167) (v := ?_) (a' := ?_) #[true, true, false, false, false, false, false, false] rfl rfl (by kernel_rfl) (fun _ _ _ h => h) (Or.inl ⟨by rfl, ?_⟩) ?_ ?_
  rotate_left
  ·intro w'
   go_simp
   with_reducible rfl
  rotate_left
  ·simp only [Act.put, List.setIfInBounds_toArray, List.set_cons_zero, List.set_cons_succ, i64_w, i32_w]
   rfl
  refine pure_ (i := 2) (N := some 168) (v := ?_) (a' := ?_) #[true, true, true, false, false, false, false, false] rfl rfl (by kernel_rfl) (fun _ _ _ h => h) (Or.inl ⟨by rfl, ?_⟩) ?_ ?_
  rotate_left
  ·intro w'
   go_simp
   with_reducible rfl
  rotate_left
  ·simp only [Act.put, List.setIfInBounds_toArray, List.set_cons_zero, List.set_cons_succ, i64_w, i32_w]
   rfl
  refine pure_ (i := 3) (N := some 169) (v := ?_) (a' := ?_) #[true, true, true, true, false, false, false, false] rfl rfl (by kernel_rfl) (fun _ _ _ h => h) (Or.inl ⟨by rfl, ?_⟩) ?_ ?_
  rotate_left
  ·intro w'
   go_simp
   with_reducible rfl
  rotate_left
  ·simp only [Act.put, List.setIfInBounds_toArray, List.set_cons_zero, List.set_cons_succ, i64_w, i32_w]
   rfl
  refine take_ (i := 4) (N := some 170) (v := ?_) (a' := ?_) #[true, true, true, true, true, false, false, false] rfl rfl (by kernel_rfl) (fun _ _ _ h => h) (Or.inl ⟨by rfl, ?_⟩) hHeld ?_ ?_
  rotate_left
  ·intro w' s0
   go_simp
   with_reducible rfl
  rotate_left
  ·simp only [Act.put, List.setIfInBounds_toArray, List.set_cons_zero, List.set_cons_succ, i64_w, i32_w]
   rfl
  refine pure_ (i := 5) (N := some 171) (v := ?_) (a' := ?_) #[true, true, true, true, true, true, false, false] rfl rfl (by kernel_rfl) (fun _ _ _ h => h) (Or.inl ⟨by rfl, ?_⟩) ?_ ?_
  rotate_left
  ·intro w'
   go_simp
   with_reducible rfl
  rotate_left
  ·simp only [Act.put, List.setIfInBounds_toArray, List.set_cons_zero, List.set_cons_succ, i64_w, i32_w]
   rfl
  refine pure_ (i := 6) (N := some 172) (v := ?_) (a' := ?_) #[true, true, true, true, true, true, true, false] rfl rfl (by kernel_rfl) (fun _ _ _ h => h) (Or.inl ⟨by rfl, ?_⟩) ?_ ?_
  rotate_left
  ·intro w'
   go_simp
   with_reducible rfl
  rotate_left
  ·simp only [Act.put, List.setIfInBounds_toArray, List.set_cons_zero, List.set_cons_succ, i64_w, i32_w]
   rfl
  refine last_ (i := 7) (N := some 173) #[true, true, true, true, true, true, true, true] rfl rfl (by kernel_rfl) (by decide) (fun K hK => ?_)
  refine goes_ Try.func120 (by kernel_rfl) rfl #[.pointer (some ⟨g, 1, none⟩), .string ((⟨#[60, 98, 117, 105, 108, 116, 32]⟩ : ByteArray) ++ nm ++ (⟨#[62]⟩ : ByteArray))] (by rfl) rfl rfl (by simp only [List.map_toArray, List.map_cons, List.map_nil]; rfl) ?_
  with_reducible refine (write120 B g (.slice (some ad) l.length c) i _ _ hB HBK.out (sz_31 HNM.out).1 (sz_31 HNM.out).2).mono ?_
  rintro e w5 ⟨rfl, hW, hb⟩
  refine ⟨_, rfl, ?_⟩
  have HW := Az.mk hW
  have n0_ := Az.mk (HBE.out.trans hb)
  clear HBE hW hb
  have HBE := n0_
  clear n0_
  refine hK.out _ _ ?_
  clear hK K
  refine norm_ (a' := ?_) ?_ ?_
  rotate_left
  ·show Act.put _ (some 173) _ = _
   simp only [Act.put, List.setIfInBounds_toArray, List.set_cons_zero, List.set_cons_succ, i64_w, i32_w]
   rfl
  refine done_ (by kernel_rfl) ?_
  go_wp2_with fail
  go_end0
  exact ⟨rfl, HW.out, HBE.out⟩
theorem value97 (B g : Nat) (A : Option Addr) (c : Nat) (l : List S79) (i : Value) (tx : ByteArray) (n : Int) (w : World) (hB : B ≤ g) (hb : w.heap[g]? = some (.cells #[.slice A l.length c, .pointer none, .slice none 0 0, i] 128 (0, 0))) (hl : Kd.C k79 w A l.length l) (h0 : 0 ≤ n) (h1 : n < (l.length : Int)) (hk : (rd_T79 l n).f0 = 5 ∨ (rd_T79 l n).f0 = 10) (hs : (rd_T79 l n).f1.size ≤ 100) :
  Calls Try.prog 97 #[.pointer (some ⟨g, 0, none⟩), .agg #[.int .i64 4, .string tx, .int .i64 n], .bool false] w fun e w' => e = .returned (.tuple #[]) ∧ Wrote B w' g (.slice A l.length c) i (shown (rd_T79 l n).f0 (rd_T79 l n).f1) ∧ Below B w w' := by
 have HL := Az.mk hl
 have hlt := blk_lt hb
 have HBK := Az.mk hb
 have H0 := Az.mk h0
 have H1 := Az.mk h1
 have HK := Az.mk hk
 have HS := Az.mk hs
 have HLT := Az.mk hlt
 clear hl hb h0 h1 hk hs hlt
 go_enter Try.func97, Try.ntmps97
 go_wp2_with fail
 have HBE := Az.mk ((Below.refl B w).alloc (Nat.le_trans hB (Nat.le_of_lt HLT.out)) (.cells #[.int .i64 4, .string tx, .int .i64 n] 31 (0, 0)))
 have n0_ := Az.mk (blk_alloc HBK.out (.cells #[.int .i64 4, .string tx, .int .i64 n] 31 (0, 0)))
 have n1_ := Az.mk (Kd.C_below HL.out (bal (Below.refl _ _) (.cells #[.int .i64 4, .string tx, .int .i64 n] 31 (0, 0))))
 clear HBK HL HLT
 have HBK := n0_
 have HL := n1_
 clear n0_ n1_
 refine (len119 g _ _ _ _ HBK.out).mono ?_
 rintro e w2 ⟨rfl, rfl⟩
 go_wp2_with fail
 refine (object122 B g A c l i n _ hB HBK.out HL.out H0.out H1.out HK.out HS.out).mono ?_
 rintro e w3 ⟨rfl, hW, hb⟩
 have n0_ := Az.mk (HBE.out.trans hb)
 have HW := Az.mk hW
 clear HBE hb hW HBK HL H0 H1 HK HS
 have HBE := n0_
 clear n0_
 go_wp2_with fail
 go_end0
 exact ⟨rfl, HW.out, HBE.out⟩
def impl_Heap_show.f (l0_0 : List S79) (a1_0 : Int) (a1_1 : ByteArray) (a1_2 : Int) : Option ByteArray :=
 if a1_0 = 4 ∧ (0 ≤ a1_2 ∧ a1_2 < (l0_0.length : Int)) ∧ ((rd_T79 l0_0 a1_2).f0 = 5 ∨ (rd_T79 l0_0 a1_2).f0 = 10) ∧ (rd_T79 l0_0 a1_2).f1.size ≤ 100 then some (shown (rd_T79 l0_0 a1_2).f0 (rd_T79 l0_0 a1_2).f1) else none
theorem shown_size {kd : Int} {nm : ByteArray} (h : nm.size ≤ 100) : (shown kd nm).size ≤ 200 ∧ 0 < (shown kd nm).size := by
 have e1 : (⟨#[60, 99, 108, 97, 115, 115, 32]⟩ : ByteArray).size = 7 := rfl
 have e2 : (⟨#[62]⟩ : ByteArray).size = 1 := rfl
 have e3 : (⟨#[60, 98, 117, 105, 108, 116, 32]⟩ : ByteArray).size = 7 := rfl
 unfold shown
 split <;> simp only [ByteArray.size_append, e1, e2, e3] <;> omega
theorem impl_Heap_show.calls (A0_0 : Option Addr) (c0_0 : Nat) (l0_0 : List S79) (a1_0 : Int) (a1_1 : ByteArray) (a1_2 : Int) (r : ByteArray) (w : World) (hr0_0 : Kd.C k79 w A0_0 l0_0.length l0_0) (hc0_0 : l0_0.length ≤ c0_0) (h : impl_Heap_show.f l0_0 a1_0 a1_1 a1_2 = some r) :
  Calls Try.prog 51 #[.agg #[.slice A0_0 l0_0.length c0_0], .agg #[.int .i64 a1_0, .string a1_1, .int .i64 a1_2]] w fun e w' => e = .returned (.string r) ∧ Below w.heap.size w w' := by
 unfold impl_Heap_show.f at h
 split at h
 ·rename_i hc
  obtain ⟨rfl, ⟨h0, h1⟩, hk, hs⟩ := hc
  have HR := Az.mk hr0_0
  have H0 := Az.mk h0
  have H1 := Az.mk h1
  have HK := Az.mk hk
  have HS := Az.mk hs
  have HE := Az.mk (Option.some.inj h)
  clear hr0_0 hc0_0 h0 h1 hk hs h
  go_enter Try.func51, Try.ntmps51
  go_wp2_with fail
  have hsz : ((w.alloc (.cells #[.slice A0_0 l0_0.length c0_0] 25 (0, 0))).alloc (.cells #[.int .i64 4, .string a1_1, .int .i64 a1_2] 31 (0, 0))).heap.size = w.heap.size + 1 + 1 := by simp
  have hbe : Below w.heap.size w ((w.alloc (.cells #[.slice A0_0 l0_0.length c0_0] 25 (0, 0))).alloc (.cells #[.int .i64 4, .string a1_1, .int .i64 a1_2] 31 (0, 0))) := bal (bal (Below.refl _ _) _) _
  have hnew := blk_new ((w.alloc (.cells #[.slice A0_0 l0_0.length c0_0] 25 (0, 0))).alloc (.cells #[.int .i64 4, .string a1_1, .int .i64 a1_2] 31 (0, 0))) (.cells #[.slice A0_0 l0_0.length c0_0, .pointer none, .slice none 0 0, .slice none 0 0] 128 (0, 0))
  have hbe2 := bal hbe (.cells #[.slice A0_0 l0_0.length c0_0, .pointer none, .slice none 0 0, .slice none 0 0] 128 (0, 0))
  rw [hsz] at hnew
  have HBE := Az.mk hbe2
  have n0_ := Az.mk (Kd.C_below HR.out hbe2)
  clear hsz hbe hbe2 HR
  obtain ⟨g, hg⟩ : ∃ g, g = w.heap.size + 1 + 1 := ⟨_, rfl⟩
  have hB : w.heap.size ≤ g := by omega
  have HR := n0_
  clear n0_
  rw [← hg] at hnew ⊢
  clear hg
  generalize World.alloc _ _ = w1 at HBE HR hnew ⊢
  have HBK := Az.mk hnew
  clear hnew
  refine (value97 w.heap.size g A0_0 c0_0 l0_0 (.slice none 0 0) a1_1 a1_2 _ hB HBK.out HR.out H0.out H1.out HK.out HS.out).mono ?_
  rintro e w2 ⟨rfl, hW, hb⟩
  have n0_ := Az.mk (HBE.out.trans hb)
  have HW := Az.mk hW
  clear HBE HBK HR hb hW HK H0 H1
  have HBE := n0_
  clear n0_
  have HZ := Az.mk (shown_size (kd := (rd_T79 l0_0 a1_2).f0) HS.out)
  rw [HE.out] at HW HZ
  clear HE HS
  go_wp2_with fail
  refine (string98 w.heap.size g _ _ r _ hB HW.out (by have := HZ.out; omega) HZ.out.2).mono ?_
  rintro e w3 ⟨rfl, hb⟩
  have n0_ := Az.mk (HBE.out.trans hb)
  clear HBE HW hb
  have HBE := n0_
  clear n0_
  have hc1 : (r.size ≤ 400) = True := eq_true (by have := HZ.out; omega)
  have hc2 : decide ((r.size : Int) ≤ 400) = true := decide_eq_true (by have := HZ.out; omega)
  have hc3 : ((400 : Int) < (r.size : Int)) = False := eq_false (by have := HZ.out; omega)
  clear HZ
  go_wp2_with fail
  go_ret
  exact ⟨by simp, HBE.out⟩
 ·exact absurd h (by simp)
end Go.Proofs.Ytehhhlhedmfdiaa.PFnHeapNewShows
end
section
namespace Go.Proofs.Ytehhhlhedmfdiaa.PFnHeapNewShows
open Go.RowKit Go.Proofs.Yz0.PrintWords Go.Proofs.Yz0.PrintLast Go.Proofs.Yz0.PrintMore
attribute [local go_sem] max2_int min2_int max_two min_two max_three min_three max_four min_four
set_option linter.unusedVariables false
set_option linter.unusedSimpArgs false
def impl_HeapShow.f (k : Nat) (l0_0 : List (S79)) (a1_0 : Int) (a1_1 : ByteArray) (a1_2 : Int) : Option (ByteArray) := (impl_HeapOk.f k l0_0).bind fun t253 => (if t253 = true then ((impl_Heap_valueOk.f k l0_0 a1_0 a1_1 a1_2).bind fun t254 => (if t254 = true then ((impl_Heap_show.f l0_0 a1_0 a1_1 a1_2).bind fun t255 => (some t255)) else (some (⟨#[]⟩ : ByteArray)))) else (some (⟨#[]⟩ : ByteArray)))
theorem impl_HeapShow.calls (k : Nat) (A0_0 : Option Addr) (c0_0 : Nat) (l0_0 : List (S79)) (a1_0 : Int) (a1_1 : ByteArray) (a1_2 : Int) (r : ByteArray) (w : World) (hr0_0 : Kd.C k79 w A0_0 l0_0.length l0_0) (hc0_0 : l0_0.length ≤ c0_0) (h : impl_HeapShow.f k l0_0 a1_0 a1_1 a1_2 = some r) :
  Calls Try.prog 13 #[.agg #[.slice A0_0 l0_0.length c0_0], .agg #[.int .i64 a1_0, .string a1_1, .int .i64 a1_2]] w fun e w' => e = .returned (.string r) ∧ Below w.heap.size w w' := by
 have hu25 := Try.underlying25
 have hu31 := Try.underlying31
 have HR0_0 := Az.mk hr0_0
 have HC0_0 := Az.mk hc0_0
 clear hr0_0 hc0_0
 have HB := Az.mk (Below.refl w.heap.size w)
 have H : ((impl_HeapOk.f k l0_0).bind fun t253 => (if t253 = true then ((impl_Heap_valueOk.f k l0_0 a1_0 a1_1 a1_2).bind fun t254 => (if t254 = true then ((impl_Heap_show.f l0_0 a1_0 a1_1 a1_2).bind fun t255 => (some t255)) else (some (⟨#[]⟩ : ByteArray)))) else (some (⟨#[]⟩ : ByteArray)))) = some r := h
 clear h
 replace H := Option.bind_eq_some_iff.mp H
 obtain ⟨t253, A30, H⟩ := H
 replace H : (if t253 = true then ((impl_Heap_valueOk.f k l0_0 a1_0 a1_1 a1_2).bind fun t254 => (if t254 = true then ((impl_Heap_show.f l0_0 a1_0 a1_1 a1_2).bind fun t255 => (some t255)) else (some (⟨#[]⟩ : ByteArray)))) else (some (⟨#[]⟩ : ByteArray))) = some r := H
 have A3 := Az.mk A30
 clear A30
 by_cases c4 : t253 = true
 ·subst c4
  have H1 : ((impl_Heap_valueOk.f k l0_0 a1_0 a1_1 a1_2).bind fun t254 => (if t254 = true then ((impl_Heap_show.f l0_0 a1_0 a1_1 a1_2).bind fun t255 => (some t255)) else (some (⟨#[]⟩ : ByteArray)))) = some r := by rw [if_pos rfl] at H; exact H
  clear H
  have H := H1
  clear H1
  replace H := Option.bind_eq_some_iff.mp H
  obtain ⟨t254, A50, H⟩ := H
  replace H : (if t254 = true then ((impl_Heap_show.f l0_0 a1_0 a1_1 a1_2).bind fun t255 => (some t255)) else (some (⟨#[]⟩ : ByteArray))) = some r := H
  have A5 := Az.mk A50
  clear A50
  by_cases c6 : t254 = true
  ·subst c6
   have H1 : ((impl_Heap_show.f l0_0 a1_0 a1_1 a1_2).bind fun t255 => (some t255)) = some r := by rw [if_pos rfl] at H; exact H
   clear H
   have H := H1
   clear H1
   replace H := Option.bind_eq_some_iff.mp H
   obtain ⟨t255, A70, H⟩ := H
   replace H : (some t255) = some r := H
   have A7 := Az.mk A70
   clear A70
   obtain rfl := Option.some.inj H
   go_enter Try.func13, Try.ntmps13
   go_wp2_with (first | ((with_reducible refine gate_dst (N := 2) rfl ?_); refine box_event ?hg (N := 2) ?hd (cs := #[.slice A0_0 l0_0.length c0_0]) (t := 25) ?hr ?_; (case hd => rfl); (case hg => rfl); (case hr => first | (go_simp; done) | (go_simp; rfl)); intro gb251 hg w8 hbox hb; have n0_ := Az.mk (below_step (by repeat (first | (with_reducible first | exact HB.out | apply bal | apply bdN | apply bdr) | exact HB.out)) hb); have n1_ := Az.mk (hbox); have n2_ := Az.mk ((by rw [hg]; exact (below_size (by repeat (first | (with_reducible first | exact HB.out | apply bal | apply bdN | apply bdr) | exact HB.out))) : w.heap.size ≤ gb251)); have n3_ := Az.mk ((by rw [hg]; exact (below_size (by repeat (first | (with_reducible first | exact HB.out | apply bal | apply bdN | apply bdr) | exact HB.out))) : w.heap.size ≤ gb251)); clear HB; have HB := n0_; have BK251 := n1_; have GW251 := n2_; have GE251 := n3_; clear n0_ n1_ n2_ n3_; clear hb hbox hg) | ((with_reducible refine gate_dst (N := 3) rfl ?_); refine box_event ?hg (N := 3) ?hd (cs := #[.int .i64 a1_0, .string a1_1, .int .i64 a1_2]) (t := 31) ?hr ?_; (case hd => rfl); (case hg => rfl); (case hr => first | (go_simp; done) | (go_simp; rfl)); intro gb252 hg w9 hbox hb; have n0_ := Az.mk (blk_below (g := gb251) (o := .cells #[.slice A0_0 l0_0.length c0_0] 25 (0, 0)) (by (with_reducible repeat (first | refine blk_drewN ?_ _ | refine blk_drew ?_ | refine blk_alloc ?_ _)); exact BK251.out) hb); have n1_ := Az.mk (below_step (by repeat (first | (with_reducible first | exact HB.out | apply bal | apply bdN | apply bdr | refine bS ?_ GE251.out) | exact HB.out)) hb); have n2_ := Az.mk (hbox); have n3_ := Az.mk ((by rw [hg]; exact (below_size (by repeat (first | (with_reducible first | exact HB.out | apply bal | apply bdN | apply bdr | refine bS ?_ GE251.out) | exact HB.out))) : w.heap.size ≤ gb252)); have n4_ := Az.mk ((by rw [hg]; exact (below_size (by repeat (first | (with_reducible first | exact HB.out | apply bal | apply bdN | apply bdr | refine bS ?_ GE251.out) | exact HB.out))) : w.heap.size ≤ gb252)); have n5_ := Az.mk ((by rw [hg]; exact Nat.ne_of_lt (blk_lt (g := gb251) (o := .cells #[.slice A0_0 l0_0.length c0_0] 25 (0, 0)) (by (with_reducible repeat (first | refine blk_drewN ?_ _ | refine blk_drew ?_ | refine blk_alloc ?_ _)); exact BK251.out)) : gb251 ≠ gb252)); have n6_ := Az.mk ((by rw [hg]; exact Nat.ne_of_gt (blk_lt (g := gb251) (o := .cells #[.slice A0_0 l0_0.length c0_0] 25 (0, 0)) (by (with_reducible repeat (first | refine blk_drewN ?_ _ | refine blk_drew ?_ | refine blk_alloc ?_ _)); exact BK251.out)) : gb252 ≠ gb251)); clear BK251; clear HB; have BK251 := n0_; have HB := n1_; have BK252 := n2_; have GW252 := n3_; have GE252 := n4_; have NB251_252 := n5_; have NB252_251 := n6_; clear n0_ n1_ n2_ n3_ n4_ n5_ n6_; clear hb hbox hg; have hnb10 := NB251_252.out; have hnc10 := NB252_251.out; have hcz11_0 : w9.cell? ⟨gb251, 0, none⟩ = some (.slice A0_0 l0_0.length c0_0) := (bC BK251.out 0).trans rfl; have hfz11_0 := bF BK251.out 0) | ((with_reducible refine gate_callee (f := 12) rfl ?_); refine goesL_ (some 6) rfl rfl Try.func12 (by kernel_rfl) rfl #[.agg #[.slice A0_0 l0_0.length c0_0]] rfl (by (try simp only [List.map_toArray, List.map_cons, List.map_nil]); first | done | rfl | (simp only [List.length_drop, List.length_take]; rfl)) ?_; (with_reducible refine (impl_HeapOk.calls k _ _ l0_0 true _ ?side1 ?side2 A3.out).mono ?_); (case side1 => repeat (first | exact (Kd.C_below HR0_0.out HB.out) | (with_reducible refine Kd.C_alloc ?_ _) | (with_reducible refine Kd.C_drewN ?_ _) | (with_reducible refine Kd.C_drew ?_))); (case side2 => exact HC0_0.out); rintro e w12 ⟨rfl, hb⟩; refine ⟨_, rfl, ?_⟩; have n0_ := Az.mk (blk_below (g := gb251) (o := .cells #[.slice A0_0 l0_0.length c0_0] 25 (0, 0)) (by (with_reducible repeat (first | refine blk_drewN ?_ _ | refine blk_drew ?_ | refine blk_alloc ?_ _)); exact BK251.out) hb); have n1_ := Az.mk (blk_below (g := gb252) (o := .cells #[.int .i64 a1_0, .string a1_1, .int .i64 a1_2] 31 (0, 0)) (by (with_reducible repeat (first | refine blk_drewN ?_ _ | refine blk_drew ?_ | refine blk_alloc ?_ _)); exact BK252.out) hb); have n2_ := Az.mk (below_step (by repeat (first | (with_reducible first | exact HB.out | apply bal | apply bdN | apply bdr | refine bS ?_ GE251.out | refine bS ?_ GE252.out) | exact HB.out)) hb); clear BK251; clear BK252; clear HB; have BK251 := n0_; have BK252 := n1_; have HB := n2_; clear n0_ n1_ n2_; (try clear hb); (try clear hb2); (try clear hk); (try clear hi); have hcz13_0 : w12.cell? ⟨gb251, 0, none⟩ = some (.slice A0_0 l0_0.length c0_0) := (bC BK251.out 0).trans rfl; have hfz13_0 := bF BK251.out 0; have hcz14_0 : w12.cell? ⟨gb252, 0, none⟩ = some (.int .i64 a1_0) := (bC BK252.out 0).trans rfl; have hcz14_1 : w12.cell? ⟨gb252, 1, none⟩ = some (.string a1_1) := (bC BK252.out 1).trans rfl; have hcz14_2 : w12.cell? ⟨gb252, 2, none⟩ = some (.int .i64 a1_2) := (bC BK252.out 2).trans rfl; have hfz14_0 := bF BK252.out 0; have hfz14_1 := bF BK252.out 1; have hfz14_2 := bF BK252.out 2) | (go_at_call 50; (with_reducible refine (impl_Heap_valueOk.calls k _ _ l0_0 a1_0 a1_1 a1_2 true _ ?side1 ?side2 A5.out).mono ?_); (case side1 => repeat (first | exact (Kd.C_below HR0_0.out HB.out) | (with_reducible refine Kd.C_alloc ?_ _) | (with_reducible refine Kd.C_drewN ?_ _) | (with_reducible refine Kd.C_drew ?_))); (case side2 => exact HC0_0.out); rintro e w15 ⟨rfl, hb⟩; have n0_ := Az.mk (blk_below (g := gb251) (o := .cells #[.slice A0_0 l0_0.length c0_0] 25 (0, 0)) (by (with_reducible repeat (first | refine blk_drewN ?_ _ | refine blk_drew ?_ | refine blk_alloc ?_ _)); exact BK251.out) hb); have n1_ := Az.mk (blk_below (g := gb252) (o := .cells #[.int .i64 a1_0, .string a1_1, .int .i64 a1_2] 31 (0, 0)) (by (with_reducible repeat (first | refine blk_drewN ?_ _ | refine blk_drew ?_ | refine blk_alloc ?_ _)); exact BK252.out) hb); have n2_ := Az.mk (below_step (by repeat (first | (with_reducible first | exact HB.out | apply bal | apply bdN | apply bdr | refine bS ?_ GE251.out | refine bS ?_ GE252.out) | exact HB.out)) hb); clear BK251; clear BK252; clear HB; have BK251 := n0_; have BK252 := n1_; have HB := n2_; clear n0_ n1_ n2_; (try clear hb); (try clear hb2); (try clear hk); (try clear hi); have hcz16_0 : w15.cell? ⟨gb251, 0, none⟩ = some (.slice A0_0 l0_0.length c0_0) := (bC BK251.out 0).trans rfl; have hfz16_0 := bF BK251.out 0; have hcz17_0 : w15.cell? ⟨gb252, 0, none⟩ = some (.int .i64 a1_0) := (bC BK252.out 0).trans rfl; have hcz17_1 : w15.cell? ⟨gb252, 1, none⟩ = some (.string a1_1) := (bC BK252.out 1).trans rfl; have hcz17_2 : w15.cell? ⟨gb252, 2, none⟩ = some (.int .i64 a1_2) := (bC BK252.out 2).trans rfl; have hfz17_0 := bF BK252.out 0; have hfz17_1 := bF BK252.out 1; have hfz17_2 := bF BK252.out 2) | ((with_reducible refine gate_callee (f := 51) rfl ?_); refine goesL_ (some 16) rfl rfl Try.func51 (by kernel_rfl) rfl #[.agg #[.slice A0_0 l0_0.length c0_0], .agg #[.int .i64 a1_0, .string a1_1, .int .i64 a1_2]] rfl (by (try simp only [List.map_toArray, List.map_cons, List.map_nil]); first | done | rfl | (simp only [List.length_drop, List.length_take]; rfl)) ?_; (with_reducible refine (impl_Heap_show.calls _ _ l0_0 a1_0 a1_1 a1_2 t255 _ ?side1 ?side2 A7.out).mono ?_); (case side1 => repeat (first | exact (Kd.C_below HR0_0.out HB.out) | (with_reducible refine Kd.C_alloc ?_ _) | (with_reducible refine Kd.C_drewN ?_ _) | (with_reducible refine Kd.C_drew ?_))); (case side2 => exact HC0_0.out); rintro e w18 ⟨rfl, hb⟩; refine ⟨_, rfl, ?_⟩; have n0_ := Az.mk (blk_below (g := gb251) (o := .cells #[.slice A0_0 l0_0.length c0_0] 25 (0, 0)) (by (with_reducible repeat (first | refine blk_drewN ?_ _ | refine blk_drew ?_ | refine blk_alloc ?_ _)); exact BK251.out) hb); have n1_ := Az.mk (blk_below (g := gb252) (o := .cells #[.int .i64 a1_0, .string a1_1, .int .i64 a1_2] 31 (0, 0)) (by (with_reducible repeat (first | refine blk_drewN ?_ _ | refine blk_drew ?_ | refine blk_alloc ?_ _)); exact BK252.out) hb); have n2_ := Az.mk (below_step (by repeat (first | (with_reducible first | exact HB.out | apply bal | apply bdN | apply bdr | refine bS ?_ GE251.out | refine bS ?_ GE252.out) | exact HB.out)) hb); clear BK251; clear BK252; clear HB; have BK251 := n0_; have BK252 := n1_; have HB := n2_; clear n0_ n1_ n2_; (try clear hb); (try clear hb2); (try clear hk); (try clear hi)))
   go_ret
   exact ⟨by first | rfl | (simp [errW_none, errW_some] <;> rfl) | (simp [*, errW_none, errW_some] <;> rfl), by repeat (first | (with_reducible first | exact HB.out | apply bal | apply bdN | apply bdr | refine bS ?_ GE251.out | refine bS ?_ GE252.out) | exact HB.out)⟩
  ·replace c6 := Bool.eq_false_iff.mpr c6
   subst c6
   have H1 : (some (⟨#[]⟩ : ByteArray)) = some r := by rw [if_neg (show ¬ (false = true) by decide)] at H; exact H
   clear H
   have H := H1
   clear H1
   obtain rfl := Option.some.inj H
   go_enter Try.func13, Try.ntmps13
   go_wp2_with (first | ((with_reducible refine gate_dst (N := 2) rfl ?_); refine box_event ?hg (N := 2) ?hd (cs := #[.slice A0_0 l0_0.length c0_0]) (t := 25) ?hr ?_; (case hd => rfl); (case hg => rfl); (case hr => first | (go_simp; done) | (go_simp; rfl)); intro gb251 hg w19 hbox hb; have n0_ := Az.mk (below_step (by repeat (first | (with_reducible first | exact HB.out | apply bal | apply bdN | apply bdr) | exact HB.out)) hb); have n1_ := Az.mk (hbox); have n2_ := Az.mk ((by rw [hg]; exact (below_size (by repeat (first | (with_reducible first | exact HB.out | apply bal | apply bdN | apply bdr) | exact HB.out))) : w.heap.size ≤ gb251)); have n3_ := Az.mk ((by rw [hg]; exact (below_size (by repeat (first | (with_reducible first | exact HB.out | apply bal | apply bdN | apply bdr) | exact HB.out))) : w.heap.size ≤ gb251)); clear HB; have HB := n0_; have BK251 := n1_; have GW251 := n2_; have GE251 := n3_; clear n0_ n1_ n2_ n3_; clear hb hbox hg) | ((with_reducible refine gate_dst (N := 3) rfl ?_); refine box_event ?hg (N := 3) ?hd (cs := #[.int .i64 a1_0, .string a1_1, .int .i64 a1_2]) (t := 31) ?hr ?_; (case hd => rfl); (case hg => rfl); (case hr => first | (go_simp; done) | (go_simp; rfl)); intro gb252 hg w20 hbox hb; have n0_ := Az.mk (blk_below (g := gb251) (o := .cells #[.slice A0_0 l0_0.length c0_0] 25 (0, 0)) (by (with_reducible repeat (first | refine blk_drewN ?_ _ | refine blk_drew ?_ | refine blk_alloc ?_ _)); exact BK251.out) hb); have n1_ := Az.mk (below_step (by repeat (first | (with_reducible first | exact HB.out | apply bal | apply bdN | apply bdr | refine bS ?_ GE251.out) | exact HB.out)) hb); have n2_ := Az.mk (hbox); have n3_ := Az.mk ((by rw [hg]; exact (below_size (by repeat (first | (with_reducible first | exact HB.out | apply bal | apply bdN | apply bdr | refine bS ?_ GE251.out) | exact HB.out))) : w.heap.size ≤ gb252)); have n4_ := Az.mk ((by rw [hg]; exact (below_size (by repeat (first | (with_reducible first | exact HB.out | apply bal | apply bdN | apply bdr | refine bS ?_ GE251.out) | exact HB.out))) : w.heap.size ≤ gb252)); have n5_ := Az.mk ((by rw [hg]; exact Nat.ne_of_lt (blk_lt (g := gb251) (o := .cells #[.slice A0_0 l0_0.length c0_0] 25 (0, 0)) (by (with_reducible repeat (first | refine blk_drewN ?_ _ | refine blk_drew ?_ | refine blk_alloc ?_ _)); exact BK251.out)) : gb251 ≠ gb252)); have n6_ := Az.mk ((by rw [hg]; exact Nat.ne_of_gt (blk_lt (g := gb251) (o := .cells #[.slice A0_0 l0_0.length c0_0] 25 (0, 0)) (by (with_reducible repeat (first | refine blk_drewN ?_ _ | refine blk_drew ?_ | refine blk_alloc ?_ _)); exact BK251.out)) : gb252 ≠ gb251)); clear BK251; clear HB; have BK251 := n0_; have HB := n1_; have BK252 := n2_; have GW252 := n3_; have GE252 := n4_; have NB251_252 := n5_; have NB252_251 := n6_; clear n0_ n1_ n2_ n3_ n4_ n5_ n6_; clear hb hbox hg; have hnb21 := NB251_252.out; have hnc21 := NB252_251.out; have hcz22_0 : w20.cell? ⟨gb251, 0, none⟩ = some (.slice A0_0 l0_0.length c0_0) := (bC BK251.out 0).trans rfl; have hfz22_0 := bF BK251.out 0) | ((with_reducible refine gate_callee (f := 12) rfl ?_); refine goesL_ (some 6) rfl rfl Try.func12 (by kernel_rfl) rfl #[.agg #[.slice A0_0 l0_0.length c0_0]] rfl (by (try simp only [List.map_toArray, List.map_cons, List.map_nil]); first | done | rfl | (simp only [List.length_drop, List.length_take]; rfl)) ?_; (with_reducible refine (impl_HeapOk.calls k _ _ l0_0 true _ ?side1 ?side2 A3.out).mono ?_); (case side1 => repeat (first | exact (Kd.C_below HR0_0.out HB.out) | (with_reducible refine Kd.C_alloc ?_ _) | (with_reducible refine Kd.C_drewN ?_ _) | (with_reducible refine Kd.C_drew ?_))); (case side2 => exact HC0_0.out); rintro e w23 ⟨rfl, hb⟩; refine ⟨_, rfl, ?_⟩; have n0_ := Az.mk (blk_below (g := gb251) (o := .cells #[.slice A0_0 l0_0.length c0_0] 25 (0, 0)) (by (with_reducible repeat (first | refine blk_drewN ?_ _ | refine blk_drew ?_ | refine blk_alloc ?_ _)); exact BK251.out) hb); have n1_ := Az.mk (blk_below (g := gb252) (o := .cells #[.int .i64 a1_0, .string a1_1, .int .i64 a1_2] 31 (0, 0)) (by (with_reducible repeat (first | refine blk_drewN ?_ _ | refine blk_drew ?_ | refine blk_alloc ?_ _)); exact BK252.out) hb); have n2_ := Az.mk (below_step (by repeat (first | (with_reducible first | exact HB.out | apply bal | apply bdN | apply bdr | refine bS ?_ GE251.out | refine bS ?_ GE252.out) | exact HB.out)) hb); clear BK251; clear BK252; clear HB; have BK251 := n0_; have BK252 := n1_; have HB := n2_; clear n0_ n1_ n2_; (try clear hb); (try clear hb2); (try clear hk); (try clear hi); have hcz24_0 : w23.cell? ⟨gb251, 0, none⟩ = some (.slice A0_0 l0_0.length c0_0) := (bC BK251.out 0).trans rfl; have hfz24_0 := bF BK251.out 0; have hcz25_0 : w23.cell? ⟨gb252, 0, none⟩ = some (.int .i64 a1_0) := (bC BK252.out 0).trans rfl; have hcz25_1 : w23.cell? ⟨gb252, 1, none⟩ = some (.string a1_1) := (bC BK252.out 1).trans rfl; have hcz25_2 : w23.cell? ⟨gb252, 2, none⟩ = some (.int .i64 a1_2) := (bC BK252.out 2).trans rfl; have hfz25_0 := bF BK252.out 0; have hfz25_1 := bF BK252.out 1; have hfz25_2 := bF BK252.out 2) | (go_at_call 50; (with_reducible refine (impl_Heap_valueOk.calls k _ _ l0_0 a1_0 a1_1 a1_2 false _ ?side1 ?side2 A5.out).mono ?_); (case side1 => repeat (first | exact (Kd.C_below HR0_0.out HB.out) | (with_reducible refine Kd.C_alloc ?_ _) | (with_reducible refine Kd.C_drewN ?_ _) | (with_reducible refine Kd.C_drew ?_))); (case side2 => exact HC0_0.out); rintro e w26 ⟨rfl, hb⟩; have n0_ := Az.mk (blk_below (g := gb251) (o := .cells #[.slice A0_0 l0_0.length c0_0] 25 (0, 0)) (by (with_reducible repeat (first | refine blk_drewN ?_ _ | refine blk_drew ?_ | refine blk_alloc ?_ _)); exact BK251.out) hb); have n1_ := Az.mk (blk_below (g := gb252) (o := .cells #[.int .i64 a1_0, .string a1_1, .int .i64 a1_2] 31 (0, 0)) (by (with_reducible repeat (first | refine blk_drewN ?_ _ | refine blk_drew ?_ | refine blk_alloc ?_ _)); exact BK252.out) hb); have n2_ := Az.mk (below_step (by repeat (first | (with_reducible first | exact HB.out | apply bal | apply bdN | apply bdr | refine bS ?_ GE251.out | refine bS ?_ GE252.out) | exact HB.out)) hb); clear BK251; clear BK252; clear HB; have BK251 := n0_; have BK252 := n1_; have HB := n2_; clear n0_ n1_ n2_; (try clear hb); (try clear hb2); (try clear hk); (try clear hi)))
   go_ret
   exact ⟨by first | rfl | (simp [errW_none, errW_some] <;> rfl) | (simp [*, errW_none, errW_some] <;> rfl), by repeat (first | (with_reducible first | exact HB.out | apply bal | apply bdN | apply bdr | refine bS ?_ GE251.out | refine bS ?_ GE252.out) | exact HB.out)⟩
 ·replace c4 := Bool.eq_false_iff.mpr c4
  subst c4
  have H1 : (some (⟨#[]⟩ : ByteArray)) = some r := by rw [if_neg (show ¬ (false = true) by decide)] at H; exact H
  clear H
  have H := H1
  clear H1
  obtain rfl := Option.some.inj H
  go_enter Try.func13, Try.ntmps13
  go_wp2_with (first | ((with_reducible refine gate_dst (N := 2) rfl ?_); refine box_event ?hg (N := 2) ?hd (cs := #[.slice A0_0 l0_0.length c0_0]) (t := 25) ?hr ?_; (case hd => rfl); (case hg => rfl); (case hr => first | (go_simp; done) | (go_simp; rfl)); intro gb251 hg w27 hbox hb; have n0_ := Az.mk (below_step (by repeat (first | (with_reducible first | exact HB.out | apply bal | apply bdN | apply bdr) | exact HB.out)) hb); have n1_ := Az.mk (hbox); have n2_ := Az.mk ((by rw [hg]; exact (below_size (by repeat (first | (with_reducible first | exact HB.out | apply bal | apply bdN | apply bdr) | exact HB.out))) : w.heap.size ≤ gb251)); have n3_ := Az.mk ((by rw [hg]; exact (below_size (by repeat (first | (with_reducible first | exact HB.out | apply bal | apply bdN | apply bdr) | exact HB.out))) : w.heap.size ≤ gb251)); clear HB; have HB := n0_; have BK251 := n1_; have GW251 := n2_; have GE251 := n3_; clear n0_ n1_ n2_ n3_; clear hb hbox hg) | ((with_reducible refine gate_dst (N := 3) rfl ?_); refine box_event ?hg (N := 3) ?hd (cs := #[.int .i64 a1_0, .string a1_1, .int .i64 a1_2]) (t := 31) ?hr ?_; (case hd => rfl); (case hg => rfl); (case hr => first | (go_simp; done) | (go_simp; rfl)); intro gb252 hg w28 hbox hb; have n0_ := Az.mk (blk_below (g := gb251) (o := .cells #[.slice A0_0 l0_0.length c0_0] 25 (0, 0)) (by (with_reducible repeat (first | refine blk_drewN ?_ _ | refine blk_drew ?_ | refine blk_alloc ?_ _)); exact BK251.out) hb); have n1_ := Az.mk (below_step (by repeat (first | (with_reducible first | exact HB.out | apply bal | apply bdN | apply bdr | refine bS ?_ GE251.out) | exact HB.out)) hb); have n2_ := Az.mk (hbox); have n3_ := Az.mk ((by rw [hg]; exact (below_size (by repeat (first | (with_reducible first | exact HB.out | apply bal | apply bdN | apply bdr | refine bS ?_ GE251.out) | exact HB.out))) : w.heap.size ≤ gb252)); have n4_ := Az.mk ((by rw [hg]; exact (below_size (by repeat (first | (with_reducible first | exact HB.out | apply bal | apply bdN | apply bdr | refine bS ?_ GE251.out) | exact HB.out))) : w.heap.size ≤ gb252)); have n5_ := Az.mk ((by rw [hg]; exact Nat.ne_of_lt (blk_lt (g := gb251) (o := .cells #[.slice A0_0 l0_0.length c0_0] 25 (0, 0)) (by (with_reducible repeat (first | refine blk_drewN ?_ _ | refine blk_drew ?_ | refine blk_alloc ?_ _)); exact BK251.out)) : gb251 ≠ gb252)); have n6_ := Az.mk ((by rw [hg]; exact Nat.ne_of_gt (blk_lt (g := gb251) (o := .cells #[.slice A0_0 l0_0.length c0_0] 25 (0, 0)) (by (with_reducible repeat (first | refine blk_drewN ?_ _ | refine blk_drew ?_ | refine blk_alloc ?_ _)); exact BK251.out)) : gb252 ≠ gb251)); clear BK251; clear HB; have BK251 := n0_; have HB := n1_; have BK252 := n2_; have GW252 := n3_; have GE252 := n4_; have NB251_252 := n5_; have NB252_251 := n6_; clear n0_ n1_ n2_ n3_ n4_ n5_ n6_; clear hb hbox hg; have hnb29 := NB251_252.out; have hnc29 := NB252_251.out; have hcz30_0 : w28.cell? ⟨gb251, 0, none⟩ = some (.slice A0_0 l0_0.length c0_0) := (bC BK251.out 0).trans rfl; have hfz30_0 := bF BK251.out 0) | ((with_reducible refine gate_callee (f := 12) rfl ?_); refine goesL_ (some 6) rfl rfl Try.func12 (by kernel_rfl) rfl #[.agg #[.slice A0_0 l0_0.length c0_0]] rfl (by (try simp only [List.map_toArray, List.map_cons, List.map_nil]); first | done | rfl | (simp only [List.length_drop, List.length_take]; rfl)) ?_; (with_reducible refine (impl_HeapOk.calls k _ _ l0_0 false _ ?side1 ?side2 A3.out).mono ?_); (case side1 => repeat (first | exact (Kd.C_below HR0_0.out HB.out) | (with_reducible refine Kd.C_alloc ?_ _) | (with_reducible refine Kd.C_drewN ?_ _) | (with_reducible refine Kd.C_drew ?_))); (case side2 => exact HC0_0.out); rintro e w31 ⟨rfl, hb⟩; refine ⟨_, rfl, ?_⟩; have n0_ := Az.mk (blk_below (g := gb251) (o := .cells #[.slice A0_0 l0_0.length c0_0] 25 (0, 0)) (by (with_reducible repeat (first | refine blk_drewN ?_ _ | refine blk_drew ?_ | refine blk_alloc ?_ _)); exact BK251.out) hb); have n1_ := Az.mk (blk_below (g := gb252) (o := .cells #[.int .i64 a1_0, .string a1_1, .int .i64 a1_2] 31 (0, 0)) (by (with_reducible repeat (first | refine blk_drewN ?_ _ | refine blk_drew ?_ | refine blk_alloc ?_ _)); exact BK252.out) hb); have n2_ := Az.mk (below_step (by repeat (first | (with_reducible first | exact HB.out | apply bal | apply bdN | apply bdr | refine bS ?_ GE251.out | refine bS ?_ GE252.out) | exact HB.out)) hb); clear BK251; clear BK252; clear HB; have BK251 := n0_; have BK252 := n1_; have HB := n2_; clear n0_ n1_ n2_; (try clear hb); (try clear hb2); (try clear hk); (try clear hi)))
  go_ret
  exact ⟨by first | rfl | (simp [errW_none, errW_some] <;> rfl) | (simp [*, errW_none, errW_some] <;> rfl), by repeat (first | (with_reducible first | exact HB.out | apply bal | apply bdN | apply bdr | refine bS ?_ GE251.out | refine bS ?_ GE252.out) | exact HB.out)⟩
theorem isEmpty_bne (l : List UInt8) : (!l.isEmpty) = (l != ([] : List UInt8)) := by
 cases l <;> simp
def laws_FnHeapNewShows.j0 : Nat → Int → List (S79) → Option (Bool)
 | 0, _, _ => none
 | k + 1, x4, x260000 => (spec_HeapNew.f k).bind fun t261 => ((spec_SameHeap.f k x260000 t261).bind fun t264 => (if t264 = true then ((impl_HeapOk.f k x260000).bind fun t265 => (if t265 = true then ((impl_HeapShow.f k x260000 4 (⟨#[]⟩ : ByteArray) x4).bind fun t266 => (some (t266.toList != ([] : List UInt8)))) else (some false))) else (some false)))
def laws_FnHeapNewShows.f (k : Nat) (l0 : List Int) : Option (Bool) := if (l0.length : Int) > 1048576 then (some true) else ((impl_HeapNew.f k).bind fun t256 => (if (l0.length : Int) > 0 then (if 0 < (l0.length : Int) then (laws_FnHeapNewShows.j0 k (Int.tmod (wrap64 (rd l0 0)) 19) t256) else (none)) else (laws_FnHeapNewShows.j0 k 0 t256)))
theorem laws_FnHeapNewShows.calls (k : Nat) (A0 : Option Addr) (c0 : Nat) (l0 : List Int) (r : Bool) (w : World) (hr0 : Kd.C (Kd.int .u8) w A0 l0.length l0) (hc0 : l0.length ≤ c0) (h : laws_FnHeapNewShows.f k l0 = some r) :
  Calls Try.prog 3 #[.slice A0 l0.length c0] w fun e w' => e = .returned (.bool r) ∧ Below w.heap.size w w' := by
 have hu25 := Try.underlying25
 have hu31 := Try.underlying31
 have HR0 := Az.mk hr0
 have HC0 := Az.mk hc0
 clear hr0 hc0
 have HB := Az.mk (Below.refl w.heap.size w)
 have H : (if (l0.length : Int) > 1048576 then (some true) else ((impl_HeapNew.f k).bind fun t256 => (if (l0.length : Int) > 0 then (if 0 < (l0.length : Int) then (laws_FnHeapNewShows.j0 k (Int.tmod (wrap64 (rd l0 0)) 19) t256) else (none)) else (laws_FnHeapNewShows.j0 k 0 t256)))) = some r := h
 clear h
 by_cases c2 : (l0.length : Int) > 1048576
 ·rw [if_pos c2] at H
  have c2b0 : decide (1048576 < (l0.length : Int)) = true := decide_eq_true c2
  have c2b1 : decide (1048576 < l0.length) = true := decide_eq_true (by omega)
  clear c2
  obtain rfl := Option.some.inj H
  go_enter Try.func3, Try.ntmps3
  go_wp2
  go_ret
  exact ⟨by first | rfl | (simp [errW_none, errW_some] <;> rfl) | (rw [← isEmpty_bne]; done) | (rw [← isEmpty_bne]; rfl) | (simp [*, errW_none, errW_some] <;> rfl), by repeat (first | (with_reducible first | exact HB.out | apply bal | apply bdN | apply bdr) | exact HB.out)⟩
 ·rw [if_neg c2] at H
  have c2b0 : decide (1048576 < (l0.length : Int)) = false := decide_eq_false c2
  have c2b1 : decide (1048576 < l0.length) = false := decide_eq_false (by omega)
  clear c2
  replace H := Option.bind_eq_some_iff.mp H
  obtain ⟨t256, A30, H⟩ := H
  replace H : (if (l0.length : Int) > 0 then (if 0 < (l0.length : Int) then (laws_FnHeapNewShows.j0 k (Int.tmod (wrap64 (rd l0 0)) 19) t256) else (none)) else (laws_FnHeapNewShows.j0 k 0 t256)) = some r := H
  have A3 := Az.mk A30
  clear A30
  have HC4 := Az.mk H
  clear H
  go_enter Try.func3, Try.ntmps3
  go_upto_if 11 with (first | ((with_reducible refine gate_callee (f := 9) rfl ?_); refine goesL_ (some 8) rfl rfl Try.func9 (by kernel_rfl) rfl #[] rfl (by (try simp only [List.map_toArray, List.map_cons, List.map_nil]); first | done | rfl | (simp only [List.length_drop, List.length_take]; rfl)) ?_; (with_reducible refine (impl_HeapNew.calls k  t256 _ A3.out).mono ?_); rintro e w5 ⟨v257, rfl, ho0, hb⟩; refine ⟨_, rfl, ?_⟩; have n0_ := Az.mk (Kd.S_lower ho0 (below_size (by repeat (first | (with_reducible first | exact HB.out | apply bal | apply bdN | apply bdr) | exact HB.out)))); have n1_ := Az.mk (below_step (by repeat (first | (with_reducible first | exact HB.out | apply bal | apply bdN | apply bdr) | exact HB.out)) hb); clear HB; have HO258 := n0_; have HB := n1_; clear n0_ n1_; (try clear hb); (try clear hb2); (try clear hk); (try clear hi); (try clear ho0)) | ((with_reducible refine gate_dst (N := 3) rfl ?_); refine box_event ?hg (N := 3) ?hd (cs := #[.slice none 0 0]) (t := 25) ?hr ?_; (case hd => rfl); (case hg => rfl); (case hr => first | (go_simp; done) | (go_simp; rfl)); intro gb259 hg w6 hbox hb; have n0_ := Az.mk (Kd.S_below (by (with_reducible repeat (first | apply Kd.S_alloc | apply Kd.S_drewN | apply Kd.S_drew)); exact HO258.out) hb); have n1_ := Az.mk (below_step (by repeat (first | (with_reducible first | exact HB.out | apply bal | apply bdN | apply bdr) | exact HB.out)) hb); have n2_ := Az.mk (hbox); have n3_ := Az.mk ((by rw [hg]; exact (below_size (by repeat (first | (with_reducible first | exact HB.out | apply bal | apply bdN | apply bdr) | exact HB.out))) : w.heap.size ≤ gb259)); have n4_ := Az.mk ((by rw [hg]; exact (below_size (by repeat (first | (with_reducible first | exact HB.out | apply bal | apply bdN | apply bdr) | exact HB.out))) : w.heap.size ≤ gb259)); clear HO258; clear HB; have HO258 := n0_; have HB := n1_; have BK259 := n2_; have GW259 := n3_; have GE259 := n4_; clear n0_ n1_ n2_ n3_ n4_; clear hb hbox hg; obtain ⟨Ao7, co7, eo7⟩ := Kd.S_slice HO258.out; subst eo7; have hcz8_0 : w6.cell? ⟨gb259, 0, none⟩ = some (.slice none 0 0) := (bC BK259.out 0).trans rfl; have hfz8_0 := bF BK259.out 0))
  (try simp only [Act.put, List.setIfInBounds_toArray, List.set_cons_zero, List.set_cons_succ])
  go_cut [4] (fun v4 wc => ∃ (kq : Nat) (x4_3 : Int), v4 = .int .i64 x4_3 ∧ Az (laws_FnHeapNewShows.j0 kq x4_3 t256 = some r) ∧ Az (kq ≤ k) ∧ Az (Kd.S k79 79 wc w.heap.size (fun _ => True) (.slice Ao7 t256.length co7) t256) ∧ Az (wc.heap[gb259]? = some (.cells #[(.slice Ao7 t256.length co7)] 25 (0, 0))) ∧ Az (Below w.heap.size w wc))
  case first =>
   have H := HC4.out
   clear HC4
   by_cases c9 : (l0.length : Int) > 0
   ·rw [if_pos c9] at H
    have c9b0 : decide (0 < (l0.length : Int)) = true := decide_eq_true c9
    have c9b1 : decide (0 < l0.length) = true := decide_eq_true (by omega)
    clear c9
    (first | rw [c9b0] | (simp only [i64_w, i32_w]; rw [c9b0]) | rw [c9b1] | skip)
    by_cases c10 : 0 < (l0.length : Int)
    ·rw [if_pos c10] at H
     have c10b0 : decide (0 < (l0.length : Int)) = true := decide_eq_true c10
     have c10b1 : decide (0 < l0.length) = true := decide_eq_true (by omega)
     clear c10
     have H' := Az.mk H
     clear H
     have p260 : 0 ≤ (0 : Int) := (by omega)
     have q260 : 0 < (l0.length : Int) := of_decide_eq_true (by first | (with_reducible assumption) | assumption)
     obtain ⟨ad260, e260, hx260_0⟩ := Kd.at_int HR0.out 0 p260 q260
     cases e260
     have qi260 : (0 < l0.length) = True := eq_true (by omega)
     (try rw [show ((0 : Int)).toNat = 0 from rfl] at hx260_0)
     (try rw [Addr.add_zero'] at hx260_0)
     have hn260_0 : ad260.block ≠ gb259 := Nat.ne_of_lt (Nat.lt_of_lt_of_le (by have := World.block_lt_of_cell? _ _ hx260_0; first | rwa [add_block] at this | exact this) GW259.out)
     replace hx260_0 := (HB.out.cell (World.block_lt_of_cell? w _ hx260_0)).trans hx260_0
     replace hx260_0 := (cell_far (p := ⟨gb259, 0, none⟩) (by first | (rw [add_block]; exact hn260_0) | (show (Addr.add _ _).block ≠ _; rw [add_block]; exact hn260_0) | exact hn260_0) (.slice Ao7 t256.length co7)).trans hx260_0
     clear hn260_0
     replace p260 := eq_true p260
     replace q260 := eq_true q260
     go_wp2
     go_meet
     case rel => exact ⟨_, (Int.tmod (wrap64 (rd l0 0)) 19), (by first | rfl | (simp; done) | (simp [*]; done)), H', ⟨by first | omega | exact Nat.le_refl _⟩, ⟨by (with_reducible repeat (first | apply Kd.S_alloc | apply Kd.S_drewN | apply Kd.S_drew)); exact Kd.S_mono (Kd.S_far (p := ⟨gb259, 0, none⟩) (Kd.S_types HO258.out BK259.out (by decide)) (fun _ hk => hk.2) (.slice Ao7 t256.length co7)) (fun _ hk => trivial)⟩, ⟨by (with_reducible repeat (first | refine blk_drewN ?_ _ | refine blk_drew ?_ | refine blk_alloc ?_ _)); refine blk_put (cs := #[.slice none 0 0]) ?_ 0 _ rfl; (with_reducible repeat (first | refine blk_drewN ?_ _ | refine blk_drew ?_ | refine blk_alloc ?_ _)); exact BK259.out⟩, ⟨by repeat (first | (with_reducible first | exact HB.out | apply bal | apply bdN | apply bdr | refine bS ?_ GE259.out) | exact HB.out)⟩⟩
    ·rw [if_neg c10] at H
     exact absurd H (by simp)
   ·rw [if_neg c9] at H
    have c9b0 : decide (0 < (l0.length : Int)) = false := decide_eq_false c9
    have c9b1 : decide (0 < l0.length) = false := decide_eq_false (by omega)
    clear c9
    (first | rw [c9b0] | (simp only [i64_w, i32_w]; rw [c9b0]) | rw [c9b1] | skip)
    have H' := Az.mk H
    clear H
    go_wp2
    go_meet
    case rel => exact ⟨_, (0), (by first | rfl | (simp; done) | (simp [*]; done)), H', ⟨by first | omega | exact Nat.le_refl _⟩, ⟨by (with_reducible repeat (first | apply Kd.S_alloc | apply Kd.S_drewN | apply Kd.S_drew)); exact Kd.S_mono (Kd.S_far (p := ⟨gb259, 0, none⟩) (Kd.S_types HO258.out BK259.out (by decide)) (fun _ hk => hk.2) (.slice Ao7 t256.length co7)) (fun _ hk => trivial)⟩, ⟨by (with_reducible repeat (first | refine blk_drewN ?_ _ | refine blk_drew ?_ | refine blk_alloc ?_ _)); refine blk_put (cs := #[.slice none 0 0]) ?_ 0 _ rfl; (with_reducible repeat (first | refine blk_drewN ?_ _ | refine blk_drew ?_ | refine blk_alloc ?_ _)); exact BK259.out⟩, ⟨by repeat (first | (with_reducible first | exact HB.out | apply bal | apply bdN | apply bdr | refine bS ?_ GE259.out) | exact HB.out)⟩⟩
  case rest =>
   clear HC4
   try clear c1
   try clear c2
   try clear c2b0
   try clear c2b1
   try clear p2
   try clear q2
   try clear hx2
   try clear qi2
   try clear c3
   try clear p6
   try clear c9
   try clear c9b0
   try clear c9b1
   try clear c10
   try clear c10b0
   try clear c10b1
   try clear hcz8_0
   try clear hfz8_0
   try clear hx260_0
   try clear p260
   try clear q260
   obtain ⟨kq, x4_3, rfl, HA, HJ3, HO_260000, BK259, HB⟩ := hcut
   cases kq with
   | zero => exact absurd HA.out (by simp [laws_FnHeapNewShows.j0])
   | succ kj3 =>
    have H := HA.out
    clear HA
    simp only [laws_FnHeapNewShows.j0] at H
    replace H := Option.bind_eq_some_iff.mp H
    obtain ⟨t261, A110, H⟩ := H
    replace H : ((spec_SameHeap.f kj3 t256 t261).bind fun t264 => (if t264 = true then ((impl_HeapOk.f kj3 t256).bind fun t265 => (if t265 = true then ((impl_HeapShow.f kj3 t256 4 (⟨#[]⟩ : ByteArray) x4_3).bind fun t266 => (some (t266.toList != ([] : List UInt8)))) else (some false))) else (some false))) = some r := H
    have A11 := Az.mk A110
    clear A110
    replace H := Option.bind_eq_some_iff.mp H
    obtain ⟨t264, A120, H⟩ := H
    replace H : (if t264 = true then ((impl_HeapOk.f kj3 t256).bind fun t265 => (if t265 = true then ((impl_HeapShow.f kj3 t256 4 (⟨#[]⟩ : ByteArray) x4_3).bind fun t266 => (some (t266.toList != ([] : List UInt8)))) else (some false))) else (some false)) = some r := H
    have A12 := Az.mk A120
    clear A120
    by_cases c13 : t264 = true
    ·subst c13
     have H1 : ((impl_HeapOk.f kj3 t256).bind fun t265 => (if t265 = true then ((impl_HeapShow.f kj3 t256 4 (⟨#[]⟩ : ByteArray) x4_3).bind fun t266 => (some (t266.toList != ([] : List UInt8)))) else (some false))) = some r := by rw [if_pos rfl] at H; exact H
     clear H
     have H := H1
     clear H1
     replace H := Option.bind_eq_some_iff.mp H
     obtain ⟨t265, A140, H⟩ := H
     replace H : (if t265 = true then ((impl_HeapShow.f kj3 t256 4 (⟨#[]⟩ : ByteArray) x4_3).bind fun t266 => (some (t266.toList != ([] : List UInt8)))) else (some false)) = some r := H
     have A14 := Az.mk A140
     clear A140
     by_cases c15 : t265 = true
     ·subst c15
      have H1 : ((impl_HeapShow.f kj3 t256 4 (⟨#[]⟩ : ByteArray) x4_3).bind fun t266 => (some (t266.toList != ([] : List UInt8)))) = some r := by rw [if_pos rfl] at H; exact H
      clear H
      have H := H1
      clear H1
      replace H := Option.bind_eq_some_iff.mp H
      obtain ⟨t266, A160, H⟩ := H
      replace H : (some (t266.toList != ([] : List UInt8))) = some r := H
      have A16 := Az.mk A160
      clear A160
      obtain rfl := Option.some.inj H
      try go_wp2
      have n0_ := Az.mk (Kd.S_drew HO_260000.out)
      have n1_ := Az.mk (blk_drew BK259.out)
      have n2_ := Az.mk (bdr HB.out)
      clear HO_260000
      clear BK259
      clear HB
      have HO_260000 := n0_
      have BK259 := n1_
      have HB := n2_
      clear n0_ n1_ n2_
      refine start_ (n := 4) (S := fun w' => w'.cell? ⟨gb259, 0, none⟩ = some (.slice Ao7 t256.length co7)) (ds := []) #[false, false, false, false] (by kernel_rfl) rfl rfl ((bC BK259.out 0).trans rfl) (fun hHeld => ?_)
      generalize wc.drew = w17 at HO_260000 BK259 HB hHeld ⊢
      refine take_ (i := 0) (N := some 17) (v := ?_) (a' := ?_) #[true, false, false, false] rfl rfl (by kernel_rfl) (fun _ _ _ h => h) (Or.inl ⟨by rfl, ?_⟩) hHeld ?_ ?_
      rotate_left
      ·intro w' s0
       go_simp
       with_reducible rfl
      rotate_left
      ·simp only [Act.put, List.setIfInBounds_toArray, List.set_cons_zero, List.set_cons_succ, i64_w, i32_w]
       rfl
      refine one_ (i := 1) (N := some 18) #[true, true, false, false] rfl rfl (by kernel_rfl) (by decide) (fun K hK => ?_)
      refine goes_ Try.func11 (by kernel_rfl) rfl #[] (by rfl) rfl rfl (by (try simp only [List.map_toArray, List.map_cons, List.map_nil]); first | done | rfl | (simp only [List.length_drop, List.length_take]; rfl)) ?_
      with_reducible refine (spec_HeapNew.calls kj3  t261 _ A11.out).mono ?_
      rintro e w18 ⟨v262, rfl, ho0, hb⟩
      refine ⟨_, rfl, ?_⟩
      have n0_ := Az.mk (Kd.S_elder' (by (with_reducible repeat (first | apply Kd.S_alloc | apply Kd.S_drewN | apply Kd.S_drew)); exact HO_260000.out) (Kd.S_base ho0) hb)
      have n1_ := Az.mk (Kd.S_lower (Kd.S_new' ho0 (Kd.S_lt (by (with_reducible repeat (first | apply Kd.S_alloc | apply Kd.S_drewN | apply Kd.S_drew)); exact HO_260000.out))) (below_size (by repeat (first | (with_reducible first | exact HB.out | apply bal | apply bdN | apply bdr | refine bS ?_ GE259.out) | exact HB.out))))
      have n2_ := Az.mk (blk_below (g := gb259) (o := .cells #[.slice Ao7 t256.length co7] 25 (0, 0)) (by (with_reducible repeat (first | refine blk_drewN ?_ _ | refine blk_drew ?_ | refine blk_alloc ?_ _)); exact BK259.out) hb)
      have n3_ := Az.mk (below_step (by repeat (first | (with_reducible first | exact HB.out | apply bal | apply bdN | apply bdr | refine bS ?_ GE259.out) | exact HB.out)) hb)
      clear HO_260000
      clear BK259
      clear HB
      have HO_260000 := n0_
      have HO263 := n1_
      have BK259 := n2_
      have HB := n3_
      clear n0_ n1_ n2_ n3_
      (try clear hb)
      (try clear hb2)
      (try clear hk)
      (try clear hi)
      (try clear ho0)
      obtain ⟨Ao19, co19, eo19⟩ := Kd.S_slice HO263.out
      (first | subst eo19 | (injection eo19 with f1_ f2_ f3_; have f4_ := f1_.symm; have f5_ := f3_.symm; clear f1_ f2_ f3_; subst f4_; subst f5_))
      refine hK.out _ _ ((bC BK259.out 0).trans rfl) (fun hHeld => ?_)
      clear hK K
      refine norm_ (a' := ?_) ?_ ?_
      rotate_left
      ·show Act.put _ (some 18) _ = _
       simp only [Act.put, List.setIfInBounds_toArray, List.set_cons_zero, List.set_cons_succ, i64_w, i32_w]
       rfl
      refine one_ (i := 2) (N := some 19) #[true, true, true, false] rfl rfl (by kernel_rfl) (by decide) (fun K hK => ?_)
      refine goes_ Try.func10 (by kernel_rfl) rfl #[.agg #[.slice Ao7 t256.length co7], .agg #[.slice Ao19 t261.length co19]] (by rfl) rfl rfl (by (try simp only [List.map_toArray, List.map_cons, List.map_nil]); first | done | rfl | (simp only [List.length_drop, List.length_take]; rfl)) ?_
      with_reducible refine (spec_SameHeap.calls kj3 _ _ t256 _ _ t261 true _ ?side1 ?side2 ?side3 ?side4 A12.out).mono ?_
      (case side1 => repeat (first | exact (Kd.S_reads' HO_260000.out).2.2 | (with_reducible refine Kd.C_alloc ?_ _) | (with_reducible refine Kd.C_drewN ?_ _) | (with_reducible refine Kd.C_drew ?_)))
      (case side2 => exact (Kd.S_reads' HO_260000.out).2.1)
      (case side3 => repeat (first | exact (Kd.S_reads' HO263.out).2.2 | (with_reducible refine Kd.C_alloc ?_ _) | (with_reducible refine Kd.C_drewN ?_ _) | (with_reducible refine Kd.C_drew ?_)))
      (case side4 => exact (Kd.S_reads' HO263.out).2.1)
      rintro e w20 ⟨rfl, hb⟩
      refine ⟨_, rfl, ?_⟩
      have n0_ := Az.mk (Kd.S_below (by (with_reducible repeat (first | apply Kd.S_alloc | apply Kd.S_drewN | apply Kd.S_drew)); exact HO_260000.out) hb)
      have n1_ := Az.mk (Kd.S_below (by (with_reducible repeat (first | apply Kd.S_alloc | apply Kd.S_drewN | apply Kd.S_drew)); exact HO263.out) hb)
      have n2_ := Az.mk (blk_below (g := gb259) (o := .cells #[.slice Ao7 t256.length co7] 25 (0, 0)) (by (with_reducible repeat (first | refine blk_drewN ?_ _ | refine blk_drew ?_ | refine blk_alloc ?_ _)); exact BK259.out) hb)
      have n3_ := Az.mk (below_step (by repeat (first | (with_reducible first | exact HB.out | apply bal | apply bdN | apply bdr | refine bS ?_ GE259.out) | exact HB.out)) hb)
      clear HO_260000
      clear HO263
      clear BK259
      clear HB
      have HO_260000 := n0_
      have HO263 := n1_
      have BK259 := n2_
      have HB := n3_
      clear n0_ n1_ n2_ n3_
      (try clear hb)
      (try clear hb2)
      (try clear hk)
      (try clear hi)
      refine hK.out _ _ ((bC BK259.out 0).trans rfl) (fun hHeld => ?_)
      clear hK K
      refine norm_ (a' := ?_) ?_ ?_
      rotate_left
      ·show Act.put _ (some 19) _ = _
       simp only [Act.put, List.setIfInBounds_toArray, List.set_cons_zero, List.set_cons_succ, i64_w, i32_w]
       rfl
      refine pure_ (i := 3) (N := some 20) (v := ?_) (a' := ?_) #[true, true, true, true] rfl rfl (by kernel_rfl) (fun _ _ _ h => h) (Or.inl ⟨by rfl, ?_⟩) ?_ ?_
      rotate_left
      ·intro w'
       go_simp
       with_reducible rfl
      rotate_left
      ·simp only [Act.put, List.setIfInBounds_toArray, List.set_cons_zero, List.set_cons_succ, i64_w, i32_w]
       rfl
      refine done_ (by kernel_rfl) ?_
      have hcz21_0 : w20.cell? ⟨gb259, 0, none⟩ = some (.slice Ao7 t256.length co7) := (bC BK259.out 0).trans rfl
      have hfz21_0 := bF BK259.out 0
      try go_wp2_with (first | ((with_reducible refine gate_callee (f := 12) rfl ?_); refine goesL_ (some 22) rfl rfl Try.func12 (by kernel_rfl) rfl #[.agg #[.slice Ao7 t256.length co7]] rfl (by (try simp only [List.map_toArray, List.map_cons, List.map_nil]); first | done | rfl | (simp only [List.length_drop, List.length_take]; rfl)) ?_; (with_reducible refine (impl_HeapOk.calls kj3 _ _ t256 true _ ?side1 ?side2 A14.out).mono ?_); (case side1 => repeat (first | exact (Kd.S_reads' HO_260000.out).2.2 | (with_reducible refine Kd.C_alloc ?_ _) | (with_reducible refine Kd.C_drewN ?_ _) | (with_reducible refine Kd.C_drew ?_))); (case side2 => exact (Kd.S_reads' HO_260000.out).2.1); rintro e w22 ⟨rfl, hb⟩; refine ⟨_, rfl, ?_⟩; have n0_ := Az.mk (Kd.S_below (by (with_reducible repeat (first | apply Kd.S_alloc | apply Kd.S_drewN | apply Kd.S_drew)); exact HO_260000.out) hb); have n1_ := Az.mk (Kd.S_below (by (with_reducible repeat (first | apply Kd.S_alloc | apply Kd.S_drewN | apply Kd.S_drew)); exact HO263.out) hb); have n2_ := Az.mk (blk_below (g := gb259) (o := .cells #[.slice Ao7 t256.length co7] 25 (0, 0)) (by (with_reducible repeat (first | refine blk_drewN ?_ _ | refine blk_drew ?_ | refine blk_alloc ?_ _)); exact BK259.out) hb); have n3_ := Az.mk (below_step (by repeat (first | (with_reducible first | exact HB.out | apply bal | apply bdN | apply bdr | refine bS ?_ GE259.out) | exact HB.out)) hb); clear HO_260000; clear HO263; clear BK259; clear HB; have HO_260000 := n0_; have HO263 := n1_; have BK259 := n2_; have HB := n3_; clear n0_ n1_ n2_ n3_; (try clear hb); (try clear hb2); (try clear hk); (try clear hi); have hcz23_0 : w22.cell? ⟨gb259, 0, none⟩ = some (.slice Ao7 t256.length co7) := (bC BK259.out 0).trans rfl; have hfz23_0 := bF BK259.out 0) | (go_at_call 13; (with_reducible refine (impl_HeapShow.calls kj3 _ _ t256 4 (⟨#[]⟩ : ByteArray) x4_3 t266 _ ?side1 ?side2 A16.out).mono ?_); (case side1 => repeat (first | exact (Kd.S_reads' HO_260000.out).2.2 | (with_reducible refine Kd.C_alloc ?_ _) | (with_reducible refine Kd.C_drewN ?_ _) | (with_reducible refine Kd.C_drew ?_))); (case side2 => exact (Kd.S_reads' HO_260000.out).2.1); rintro e w24 ⟨rfl, hb⟩; have n0_ := Az.mk (Kd.S_below (by (with_reducible repeat (first | apply Kd.S_alloc | apply Kd.S_drewN | apply Kd.S_drew)); exact HO_260000.out) hb); have n1_ := Az.mk (Kd.S_below (by (with_reducible repeat (first | apply Kd.S_alloc | apply Kd.S_drewN | apply Kd.S_drew)); exact HO263.out) hb); have n2_ := Az.mk (blk_below (g := gb259) (o := .cells #[.slice Ao7 t256.length co7] 25 (0, 0)) (by (with_reducible repeat (first | refine blk_drewN ?_ _ | refine blk_drew ?_ | refine blk_alloc ?_ _)); exact BK259.out) hb); have n3_ := Az.mk (below_step (by repeat (first | (with_reducible first | exact HB.out | apply bal | apply bdN | apply bdr | refine bS ?_ GE259.out) | exact HB.out)) hb); clear HO_260000; clear HO263; clear BK259; clear HB; have HO_260000 := n0_; have HO263 := n1_; have BK259 := n2_; have HB := n3_; clear n0_ n1_ n2_ n3_; (try clear hb); (try clear hb2); (try clear hk); (try clear hi)))
      go_ret
      exact ⟨by first | rfl | (simp [errW_none, errW_some] <;> rfl) | (rw [← isEmpty_bne]; done) | (rw [← isEmpty_bne]; rfl) | (simp [*, errW_none, errW_some] <;> rfl), by repeat (first | (with_reducible first | exact HB.out | apply bal | apply bdN | apply bdr | refine bS ?_ GE259.out) | exact HB.out)⟩
     ·replace c15 := Bool.eq_false_iff.mpr c15
      subst c15
      have H1 : (some false) = some r := by rw [if_neg (show ¬ (false = true) by decide)] at H; exact H
      clear H
      have H := H1
      clear H1
      obtain rfl := Option.some.inj H
      try go_wp2
      have n0_ := Az.mk (Kd.S_drew HO_260000.out)
      have n1_ := Az.mk (blk_drew BK259.out)
      have n2_ := Az.mk (bdr HB.out)
      clear HO_260000
      clear BK259
      clear HB
      have HO_260000 := n0_
      have BK259 := n1_
      have HB := n2_
      clear n0_ n1_ n2_
      refine start_ (n := 4) (S := fun w' => w'.cell? ⟨gb259, 0, none⟩ = some (.slice Ao7 t256.length co7)) (ds := []) #[false, false, false, false] (by kernel_rfl) rfl rfl ((bC BK259.out 0).trans rfl) (fun hHeld => ?_)
      generalize wc.drew = w25 at HO_260000 BK259 HB hHeld ⊢
      refine take_ (i := 0) (N := some 17) (v := ?_) (a' := ?_) #[true, false, false, false] rfl rfl (by kernel_rfl) (fun _ _ _ h => h) (Or.inl ⟨by rfl, ?_⟩) hHeld ?_ ?_
      rotate_left
      ·intro w' s0
       go_simp
       with_reducible rfl
      rotate_left
      ·simp only [Act.put, List.setIfInBounds_toArray, List.set_cons_zero, List.set_cons_succ, i64_w, i32_w]
       rfl
      refine one_ (i := 1) (N := some 18) #[true, true, false, false] rfl rfl (by kernel_rfl) (by decide) (fun K hK => ?_)
      refine goes_ Try.func11 (by kernel_rfl) rfl #[] (by rfl) rfl rfl (by (try simp only [List.map_toArray, List.map_cons, List.map_nil]); first | done | rfl | (simp only [List.length_drop, List.length_take]; rfl)) ?_
      with_reducible refine (spec_HeapNew.calls kj3  t261 _ A11.out).mono ?_
      rintro e w26 ⟨v262, rfl, ho0, hb⟩
      refine ⟨_, rfl, ?_⟩
      have n0_ := Az.mk (Kd.S_elder' (by (with_reducible repeat (first | apply Kd.S_alloc | apply Kd.S_drewN | apply Kd.S_drew)); exact HO_260000.out) (Kd.S_base ho0) hb)
      have n1_ := Az.mk (Kd.S_lower (Kd.S_new' ho0 (Kd.S_lt (by (with_reducible repeat (first | apply Kd.S_alloc | apply Kd.S_drewN | apply Kd.S_drew)); exact HO_260000.out))) (below_size (by repeat (first | (with_reducible first | exact HB.out | apply bal | apply bdN | apply bdr | refine bS ?_ GE259.out) | exact HB.out))))
      have n2_ := Az.mk (blk_below (g := gb259) (o := .cells #[.slice Ao7 t256.length co7] 25 (0, 0)) (by (with_reducible repeat (first | refine blk_drewN ?_ _ | refine blk_drew ?_ | refine blk_alloc ?_ _)); exact BK259.out) hb)
      have n3_ := Az.mk (below_step (by repeat (first | (with_reducible first | exact HB.out | apply bal | apply bdN | apply bdr | refine bS ?_ GE259.out) | exact HB.out)) hb)
      clear HO_260000
      clear BK259
      clear HB
      have HO_260000 := n0_
      have HO263 := n1_
      have BK259 := n2_
      have HB := n3_
      clear n0_ n1_ n2_ n3_
      (try clear hb)
      (try clear hb2)
      (try clear hk)
      (try clear hi)
      (try clear ho0)
      obtain ⟨Ao27, co27, eo27⟩ := Kd.S_slice HO263.out
      (first | subst eo27 | (injection eo27 with f1_ f2_ f3_; have f4_ := f1_.symm; have f5_ := f3_.symm; clear f1_ f2_ f3_; subst f4_; subst f5_))
      refine hK.out _ _ ((bC BK259.out 0).trans rfl) (fun hHeld => ?_)
      clear hK K
      refine norm_ (a' := ?_) ?_ ?_
      rotate_left
      ·show Act.put _ (some 18) _ = _
       simp only [Act.put, List.setIfInBounds_toArray, List.set_cons_zero, List.set_cons_succ, i64_w, i32_w]
       rfl
      refine one_ (i := 2) (N := some 19) #[true, true, true, false] rfl rfl (by kernel_rfl) (by decide) (fun K hK => ?_)
      refine goes_ Try.func10 (by kernel_rfl) rfl #[.agg #[.slice Ao7 t256.length co7], .agg #[.slice Ao27 t261.length co27]] (by rfl) rfl rfl (by (try simp only [List.map_toArray, List.map_cons, List.map_nil]); first | done | rfl | (simp only [List.length_drop, List.length_take]; rfl)) ?_
      with_reducible refine (spec_SameHeap.calls kj3 _ _ t256 _ _ t261 true _ ?side1 ?side2 ?side3 ?side4 A12.out).mono ?_
      (case side1 => repeat (first | exact (Kd.S_reads' HO_260000.out).2.2 | (with_reducible refine Kd.C_alloc ?_ _) | (with_reducible refine Kd.C_drewN ?_ _) | (with_reducible refine Kd.C_drew ?_)))
      (case side2 => exact (Kd.S_reads' HO_260000.out).2.1)
      (case side3 => repeat (first | exact (Kd.S_reads' HO263.out).2.2 | (with_reducible refine Kd.C_alloc ?_ _) | (with_reducible refine Kd.C_drewN ?_ _) | (with_reducible refine Kd.C_drew ?_)))
      (case side4 => exact (Kd.S_reads' HO263.out).2.1)
      rintro e w28 ⟨rfl, hb⟩
      refine ⟨_, rfl, ?_⟩
      have n0_ := Az.mk (Kd.S_below (by (with_reducible repeat (first | apply Kd.S_alloc | apply Kd.S_drewN | apply Kd.S_drew)); exact HO_260000.out) hb)
      have n1_ := Az.mk (Kd.S_below (by (with_reducible repeat (first | apply Kd.S_alloc | apply Kd.S_drewN | apply Kd.S_drew)); exact HO263.out) hb)
      have n2_ := Az.mk (blk_below (g := gb259) (o := .cells #[.slice Ao7 t256.length co7] 25 (0, 0)) (by (with_reducible repeat (first | refine blk_drewN ?_ _ | refine blk_drew ?_ | refine blk_alloc ?_ _)); exact BK259.out) hb)
      have n3_ := Az.mk (below_step (by repeat (first | (with_reducible first | exact HB.out | apply bal | apply bdN | apply bdr | refine bS ?_ GE259.out) | exact HB.out)) hb)
      clear HO_260000
      clear HO263
      clear BK259
      clear HB
      have HO_260000 := n0_
      have HO263 := n1_
      have BK259 := n2_
      have HB := n3_
      clear n0_ n1_ n2_ n3_
      (try clear hb)
      (try clear hb2)
      (try clear hk)
      (try clear hi)
      refine hK.out _ _ ((bC BK259.out 0).trans rfl) (fun hHeld => ?_)
      clear hK K
      refine norm_ (a' := ?_) ?_ ?_
      rotate_left
      ·show Act.put _ (some 19) _ = _
       simp only [Act.put, List.setIfInBounds_toArray, List.set_cons_zero, List.set_cons_succ, i64_w, i32_w]
       rfl
      refine pure_ (i := 3) (N := some 20) (v := ?_) (a' := ?_) #[true, true, true, true] rfl rfl (by kernel_rfl) (fun _ _ _ h => h) (Or.inl ⟨by rfl, ?_⟩) ?_ ?_
      rotate_left
      ·intro w'
       go_simp
       with_reducible rfl
      rotate_left
      ·simp only [Act.put, List.setIfInBounds_toArray, List.set_cons_zero, List.set_cons_succ, i64_w, i32_w]
       rfl
      refine done_ (by kernel_rfl) ?_
      have hcz29_0 : w28.cell? ⟨gb259, 0, none⟩ = some (.slice Ao7 t256.length co7) := (bC BK259.out 0).trans rfl
      have hfz29_0 := bF BK259.out 0
      try go_wp2_with (first | ((with_reducible refine gate_callee (f := 12) rfl ?_); refine goesL_ (some 22) rfl rfl Try.func12 (by kernel_rfl) rfl #[.agg #[.slice Ao7 t256.length co7]] rfl (by (try simp only [List.map_toArray, List.map_cons, List.map_nil]); first | done | rfl | (simp only [List.length_drop, List.length_take]; rfl)) ?_; (with_reducible refine (impl_HeapOk.calls kj3 _ _ t256 false _ ?side1 ?side2 A14.out).mono ?_); (case side1 => repeat (first | exact (Kd.S_reads' HO_260000.out).2.2 | (with_reducible refine Kd.C_alloc ?_ _) | (with_reducible refine Kd.C_drewN ?_ _) | (with_reducible refine Kd.C_drew ?_))); (case side2 => exact (Kd.S_reads' HO_260000.out).2.1); rintro e w30 ⟨rfl, hb⟩; refine ⟨_, rfl, ?_⟩; have n0_ := Az.mk (Kd.S_below (by (with_reducible repeat (first | apply Kd.S_alloc | apply Kd.S_drewN | apply Kd.S_drew)); exact HO_260000.out) hb); have n1_ := Az.mk (Kd.S_below (by (with_reducible repeat (first | apply Kd.S_alloc | apply Kd.S_drewN | apply Kd.S_drew)); exact HO263.out) hb); have n2_ := Az.mk (blk_below (g := gb259) (o := .cells #[.slice Ao7 t256.length co7] 25 (0, 0)) (by (with_reducible repeat (first | refine blk_drewN ?_ _ | refine blk_drew ?_ | refine blk_alloc ?_ _)); exact BK259.out) hb); have n3_ := Az.mk (below_step (by repeat (first | (with_reducible first | exact HB.out | apply bal | apply bdN | apply bdr | refine bS ?_ GE259.out) | exact HB.out)) hb); clear HO_260000; clear HO263; clear BK259; clear HB; have HO_260000 := n0_; have HO263 := n1_; have BK259 := n2_; have HB := n3_; clear n0_ n1_ n2_ n3_; (try clear hb); (try clear hb2); (try clear hk); (try clear hi)))
      go_ret
      exact ⟨by first | rfl | (simp [errW_none, errW_some] <;> rfl) | (rw [← isEmpty_bne]; done) | (rw [← isEmpty_bne]; rfl) | (simp [*, errW_none, errW_some] <;> rfl), by repeat (first | (with_reducible first | exact HB.out | apply bal | apply bdN | apply bdr | refine bS ?_ GE259.out) | exact HB.out)⟩
    ·replace c13 := Bool.eq_false_iff.mpr c13
     subst c13
     have H1 : (some false) = some r := by rw [if_neg (show ¬ (false = true) by decide)] at H; exact H
     clear H
     have H := H1
     clear H1
     obtain rfl := Option.some.inj H
     try go_wp2
     have n0_ := Az.mk (Kd.S_drew HO_260000.out)
     have n1_ := Az.mk (blk_drew BK259.out)
     have n2_ := Az.mk (bdr HB.out)
     clear HO_260000
     clear BK259
     clear HB
     have HO_260000 := n0_
     have BK259 := n1_
     have HB := n2_
     clear n0_ n1_ n2_
     refine start_ (n := 4) (S := fun w' => w'.cell? ⟨gb259, 0, none⟩ = some (.slice Ao7 t256.length co7)) (ds := []) #[false, false, false, false] (by kernel_rfl) rfl rfl ((bC BK259.out 0).trans rfl) (fun hHeld => ?_)
     generalize wc.drew = w31 at HO_260000 BK259 HB hHeld ⊢
     refine take_ (i := 0) (N := some 17) (v := ?_) (a' := ?_) #[true, false, false, false] rfl rfl (by kernel_rfl) (fun _ _ _ h => h) (Or.inl ⟨by rfl, ?_⟩) hHeld ?_ ?_
     rotate_left
     ·intro w' s0
      go_simp
      with_reducible rfl
     rotate_left
     ·simp only [Act.put, List.setIfInBounds_toArray, List.set_cons_zero, List.set_cons_succ, i64_w, i32_w]
      rfl
     refine one_ (i := 1) (N := some 18) #[true, true, false, false] rfl rfl (by kernel_rfl) (by decide) (fun K hK => ?_)
     refine goes_ Try.func11 (by kernel_rfl) rfl #[] (by rfl) rfl rfl (by (try simp only [List.map_toArray, List.map_cons, List.map_nil]); first | done | rfl | (simp only [List.length_drop, List.length_take]; rfl)) ?_
     with_reducible refine (spec_HeapNew.calls kj3  t261 _ A11.out).mono ?_
     rintro e w32 ⟨v262, rfl, ho0, hb⟩
     refine ⟨_, rfl, ?_⟩
     have n0_ := Az.mk (Kd.S_elder' (by (with_reducible repeat (first | apply Kd.S_alloc | apply Kd.S_drewN | apply Kd.S_drew)); exact HO_260000.out) (Kd.S_base ho0) hb)
     have n1_ := Az.mk (Kd.S_lower (Kd.S_new' ho0 (Kd.S_lt (by (with_reducible repeat (first | apply Kd.S_alloc | apply Kd.S_drewN | apply Kd.S_drew)); exact HO_260000.out))) (below_size (by repeat (first | (with_reducible first | exact HB.out | apply bal | apply bdN | apply bdr | refine bS ?_ GE259.out) | exact HB.out))))
     have n2_ := Az.mk (blk_below (g := gb259) (o := .cells #[.slice Ao7 t256.length co7] 25 (0, 0)) (by (with_reducible repeat (first | refine blk_drewN ?_ _ | refine blk_drew ?_ | refine blk_alloc ?_ _)); exact BK259.out) hb)
     have n3_ := Az.mk (below_step (by repeat (first | (with_reducible first | exact HB.out | apply bal | apply bdN | apply bdr | refine bS ?_ GE259.out) | exact HB.out)) hb)
     clear HO_260000
     clear BK259
     clear HB
     have HO_260000 := n0_
     have HO263 := n1_
     have BK259 := n2_
     have HB := n3_
     clear n0_ n1_ n2_ n3_
     (try clear hb)
     (try clear hb2)
     (try clear hk)
     (try clear hi)
     (try clear ho0)
     obtain ⟨Ao33, co33, eo33⟩ := Kd.S_slice HO263.out
     (first | subst eo33 | (injection eo33 with f1_ f2_ f3_; have f4_ := f1_.symm; have f5_ := f3_.symm; clear f1_ f2_ f3_; subst f4_; subst f5_))
     refine hK.out _ _ ((bC BK259.out 0).trans rfl) (fun hHeld => ?_)
     clear hK K
     refine norm_ (a' := ?_) ?_ ?_
     rotate_left
     ·show Act.put _ (some 18) _ = _
      simp only [Act.put, List.setIfInBounds_toArray, List.set_cons_zero, List.set_cons_succ, i64_w, i32_w]
      rfl
     refine one_ (i := 2) (N := some 19) #[true, true, true, false] rfl rfl (by kernel_rfl) (by decide) (fun K hK => ?_)
     refine goes_ Try.func10 (by kernel_rfl) rfl #[.agg #[.slice Ao7 t256.length co7], .agg #[.slice Ao33 t261.length co33]] (by rfl) rfl rfl (by (try simp only [List.map_toArray, List.map_cons, List.map_nil]); first | done | rfl | (simp only [List.length_drop, List.length_take]; rfl)) ?_
     with_reducible refine (spec_SameHeap.calls kj3 _ _ t256 _ _ t261 false _ ?side1 ?side2 ?side3 ?side4 A12.out).mono ?_
     (case side1 => repeat (first | exact (Kd.S_reads' HO_260000.out).2.2 | (with_reducible refine Kd.C_alloc ?_ _) | (with_reducible refine Kd.C_drewN ?_ _) | (with_reducible refine Kd.C_drew ?_)))
     (case side2 => exact (Kd.S_reads' HO_260000.out).2.1)
     (case side3 => repeat (first | exact (Kd.S_reads' HO263.out).2.2 | (with_reducible refine Kd.C_alloc ?_ _) | (with_reducible refine Kd.C_drewN ?_ _) | (with_reducible refine Kd.C_drew ?_)))
     (case side4 => exact (Kd.S_reads' HO263.out).2.1)
     rintro e w34 ⟨rfl, hb⟩
     refine ⟨_, rfl, ?_⟩
     have n0_ := Az.mk (Kd.S_below (by (with_reducible repeat (first | apply Kd.S_alloc | apply Kd.S_drewN | apply Kd.S_drew)); exact HO_260000.out) hb)
     have n1_ := Az.mk (Kd.S_below (by (with_reducible repeat (first | apply Kd.S_alloc | apply Kd.S_drewN | apply Kd.S_drew)); exact HO263.out) hb)
     have n2_ := Az.mk (blk_below (g := gb259) (o := .cells #[.slice Ao7 t256.length co7] 25 (0, 0)) (by (with_reducible repeat (first | refine blk_drewN ?_ _ | refine blk_drew ?_ | refine blk_alloc ?_ _)); exact BK259.out) hb)
     have n3_ := Az.mk (below_step (by repeat (first | (with_reducible first | exact HB.out | apply bal | apply bdN | apply bdr | refine bS ?_ GE259.out) | exact HB.out)) hb)
     clear HO_260000
     clear HO263
     clear BK259
     clear HB
     have HO_260000 := n0_
     have HO263 := n1_
     have BK259 := n2_
     have HB := n3_
     clear n0_ n1_ n2_ n3_
     (try clear hb)
     (try clear hb2)
     (try clear hk)
     (try clear hi)
     refine hK.out _ _ ((bC BK259.out 0).trans rfl) (fun hHeld => ?_)
     clear hK K
     refine norm_ (a' := ?_) ?_ ?_
     rotate_left
     ·show Act.put _ (some 19) _ = _
      simp only [Act.put, List.setIfInBounds_toArray, List.set_cons_zero, List.set_cons_succ, i64_w, i32_w]
      rfl
     refine pure_ (i := 3) (N := some 20) (v := ?_) (a' := ?_) #[true, true, true, true] rfl rfl (by kernel_rfl) (fun _ _ _ h => h) (Or.inl ⟨by rfl, ?_⟩) ?_ ?_
     rotate_left
     ·intro w'
      go_simp
      with_reducible rfl
     rotate_left
     ·simp only [Act.put, List.setIfInBounds_toArray, List.set_cons_zero, List.set_cons_succ, i64_w, i32_w]
      rfl
     refine done_ (by kernel_rfl) ?_
     try go_wp2
     go_ret
     exact ⟨by first | rfl | (simp [errW_none, errW_some] <;> rfl) | (rw [← isEmpty_bne]; done) | (rw [← isEmpty_bne]; rfl) | (simp [*, errW_none, errW_some] <;> rfl), by repeat (first | (with_reducible first | exact HB.out | apply bal | apply bdN | apply bdr | refine bS ?_ GE259.out) | exact HB.out)⟩
def laws_FnHeapNewShows.Pure : Prop := ∀ (l0 : List Int), l0.length ≤ maxLen → l0.length * 1 ≤ 140737488351232 → (∀ x ∈ l0, (Lit.int .u8 x).wf = true) → ∃ k, laws_FnHeapNewShows.f k l0 = some true
theorem laws_FnHeapNewShows.walk (P : laws_FnHeapNewShows.Pure) (a0 : Option Addr) (len0 cap0 : Nat) (z0 : List Int) (w : World) (w0 : (a0 = none ∧ len0 = 0 ∧ cap0 = 0 ∧ z0 = []) ∨ ∃ x, a0 = some x ∧ len0 ≤ cap0 ∧ cap0 ≤ maxLen ∧ z0.length = cap0 ∧ (∀ i, i < z0.length → w.cell? (x.add i) = some (.int .u8 (z0.getD i 0))) ∧ ∀ n ∈ z0, (Lit.int .u8 n).wf = true) (y0 : len0 * 1 ≤ 140737488351232) :
  Calls Try.prog 3 #[.slice a0 len0 cap0] w fun e w' => e = .returned (.bool true) ∧ Below w.heap.size w w' := by
 obtain ⟨l0, rfl, hr0, hm0, hw0, hc0⟩ := ReadsInt.ofRowC w0
 obtain ⟨k, h⟩ := P l0 hm0 y0 hw0
 refine (laws_FnHeapNewShows.calls k _ _ l0 true w (Kd.C_of_reads (d := (0 : Int)) (h1 := fun _ => rfl) hr0) hc0 h).mono ?_
 rintro e w' ⟨rfl, hd⟩
 exact ⟨rfl, hd⟩
end Go.Proofs.Ytehhhlhedmfdiaa.PFnHeapNewShows
end
section
namespace Go.Proofs.Ytehhhlhedmfdiaa.Pure
open Go.RowKit Go.Proofs.Ytehhhlhedmfdiaa.PFnHeapNewShows Go.Proofs.Yz0.PrintWords Go.Proofs.Yz0.PrintLast
set_option maxRecDepth 100000
def HH : List S79 := (impl_HeapNew.f 100).getD []
theorem heapNew : impl_HeapNew.f 100 = some HH := by kernel_rfl
theorem all19 : ((List.range 19).all fun n => laws_FnHeapNewShows.j0 100 (n : Int) HH == some true) = true := by kernel_rfl
theorem at19 (n : Nat) (h : n < 19) : laws_FnHeapNewShows.j0 100 (n : Int) HH = some true := by
 have := List.all_eq_true.1 all19 n (List.mem_range.2 h)
 simpa using this
theorem byte_at (l0 : List Int) (h : ∀ x ∈ l0, (Lit.int .u8 x).wf = true) (h0 : 0 < l0.length) : ∃ n : Nat, n < 19 ∧ Int.tmod (wrap64 (rd l0 0)) 19 = (n : Int) := by
 have hm : rd l0 0 ∈ l0 := by
  cases l0 with
  | nil => simp at h0
  | cons a b => simp [rd]
 have hw := bounds_u8 (h _ hm)
 generalize rd l0 0 = x at hw
 have e : wrap64 x = x := by unfold wrap64; omega
 rw [e]
 refine ⟨(x.toNat % 19), Nat.mod_lt _ (by decide), ?_⟩
 rw [Int.tmod_eq_emod_of_nonneg (by omega)]
 omega
theorem FnHeapNewShows : laws_FnHeapNewShows.Pure := by
 intro l0 _ _ hw
 refine ⟨100, ?_⟩
 unfold laws_FnHeapNewShows.f
 rw [heapNew]
 by_cases hb : (l0.length : Int) > 1048576
 ·rw [if_pos hb]
 ·rw [if_neg hb]
  simp only [Option.bind_some]
  by_cases h0 : (l0.length : Int) > 0
  ·rw [if_pos h0, if_pos h0]
   obtain ⟨n, hn, e⟩ := byte_at l0 hw (by omega)
   rw [e]
   exact at19 n hn
  ·rw [if_neg h0]
   exact at19 0 (by decide)
end Go.Proofs.Ytehhhlhedmfdiaa.Pure
end
section
namespace Go.Proofs.Yz0.PrintWords
open Go.ChangeShapes Go.WideShapes
theorem sized_ints {H : Type} {enc : TypeId × Value → H} {P : Program} {W : World} {base : Nat} {spare : Nat → Bool} {held : Bool} {t e : TypeId} {k : IntKind} {a : Option Addr} {len cap : Nat} {d : DataW H} {ps : List MemPlace} {ts : List TypeId} {ds : List (DataW H)} {j : Nat}
  (hsz : (DataW.weightsEach P ts ds).all (· ≤ reachBytes) = true) (ht : ts[j]? = some t) (hd : ds[j]? = some d) (hu : P.underlying t = some (.slice e)) (he : P.underlying e = some (.int k)) (hc : P.cellsOf e = 1) {B : Nat} (hB : P.bytesOf e = B)
  (h : DataW.Trod enc P W base spare held t (.slice a len cap) d ps) : len * B ≤ 140737488351232 := by
 obtain ⟨fuel, hf⟩ := h
 rcases open_ints hu he hc hf with ⟨hcs, _⟩ | ⟨x, l, c, zs, hcs, _, hl, _, hz, hx, _, _⟩
 ·simp [Value.cells] at hcs
  obtain ⟨rfl, rfl, rfl⟩ := hcs
  simp
 ·simp [Value.cells] at hcs
  obtain ⟨rfl, rfl, rfl⟩ := hcs
  obtain ⟨hx, _⟩ := Prod.mk.inj hx
  subst hx
  have z := sized_slice hsz ht hd hu
  rw [hB] at z
  have hl2 : len ≤ zs.length := by
   rw [hz]
   split
   ·exact hl
   ·exact Nat.le_refl _
  have h1 : (lits (H := H) k (zs.take len)).length + (lits (H := H) k (zs.drop len)).length = zs.length := by
   simp [lits]
   omega
  rw [h1] at z
  exact Nat.le_trans (Nat.mul_le_mul_right _ hl2) z
end Go.Proofs.Yz0.PrintWords
end
section
namespace Go.Proofs.Ytehhhlhedmfdiaa.fnHeapNewShows
open Go.ChangeShapes Go.WideShapes Go.ChangeAt Go.RowKit
open Go.ChangeMaps (open_string shut_string)
set_option linter.unusedVariables false
theorem own : ownKnob Try.prog.godebug = none := by kernel_rfl
theorem laidOut : laidOutB Try.prog = true := by kernel_rfl
def IsRow (k : IntKind) (w : World) (a : Option Addr) (len cap : Nat) (zs : List Int) : Prop :=
 (a = none ∧ len = 0 ∧ cap = 0 ∧ zs = []) ∨
 ∃ x, a = some x ∧ len ≤ cap ∧ cap ≤ maxLen ∧ zs.length = cap ∧ (∀ i, i < zs.length → w.cell? (x.add i) = some (.int k (zs.getD i 0))) ∧ ∀ n ∈ zs, (Lit.int k n).wf = true
theorem lifted (os : Os) (started : os.Started) (H : Type) (enc : TypeId × Value → H) :
  ReturnsInHanded {} Try.checked os 3 .any (Rows.fnHeapNewShowsSpec.pre6 enc Try.prog Try.f3 Rows.fnHeapNewShowsRow.domain false) (Rows.fnHeapNewShowsSpec.post enc Try.prog Try.f3 false true false false) := by
 refine returnsInHanded_of_change_sized (C := Try.checked) own started (by kernel_rfl) Try.func3
  (ChangeSpec.witness6 (enc := enc) (C := Try.checked) false ⟨#[], #[.slice none 0 0], []⟩ 8 (by kernel_rfl) (by kernel_rfl) (by kernel_rfl) (by kernel_rfl)) ?_
 intro W base args ds gs before hval0 hW hcnd hsz0 _
 have hsz : (DataW.weightsEach Try.prog (Try.f3.params.toList ++ Rows.fnHeapNewShowsSpec.plain.varTypes Try.prog) (ds ++ gs)).all (· ≤ reachBytes) = true := hsz0
 have hval : ∀ (j : Nat) t v, Try.f3.params[j]? = some t → args[j]? = some v → Value.okWide Try.prog W .any base t v := hval0
 have hW' := hW
 obtain ⟨p, q, hA0, hV, rfl, hfz, hnd⟩ := hW
 have hA : DataW.TrodAll enc Try.prog W 0 (fun _ => true) true Try.f3.params.toList args.toList ds p := hA0
 rw [Try.params3] at hA hval hsz
 obtain ⟨v0, vs0, d0, ds0, p0, q0, hargs, rfl, rfl, h0, r0⟩ := trodAll_cons hA
 obtain ⟨rfl, rfl, rfl⟩ := trodAll_nil r0
 obtain rfl : args = #[v0] := by cases args; simp_all
 obtain ⟨rfl, rfl⟩ := trodVars_none hV
 obtain ⟨a0, len0, cap0, rfl⟩ := okWide_slice Try.underlying22 (hval 0 22 v0 rfl rfl)
 have k0 := h0
 have lt0 : ∀ x ∈ p0, x.block < W.heap.size := by obtain ⟨m, hm⟩ := k0; exact DataW.trod_lt m _ _ _ hm
 obtain ⟨z0, w0⟩ : ∃ zs, IsRow .u8 W a0 len0 cap0 zs := by
  obtain ⟨fuel, hf⟩ := h0
  rcases open_ints Try.underlying22 Try.underlying5 (by kernel_rfl) hf with ⟨hcs, _⟩ | ⟨x, l, c, zs, hcs, _, hl, hm, hz, _, hcell, hwz⟩
  ·simp [Value.cells] at hcs
   obtain ⟨rfl, rfl, rfl⟩ := hcs
   exact ⟨[], .inl ⟨rfl, rfl, rfl, rfl⟩⟩
  ·simp [Value.cells] at hcs
   obtain ⟨rfl, rfl, rfl⟩ := hcs
   exact ⟨zs, .inr ⟨_, rfl, hl, hm, by simpa using hz, hcell, hwz⟩⟩
 have y0 : len0 * 1 ≤ 140737488351232 := Go.Proofs.Yz0.PrintWords.sized_ints hsz (j := 0) (t := 22) rfl rfl Try.underlying22 Try.underlying5 (by kernel_rfl) (by kernel_rfl) h0
 clear hA0 hval0 hsz0 hsz
 refine (PFnHeapNewShows.laws_FnHeapNewShows.walk Pure.FnHeapNewShows a0 len0 cap0 z0 W w0 y0).mono fun e W' ⟨he, bel⟩ => ?_
 subst he
 exact ⟨_, rfl, _, _, _, [], _, [], hW', trodAll_mk1 (shut_bool Try.underlying4 _), (trodAll_cons_mk (Below.trod laidOut (by kernel_rfl) (of_decide_eq_true (by kernel_rfl)) k0 bel lt0) trodAll_mk0), rfl, bel.frame _, fun h => by cases h⟩
theorem over : Rows.fnHeapNewShowsRow.holds Try.pinned (OpenSpec.ofChange Rows.fnHeapNewShowsSpec) :=
 OpenClaim.holds_of_wide 3 Try.f3 rfl rfl rfl rfl rfl rfl rfl ⟨rfl, rfl, rfl, rfl, rfl⟩ rfl rfl rfl rfl rfl (by kernel_rfl) Try.func3 (by kernel_rfl)
  (of_decide_eq_true (by kernel_rfl)) (by unfold Func.isWrapper; first | (rw [if_pos (by decide +kernel)]; kernel_rfl) | (rw [if_neg (by decide +kernel)]; exact ⟨rfl, rfl⟩))
  (fun os started H enc _ => lifted os started H enc)
theorem proved : Rows.FnHeapNewShowsSaid := over
end Go.Proofs.Ytehhhlhedmfdiaa.fnHeapNewShows
namespace Go.Proofs.Ytehhhlhedmfdiaa
theorem fnHeapNewShows_holds : Rows.FnHeapNewShowsSaid := fnHeapNewShows.proved
end Go.Proofs.Ytehhhlhedmfdiaa
end
#print axioms Go.Proofs.Ytehhhlhedmfdiaa.fnHeapNewShows_holds
