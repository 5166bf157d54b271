/- FnImportOrder holds of every input: without circles and failures each module that a whole module imports stands ahead of it; no condition. Part 5 of 7: what the proof needs. -/
import Derived.Test.YtehhhlhedmfdiaaZzImportOrder4
set_option maxHeartbeats 8000000
set_option maxRecDepth 100000
section
namespace Go.Proofs.Ytehhhlhedmfdiaa.PFnImportOrder
open Go.RowKit Go.Proofs.Yz0.PrintWords Go.Proofs.Yz0.PrintLast Go.Proofs.Yz0.PrintMore
attribute [local go_sem] max2_int min2_int max_two min_two max_three min_three max_four min_four
set_option linter.unusedVariables false
set_option linter.unusedSimpArgs false
def spec_isOne.l0 : Nat → List ByteArray → ByteArray → Int → Option (Bool)
 | 0, _, _, _ => none
 | k + 1, x0, x1, x5 => if x5 < (x0.length : Int) then (if 0 ≤ x5 then (if (rdOf ByteArray.empty x0 x5).toList = x1.toList then (some true) else (spec_isOne.l0 k x0 x1 (wrap64 (x5 + 1)))) else (none)) else (some false)
def spec_isOne.f (k : Nat) (l0 : List ByteArray) (a1 : ByteArray) : Option (Bool) := spec_isOne.l0 k l0 a1 0
theorem spec_isOne.calls (k : Nat) (A0 : Option Addr) (c0 : Nat) (l0 : List ByteArray) (a1 : ByteArray) (r : Bool) (w : World) (hr0 : Kd.C Kd.string w A0 l0.length l0) (hc0 : l0.length ≤ c0) (h : spec_isOne.f k l0 a1 = some r) :
  Calls Try.prog 139 #[.slice A0 l0.length c0, .string a1] w fun e w' => e = .returned (.bool r) ∧ Drawn0 w w' := by
 have HR0 := Az.mk hr0
 have HC0 := Az.mk hc0
 clear hr0 hc0
 have H : (spec_isOne.l0 k l0 a1 0) = some r := h
 clear h
 have H' := Az.mk H
 clear H
 go_enter Try.func139, Try.ntmps139
 go_wp2
 go_loopg [5] k (fun kq v5 w' => ∃ (x5_1 : Int), v5 = .int .i64 x5_1 ∧ Az (spec_isOne.l0 kq l0 a1 x5_1 = some r) ∧ Az (kq ≤ k) ∧ Drawn0 w w')
 case atStart => exact ⟨(0), (by first | rfl | (simp; done) | (simp [*]; done)), H', ⟨Nat.le_refl _⟩, by repeat (first | exact Drawn0.refl _ | apply Drawn0.step)⟩
 case round =>
  clear H'
  try clear c1
  try clear p2
  obtain ⟨x5_1, rfl, HA, HK1, ⟨m1, rfl⟩⟩ := hrel
  cases gk with
  | zero => exact absurd HA.out (by simp [spec_isOne.l0])
  | succ k1 =>
   have H := HA.out
   clear HA
   simp only [spec_isOne.l0] at H
   by_cases c3 : x5_1 < (l0.length : Int)
   ·rw [if_pos c3] at H
    have c3b0 : decide (x5_1 < (l0.length : Int)) = true := decide_eq_true c3
    clear c3
    by_cases c4 : 0 ≤ x5_1
    ·rw [if_pos c4] at H
     have c4b0 : decide (0 ≤ x5_1) = true := decide_eq_true c4
     clear c4
     by_cases c5 : (rdOf ByteArray.empty l0 x5_1).toList = a1.toList
     ·rw [if_pos c5] at H
      have c5b0 : ((rdOf ByteArray.empty l0 x5_1).toList == a1.toList) = true := beq_iff_eq.mpr c5
      have c5b1 : ((rdOf ByteArray.empty l0 x5_1).toList != a1.toList) = false := bne_eq_false_iff_eq.mpr c5
      clear c5
      obtain rfl := Option.some.inj H
      have p223 : 0 ≤ (x5_1 : Int) := of_decide_eq_true (by first | (with_reducible assumption) | assumption)
      have q223 : x5_1 < (l0.length : Int) := of_decide_eq_true (by first | (with_reducible assumption) | assumption)
      obtain ⟨ad223, e223, hx223_0⟩ := Kd.at_string HR0.out x5_1 p223 q223
      cases e223
      replace p223 := eq_true p223
      replace q223 := eq_true q223
      go_wp2
      go_ret
      exact ⟨by first | rfl | (simp; done) | (simp [*]; done), by repeat (first | exact Drawn0.refl _ | apply Drawn0.step)⟩
     ·rw [if_neg c5] at H
      have c5b0 : ((rdOf ByteArray.empty l0 x5_1).toList == a1.toList) = false := beq_eq_false_iff_ne.mpr c5
      have c5b1 : ((rdOf ByteArray.empty l0 x5_1).toList != a1.toList) = true := bne_iff_ne.mpr c5
      have H' := Az.mk H
      clear H
      have p223 : 0 ≤ (x5_1 : Int) := of_decide_eq_true (by first | (with_reducible assumption) | assumption)
      have q223 : x5_1 < (l0.length : Int) := of_decide_eq_true (by first | (with_reducible assumption) | assumption)
      obtain ⟨ad223, e223, hx223_0⟩ := Kd.at_string HR0.out x5_1 p223 q223
      cases e223
      replace p223 := eq_true p223
      replace q223 := eq_true q223
      go_wp2
      go_roundg k1
      case measure => have := HK1.out; omega
      case rel => exact ⟨(wrap64 (x5_1 + 1)), (by first | rfl | (simp; done) | (simp [*]; done)), H', ⟨by have := HK1.out; omega⟩, by repeat (first | exact Drawn0.refl _ | apply Drawn0.step)⟩
    ·rw [if_neg c4] at H
     exact absurd H (by simp)
   ·rw [if_neg c3] at H
    have c3b0 : decide (x5_1 < (l0.length : Int)) = false := decide_eq_false c3
    clear c3
    obtain rfl := Option.some.inj H
    go_wp2
    go_ret
    exact ⟨by first | rfl | (simp; done) | (simp [*]; done), by repeat (first | exact Drawn0.refl _ | apply Drawn0.step)⟩
def spec_keywords.f  : Option (List ByteArray) := some (([(⟨#[78, 111, 110, 101]⟩ : ByteArray), (⟨#[84, 114, 117, 101]⟩ : ByteArray), (⟨#[70, 97, 108, 115, 101]⟩ : ByteArray), (⟨#[97, 110, 100]⟩ : ByteArray), (⟨#[111, 114]⟩ : ByteArray), (⟨#[110, 111, 116]⟩ : ByteArray), (⟨#[105, 110]⟩ : ByteArray), (⟨#[105, 115]⟩ : ByteArray), (⟨#[105, 102]⟩ : ByteArray), (⟨#[101, 108, 105, 102]⟩ : ByteArray), (⟨#[101, 108, 115, 101]⟩ : ByteArray), (⟨#[119, 104, 105, 108, 101]⟩ : ByteArray), (⟨#[102, 111, 114]⟩ : ByteArray), (⟨#[98, 114, 101, 97, 107]⟩ : ByteArray), (⟨#[99, 111, 110, 116, 105, 110, 117, 101]⟩ : ByteArray), (⟨#[112, 97, 115, 115]⟩ : ByteArray), (⟨#[100, 101, 102]⟩ : ByteArray), (⟨#[114, 101, 116, 117, 114, 110]⟩ : ByteArray), (⟨#[108, 97, 109, 98, 100, 97]⟩ : ByteArray), (⟨#[99, 108, 97, 115, 115]⟩ : ByteArray), (⟨#[116, 114, 121]⟩ : ByteArray), (⟨#[101, 120, 99, 101, 112, 116]⟩ : ByteArray), (⟨#[102, 105, 110, 97, 108, 108, 121]⟩ : ByteArray), (⟨#[114, 97, 105, 115, 101]⟩ : ByteArray), (⟨#[97, 115]⟩ : ByteArray), (⟨#[103, 108, 111, 98, 97, 108]⟩ : ByteArray), (⟨#[110, 111, 110, 108, 111, 99, 97, 108]⟩ : ByteArray), (⟨#[121, 105, 101, 108, 100]⟩ : ByteArray), (⟨#[105, 109, 112, 111, 114, 116]⟩ : ByteArray), (⟨#[100, 101, 108]⟩ : ByteArray), (⟨#[97, 115, 115, 101, 114, 116]⟩ : ByteArray)] : List ByteArray))
theorem spec_keywords.calls  (r : List ByteArray) (w : World) (h : spec_keywords.f  = some r) :
  Calls Try.prog 140 #[] w fun e w' => ∃ v0_ : Value, e = .returned (v0_) ∧ Kd.R Kd.string 9 w' w.heap.size (fun _ => True) v0_ r ∧ Below w.heap.size w w' := by
 have HB := Az.mk (Below.refl w.heap.size w)
 have H : (some (([(⟨#[78, 111, 110, 101]⟩ : ByteArray), (⟨#[84, 114, 117, 101]⟩ : ByteArray), (⟨#[70, 97, 108, 115, 101]⟩ : ByteArray), (⟨#[97, 110, 100]⟩ : ByteArray), (⟨#[111, 114]⟩ : ByteArray), (⟨#[110, 111, 116]⟩ : ByteArray), (⟨#[105, 110]⟩ : ByteArray), (⟨#[105, 115]⟩ : ByteArray), (⟨#[105, 102]⟩ : ByteArray), (⟨#[101, 108, 105, 102]⟩ : ByteArray), (⟨#[101, 108, 115, 101]⟩ : ByteArray), (⟨#[119, 104, 105, 108, 101]⟩ : ByteArray), (⟨#[102, 111, 114]⟩ : ByteArray), (⟨#[98, 114, 101, 97, 107]⟩ : ByteArray), (⟨#[99, 111, 110, 116, 105, 110, 117, 101]⟩ : ByteArray), (⟨#[112, 97, 115, 115]⟩ : ByteArray), (⟨#[100, 101, 102]⟩ : ByteArray), (⟨#[114, 101, 116, 117, 114, 110]⟩ : ByteArray), (⟨#[108, 97, 109, 98, 100, 97]⟩ : ByteArray), (⟨#[99, 108, 97, 115, 115]⟩ : ByteArray), (⟨#[116, 114, 121]⟩ : ByteArray), (⟨#[101, 120, 99, 101, 112, 116]⟩ : ByteArray), (⟨#[102, 105, 110, 97, 108, 108, 121]⟩ : ByteArray), (⟨#[114, 97, 105, 115, 101]⟩ : ByteArray), (⟨#[97, 115]⟩ : ByteArray), (⟨#[103, 108, 111, 98, 97, 108]⟩ : ByteArray), (⟨#[110, 111, 110, 108, 111, 99, 97, 108]⟩ : ByteArray), (⟨#[121, 105, 101, 108, 100]⟩ : ByteArray), (⟨#[105, 109, 112, 111, 114, 116]⟩ : ByteArray), (⟨#[100, 101, 108]⟩ : ByteArray), (⟨#[97, 115, 115, 101, 114, 116]⟩ : ByteArray)] : List ByteArray))) = some r := h
 clear h
 obtain ⟨y224, hy224⟩ : ∃ y_ : List ByteArray, y_ = (([(⟨#[78, 111, 110, 101]⟩ : ByteArray), (⟨#[84, 114, 117, 101]⟩ : ByteArray), (⟨#[70, 97, 108, 115, 101]⟩ : ByteArray), (⟨#[97, 110, 100]⟩ : ByteArray), (⟨#[111, 114]⟩ : ByteArray), (⟨#[110, 111, 116]⟩ : ByteArray), (⟨#[105, 110]⟩ : ByteArray), (⟨#[105, 115]⟩ : ByteArray), (⟨#[105, 102]⟩ : ByteArray), (⟨#[101, 108, 105, 102]⟩ : ByteArray), (⟨#[101, 108, 115, 101]⟩ : ByteArray), (⟨#[119, 104, 105, 108, 101]⟩ : ByteArray), (⟨#[102, 111, 114]⟩ : ByteArray), (⟨#[98, 114, 101, 97, 107]⟩ : ByteArray), (⟨#[99, 111, 110, 116, 105, 110, 117, 101]⟩ : ByteArray), (⟨#[112, 97, 115, 115]⟩ : ByteArray), (⟨#[100, 101, 102]⟩ : ByteArray), (⟨#[114, 101, 116, 117, 114, 110]⟩ : ByteArray), (⟨#[108, 97, 109, 98, 100, 97]⟩ : ByteArray), (⟨#[99, 108, 97, 115, 115]⟩ : ByteArray), (⟨#[116, 114, 121]⟩ : ByteArray), (⟨#[101, 120, 99, 101, 112, 116]⟩ : ByteArray), (⟨#[102, 105, 110, 97, 108, 108, 121]⟩ : ByteArray), (⟨#[114, 97, 105, 115, 101]⟩ : ByteArray), (⟨#[97, 115]⟩ : ByteArray), (⟨#[103, 108, 111, 98, 97, 108]⟩ : ByteArray), (⟨#[110, 111, 110, 108, 111, 99, 97, 108]⟩ : ByteArray), (⟨#[121, 105, 101, 108, 100]⟩ : ByteArray), (⟨#[105, 109, 112, 111, 114, 116]⟩ : ByteArray), (⟨#[100, 101, 108]⟩ : ByteArray), (⟨#[97, 115, 115, 101, 114, 116]⟩ : ByteArray)] : List ByteArray)) := ⟨_, rfl⟩
 replace H : (some y224) = some r := by first | (rw [hy224]; with_reducible exact H) | (have H2_ := (Option.bind_some _ _).symm.trans H; rw [hy224]; with_reducible exact H2_) | (have H2_ := (Option.bind_some _ _).symm.trans H; with_reducible exact H2_) | with_reducible exact H | (rw [hy224]; exact H) | exact H
 have Ny224 := Az.mk hy224
 clear hy224
 obtain rfl := Option.some.inj H
 go_enter Try.func140, Try.ntmps140
 go_wp2_with (first | ((with_reducible refine gate_dst (N := 1) rfl ?_); refine Kd.R_lit Kd.string _ 9 ?hg (N := 1) ?hd (xs := ([(⟨#[78, 111, 110, 101]⟩ : ByteArray), (⟨#[84, 114, 117, 101]⟩ : ByteArray), (⟨#[70, 97, 108, 115, 101]⟩ : ByteArray), (⟨#[97, 110, 100]⟩ : ByteArray), (⟨#[111, 114]⟩ : ByteArray), (⟨#[110, 111, 116]⟩ : ByteArray), (⟨#[105, 110]⟩ : ByteArray), (⟨#[105, 115]⟩ : ByteArray), (⟨#[105, 102]⟩ : ByteArray), (⟨#[101, 108, 105, 102]⟩ : ByteArray), (⟨#[101, 108, 115, 101]⟩ : ByteArray), (⟨#[119, 104, 105, 108, 101]⟩ : ByteArray), (⟨#[102, 111, 114]⟩ : ByteArray), (⟨#[98, 114, 101, 97, 107]⟩ : ByteArray), (⟨#[99, 111, 110, 116, 105, 110, 117, 101]⟩ : ByteArray), (⟨#[112, 97, 115, 115]⟩ : ByteArray), (⟨#[100, 101, 102]⟩ : ByteArray), (⟨#[114, 101, 116, 117, 114, 110]⟩ : ByteArray), (⟨#[108, 97, 109, 98, 100, 97]⟩ : ByteArray), (⟨#[99, 108, 97, 115, 115]⟩ : ByteArray), (⟨#[116, 114, 121]⟩ : ByteArray), (⟨#[101, 120, 99, 101, 112, 116]⟩ : ByteArray), (⟨#[102, 105, 110, 97, 108, 108, 121]⟩ : ByteArray), (⟨#[114, 97, 105, 115, 101]⟩ : ByteArray), (⟨#[97, 115]⟩ : ByteArray), (⟨#[103, 108, 111, 98, 97, 108]⟩ : ByteArray), (⟨#[110, 111, 110, 108, 111, 99, 97, 108]⟩ : ByteArray), (⟨#[121, 105, 101, 108, 100]⟩ : ByteArray), (⟨#[105, 109, 112, 111, 114, 116]⟩ : ByteArray), (⟨#[100, 101, 108]⟩ : ByteArray), (⟨#[97, 115, 115, 101, 114, 116]⟩ : ByteArray)] : List ByteArray)) (inner := [.string (⟨#[78, 111, 110, 101]⟩ : ByteArray), .string (⟨#[84, 114, 117, 101]⟩ : ByteArray), .string (⟨#[70, 97, 108, 115, 101]⟩ : ByteArray), .string (⟨#[97, 110, 100]⟩ : ByteArray), .string (⟨#[111, 114]⟩ : ByteArray), .string (⟨#[110, 111, 116]⟩ : ByteArray), .string (⟨#[105, 110]⟩ : ByteArray), .string (⟨#[105, 115]⟩ : ByteArray), .string (⟨#[105, 102]⟩ : ByteArray), .string (⟨#[101, 108, 105, 102]⟩ : ByteArray), .string (⟨#[101, 108, 115, 101]⟩ : ByteArray), .string (⟨#[119, 104, 105, 108, 101]⟩ : ByteArray), .string (⟨#[102, 111, 114]⟩ : ByteArray), .string (⟨#[98, 114, 101, 97, 107]⟩ : ByteArray), .string (⟨#[99, 111, 110, 116, 105, 110, 117, 101]⟩ : ByteArray), .string (⟨#[112, 97, 115, 115]⟩ : ByteArray), .string (⟨#[100, 101, 102]⟩ : ByteArray), .string (⟨#[114, 101, 116, 117, 114, 110]⟩ : ByteArray), .string (⟨#[108, 97, 109, 98, 100, 97]⟩ : ByteArray), .string (⟨#[99, 108, 97, 115, 115]⟩ : ByteArray), .string (⟨#[116, 114, 121]⟩ : ByteArray), .string (⟨#[101, 120, 99, 101, 112, 116]⟩ : ByteArray), .string (⟨#[102, 105, 110, 97, 108, 108, 121]⟩ : ByteArray), .string (⟨#[114, 97, 105, 115, 101]⟩ : ByteArray), .string (⟨#[97, 115]⟩ : ByteArray), .string (⟨#[103, 108, 111, 98, 97, 108]⟩ : ByteArray), .string (⟨#[110, 111, 110, 108, 111, 99, 97, 108]⟩ : ByteArray), .string (⟨#[121, 105, 101, 108, 100]⟩ : ByteArray), .string (⟨#[105, 109, 112, 111, 114, 116]⟩ : ByteArray), .string (⟨#[100, 101, 108]⟩ : ByteArray), .string (⟨#[97, 115, 115, 101, 114, 116]⟩ : ByteArray)]) (ok := fun _ => True) (okp := fun _ => True) ?hr ?hp (fun _ hk => hk) trivial (Below.refl _ _) (Nat.le_refl _) (by simp) ?_; (case hd => rfl); (case hg => rfl); (case hr => first | (go_simp; done) | (go_simp; rfl)); (case hp => exact (Reps.one (show Kd.M Kd.string _ _ _ (⟨#[78, 111, 110, 101]⟩ : ByteArray) [.string (⟨#[78, 111, 110, 101]⟩ : ByteArray)] from rfl) (Reps.one (show Kd.M Kd.string _ _ _ (⟨#[84, 114, 117, 101]⟩ : ByteArray) [.string (⟨#[84, 114, 117, 101]⟩ : ByteArray)] from rfl) (Reps.one (show Kd.M Kd.string _ _ _ (⟨#[70, 97, 108, 115, 101]⟩ : ByteArray) [.string (⟨#[70, 97, 108, 115, 101]⟩ : ByteArray)] from rfl) (Reps.one (show Kd.M Kd.string _ _ _ (⟨#[97, 110, 100]⟩ : ByteArray) [.string (⟨#[97, 110, 100]⟩ : ByteArray)] from rfl) (Reps.one (show Kd.M Kd.string _ _ _ (⟨#[111, 114]⟩ : ByteArray) [.string (⟨#[111, 114]⟩ : ByteArray)] from rfl) (Reps.one (show Kd.M Kd.string _ _ _ (⟨#[110, 111, 116]⟩ : ByteArray) [.string (⟨#[110, 111, 116]⟩ : ByteArray)] from rfl) (Reps.one (show Kd.M Kd.string _ _ _ (⟨#[105, 110]⟩ : ByteArray) [.string (⟨#[105, 110]⟩ : ByteArray)] from rfl) (Reps.one (show Kd.M Kd.string _ _ _ (⟨#[105, 115]⟩ : ByteArray) [.string (⟨#[105, 115]⟩ : ByteArray)] from rfl) (Reps.one (show Kd.M Kd.string _ _ _ (⟨#[105, 102]⟩ : ByteArray) [.string (⟨#[105, 102]⟩ : ByteArray)] from rfl) (Reps.one (show Kd.M Kd.string _ _ _ (⟨#[101, 108, 105, 102]⟩ : ByteArray) [.string (⟨#[101, 108, 105, 102]⟩ : ByteArray)] from rfl) (Reps.one (show Kd.M Kd.string _ _ _ (⟨#[101, 108, 115, 101]⟩ : ByteArray) [.string (⟨#[101, 108, 115, 101]⟩ : ByteArray)] from rfl) (Reps.one (show Kd.M Kd.string _ _ _ (⟨#[119, 104, 105, 108, 101]⟩ : ByteArray) [.string (⟨#[119, 104, 105, 108, 101]⟩ : ByteArray)] from rfl) (Reps.one (show Kd.M Kd.string _ _ _ (⟨#[102, 111, 114]⟩ : ByteArray) [.string (⟨#[102, 111, 114]⟩ : ByteArray)] from rfl) (Reps.one (show Kd.M Kd.string _ _ _ (⟨#[98, 114, 101, 97, 107]⟩ : ByteArray) [.string (⟨#[98, 114, 101, 97, 107]⟩ : ByteArray)] from rfl) (Reps.one (show Kd.M Kd.string _ _ _ (⟨#[99, 111, 110, 116, 105, 110, 117, 101]⟩ : ByteArray) [.string (⟨#[99, 111, 110, 116, 105, 110, 117, 101]⟩ : ByteArray)] from rfl) (Reps.one (show Kd.M Kd.string _ _ _ (⟨#[112, 97, 115, 115]⟩ : ByteArray) [.string (⟨#[112, 97, 115, 115]⟩ : ByteArray)] from rfl) (Reps.one (show Kd.M Kd.string _ _ _ (⟨#[100, 101, 102]⟩ : ByteArray) [.string (⟨#[100, 101, 102]⟩ : ByteArray)] from rfl) (Reps.one (show Kd.M Kd.string _ _ _ (⟨#[114, 101, 116, 117, 114, 110]⟩ : ByteArray) [.string (⟨#[114, 101, 116, 117, 114, 110]⟩ : ByteArray)] from rfl) (Reps.one (show Kd.M Kd.string _ _ _ (⟨#[108, 97, 109, 98, 100, 97]⟩ : ByteArray) [.string (⟨#[108, 97, 109, 98, 100, 97]⟩ : ByteArray)] from rfl) (Reps.one (show Kd.M Kd.string _ _ _ (⟨#[99, 108, 97, 115, 115]⟩ : ByteArray) [.string (⟨#[99, 108, 97, 115, 115]⟩ : ByteArray)] from rfl) (Reps.one (show Kd.M Kd.string _ _ _ (⟨#[116, 114, 121]⟩ : ByteArray) [.string (⟨#[116, 114, 121]⟩ : ByteArray)] from rfl) (Reps.one (show Kd.M Kd.string _ _ _ (⟨#[101, 120, 99, 101, 112, 116]⟩ : ByteArray) [.string (⟨#[101, 120, 99, 101, 112, 116]⟩ : ByteArray)] from rfl) (Reps.one (show Kd.M Kd.string _ _ _ (⟨#[102, 105, 110, 97, 108, 108, 121]⟩ : ByteArray) [.string (⟨#[102, 105, 110, 97, 108, 108, 121]⟩ : ByteArray)] from rfl) (Reps.one (show Kd.M Kd.string _ _ _ (⟨#[114, 97, 105, 115, 101]⟩ : ByteArray) [.string (⟨#[114, 97, 105, 115, 101]⟩ : ByteArray)] from rfl) (Reps.one (show Kd.M Kd.string _ _ _ (⟨#[97, 115]⟩ : ByteArray) [.string (⟨#[97, 115]⟩ : ByteArray)] from rfl) (Reps.one (show Kd.M Kd.string _ _ _ (⟨#[103, 108, 111, 98, 97, 108]⟩ : ByteArray) [.string (⟨#[103, 108, 111, 98, 97, 108]⟩ : ByteArray)] from rfl) (Reps.one (show Kd.M Kd.string _ _ _ (⟨#[110, 111, 110, 108, 111, 99, 97, 108]⟩ : ByteArray) [.string (⟨#[110, 111, 110, 108, 111, 99, 97, 108]⟩ : ByteArray)] from rfl) (Reps.one (show Kd.M Kd.string _ _ _ (⟨#[121, 105, 101, 108, 100]⟩ : ByteArray) [.string (⟨#[121, 105, 101, 108, 100]⟩ : ByteArray)] from rfl) (Reps.one (show Kd.M Kd.string _ _ _ (⟨#[105, 109, 112, 111, 114, 116]⟩ : ByteArray) [.string (⟨#[105, 109, 112, 111, 114, 116]⟩ : ByteArray)] from rfl) (Reps.one (show Kd.M Kd.string _ _ _ (⟨#[100, 101, 108]⟩ : ByteArray) [.string (⟨#[100, 101, 108]⟩ : ByteArray)] from rfl) (Reps.one (show Kd.M Kd.string _ _ _ (⟨#[97, 115, 115, 101, 114, 116]⟩ : ByteArray) [.string (⟨#[97, 115, 115, 101, 114, 116]⟩ : ByteArray)] from rfl) (Reps.none _ _))))))))))))))))))))))))))))))))); intro v225 w1 ho2 hb hg_ hnew_; clear hg_ hnew_; (first | rw [← Ny224.out] at ho2 | (simp only [Int.reduceToNat] at ho2; rw [← Ny224.out] at ho2)); have n0_ := Az.mk (Kd.R_lower ho2 (below_size (by repeat (first | (with_reducible first | exact HB.out | apply bal | apply bdN | apply bdr) | exact HB.out)))); have n1_ := Az.mk (below_step (by repeat (first | (with_reducible first | exact HB.out | apply bal | apply bdN | apply bdr) | exact HB.out)) hb); clear HB; have HO226 := n0_; have HB := n1_; clear n0_ n1_; clear hb ho2))
 go_ret
 exact ⟨_, by first | rfl | (simp [errW_none, errW_some] <;> rfl) | (simp [*, errW_none, errW_some] <;> rfl), by (with_reducible repeat (first | apply Kd.R_alloc | apply Kd.R_drewN | apply Kd.R_drew)); exact HO226.out, by repeat (first | (with_reducible first | exact HB.out | apply bal | apply bdN | apply bdr) | exact HB.out)⟩
def spec_isKeyword.f (k : Nat) (a0 : ByteArray) : Option (Bool) := (spec_keywords.f).bind fun t227 => ((spec_isOne.f k t227 a0).bind fun t230 => (some t230))
theorem spec_isKeyword.calls (k : Nat) (a0 : ByteArray) (r : Bool) (w : World) (h : spec_isKeyword.f k a0 = some r) :
  Calls Try.prog 126 #[.string a0] w fun e w' => e = .returned (.bool r) ∧ Below w.heap.size w w' := by
 have HB := Az.mk (Below.refl w.heap.size w)
 have H : ((spec_keywords.f).bind fun t227 => ((spec_isOne.f k t227 a0).bind fun t230 => (some t230))) = some r := h
 clear h
 replace H := Option.bind_eq_some_iff.mp H
 obtain ⟨t227, A20, H⟩ := H
 replace H : ((spec_isOne.f k t227 a0).bind fun t230 => (some t230)) = some r := H
 have A2 := Az.mk A20
 clear A20
 replace H := Option.bind_eq_some_iff.mp H
 obtain ⟨t230, A30, H⟩ := H
 replace H : (some t230) = some r := H
 have A3 := Az.mk A30
 clear A30
 obtain rfl := Option.some.inj H
 go_enter Try.func126, Try.ntmps126
 go_wp2_with (first | ((with_reducible refine gate_callee (f := 140) rfl ?_); refine goesL_ (some 3) rfl rfl Try.func140 (by kernel_rfl) rfl #[] rfl (by (try simp only [List.map_toArray, List.map_cons, List.map_nil]); first | done | rfl | (simp only [List.length_drop, List.length_take]; rfl)) ?_; (with_reducible refine (spec_keywords.calls  t227 _ A2.out).mono ?_); rintro e w4 ⟨v228, rfl, ho0, hb⟩; refine ⟨_, rfl, ?_⟩; have n0_ := Az.mk (Kd.R_lower ho0 (below_size (by repeat (first | (with_reducible first | exact HB.out | apply bal | apply bdN | apply bdr) | exact HB.out)))); have n1_ := Az.mk (below_step (by repeat (first | (with_reducible first | exact HB.out | apply bal | apply bdN | apply bdr) | exact HB.out)) hb); clear HB; have HO229 := n0_; have HB := n1_; clear n0_ n1_; (try clear hb); (try clear hb2); (try clear hk); (try clear hi); (try clear ho0); obtain ⟨Ao5, co5, eo5⟩ := Kd.R_slice HO229.out; subst eo5) | ((with_reducible refine gate_callee (f := 139) rfl ?_); refine goesL_ (some 5) rfl rfl Try.func139 (by kernel_rfl) rfl #[.slice Ao5 t227.length co5, .string a0] rfl (by (try simp only [List.map_toArray, List.map_cons, List.map_nil]); first | done | rfl | (simp only [List.length_drop, List.length_take]; rfl)) ?_; (with_reducible refine (spec_isOne.calls k _ _ t227 a0 t230 _ ?side1 ?side2 A3.out).mono ?_); (case side1 => repeat (first | exact (Kd.R_reads' HO229.out).2.2 | (with_reducible refine Kd.C_alloc ?_ _) | (with_reducible refine Kd.C_drewN ?_ _) | (with_reducible refine Kd.C_drew ?_))); (case side2 => exact (Kd.R_reads' HO229.out).2.1); rintro e w' ⟨rfl, ⟨nd, rfl⟩⟩; refine ⟨_, rfl, ?_⟩))
 go_ret
 exact ⟨by first | rfl | (simp [errW_none, errW_some] <;> rfl) | (simp [*, errW_none, errW_some] <;> rfl), by repeat (first | (with_reducible first | exact HB.out | apply bal | apply bdN | apply bdr) | exact HB.out)⟩
def spec_validName.l0 : Nat → ByteArray → Int → Option (Bool)
 | 0, _, _ => none
 | k + 1, x0, x3 => if x3 < (x0.size : Int) then (if 0 ≤ x3 then ((spec_letter.f (bt x0 x3)).bind fun t233 => (if t233 = true then (spec_validName.l0 k x0 (wrap64 (x3 + 1))) else (if x3 = 0 then (some false) else ((spec_digit.f (bt x0 x3)).bind fun t234 => (if t234 = true then (spec_validName.l0 k x0 (wrap64 (x3 + 1))) else (some false)))))) else (none)) else ((spec_inRange.f (x0.size : Int) 1 12).bind fun t231 => (if t231 = true then ((spec_isKeyword.f k x0).bind fun t232 => (some (!t232))) else (some false)))
def spec_validName.f (k : Nat) (a0 : ByteArray) : Option (Bool) := spec_validName.l0 k a0 0
theorem spec_validName.calls (k : Nat) (a0 : ByteArray) (r : Bool) (w : World) (h : spec_validName.f k a0 = some r) :
  Calls Try.prog 100 #[.string a0] w fun e w' => e = .returned (.bool r) ∧ Below w.heap.size w w' := by
 have HB := Az.mk (Below.refl w.heap.size w)
 have H : (spec_validName.l0 k a0 0) = some r := h
 clear h
 have H' := Az.mk H
 clear H
 go_enter Try.func100, Try.ntmps100
 go_wp2
 go_loopg [3] k (fun kq v3 w' => ∃ (x3_1 : Int), v3 = .int .i64 x3_1 ∧ Az (spec_validName.l0 kq a0 x3_1 = some r) ∧ Az (kq ≤ k) ∧ Az (Below w.heap.size w w'))
 case atStart => exact ⟨(0), (by first | rfl | (simp; done) | (simp [*]; done)), H', ⟨Nat.le_refl _⟩, ⟨by repeat (first | (with_reducible first | exact HB.out | apply bal | apply bdN | apply bdr) | exact HB.out)⟩⟩
 case round =>
  clear H'
  try clear c1
  obtain ⟨x3_1, rfl, HA, HK1, HB⟩ := hrel
  cases gk with
  | zero => exact absurd HA.out (by simp [spec_validName.l0])
  | succ k1 =>
   have H := HA.out
   clear HA
   simp only [spec_validName.l0] at H
   by_cases c2 : x3_1 < (a0.size : Int)
   ·rw [if_pos c2] at H
    have c2b0 : decide (x3_1 < (a0.size : Int)) = true := decide_eq_true c2
    clear c2
    by_cases c3 : 0 ≤ x3_1
    ·rw [if_pos c3] at H
     have c3b0 : decide (0 ≤ x3_1) = true := decide_eq_true c3
     clear c3
     replace H := Option.bind_eq_some_iff.mp H
     obtain ⟨t233, A50, H⟩ := H
     replace H : (if t233 = true then (spec_validName.l0 k1 a0 (wrap64 (x3_1 + 1))) else (if x3_1 = 0 then (some false) else ((spec_digit.f (bt a0 x3_1)).bind fun t234 => (if t234 = true then (spec_validName.l0 k1 a0 (wrap64 (x3_1 + 1))) else (some false))))) = some r := H
     have A5 := Az.mk A50
     clear A50
     by_cases c6 : t233 = true
     ·subst c6
      have H1 : (spec_validName.l0 k1 a0 (wrap64 (x3_1 + 1))) = some r := by rw [if_pos rfl] at H; exact H
      clear H
      have H := H1
      clear H1
      have H' := Az.mk H
      clear H
      have p4 : 0 ≤ (x3_1 : Int) := of_decide_eq_true (by first | (with_reducible assumption) | assumption)
      have q4 : x3_1 < (a0.size : Int) := of_decide_eq_true (by first | (with_reducible assumption) | assumption)
      have hx4 := bt_at a0 x3_1
      replace p4 := eq_true p4
      replace q4 := eq_true q4
      go_wp2_with (first | ((with_reducible refine gate_callee (f := 124) rfl ?_); refine goesL_ (some 13) rfl rfl Try.func124 (by kernel_rfl) rfl #[.int .u8 (bt a0 x3_1)] rfl (by (try simp only [List.map_toArray, List.map_cons, List.map_nil]); first | done | rfl | (simp only [List.length_drop, List.length_take]; rfl)) ?_; (with_reducible refine (spec_letter.calls (bt a0 x3_1) true _ A5.out).mono ?_); rintro e w' ⟨rfl, ⟨nd, rfl⟩⟩; refine ⟨_, rfl, ?_⟩))
      go_roundg k1
      case measure => have := HK1.out; omega
      case rel => exact ⟨(wrap64 (x3_1 + 1)), (by first | rfl | (simp; done) | (simp [*]; done)), H', ⟨by have := HK1.out; omega⟩, ⟨by repeat (first | (with_reducible first | exact HB.out | apply bal | apply bdN | apply bdr) | exact HB.out)⟩⟩
     ·replace c6 := Bool.eq_false_iff.mpr c6
      subst c6
      have H1 : (if x3_1 = 0 then (some false) else ((spec_digit.f (bt a0 x3_1)).bind fun t234 => (if t234 = true then (spec_validName.l0 k1 a0 (wrap64 (x3_1 + 1))) else (some false)))) = some r := by rw [if_neg (show ¬ (false = true) by decide)] at H; exact H
      clear H
      have H := H1
      clear H1
      by_cases c7 : x3_1 = 0
      ·rw [if_pos c7] at H
       have c7b0 : (x3_1 == 0) = true := beq_iff_eq.mpr c7
       have c7b1 : (x3_1 != 0) = false := bne_eq_false_iff_eq.mpr c7
       clear c7
       obtain rfl := Option.some.inj H
       have p4 : 0 ≤ (x3_1 : Int) := of_decide_eq_true (by first | (with_reducible assumption) | assumption)
       have q4 : x3_1 < (a0.size : Int) := of_decide_eq_true (by first | (with_reducible assumption) | assumption)
       have hx4 := bt_at a0 x3_1
       replace p4 := eq_true p4
       replace q4 := eq_true q4
       go_wp2_with (first | ((with_reducible refine gate_callee (f := 124) rfl ?_); refine goesL_ (some 13) rfl rfl Try.func124 (by kernel_rfl) rfl #[.int .u8 (bt a0 x3_1)] rfl (by (try simp only [List.map_toArray, List.map_cons, List.map_nil]); first | done | rfl | (simp only [List.length_drop, List.length_take]; rfl)) ?_; (with_reducible refine (spec_letter.calls (bt a0 x3_1) false _ A5.out).mono ?_); rintro e w' ⟨rfl, ⟨nd, rfl⟩⟩; refine ⟨_, rfl, ?_⟩))
       go_ret
       exact ⟨by first | rfl | (simp [errW_none, errW_some] <;> rfl) | (simp [*, errW_none, errW_some] <;> rfl), by repeat (first | (with_reducible first | exact HB.out | apply bal | apply bdN | apply bdr) | exact HB.out)⟩
      ·rw [if_neg c7] at H
       have c7b0 : (x3_1 == 0) = false := beq_eq_false_iff_ne.mpr c7
       have c7b1 : (x3_1 != 0) = true := bne_iff_ne.mpr c7
       replace H := Option.bind_eq_some_iff.mp H
       obtain ⟨t234, A90, H⟩ := H
       replace H : (if t234 = true then (spec_validName.l0 k1 a0 (wrap64 (x3_1 + 1))) else (some false)) = some r := H
       have A9 := Az.mk A90
       clear A90
       by_cases c10 : t234 = true
       ·subst c10
        have H1 : (spec_validName.l0 k1 a0 (wrap64 (x3_1 + 1))) = some r := by rw [if_pos rfl] at H; exact H
        clear H
        have H := H1
        clear H1
        have H' := Az.mk H
        clear H
        have p4 : 0 ≤ (x3_1 : Int) := of_decide_eq_true (by first | (with_reducible assumption) | assumption)
        have q4 : x3_1 < (a0.size : Int) := of_decide_eq_true (by first | (with_reducible assumption) | assumption)
        have hx4 := bt_at a0 x3_1
        replace p4 := eq_true p4
        replace q4 := eq_true q4
        go_wp2_with (first | ((with_reducible refine gate_callee (f := 124) rfl ?_); refine goesL_ (some 13) rfl rfl Try.func124 (by kernel_rfl) rfl #[.int .u8 (bt a0 x3_1)] rfl (by (try simp only [List.map_toArray, List.map_cons, List.map_nil]); first | done | rfl | (simp only [List.length_drop, List.length_take]; rfl)) ?_; (with_reducible refine (spec_letter.calls (bt a0 x3_1) false _ A5.out).mono ?_); rintro e w' ⟨rfl, ⟨nd, rfl⟩⟩; refine ⟨_, rfl, ?_⟩; have p8 : 0 ≤ (x3_1 : Int) := of_decide_eq_true (by first | (with_reducible assumption) | assumption); have q8 : x3_1 < (a0.size : Int) := of_decide_eq_true (by first | (with_reducible assumption) | assumption); have hx8 := bt_at a0 x3_1; replace p8 := eq_true p8; replace q8 := eq_true q8) | (go_at_call 125; (with_reducible refine (spec_digit.calls (bt a0 x3_1) true _ A9.out).mono ?_); rintro e w' ⟨rfl, ⟨nd, rfl⟩⟩))
        go_roundg k1
        case measure => have := HK1.out; omega
        case rel => exact ⟨(wrap64 (x3_1 + 1)), (by first | rfl | (simp; done) | (simp [*]; done)), H', ⟨by have := HK1.out; omega⟩, ⟨by repeat (first | (with_reducible first | exact HB.out | apply bal | apply bdN | apply bdr) | exact HB.out)⟩⟩
       ·replace c10 := Bool.eq_false_iff.mpr c10
        subst c10
        have H1 : (some false) = some r := by rw [if_neg (show ¬ (false = true) by decide)] at H; exact H
        clear H
        have H := H1
        clear H1
        obtain rfl := Option.some.inj H
        have p4 : 0 ≤ (x3_1 : Int) := of_decide_eq_true (by first | (with_reducible assumption) | assumption)
        have q4 : x3_1 < (a0.size : Int) := of_decide_eq_true (by first | (with_reducible assumption) | assumption)
        have hx4 := bt_at a0 x3_1
        replace p4 := eq_true p4
        replace q4 := eq_true q4
        go_wp2_with (first | ((with_reducible refine gate_callee (f := 124) rfl ?_); refine goesL_ (some 13) rfl rfl Try.func124 (by kernel_rfl) rfl #[.int .u8 (bt a0 x3_1)] rfl (by (try simp only [List.map_toArray, List.map_cons, List.map_nil]); first | done | rfl | (simp only [List.length_drop, List.length_take]; rfl)) ?_; (with_reducible refine (spec_letter.calls (bt a0 x3_1) false _ A5.out).mono ?_); rintro e w' ⟨rfl, ⟨nd, rfl⟩⟩; refine ⟨_, rfl, ?_⟩; have p8 : 0 ≤ (x3_1 : Int) := of_decide_eq_true (by first | (with_reducible assumption) | assumption); have q8 : x3_1 < (a0.size : Int) := of_decide_eq_true (by first | (with_reducible assumption) | assumption); have hx8 := bt_at a0 x3_1; replace p8 := eq_true p8; replace q8 := eq_true q8) | (go_at_call 125; (with_reducible refine (spec_digit.calls (bt a0 x3_1) false _ A9.out).mono ?_); rintro e w' ⟨rfl, ⟨nd, rfl⟩⟩))
        go_ret
        exact ⟨by first | rfl | (simp [errW_none, errW_some] <;> rfl) | (simp [*, errW_none, errW_some] <;> rfl), by repeat (first | (with_reducible first | exact HB.out | apply bal | apply bdN | apply bdr) | exact HB.out)⟩
    ·rw [if_neg c3] at H
     exact absurd H (by simp)
   ·rw [if_neg c2] at H
    have c2b0 : decide (x3_1 < (a0.size : Int)) = false := decide_eq_false c2
    clear c2
    replace H := Option.bind_eq_some_iff.mp H
    obtain ⟨t231, A110, H⟩ := H
    replace H : (if t231 = true then ((spec_isKeyword.f k1 a0).bind fun t232 => (some (!t232))) else (some false)) = some r := H
    have A11 := Az.mk A110
    clear A110
    by_cases c12 : t231 = true
    ·subst c12
     have H1 : ((spec_isKeyword.f k1 a0).bind fun t232 => (some (!t232))) = some r := by rw [if_pos rfl] at H; exact H
     clear H
     have H := H1
     clear H1
     replace H := Option.bind_eq_some_iff.mp H
     obtain ⟨t232, A130, H⟩ := H
     replace H : (some (!t232)) = some r := H
     have A13 := Az.mk A130
     clear A130
     obtain rfl := Option.some.inj H
     go_wp2_with (first | ((with_reducible refine gate_callee (f := 54) rfl ?_); refine goesL_ (some 28) rfl rfl Try.func54 (by kernel_rfl) rfl #[.int .i64 (a0.size : Int), .int .i64 1, .int .i64 12] rfl (by (try simp only [List.map_toArray, List.map_cons, List.map_nil]); first | done | rfl | (simp only [List.length_drop, List.length_take]; rfl)) ?_; (with_reducible refine (spec_inRange.calls (a0.size : Int) 1 12 true _ A11.out).mono ?_); rintro e w' ⟨rfl, ⟨nd, rfl⟩⟩; refine ⟨_, rfl, ?_⟩) | (go_at_call 126; (with_reducible refine (spec_isKeyword.calls k1 a0 t232 _ A13.out).mono ?_); rintro e w14 ⟨rfl, hb⟩; have n0_ := Az.mk (below_step (by repeat (first | (with_reducible first | exact HB.out | apply bal | apply bdN | apply bdr) | exact HB.out)) hb); clear HB; have HB := n0_; clear n0_; (try clear hb); (try clear hb2); (try clear hk); (try clear hi)))
     go_ret
     exact ⟨by first | rfl | (simp [errW_none, errW_some] <;> rfl) | (simp [*, errW_none, errW_some] <;> rfl), by repeat (first | (with_reducible first | exact HB.out | apply bal | apply bdN | apply bdr) | exact HB.out)⟩
    ·replace c12 := Bool.eq_false_iff.mpr c12
     subst c12
     have H1 : (some false) = some r := by rw [if_neg (show ¬ (false = true) by decide)] at H; exact H
     clear H
     have H := H1
     clear H1
     obtain rfl := Option.some.inj H
     go_wp2_with (first | ((with_reducible refine gate_callee (f := 54) rfl ?_); refine goesL_ (some 28) rfl rfl Try.func54 (by kernel_rfl) rfl #[.int .i64 (a0.size : Int), .int .i64 1, .int .i64 12] rfl (by (try simp only [List.map_toArray, List.map_cons, List.map_nil]); first | done | rfl | (simp only [List.length_drop, List.length_take]; rfl)) ?_; (with_reducible refine (spec_inRange.calls (a0.size : Int) 1 12 false _ A11.out).mono ?_); rintro e w' ⟨rfl, ⟨nd, rfl⟩⟩; refine ⟨_, rfl, ?_⟩))
     go_ret
     exact ⟨by first | rfl | (simp [errW_none, errW_some] <;> rfl) | (simp [*, errW_none, errW_some] <;> rfl), by repeat (first | (with_reducible first | exact HB.out | apply bal | apply bdN | apply bdr) | exact HB.out)⟩
end Go.Proofs.Ytehhhlhedmfdiaa.PFnImportOrder
end
section
namespace Go.Proofs.Ytehhhlhedmfdiaa.PFnImportOrder
open Go.RowKit Go.Proofs.Yz0.PrintWords Go.Proofs.Yz0.PrintLast Go.Proofs.Yz0.PrintMore
attribute [local go_sem] max2_int min2_int max_two min_two max_three min_three max_four min_four
set_option linter.unusedVariables false
set_option linter.unusedSimpArgs false
theorem bne_empty_t {x : Bool} {l : List UInt8} (h : (x != (l != ([] : List UInt8))) = true) : (x = !l.isEmpty) = False := by
 cases x <;> cases l <;> simp at h ⊢
theorem bne_empty_f {x : Bool} {l : List UInt8} (h : ¬ (x != (l != ([] : List UInt8))) = true) : (x = !l.isEmpty) = True := by
 cases x <;> cases l <;> simp at h ⊢
theorem ne_of_true {l : List UInt8} (h : (true = !l.isEmpty) = True) : (l = []) = False ∧ l.isEmpty = false := by
 cases l <;> simp at h ⊢
theorem eq_of_false {l : List UInt8} (h : (false = !l.isEmpty) = True) : (l = []) = True ∧ l.isEmpty = true := by
 cases l <;> simp at h ⊢
mutual
def spec_validMods.l0 : Nat → List (S72) → Int → Option (Bool)
 | 0, _, _ => none
 | k + 1, x0, x3 => if x3 < (x0.length : Int) then (spec_validMods.l1 k x0 x3 0) else ((spec_inRange.f (x0.length : Int) 1 6).bind fun t235 => (some t235))
def spec_validMods.l1 : Nat → List (S72) → Int → Int → Option (Bool)
 | 0, _, _, _ => none
 | k + 1, x0, x3, x4 => if 0 ≤ x3 then (if x3 < (x0.length : Int) then (if x4 < (((rX x0 x3).f0).length : Int) then (if 0 ≤ x4 then (if ((rY ((rX x0 x3).f0) x4).f0) = 3 then (spec_validMods.j2 k x0 x3 x4 0 (wrap64 ((x0.length : Int) - 1)) true ((rY ((rX x0 x3).f0) x4).f0) ((rY ((rX x0 x3).f0) x4).f1) ((rY ((rX x0 x3).f0) x4).f2)) else (spec_validMods.j2 k x0 x3 x4 0 (wrap64 ((x0.length : Int) - 1)) (((rY ((rX x0 x3).f0) x4).f0) == 5) ((rY ((rX x0 x3).f0) x4).f0) ((rY ((rX x0 x3).f0) x4).f1) ((rY ((rX x0 x3).f0) x4).f2))) else (none)) else (if (((rX x0 x3).f0).length : Int) > 8 then (some false) else (spec_validMods.l0 k x0 (wrap64 (x3 + 1))))) else (none)) else (none)
def spec_validMods.j2 : Nat → List (S72) → Int → Int → Int → Int → Bool → Int → Int → ByteArray → Option (Bool)
 | 0, _, _, _, _, _, _, _, _, _ => none
 | k + 1, x0, x3, x4, x6, x7, x43, x241000, x241001, x241002 => if x43 = true then (spec_validMods.j3 k x0 x3 x4 x6 1000000 x241000 x241001 x241002) else (spec_validMods.j3 k x0 x3 x4 x6 x7 x241000 x241001 x241002)
def spec_validMods.j3 : Nat → List (S72) → Int → Int → Int → Int → Int → Int → ByteArray → Option (Bool)
 | 0, _, _, _, _, _, _, _, _ => none
 | k + 1, x0, x3, x4, x6, x7, x241000, x241001, x241002 => if x241000 = 3 then (spec_validMods.j4 k x0 x3 x4 x6 x7 true x241000 x241001 x241002) else (spec_validMods.j4 k x0 x3 x4 x6 x7 (x241000 == 4) x241000 x241001 x241002)
def spec_validMods.j4 : Nat → List (S72) → Int → Int → Int → Int → Bool → Int → Int → ByteArray → Option (Bool)
 | 0, _, _, _, _, _, _, _, _, _ => none
 | k + 1, x0, x3, x4, x6, x7, x8, x241000, x241001, x241002 => (spec_inRange.f x241000 1 5).bind fun t241 => (if t241 = true then ((spec_inRange.f x241001 x6 x7).bind fun t242 => (if t242 = true then (if (x8 != (x241002.toList != ([] : List UInt8))) = true then (some false) else (if x8 = true then ((spec_validName.f k x241002).bind fun t243 => (if t243 = true then (spec_validMods.l1 k x0 x3 (wrap64 (x4 + 1))) else (some false))) else (spec_validMods.l1 k x0 x3 (wrap64 (x4 + 1))))) else (some false))) else (some false))
end
def spec_validMods.f (k : Nat) (l0 : List (S72)) : Option (Bool) := spec_validMods.l0 k l0 0
theorem spec_validMods.calls (k : Nat) (A0 : Option Addr) (c0 : Nat) (l0 : List (S72)) (r : Bool) (w : World) (hr0 : Kd.C k72 w A0 l0.length l0) (hc0 : l0.length ≤ c0) (h : spec_validMods.f k l0 = some r) :
  Calls Try.prog 53 #[.slice A0 l0.length c0] w fun e w' => e = .returned (.bool r) ∧ Below w.heap.size w w' := by
 have hu74 := Try.underlying74
 have HR0 := Az.mk hr0
 have HC0 := Az.mk hc0
 clear hr0 hc0
 have HB := Az.mk (Below.refl w.heap.size w)
 have H : (spec_validMods.l0 k l0 0) = some r := h
 clear h
 have H' := Az.mk H
 clear H
 go_enter Try.func53, Try.ntmps53
 go_wp2
 go_loopg [3] k (fun kq v3 w' => ∃ (x3_1 : Int), v3 = .int .i64 x3_1 ∧ Az (spec_validMods.l0 kq l0 x3_1 = some r) ∧ Az (kq ≤ k) ∧ Az (Below w.heap.size w w'))
 case atStart => exact ⟨(0), (by first | rfl | (simp; done) | (simp [*]; done)), H', ⟨Nat.le_refl _⟩, ⟨by repeat (first | (with_reducible first | exact HB.out | apply bal | apply bdN | apply bdr) | exact HB.out)⟩⟩
 case round =>
  clear H'
  obtain ⟨x3_1, rfl, HA, HK1, HB⟩ := hrel
  cases gk with
  | zero => exact absurd HA.out (by simp [spec_validMods.l0])
  | succ k1 =>
   have H := HA.out
   clear HA
   simp only [spec_validMods.l0] at H
   by_cases c2 : x3_1 < (l0.length : Int)
   ·rw [if_pos c2] at H
    have c2b0 : decide (x3_1 < (l0.length : Int)) = true := decide_eq_true c2
    clear c2
    have H' := Az.mk H
    clear H
    go_wp2
    go_loopg [4] k1 (fun kq v4 w' => ∃ (x4_2 : Int), v4 = .int .i64 x4_2 ∧ Az (spec_validMods.l1 kq l0 x3_1 x4_2 = some r) ∧ Az (kq ≤ k1) ∧ Az (Below w.heap.size w w'))
    case atStart => exact ⟨(0), (by first | rfl | (simp; done) | (simp [*]; done)), H', ⟨Nat.le_refl _⟩, ⟨by repeat (first | (with_reducible first | exact HB.out | apply bal | apply bdN | apply bdr) | exact HB.out)⟩⟩
    case round =>
     clear H'
     try clear c2
     try clear c2b0
     try clear p2
     obtain ⟨x4_2, rfl, HA, HK2, HB⟩ := hrel
     cases gk with
     | zero => exact absurd HA.out (by simp [spec_validMods.l1])
     | succ k2 =>
      have H := HA.out
      clear HA
      simp only [spec_validMods.l1] at H
      by_cases c3 : 0 ≤ x3_1
      ·rw [if_pos c3] at H
       have c3b0 : decide (0 ≤ x3_1) = true := decide_eq_true c3
       clear c3
       by_cases c4 : x3_1 < (l0.length : Int)
       ·rw [if_pos c4] at H
        have c4b0 : decide (x3_1 < (l0.length : Int)) = true := decide_eq_true c4
        clear c4
        by_cases c5 : x4_2 < (((rX l0 x3_1).f0).length : Int)
        ·rw [if_pos c5] at H
         have c5b0 : decide (x4_2 < (((rX l0 x3_1).f0).length : Int)) = true := decide_eq_true c5
         clear c5
         by_cases c6 : 0 ≤ x4_2
         ·rw [if_pos c6] at H
          have c6b0 : decide (0 ≤ x4_2) = true := decide_eq_true c6
          clear c6
          have HC7 := Az.mk H
          clear H
          have p236 : 0 ≤ (x3_1 : Int) := of_decide_eq_true (by first | (with_reducible assumption) | assumption)
          have q236 : x3_1 < (l0.length : Int) := of_decide_eq_true (by first | (with_reducible assumption) | assumption)
          obtain ⟨ad236, A236_0, c236_0, e236, hx236_0, hl236_0, hi236_0⟩ := at_T72 HR0.out x3_1 p236 q236
          cases e236
          replace hx236_0 := (HB.out.cell (World.block_lt_of_cell? w _ hx236_0)).trans hx236_0
          have HR236_0 := Az.mk hi236_0
          have HC236_0 := Az.mk hl236_0
          clear hi236_0 hl236_0
          replace p236 := eq_true p236
          replace q236 := eq_true q236
          have p238 : 0 ≤ (x3_1 : Int) := of_decide_eq_true (by first | (with_reducible assumption) | assumption)
          have q238 : x3_1 < (l0.length : Int) := of_decide_eq_true (by first | (with_reducible assumption) | assumption)
          obtain ⟨ad238, A238_0, c238_0, e238, hx238_0, hl238_0, hi238_0⟩ := at_T72 HR0.out x3_1 p238 q238
          obtain rfl : ad236 = ad238 := (by injection e238)
          replace hx238_0 := (HB.out.cell (World.block_lt_of_cell? w _ hx238_0)).trans hx238_0
          have HR238_0 := Az.mk hi238_0
          have HC238_0 := Az.mk hl238_0
          clear hi238_0 hl238_0
          replace p238 := eq_true p238
          replace q238 := eq_true q238
          have ea_ := Option.some.inj (hx236_0.symm.trans hx238_0)
          injection ea_ with ea_ en_ ec_
          subst ea_
          subst ec_
          clear en_
          have p239 : 0 ≤ (x4_2 : Int) := of_decide_eq_true (by first | (with_reducible assumption) | assumption)
          have q239 : x4_2 < (((rX l0 x3_1).f0).length : Int) := of_decide_eq_true (by first | (with_reducible assumption) | assumption)
          obtain ⟨ad239, e239, hx239_0, hx239_1, hx239_2⟩ := at_T74 HR238_0.out x4_2 p239 q239
          cases e239
          replace hx239_0 := (HB.out.cell (World.block_lt_of_cell? w _ hx239_0)).trans hx239_0
          replace hx239_1 := (HB.out.cell (World.block_lt_of_cell? w _ hx239_1)).trans hx239_1
          replace hx239_2 := (HB.out.cell (World.block_lt_of_cell? w _ hx239_2)).trans hx239_2
          replace p239 := eq_true p239
          replace q239 := eq_true q239
          go_upto_region 10 with (first | ((with_reducible refine gate_dst (N := 5) rfl ?_); refine box_event ?hg (N := 5) ?hd (cs := #[.int .i64 0, .int .i64 0, .string (⟨#[]⟩ : ByteArray)]) (t := 74) ?hr ?_; (case hd => rfl); (case hg => rfl); (case hr => first | (go_simp; done) | (go_simp; rfl)); intro gb240 hg w8 hbox hb; have n0_ := Az.mk (below_step (by repeat (first | (with_reducible first | exact HB.out | apply bal | apply bdN | apply bdr) | exact HB.out)) hb); have n1_ := Az.mk (hbox); have n2_ := Az.mk ((by rw [hg]; exact (below_size (by repeat (first | (with_reducible first | exact HB.out | apply bal | apply bdN | apply bdr) | exact HB.out))) : w.heap.size ≤ gb240)); have n3_ := Az.mk ((by rw [hg]; exact (below_size (by repeat (first | (with_reducible first | exact HB.out | apply bal | apply bdN | apply bdr) | exact HB.out))) : w.heap.size ≤ gb240)); clear HB; have HB := n0_; have BK240 := n1_; have GW240 := n2_; have GE240 := n3_; clear n0_ n1_ n2_ n3_; clear hb hbox hg; have hcz9_0 : w8.cell? ⟨gb240, 0, none⟩ = some (.int .i64 0) := (bC BK240.out 0).trans rfl; have hcz9_1 : w8.cell? ⟨gb240, 1, none⟩ = some (.int .i64 0) := (bC BK240.out 1).trans rfl; have hcz9_2 : w8.cell? ⟨gb240, 2, none⟩ = some (.string (⟨#[]⟩ : ByteArray)) := (bC BK240.out 2).trans rfl; have hfz9_0 := bF BK240.out 0; have hfz9_1 := bF BK240.out 1; have hfz9_2 := bF BK240.out 2))
          (try simp only [Act.put, List.setIfInBounds_toArray, List.set_cons_zero, List.set_cons_succ])
          go_cut [43] (fun v43 wc => ∃ (kq : Nat) (x43_6 : Bool), v43 = .bool x43_6 ∧ Az (spec_validMods.j2 kq l0 x3_1 x4_2 0 (wrap64 ((l0.length : Int) - 1)) x43_6 ((rY ((rX l0 x3_1).f0) x4_2).f0) ((rY ((rX l0 x3_1).f0) x4_2).f1) ((rY ((rX l0 x3_1).f0) x4_2).f2) = some r) ∧ Az (kq ≤ k2) ∧ Az (wc.heap[gb240]? = some (.cells #[.int .i64 ((rY ((rX l0 x3_1).f0) x4_2).f0), .int .i64 ((rY ((rX l0 x3_1).f0) x4_2).f1), .string ((rY ((rX l0 x3_1).f0) x4_2).f2)] 74 (0, 0))) ∧ Az (Below w.heap.size w wc))
          case first =>
           have H := HC7.out
           clear HC7
           by_cases c10 : ((rY ((rX l0 x3_1).f0) x4_2).f0) = 3
           ·rw [if_pos c10] at H
            have c10b0 : (((rY ((rX l0 x3_1).f0) x4_2).f0) == 3) = true := beq_iff_eq.mpr c10
            have c10b1 : (((rY ((rX l0 x3_1).f0) x4_2).f0) != 3) = false := bne_eq_false_iff_eq.mpr c10
            clear c10
            (first | rw [c10b0] | (simp only [i64_w, i32_w]; rw [c10b0]) | skip)
            have H' := Az.mk H
            clear H
            have hcz11_0 : w8.cell? ⟨gb240, 0, none⟩ = some (.int .i64 0) := (bC BK240.out 0).trans rfl
            have hcz11_1 : w8.cell? ⟨gb240, 1, none⟩ = some (.int .i64 0) := (bC BK240.out 1).trans rfl
            have hcz11_2 : w8.cell? ⟨gb240, 2, none⟩ = some (.string (⟨#[]⟩ : ByteArray)) := (bC BK240.out 2).trans rfl
            have hfz11_0 := bF BK240.out 0
            have hfz11_1 := bF BK240.out 1
            have hfz11_2 := bF BK240.out 2
            go_wp2
            go_meet
            case rel => exact ⟨_, (true), (by first | rfl | (simp; done) | (simp [*]; done)), H', ⟨by have := HK1.out; have := HK2.out; first | omega | exact Nat.le_refl _⟩, ⟨by (with_reducible repeat (first | refine blk_drewN ?_ _ | refine blk_drew ?_ | refine blk_alloc ?_ _)); refine blk_put (cs := #[.int .i64 ((rY ((rX l0 x3_1).f0) x4_2).f0), .int .i64 ((rY ((rX l0 x3_1).f0) x4_2).f1), .string (⟨#[]⟩ : ByteArray)]) ?_ 2 _ rfl; (with_reducible repeat (first | refine blk_drewN ?_ _ | refine blk_drew ?_ | refine blk_alloc ?_ _)); refine blk_put (cs := #[.int .i64 ((rY ((rX l0 x3_1).f0) x4_2).f0), .int .i64 0, .string (⟨#[]⟩ : ByteArray)]) ?_ 1 _ rfl; (with_reducible repeat (first | refine blk_drewN ?_ _ | refine blk_drew ?_ | refine blk_alloc ?_ _)); refine blk_put (cs := #[.int .i64 0, .int .i64 0, .string (⟨#[]⟩ : ByteArray)]) ?_ 0 _ rfl; (with_reducible repeat (first | refine blk_drewN ?_ _ | refine blk_drew ?_ | refine blk_alloc ?_ _)); exact BK240.out⟩, ⟨by repeat (first | (with_reducible first | exact HB.out | apply bal | apply bdN | apply bdr | refine bS ?_ GE240.out) | exact HB.out)⟩⟩
           ·rw [if_neg c10] at H
            have c10b0 : (((rY ((rX l0 x3_1).f0) x4_2).f0) == 3) = false := beq_eq_false_iff_ne.mpr c10
            have c10b1 : (((rY ((rX l0 x3_1).f0) x4_2).f0) != 3) = true := bne_iff_ne.mpr c10
            (first | rw [c10b0] | (simp only [i64_w, i32_w]; rw [c10b0]) | skip)
            have H' := Az.mk H
            clear H
            have hcz12_0 : w8.cell? ⟨gb240, 0, none⟩ = some (.int .i64 0) := (bC BK240.out 0).trans rfl
            have hcz12_1 : w8.cell? ⟨gb240, 1, none⟩ = some (.int .i64 0) := (bC BK240.out 1).trans rfl
            have hcz12_2 : w8.cell? ⟨gb240, 2, none⟩ = some (.string (⟨#[]⟩ : ByteArray)) := (bC BK240.out 2).trans rfl
            have hfz12_0 := bF BK240.out 0
            have hfz12_1 := bF BK240.out 1
            have hfz12_2 := bF BK240.out 2
            go_wp2
            go_meet
            case rel => exact ⟨_, ((((rY ((rX l0 x3_1).f0) x4_2).f0) == 5)), (by first | rfl | (simp; done) | (simp [*]; done)), H', ⟨by have := HK1.out; have := HK2.out; first | omega | exact Nat.le_refl _⟩, ⟨by (with_reducible repeat (first | refine blk_drewN ?_ _ | refine blk_drew ?_ | refine blk_alloc ?_ _)); refine blk_put (cs := #[.int .i64 ((rY ((rX l0 x3_1).f0) x4_2).f0), .int .i64 ((rY ((rX l0 x3_1).f0) x4_2).f1), .string (⟨#[]⟩ : ByteArray)]) ?_ 2 _ rfl; (with_reducible repeat (first | refine blk_drewN ?_ _ | refine blk_drew ?_ | refine blk_alloc ?_ _)); refine blk_put (cs := #[.int .i64 ((rY ((rX l0 x3_1).f0) x4_2).f0), .int .i64 0, .string (⟨#[]⟩ : ByteArray)]) ?_ 1 _ rfl; (with_reducible repeat (first | refine blk_drewN ?_ _ | refine blk_drew ?_ | refine blk_alloc ?_ _)); refine blk_put (cs := #[.int .i64 0, .int .i64 0, .string (⟨#[]⟩ : ByteArray)]) ?_ 0 _ rfl; (with_reducible repeat (first | refine blk_drewN ?_ _ | refine blk_drew ?_ | refine blk_alloc ?_ _)); exact BK240.out⟩, ⟨by repeat (first | (with_reducible first | exact HB.out | apply bal | apply bdN | apply bdr | refine bS ?_ GE240.out) | exact HB.out)⟩⟩
          case rest =>
           clear HC7
           try clear c1
           try clear c2
           try clear c2b0
           try clear p2
           try clear q2
           try clear hx2
           try clear c3
           try clear c3b0
           try clear c4
           try clear c4b0
           try clear c5
           try clear c5b0
           try clear c6
           try clear c6b0
           try clear p6
           try clear c10
           try clear c10b0
           try clear c10b1
           try clear hcz11_0
           try clear hcz11_1
           try clear hcz11_2
           try clear hcz12_0
           try clear hcz12_1
           try clear hcz12_2
           try clear hcz9_0
           try clear hcz9_1
           try clear hcz9_2
           try clear hfz11_0
           try clear hfz11_1
           try clear hfz11_2
           try clear hfz12_0
           try clear hfz12_1
           try clear hfz12_2
           try clear hfz9_0
           try clear hfz9_1
           try clear hfz9_2
           try clear hx236_0
           try clear hx238_0
           try clear hx239_0
           try clear hx239_1
           try clear hx239_2
           try clear p2
           try clear p236
           try clear p238
           try clear p239
           try clear q236
           try clear q238
           try clear q239
           obtain ⟨kq, x43_6, rfl, HA, HJ6, BK240, HB⟩ := hcut
           cases kq with
           | zero => exact absurd HA.out (by simp [spec_validMods.j2])
           | succ kj6 =>
            have H := HA.out
            clear HA
            simp only [spec_validMods.j2] at H
            have HC13 := Az.mk H
            clear H
            go_upto_if 43 with (fail)
            go_cut [7] (fun v7 wc => ∃ (kq : Nat) (x7_12 : Int), v7 = .int .i64 x7_12 ∧ Az (spec_validMods.j3 kq l0 x3_1 x4_2 0 x7_12 ((rY ((rX l0 x3_1).f0) x4_2).f0) ((rY ((rX l0 x3_1).f0) x4_2).f1) ((rY ((rX l0 x3_1).f0) x4_2).f2) = some r) ∧ Az (kq ≤ kj6) ∧ Az (wc.heap[gb240]? = some (.cells #[.int .i64 ((rY ((rX l0 x3_1).f0) x4_2).f0), .int .i64 ((rY ((rX l0 x3_1).f0) x4_2).f1), .string ((rY ((rX l0 x3_1).f0) x4_2).f2)] 74 (0, 0))) ∧ Az (Below w.heap.size w wc))
            case first =>
             have H := HC13.out
             clear HC13
             by_cases c14 : x43_6 = true
             ·subst c14
              have H1 : (spec_validMods.j3 kj6 l0 x3_1 x4_2 0 1000000 ((rY ((rX l0 x3_1).f0) x4_2).f0) ((rY ((rX l0 x3_1).f0) x4_2).f1) ((rY ((rX l0 x3_1).f0) x4_2).f2)) = some r := by rw [if_pos rfl] at H; exact H
              clear H
              have H := H1
              clear H1
              have H' := Az.mk H
              clear H
              go_wp2
              go_meet
              case rel => exact ⟨_, (1000000), (by first | rfl | (simp; done) | (simp [*]; done)), H', ⟨by have := HK1.out; have := HK2.out; have := HJ6.out; first | omega | exact Nat.le_refl _⟩, ⟨by (with_reducible repeat (first | refine blk_drewN ?_ _ | refine blk_drew ?_ | refine blk_alloc ?_ _)); exact BK240.out⟩, ⟨by repeat (first | (with_reducible first | exact HB.out | apply bal | apply bdN | apply bdr | refine bS ?_ GE240.out) | exact HB.out)⟩⟩
             ·replace c14 := Bool.eq_false_iff.mpr c14
              subst c14
              have H1 : (spec_validMods.j3 kj6 l0 x3_1 x4_2 0 (wrap64 ((l0.length : Int) - 1)) ((rY ((rX l0 x3_1).f0) x4_2).f0) ((rY ((rX l0 x3_1).f0) x4_2).f1) ((rY ((rX l0 x3_1).f0) x4_2).f2)) = some r := by rw [if_neg (show ¬ (false = true) by decide)] at H; exact H
              clear H
              have H := H1
              clear H1
              have H' := Az.mk H
              clear H
              go_wp2
              go_meet
              case rel => exact ⟨_, ((wrap64 ((l0.length : Int) - 1))), (by first | rfl | (simp; done) | (simp [*]; done)), H', ⟨by have := HK1.out; have := HK2.out; have := HJ6.out; first | omega | exact Nat.le_refl _⟩, ⟨by (with_reducible repeat (first | refine blk_drewN ?_ _ | refine blk_drew ?_ | refine blk_alloc ?_ _)); exact BK240.out⟩, ⟨by repeat (first | (with_reducible first | exact HB.out | apply bal | apply bdN | apply bdr | refine bS ?_ GE240.out) | exact HB.out)⟩⟩
            case rest =>
             clear HC13
             try clear c1
             try clear c2
             try clear c2b0
             try clear p2
             try clear q2
             try clear hx2
             try clear c3
             try clear c3b0
             try clear c4
             try clear c4b0
             try clear c5
             try clear c5b0
             try clear c6
             try clear c6b0
             try clear p6
             try clear c10
             try clear c10b0
             try clear c10b1
             try clear c14
             try clear hcz11_0
             try clear hcz11_1
             try clear hcz11_2
             try clear hcz12_0
             try clear hcz12_1
             try clear hcz12_2
             try clear hcz9_0
             try clear hcz9_1
             try clear hcz9_2
             try clear hfz11_0
             try clear hfz11_1
             try clear hfz11_2
             try clear hfz12_0
             try clear hfz12_1
             try clear hfz12_2
             try clear hfz9_0
             try clear hfz9_1
             try clear hfz9_2
             try clear hx236_0
             try clear hx238_0
             try clear hx239_0
             try clear hx239_1
             try clear hx239_2
             try clear p2
             try clear p236
             try clear p238
             try clear p239
             try clear p6
             try clear q2
             try clear q236
             try clear q238
             try clear q239
             obtain ⟨kq, x7_12, rfl, HA, HJ12, BK240, HB⟩ := hcut
             cases kq with
             | zero => exact absurd HA.out (by simp [spec_validMods.j3])
             | succ kj12 =>
              have H := HA.out
              clear HA
              simp only [spec_validMods.j3] at H
              have HC15 := Az.mk H
              clear H
              go_upto_region 12 with (fail)
              go_cut [8] (fun v8 wc => ∃ (kq : Nat) (x8_14 : Bool), v8 = .bool x8_14 ∧ Az (spec_validMods.j4 kq l0 x3_1 x4_2 0 x7_12 x8_14 ((rY ((rX l0 x3_1).f0) x4_2).f0) ((rY ((rX l0 x3_1).f0) x4_2).f1) ((rY ((rX l0 x3_1).f0) x4_2).f2) = some r) ∧ Az (kq ≤ kj12) ∧ Az (wc.heap[gb240]? = some (.cells #[.int .i64 ((rY ((rX l0 x3_1).f0) x4_2).f0), .int .i64 ((rY ((rX l0 x3_1).f0) x4_2).f1), .string ((rY ((rX l0 x3_1).f0) x4_2).f2)] 74 (0, 0))) ∧ Az (Below w.heap.size w wc))
              case first =>
               have H := HC15.out
               clear HC15
               by_cases c16 : ((rY ((rX l0 x3_1).f0) x4_2).f0) = 3
               ·rw [if_pos c16] at H
                have c16b0 : (((rY ((rX l0 x3_1).f0) x4_2).f0) == 3) = true := beq_iff_eq.mpr c16
                have c16b1 : (((rY ((rX l0 x3_1).f0) x4_2).f0) != 3) = false := bne_eq_false_iff_eq.mpr c16
                clear c16
                (first | rw [c16b0] | (simp only [i64_w, i32_w]; rw [c16b0]) | skip)
                have H' := Az.mk H
                clear H
                have hcz17_0 : wc.cell? ⟨gb240, 0, none⟩ = some (.int .i64 ((rY ((rX l0 x3_1).f0) x4_2).f0)) := (bC BK240.out 0).trans rfl
                have hcz17_1 : wc.cell? ⟨gb240, 1, none⟩ = some (.int .i64 ((rY ((rX l0 x3_1).f0) x4_2).f1)) := (bC BK240.out 1).trans rfl
                have hcz17_2 : wc.cell? ⟨gb240, 2, none⟩ = some (.string ((rY ((rX l0 x3_1).f0) x4_2).f2)) := (bC BK240.out 2).trans rfl
                have hfz17_0 := bF BK240.out 0
                have hfz17_1 := bF BK240.out 1
                have hfz17_2 := bF BK240.out 2
                go_wp2
                go_meet
                case rel => exact ⟨_, (true), (by first | rfl | (simp; done) | (simp [*]; done)), H', ⟨by have := HK1.out; have := HK2.out; have := HJ6.out; have := HJ12.out; first | omega | exact Nat.le_refl _⟩, ⟨by (with_reducible repeat (first | refine blk_drewN ?_ _ | refine blk_drew ?_ | refine blk_alloc ?_ _)); exact BK240.out⟩, ⟨by repeat (first | (with_reducible first | exact HB.out | apply bal | apply bdN | apply bdr | refine bS ?_ GE240.out) | exact HB.out)⟩⟩
               ·rw [if_neg c16] at H
                have c16b0 : (((rY ((rX l0 x3_1).f0) x4_2).f0) == 3) = false := beq_eq_false_iff_ne.mpr c16
                have c16b1 : (((rY ((rX l0 x3_1).f0) x4_2).f0) != 3) = true := bne_iff_ne.mpr c16
                (first | rw [c16b0] | (simp only [i64_w, i32_w]; rw [c16b0]) | skip)
                have H' := Az.mk H
                clear H
                have hcz18_0 : wc.cell? ⟨gb240, 0, none⟩ = some (.int .i64 ((rY ((rX l0 x3_1).f0) x4_2).f0)) := (bC BK240.out 0).trans rfl
                have hcz18_1 : wc.cell? ⟨gb240, 1, none⟩ = some (.int .i64 ((rY ((rX l0 x3_1).f0) x4_2).f1)) := (bC BK240.out 1).trans rfl
                have hcz18_2 : wc.cell? ⟨gb240, 2, none⟩ = some (.string ((rY ((rX l0 x3_1).f0) x4_2).f2)) := (bC BK240.out 2).trans rfl
                have hfz18_0 := bF BK240.out 0
                have hfz18_1 := bF BK240.out 1
                have hfz18_2 := bF BK240.out 2
                go_wp2
                go_meet
                case rel => exact ⟨_, ((((rY ((rX l0 x3_1).f0) x4_2).f0) == 4)), (by first | rfl | (simp; done) | (simp [*]; done)), H', ⟨by have := HK1.out; have := HK2.out; have := HJ6.out; have := HJ12.out; first | omega | exact Nat.le_refl _⟩, ⟨by (with_reducible repeat (first | refine blk_drewN ?_ _ | refine blk_drew ?_ | refine blk_alloc ?_ _)); exact BK240.out⟩, ⟨by repeat (first | (with_reducible first | exact HB.out | apply bal | apply bdN | apply bdr | refine bS ?_ GE240.out) | exact HB.out)⟩⟩
              case rest =>
               clear HC15
               try clear c1
               try clear c2
               try clear c2b0
               try clear p2
               try clear q2
               try clear hx2
               try clear c3
               try clear c3b0
               try clear c4
               try clear c4b0
               try clear c5
               try clear c5b0
               try clear c6
               try clear c6b0
               try clear p6
               try clear c10
               try clear c10b0
               try clear c10b1
               try clear c14
               try clear c16
               try clear c16b0
               try clear c16b1
               try clear hcz11_0
               try clear hcz11_1
               try clear hcz11_2
               try clear hcz12_0
               try clear hcz12_1
               try clear hcz12_2
               try clear hcz17_0
               try clear hcz17_1
               try clear hcz17_2
               try clear hcz18_0
               try clear hcz18_1
               try clear hcz18_2
               try clear hcz9_0
               try clear hcz9_1
               try clear hcz9_2
               try clear hfz11_0
               try clear hfz11_1
               try clear hfz11_2
               try clear hfz12_0
               try clear hfz12_1
               try clear hfz12_2
               try clear hfz17_0
               try clear hfz17_1
               try clear hfz17_2
               try clear hfz18_0
               try clear hfz18_1
               try clear hfz18_2
               try clear hfz9_0
               try clear hfz9_1
               try clear hfz9_2
               try clear hx236_0
               try clear hx238_0
               try clear hx239_0
               try clear hx239_1
               try clear hx239_2
               try clear p2
               try clear p236
               try clear p238
               try clear p239
               try clear p6
               try clear q2
               try clear q236
               try clear q238
               try clear q239
               obtain ⟨kq, x8_14, rfl, HA, HJ14, BK240, HB⟩ := hcut
               cases kq with
               | zero => exact absurd HA.out (by simp [spec_validMods.j4])
               | succ kj14 =>
                have H := HA.out
                clear HA
                simp only [spec_validMods.j4] at H
                replace H := Option.bind_eq_some_iff.mp H
                obtain ⟨t241, A190, H⟩ := H
                replace H : (if t241 = true then ((spec_inRange.f ((rY ((rX l0 x3_1).f0) x4_2).f1) 0 x7_12).bind fun t242 => (if t242 = true then (if (x8_14 != (((rY ((rX l0 x3_1).f0) x4_2).f2).toList != ([] : List UInt8))) = true then (some false) else (if x8_14 = true then ((spec_validName.f kj14 ((rY ((rX l0 x3_1).f0) x4_2).f2)).bind fun t243 => (if t243 = true then (spec_validMods.l1 kj14 l0 x3_1 (wrap64 (x4_2 + 1))) else (some false))) else (spec_validMods.l1 kj14 l0 x3_1 (wrap64 (x4_2 + 1))))) else (some false))) else (some false)) = some r := H
                have A19 := Az.mk A190
                clear A190
                by_cases c20 : t241 = true
                ·subst c20
                 have H1 : ((spec_inRange.f ((rY ((rX l0 x3_1).f0) x4_2).f1) 0 x7_12).bind fun t242 => (if t242 = true then (if (x8_14 != (((rY ((rX l0 x3_1).f0) x4_2).f2).toList != ([] : List UInt8))) = true then (some false) else (if x8_14 = true then ((spec_validName.f kj14 ((rY ((rX l0 x3_1).f0) x4_2).f2)).bind fun t243 => (if t243 = true then (spec_validMods.l1 kj14 l0 x3_1 (wrap64 (x4_2 + 1))) else (some false))) else (spec_validMods.l1 kj14 l0 x3_1 (wrap64 (x4_2 + 1))))) else (some false))) = some r := by rw [if_pos rfl] at H; exact H
                 clear H
                 have H := H1
                 clear H1
                 replace H := Option.bind_eq_some_iff.mp H
                 obtain ⟨t242, A210, H⟩ := H
                 replace H : (if t242 = true then (if (x8_14 != (((rY ((rX l0 x3_1).f0) x4_2).f2).toList != ([] : List UInt8))) = true then (some false) else (if x8_14 = true then ((spec_validName.f kj14 ((rY ((rX l0 x3_1).f0) x4_2).f2)).bind fun t243 => (if t243 = true then (spec_validMods.l1 kj14 l0 x3_1 (wrap64 (x4_2 + 1))) else (some false))) else (spec_validMods.l1 kj14 l0 x3_1 (wrap64 (x4_2 + 1))))) else (some false)) = some r := H
                 have A21 := Az.mk A210
                 clear A210
                 by_cases c22 : t242 = true
                 ·subst c22
                  have H1 : (if (x8_14 != (((rY ((rX l0 x3_1).f0) x4_2).f2).toList != ([] : List UInt8))) = true then (some false) else (if x8_14 = true then ((spec_validName.f kj14 ((rY ((rX l0 x3_1).f0) x4_2).f2)).bind fun t243 => (if t243 = true then (spec_validMods.l1 kj14 l0 x3_1 (wrap64 (x4_2 + 1))) else (some false))) else (spec_validMods.l1 kj14 l0 x3_1 (wrap64 (x4_2 + 1))))) = some r := by rw [if_pos rfl] at H; exact H
                  clear H
                  have H := H1
                  clear H1
                  by_cases c23 : (x8_14 != (((rY ((rX l0 x3_1).f0) x4_2).f2).toList != ([] : List UInt8))) = true
                  ·rw [if_pos c23] at H
                   have c23b0 : (x8_14 != (((rY ((rX l0 x3_1).f0) x4_2).f2).toList != ([] : List UInt8))) = true := c23
                   have c23b9 := bne_empty_t c23
                   (try (have c23b1 : decide (x8_14 = (((rY ((rX l0 x3_1).f0) x4_2).f2).toList != ([] : List UInt8))) = false := by simpa using c23))
                   (try (have c23b2 : (x8_14 == (((rY ((rX l0 x3_1).f0) x4_2).f2).toList != ([] : List UInt8))) = false := by simpa using c23))
                   (try (have c23b3 : ¬ (x8_14 = (((rY ((rX l0 x3_1).f0) x4_2).f2).toList != ([] : List UInt8))) := by simpa using c23))
                   clear c23
                   obtain rfl := Option.some.inj H
                   have hcz24_0 : wc.cell? ⟨gb240, 0, none⟩ = some (.int .i64 ((rY ((rX l0 x3_1).f0) x4_2).f0)) := (bC BK240.out 0).trans rfl
                   have hcz24_1 : wc.cell? ⟨gb240, 1, none⟩ = some (.int .i64 ((rY ((rX l0 x3_1).f0) x4_2).f1)) := (bC BK240.out 1).trans rfl
                   have hcz24_2 : wc.cell? ⟨gb240, 2, none⟩ = some (.string ((rY ((rX l0 x3_1).f0) x4_2).f2)) := (bC BK240.out 2).trans rfl
                   have hfz24_0 := bF BK240.out 0
                   have hfz24_1 := bF BK240.out 1
                   have hfz24_2 := bF BK240.out 2
                   go_wp2_with (first | ((with_reducible refine gate_callee (f := 54) rfl ?_); refine goesL_ (some 54) rfl rfl Try.func54 (by kernel_rfl) rfl #[.int .i64 ((rY ((rX l0 x3_1).f0) x4_2).f0), .int .i64 1, .int .i64 5] rfl (by (try simp only [List.map_toArray, List.map_cons, List.map_nil]); first | done | rfl | (simp only [List.length_drop, List.length_take]; rfl)) ?_; (with_reducible refine (spec_inRange.calls ((rY ((rX l0 x3_1).f0) x4_2).f0) 1 5 true _ A19.out).mono ?_); rintro e w' ⟨rfl, ⟨nd, rfl⟩⟩; refine ⟨_, rfl, ?_⟩) | (go_at_call 54; (with_reducible refine (spec_inRange.calls ((rY ((rX l0 x3_1).f0) x4_2).f1) 0 x7_12 true _ A21.out).mono ?_); rintro e w' ⟨rfl, ⟨nd, rfl⟩⟩))
                   go_ret
                   exact ⟨by first | rfl | (simp [errW_none, errW_some] <;> rfl) | (simp [*, errW_none, errW_some] <;> rfl), by repeat (first | (with_reducible first | exact HB.out | apply bal | apply bdN | apply bdr | refine bS ?_ GE240.out) | exact HB.out)⟩
                  ·rw [if_neg c23] at H
                   have c23b0 : (x8_14 != (((rY ((rX l0 x3_1).f0) x4_2).f2).toList != ([] : List UInt8))) = false := by simpa using c23
                   have c23b9 := bne_empty_f c23
                   (try (have c23b1 : decide (x8_14 = (((rY ((rX l0 x3_1).f0) x4_2).f2).toList != ([] : List UInt8))) = true := by simpa using c23))
                   (try (have c23b2 : (x8_14 == (((rY ((rX l0 x3_1).f0) x4_2).f2).toList != ([] : List UInt8))) = true := by simpa using c23))
                   clear c23
                   by_cases c25 : x8_14 = true
                   ·subst c25
                    obtain ⟨c25e1, c25e2⟩ := ne_of_true c23b9
                    have H1 : ((spec_validName.f kj14 ((rY ((rX l0 x3_1).f0) x4_2).f2)).bind fun t243 => (if t243 = true then (spec_validMods.l1 kj14 l0 x3_1 (wrap64 (x4_2 + 1))) else (some false))) = some r := by rw [if_pos rfl] at H; exact H
                    clear H
                    have H := H1
                    clear H1
                    replace H := Option.bind_eq_some_iff.mp H
                    obtain ⟨t243, A260, H⟩ := H
                    replace H : (if t243 = true then (spec_validMods.l1 kj14 l0 x3_1 (wrap64 (x4_2 + 1))) else (some false)) = some r := H
                    have A26 := Az.mk A260
                    clear A260
                    by_cases c27 : t243 = true
                    ·subst c27
                     have H1 : (spec_validMods.l1 kj14 l0 x3_1 (wrap64 (x4_2 + 1))) = some r := by rw [if_pos rfl] at H; exact H
                     clear H
                     have H := H1
                     clear H1
                     have H' := Az.mk H
                     clear H
                     have hcz28_0 : wc.cell? ⟨gb240, 0, none⟩ = some (.int .i64 ((rY ((rX l0 x3_1).f0) x4_2).f0)) := (bC BK240.out 0).trans rfl
                     have hcz28_1 : wc.cell? ⟨gb240, 1, none⟩ = some (.int .i64 ((rY ((rX l0 x3_1).f0) x4_2).f1)) := (bC BK240.out 1).trans rfl
                     have hcz28_2 : wc.cell? ⟨gb240, 2, none⟩ = some (.string ((rY ((rX l0 x3_1).f0) x4_2).f2)) := (bC BK240.out 2).trans rfl
                     have hfz28_0 := bF BK240.out 0
                     have hfz28_1 := bF BK240.out 1
                     have hfz28_2 := bF BK240.out 2
                     go_wp2_with (first | ((with_reducible refine gate_callee (f := 54) rfl ?_); refine goesL_ (some 54) rfl rfl Try.func54 (by kernel_rfl) rfl #[.int .i64 ((rY ((rX l0 x3_1).f0) x4_2).f0), .int .i64 1, .int .i64 5] rfl (by (try simp only [List.map_toArray, List.map_cons, List.map_nil]); first | done | rfl | (simp only [List.length_drop, List.length_take]; rfl)) ?_; (with_reducible refine (spec_inRange.calls ((rY ((rX l0 x3_1).f0) x4_2).f0) 1 5 true _ A19.out).mono ?_); rintro e w' ⟨rfl, ⟨nd, rfl⟩⟩; refine ⟨_, rfl, ?_⟩) | (go_at_call 54; (with_reducible refine (spec_inRange.calls ((rY ((rX l0 x3_1).f0) x4_2).f1) 0 x7_12 true _ A21.out).mono ?_); rintro e w' ⟨rfl, ⟨nd, rfl⟩⟩) | (go_at_call 100; (with_reducible refine (spec_validName.calls kj14 ((rY ((rX l0 x3_1).f0) x4_2).f2) true _ A26.out).mono ?_); rintro e w29 ⟨rfl, hb⟩; have n0_ := Az.mk (blk_below (g := gb240) (o := .cells #[.int .i64 ((rY ((rX l0 x3_1).f0) x4_2).f0), .int .i64 ((rY ((rX l0 x3_1).f0) x4_2).f1), .string ((rY ((rX l0 x3_1).f0) x4_2).f2)] 74 (0, 0)) (by (with_reducible repeat (first | refine blk_drewN ?_ _ | refine blk_drew ?_ | refine blk_alloc ?_ _)); exact BK240.out) hb); have n1_ := Az.mk (below_step (by repeat (first | (with_reducible first | exact HB.out | apply bal | apply bdN | apply bdr | refine bS ?_ GE240.out) | exact HB.out)) hb); clear BK240; clear HB; have BK240 := n0_; have HB := n1_; clear n0_ n1_; (try clear hb); (try clear hb2); (try clear hk); (try clear hi)))
                     go_roundg kj14
                     case measure => have := HK1.out; have := HK2.out; have := HJ6.out; have := HJ12.out; have := HJ14.out; omega
                     case rel => exact ⟨(wrap64 (x4_2 + 1)), (by first | rfl | (simp; done) | (simp [*]; done)), H', ⟨by have := HK1.out; have := HK2.out; have := HJ6.out; have := HJ12.out; have := HJ14.out; omega⟩, ⟨by repeat (first | (with_reducible first | exact HB.out | apply bal | apply bdN | apply bdr | refine bS ?_ GE240.out) | exact HB.out)⟩⟩
                    ·replace c27 := Bool.eq_false_iff.mpr c27
                     subst c27
                     have H1 : (some false) = some r := by rw [if_neg (show ¬ (false = true) by decide)] at H; exact H
                     clear H
                     have H := H1
                     clear H1
                     obtain rfl := Option.some.inj H
                     have hcz30_0 : wc.cell? ⟨gb240, 0, none⟩ = some (.int .i64 ((rY ((rX l0 x3_1).f0) x4_2).f0)) := (bC BK240.out 0).trans rfl
                     have hcz30_1 : wc.cell? ⟨gb240, 1, none⟩ = some (.int .i64 ((rY ((rX l0 x3_1).f0) x4_2).f1)) := (bC BK240.out 1).trans rfl
                     have hcz30_2 : wc.cell? ⟨gb240, 2, none⟩ = some (.string ((rY ((rX l0 x3_1).f0) x4_2).f2)) := (bC BK240.out 2).trans rfl
                     have hfz30_0 := bF BK240.out 0
                     have hfz30_1 := bF BK240.out 1
                     have hfz30_2 := bF BK240.out 2
                     go_wp2_with (first | ((with_reducible refine gate_callee (f := 54) rfl ?_); refine goesL_ (some 54) rfl rfl Try.func54 (by kernel_rfl) rfl #[.int .i64 ((rY ((rX l0 x3_1).f0) x4_2).f0), .int .i64 1, .int .i64 5] rfl (by (try simp only [List.map_toArray, List.map_cons, List.map_nil]); first | done | rfl | (simp only [List.length_drop, List.length_take]; rfl)) ?_; (with_reducible refine (spec_inRange.calls ((rY ((rX l0 x3_1).f0) x4_2).f0) 1 5 true _ A19.out).mono ?_); rintro e w' ⟨rfl, ⟨nd, rfl⟩⟩; refine ⟨_, rfl, ?_⟩) | (go_at_call 54; (with_reducible refine (spec_inRange.calls ((rY ((rX l0 x3_1).f0) x4_2).f1) 0 x7_12 true _ A21.out).mono ?_); rintro e w' ⟨rfl, ⟨nd, rfl⟩⟩) | (go_at_call 100; (with_reducible refine (spec_validName.calls kj14 ((rY ((rX l0 x3_1).f0) x4_2).f2) false _ A26.out).mono ?_); rintro e w31 ⟨rfl, hb⟩; have n0_ := Az.mk (blk_below (g := gb240) (o := .cells #[.int .i64 ((rY ((rX l0 x3_1).f0) x4_2).f0), .int .i64 ((rY ((rX l0 x3_1).f0) x4_2).f1), .string ((rY ((rX l0 x3_1).f0) x4_2).f2)] 74 (0, 0)) (by (with_reducible repeat (first | refine blk_drewN ?_ _ | refine blk_drew ?_ | refine blk_alloc ?_ _)); exact BK240.out) hb); have n1_ := Az.mk (below_step (by repeat (first | (with_reducible first | exact HB.out | apply bal | apply bdN | apply bdr | refine bS ?_ GE240.out) | exact HB.out)) hb); clear BK240; clear HB; have BK240 := n0_; have HB := n1_; clear n0_ n1_; (try clear hb); (try clear hb2); (try clear hk); (try clear hi)))
                     go_ret
                     exact ⟨by first | rfl | (simp [errW_none, errW_some] <;> rfl) | (simp [*, errW_none, errW_some] <;> rfl), by repeat (first | (with_reducible first | exact HB.out | apply bal | apply bdN | apply bdr | refine bS ?_ GE240.out) | exact HB.out)⟩
                   ·replace c25 := Bool.eq_false_iff.mpr c25
                    subst c25
                    obtain ⟨c25e1, c25e2⟩ := eq_of_false c23b9
                    have H1 : (spec_validMods.l1 kj14 l0 x3_1 (wrap64 (x4_2 + 1))) = some r := by rw [if_neg (show ¬ (false = true) by decide)] at H; exact H
                    clear H
                    have H := H1
                    clear H1
                    have H' := Az.mk H
                    clear H
                    have hcz32_0 : wc.cell? ⟨gb240, 0, none⟩ = some (.int .i64 ((rY ((rX l0 x3_1).f0) x4_2).f0)) := (bC BK240.out 0).trans rfl
                    have hcz32_1 : wc.cell? ⟨gb240, 1, none⟩ = some (.int .i64 ((rY ((rX l0 x3_1).f0) x4_2).f1)) := (bC BK240.out 1).trans rfl
                    have hcz32_2 : wc.cell? ⟨gb240, 2, none⟩ = some (.string ((rY ((rX l0 x3_1).f0) x4_2).f2)) := (bC BK240.out 2).trans rfl
                    have hfz32_0 := bF BK240.out 0
                    have hfz32_1 := bF BK240.out 1
                    have hfz32_2 := bF BK240.out 2
                    go_wp2_with (first | ((with_reducible refine gate_callee (f := 54) rfl ?_); refine goesL_ (some 54) rfl rfl Try.func54 (by kernel_rfl) rfl #[.int .i64 ((rY ((rX l0 x3_1).f0) x4_2).f0), .int .i64 1, .int .i64 5] rfl (by (try simp only [List.map_toArray, List.map_cons, List.map_nil]); first | done | rfl | (simp only [List.length_drop, List.length_take]; rfl)) ?_; (with_reducible refine (spec_inRange.calls ((rY ((rX l0 x3_1).f0) x4_2).f0) 1 5 true _ A19.out).mono ?_); rintro e w' ⟨rfl, ⟨nd, rfl⟩⟩; refine ⟨_, rfl, ?_⟩) | (go_at_call 54; (with_reducible refine (spec_inRange.calls ((rY ((rX l0 x3_1).f0) x4_2).f1) 0 x7_12 true _ A21.out).mono ?_); rintro e w' ⟨rfl, ⟨nd, rfl⟩⟩))
                    go_roundg kj14
                    case measure => have := HK1.out; have := HK2.out; have := HJ6.out; have := HJ12.out; have := HJ14.out; omega
                    case rel => exact ⟨(wrap64 (x4_2 + 1)), (by first | rfl | (simp; done) | (simp [*]; done)), H', ⟨by have := HK1.out; have := HK2.out; have := HJ6.out; have := HJ12.out; have := HJ14.out; omega⟩, ⟨by repeat (first | (with_reducible first | exact HB.out | apply bal | apply bdN | apply bdr | refine bS ?_ GE240.out) | exact HB.out)⟩⟩
                 ·replace c22 := Bool.eq_false_iff.mpr c22
                  subst c22
                  have H1 : (some false) = some r := by rw [if_neg (show ¬ (false = true) by decide)] at H; exact H
                  clear H
                  have H := H1
                  clear H1
                  obtain rfl := Option.some.inj H
                  have hcz33_0 : wc.cell? ⟨gb240, 0, none⟩ = some (.int .i64 ((rY ((rX l0 x3_1).f0) x4_2).f0)) := (bC BK240.out 0).trans rfl
                  have hcz33_1 : wc.cell? ⟨gb240, 1, none⟩ = some (.int .i64 ((rY ((rX l0 x3_1).f0) x4_2).f1)) := (bC BK240.out 1).trans rfl
                  have hcz33_2 : wc.cell? ⟨gb240, 2, none⟩ = some (.string ((rY ((rX l0 x3_1).f0) x4_2).f2)) := (bC BK240.out 2).trans rfl
                  have hfz33_0 := bF BK240.out 0
                  have hfz33_1 := bF BK240.out 1
                  have hfz33_2 := bF BK240.out 2
                  go_wp2_with (first | ((with_reducible refine gate_callee (f := 54) rfl ?_); refine goesL_ (some 54) rfl rfl Try.func54 (by kernel_rfl) rfl #[.int .i64 ((rY ((rX l0 x3_1).f0) x4_2).f0), .int .i64 1, .int .i64 5] rfl (by (try simp only [List.map_toArray, List.map_cons, List.map_nil]); first | done | rfl | (simp only [List.length_drop, List.length_take]; rfl)) ?_; (with_reducible refine (spec_inRange.calls ((rY ((rX l0 x3_1).f0) x4_2).f0) 1 5 true _ A19.out).mono ?_); rintro e w' ⟨rfl, ⟨nd, rfl⟩⟩; refine ⟨_, rfl, ?_⟩) | (go_at_call 54; (with_reducible refine (spec_inRange.calls ((rY ((rX l0 x3_1).f0) x4_2).f1) 0 x7_12 false _ A21.out).mono ?_); rintro e w' ⟨rfl, ⟨nd, rfl⟩⟩))
                  go_ret
                  exact ⟨by first | rfl | (simp [errW_none, errW_some] <;> rfl) | (simp [*, errW_none, errW_some] <;> rfl), by repeat (first | (with_reducible first | exact HB.out | apply bal | apply bdN | apply bdr | refine bS ?_ GE240.out) | exact HB.out)⟩
                ·replace c20 := Bool.eq_false_iff.mpr c20
                 subst c20
                 have H1 : (some false) = some r := by rw [if_neg (show ¬ (false = true) by decide)] at H; exact H
                 clear H
                 have H := H1
                 clear H1
                 obtain rfl := Option.some.inj H
                 have hcz34_0 : wc.cell? ⟨gb240, 0, none⟩ = some (.int .i64 ((rY ((rX l0 x3_1).f0) x4_2).f0)) := (bC BK240.out 0).trans rfl
                 have hcz34_1 : wc.cell? ⟨gb240, 1, none⟩ = some (.int .i64 ((rY ((rX l0 x3_1).f0) x4_2).f1)) := (bC BK240.out 1).trans rfl
                 have hcz34_2 : wc.cell? ⟨gb240, 2, none⟩ = some (.string ((rY ((rX l0 x3_1).f0) x4_2).f2)) := (bC BK240.out 2).trans rfl
                 have hfz34_0 := bF BK240.out 0
                 have hfz34_1 := bF BK240.out 1
                 have hfz34_2 := bF BK240.out 2
                 go_wp2_with (first | ((with_reducible refine gate_callee (f := 54) rfl ?_); refine goesL_ (some 54) rfl rfl Try.func54 (by kernel_rfl) rfl #[.int .i64 ((rY ((rX l0 x3_1).f0) x4_2).f0), .int .i64 1, .int .i64 5] rfl (by (try simp only [List.map_toArray, List.map_cons, List.map_nil]); first | done | rfl | (simp only [List.length_drop, List.length_take]; rfl)) ?_; (with_reducible refine (spec_inRange.calls ((rY ((rX l0 x3_1).f0) x4_2).f0) 1 5 false _ A19.out).mono ?_); rintro e w' ⟨rfl, ⟨nd, rfl⟩⟩; refine ⟨_, rfl, ?_⟩))
                 go_ret
                 exact ⟨by first | rfl | (simp [errW_none, errW_some] <;> rfl) | (simp [*, errW_none, errW_some] <;> rfl), by repeat (first | (with_reducible first | exact HB.out | apply bal | apply bdN | apply bdr | refine bS ?_ GE240.out) | exact HB.out)⟩
         ·rw [if_neg c6] at H
          exact absurd H (by simp)
        ·rw [if_neg c5] at H
         have c5b0 : decide (x4_2 < (((rX l0 x3_1).f0).length : Int)) = false := decide_eq_false c5
         clear c5
         by_cases c35 : (((rX l0 x3_1).f0).length : Int) > 8
         ·rw [if_pos c35] at H
          have c35b0 : decide (8 < (((rX l0 x3_1).f0).length : Int)) = true := decide_eq_true c35
          have c35b1 : decide (8 < ((rX l0 x3_1).f0).length) = true := decide_eq_true (by omega)
          clear c35
          obtain rfl := Option.some.inj H
          have p236 : 0 ≤ (x3_1 : Int) := of_decide_eq_true (by first | (with_reducible assumption) | assumption)
          have q236 : x3_1 < (l0.length : Int) := of_decide_eq_true (by first | (with_reducible assumption) | assumption)
          obtain ⟨ad236, A236_0, c236_0, e236, hx236_0, hl236_0, hi236_0⟩ := at_T72 HR0.out x3_1 p236 q236
          cases e236
          replace hx236_0 := (HB.out.cell (World.block_lt_of_cell? w _ hx236_0)).trans hx236_0
          have HR236_0 := Az.mk hi236_0
          have HC236_0 := Az.mk hl236_0
          clear hi236_0 hl236_0
          replace p236 := eq_true p236
          replace q236 := eq_true q236
          have p237 : 0 ≤ (x3_1 : Int) := of_decide_eq_true (by first | (with_reducible assumption) | assumption)
          have q237 : x3_1 < (l0.length : Int) := of_decide_eq_true (by first | (with_reducible assumption) | assumption)
          obtain ⟨ad237, A237_0, c237_0, e237, hx237_0, hl237_0, hi237_0⟩ := at_T72 HR0.out x3_1 p237 q237
          obtain rfl : ad236 = ad237 := (by injection e237)
          replace hx237_0 := (HB.out.cell (World.block_lt_of_cell? w _ hx237_0)).trans hx237_0
          have HR237_0 := Az.mk hi237_0
          have HC237_0 := Az.mk hl237_0
          clear hi237_0 hl237_0
          replace p237 := eq_true p237
          replace q237 := eq_true q237
          have ea_ := Option.some.inj (hx236_0.symm.trans hx237_0)
          injection ea_ with ea_ en_ ec_
          subst ea_
          subst ec_
          clear en_
          go_wp2
          go_ret
          exact ⟨by first | rfl | (simp [errW_none, errW_some] <;> rfl) | (simp [*, errW_none, errW_some] <;> rfl), by repeat (first | (with_reducible first | exact HB.out | apply bal | apply bdN | apply bdr) | exact HB.out)⟩
         ·rw [if_neg c35] at H
          have c35b0 : decide (8 < (((rX l0 x3_1).f0).length : Int)) = false := decide_eq_false c35
          have c35b1 : decide (8 < ((rX l0 x3_1).f0).length) = false := decide_eq_false (by omega)
          clear c35
          have H' := Az.mk H
          clear H
          have p236 : 0 ≤ (x3_1 : Int) := of_decide_eq_true (by first | (with_reducible assumption) | assumption)
          have q236 : x3_1 < (l0.length : Int) := of_decide_eq_true (by first | (with_reducible assumption) | assumption)
          obtain ⟨ad236, A236_0, c236_0, e236, hx236_0, hl236_0, hi236_0⟩ := at_T72 HR0.out x3_1 p236 q236
          cases e236
          replace hx236_0 := (HB.out.cell (World.block_lt_of_cell? w _ hx236_0)).trans hx236_0
          have HR236_0 := Az.mk hi236_0
          have HC236_0 := Az.mk hl236_0
          clear hi236_0 hl236_0
          replace p236 := eq_true p236
          replace q236 := eq_true q236
          have p237 : 0 ≤ (x3_1 : Int) := of_decide_eq_true (by first | (with_reducible assumption) | assumption)
          have q237 : x3_1 < (l0.length : Int) := of_decide_eq_true (by first | (with_reducible assumption) | assumption)
          obtain ⟨ad237, A237_0, c237_0, e237, hx237_0, hl237_0, hi237_0⟩ := at_T72 HR0.out x3_1 p237 q237
          obtain rfl : ad236 = ad237 := (by injection e237)
          replace hx237_0 := (HB.out.cell (World.block_lt_of_cell? w _ hx237_0)).trans hx237_0
          have HR237_0 := Az.mk hi237_0
          have HC237_0 := Az.mk hl237_0
          clear hi237_0 hl237_0
          replace p237 := eq_true p237
          replace q237 := eq_true q237
          have ea_ := Option.some.inj (hx236_0.symm.trans hx237_0)
          injection ea_ with ea_ en_ ec_
          subst ea_
          subst ec_
          clear en_
          go_wp2
          go_roundg k2
          case measure => have := HK1.out; have := HK2.out; omega
          case rel => exact ⟨(wrap64 (x3_1 + 1)), (by first | rfl | (simp; done) | (simp [*]; done)), H', ⟨by have := HK1.out; have := HK2.out; omega⟩, ⟨by repeat (first | (with_reducible first | exact HB.out | apply bal | apply bdN | apply bdr) | exact HB.out)⟩⟩
       ·rw [if_neg c4] at H
        exact absurd H (by simp)
      ·rw [if_neg c3] at H
       exact absurd H (by simp)
   ·rw [if_neg c2] at H
    have c2b0 : decide (x3_1 < (l0.length : Int)) = false := decide_eq_false c2
    clear c2
    replace H := Option.bind_eq_some_iff.mp H
    obtain ⟨t235, A360, H⟩ := H
    replace H : (some t235) = some r := H
    have A36 := Az.mk A360
    clear A360
    obtain rfl := Option.some.inj H
    go_wp2_with (first | ((with_reducible refine gate_callee (f := 54) rfl ?_); refine goesL_ (some 89) rfl rfl Try.func54 (by kernel_rfl) rfl #[.int .i64 (l0.length : Int), .int .i64 1, .int .i64 6] rfl (by (try simp only [List.map_toArray, List.map_cons, List.map_nil]); first | done | rfl | (simp only [List.length_drop, List.length_take]; rfl)) ?_; (with_reducible refine (spec_inRange.calls (l0.length : Int) 1 6 t235 _ A36.out).mono ?_); rintro e w' ⟨rfl, ⟨nd, rfl⟩⟩; refine ⟨_, rfl, ?_⟩))
    go_ret
    exact ⟨by first | rfl | (simp [errW_none, errW_some] <;> rfl) | (simp [*, errW_none, errW_some] <;> rfl), by repeat (first | (with_reducible first | exact HB.out | apply bal | apply bdN | apply bdr) | exact HB.out)⟩
end Go.Proofs.Ytehhhlhedmfdiaa.PFnImportOrder
end
section
namespace Go.Proofs.Ytehhhlhedmfdiaa.PFnImportOrder
open Go.RowKit Go.Proofs.Yz0.PrintWords Go.Proofs.Yz0.PrintLast Go.Proofs.Yz0.PrintMore
set_option linter.unusedVariables false
set_option linter.unusedSimpArgs false
theorem runs_mono {f g : S74 → IS → Option (Bool × IS)} (h : ∀ x s, LeO (f x s) (g x s)) : ∀ xs s, LeO (runs f xs s) (runs g xs s)
 | [], s => LeO.refl _
 | x :: xs, s => by
  simp only [runs]
  exact LeO.bind (h x s) (fun r => LeO.ite (runs_mono h xs r.2) (LeO.refl _))
theorem stp_mono {dec : Int → ByteArray} {L L' : Int → IS → Option (Bool × IS)} (h : ∀ i s, LeO (L i s) (L' i s)) (n : Nat) (i : Int) (x : S74) (s : IS) : LeO (stp dec L n i x s) (stp dec L' n i x s) := by
 unfold stp
 exact LeO.ite (LeO.ite (h _ _) (LeO.refl _)) (LeO.ite (LeO.ite (LeO.bind (h _ _) (fun _ => LeO.refl _)) (LeO.refl _)) (LeO.refl _))
theorem ld_mono (dec : Int → ByteArray) (M : List S72) : ∀ k i s, LeO (ld dec M k i s) (ld dec M (k + 1) i s)
 | 0, i, s => fun r h => by cases h
 | k + 1, i, s => by
  have ih := ld_mono dec M k
  rw [ld, ld]
  exact LeO.ite (LeO.ite (LeO.ite (LeO.bind (runs_mono (fun x t => stp_mono ih _ _ x t) _ _) (fun _ => LeO.refl _)) (LeO.refl _)) (LeO.refl _)) (LeO.refl _)
theorem ldAll_mono (dec : Int → ByteArray) (M : List S72) (k : Nat) : ∀ l s fa, LeO (ldAll dec M k l s fa) (ldAll dec M (k + 1) l s fa)
 | [], s, fa => LeO.refl _
 | i :: l, s, fa => by
  simp only [ldAll]
  exact LeO.bind (ld_mono dec M k i s) (fun r => LeO.ite (ldAll_mono dec M k l _ _) (LeO.ite (ldAll_mono dec M k l _ _) (LeO.refl _)))
theorem impAll_mono (dec : Int → ByteArray) (M : List S72) (k : Nat) (l : List Int) : LeO (impAll dec M k l) (impAll dec M (k + 1) l) := LeO.map _ (ldAll_mono dec M k l _ _)
def spec_ImportRun.f (k : Nat) (M : List S72) (l : List Int) : Option (List Int × List Int × List Int × List ByteArray × List Int) :=
 (spec_validMods.f k M).bind fun t => if t = true then ((spec_validIndices.f k l (M.length : Int)).bind fun u => if u = true then (if M.length ≤ 1000 then impAll decT M k l else none) else some ([], [], [], [], [])) else some ([], [], [], [], [])
theorem five_nil {W w : World} {gR : Nat} (hb : Below w.heap.size w W) (hg : w.heap.size ≤ gR) :
  Five w [] [] [] [] [] (.returned (.agg #[.slice none 0 0, .slice none 0 0, .slice none 0 0, .slice none 0 0, .slice none 0 0])) (((((W.setCell ⟨gR, 0, none⟩ (.slice none 0 0)).setCell ⟨gR, 1, none⟩ (.slice none 0 0)).setCell ⟨gR, 2, none⟩ (.slice none 0 0)).setCell ⟨gR, 3, none⟩ (.slice none 0 0)).setCell ⟨gR, 4, none⟩ (.slice none 0 0)) :=
 ⟨_, _, _, _, _, rfl, Kd.R_nil _ _ _ _ _, Kd.R_nil _ _ _ _ _, Kd.R_nil _ _ _ _ _, Kd.R_nil _ _ _ _ _, Kd.R_nil _ _ _ _ _, bS (bS (bS (bS (bS hb hg) hg) hg) hg) hg⟩
theorem spec_ImportRun.five (k : Nat) (A0 : Option Addr) (c0 : Nat) (l0 : List S72) (A1 : Option Addr) (c1 : Nat) (l1 : List Int) (r1 r2 r3 : List Int) (r4 : List ByteArray) (r5 : List Int) (w : World) (hr0 : Kd.C k72 w A0 l0.length l0) (hc0 : l0.length ≤ c0) (hr1 : Kd.C (Kd.int .i64) w A1 l1.length l1) (hc1 : l1.length ≤ c1) (h : spec_ImportRun.f k l0 l1 = some (r1, r2, r3, r4, r5)) :
  Calls Try.prog 26 #[.slice A0 l0.length c0, .slice A1 l1.length c1] w (Five w r1 r2 r3 r4 r5) := by
 unfold spec_ImportRun.f at h
 cases hv : spec_validMods.f k l0 with
 | none => rw [hv] at h; cases h
 | some t =>
 rw [hv] at h
 dsimp only [Option.bind_some] at h
 have HV := Az.mk hv
 have HR0 := Az.mk hr0
 have HC0 := Az.mk hc0
 have HR1 := Az.mk hr1
 have HC1 := Az.mk hc1
 have hu48 := Try.underlying48
 clear hv hr0 hc0 hr1 hc1
 cases t with
 | false =>
  rw [if_neg (by decide)] at h
  injection h with h
  injection h with e1 e2
  injection e2 with e2 e3
  injection e3 with e3 e4
  injection e4 with e4 e5
  subst e1 e2 e3 e4 e5
  go_enter Try.func26, Try.ntmps26
  go_wp2_with (first | ((with_reducible refine gate_dst (N := 4) rfl ?_); refine box_event ?hg (N := 4) ?hd (cs := #[.slice none 0 0, .slice none 0 0, .slice none 0 0, .slice none 0 0, .slice none 0 0]) (t := 48) ?hr ?_; (case hd => rfl); (case hg => rfl); (case hr => first | (go_simp; done) | (go_simp; rfl)); intro gR hg wA hbox hb; have HBR := Az.mk hbox; have HB := Az.mk hb; have HGR : Az (gR = w.heap.size) := ⟨hg⟩; clear hbox hb hg))
  refine (spec_validMods.calls k A0 c0 l0 false _ (Kd.C_below HR0.out HB.out) HC0.out HV.out).mono ?_
  rintro e w1 ⟨rfl, hb⟩
  have HB1 := Az.mk (below_step HB.out hb)
  have HBR1 := Az.mk (blk_below HBR.out hb)
  clear hb HB HBR
  have hq0 : w1.cell? ⟨gR, 0, none⟩ = some (.slice none 0 0) := (bC HBR1.out 0).trans rfl
  have hq1 : w1.cell? ⟨gR, 1, none⟩ = some (.slice none 0 0) := (bC HBR1.out 1).trans rfl
  have hq2 : w1.cell? ⟨gR, 2, none⟩ = some (.slice none 0 0) := (bC HBR1.out 2).trans rfl
  have hq3 : w1.cell? ⟨gR, 3, none⟩ = some (.slice none 0 0) := (bC HBR1.out 3).trans rfl
  have hq4 : w1.cell? ⟨gR, 4, none⟩ = some (.slice none 0 0) := (bC HBR1.out 4).trans rfl
  have hqf : ∀ j, w1.frozen? ⟨gR, j, none⟩ = false := fun j => bF HBR1.out j
  go_wp2_with fail
  refine bodyPost_ret (results_cell_row rfl _ _ gR 48 #[.slice none 0 0, .slice none 0 0, .slice none 0 0, .slice none 0 0, .slice none 0 0] (0, 0) _ rfl (put5 HBR1.out) Try.underlying48 rfl (by kernel_rfl)) rfl ?_
  exact five_nil HB1.out (by have := HGR.out; omega)
 | true =>
 rw [if_pos rfl] at h
 cases hi : spec_validIndices.f k l1 (l0.length : Int) with
 | none => rw [hi] at h; cases h
 | some u =>
 rw [hi] at h
 dsimp only [Option.bind_some] at h
 have HVI := Az.mk hi
 clear hi
 cases u with
 | false =>
  rw [if_neg (by decide)] at h
  injection h with h
  injection h with e1 e2
  injection e2 with e2 e3
  injection e3 with e3 e4
  injection e4 with e4 e5
  subst e1 e2 e3 e4 e5
  go_enter Try.func26, Try.ntmps26
  go_wp2_with (first | ((with_reducible refine gate_dst (N := 4) rfl ?_); refine box_event ?hg (N := 4) ?hd (cs := #[.slice none 0 0, .slice none 0 0, .slice none 0 0, .slice none 0 0, .slice none 0 0]) (t := 48) ?hr ?_; (case hd => rfl); (case hg => rfl); (case hr => first | (go_simp; done) | (go_simp; rfl)); intro gR hg wA hbox hb; have HBR := Az.mk hbox; have HB := Az.mk hb; have HGR : Az (gR = w.heap.size) := ⟨hg⟩; clear hbox hb hg))
  refine (spec_validMods.calls k A0 c0 l0 true _ (Kd.C_below HR0.out HB.out) HC0.out HV.out).mono ?_
  rintro e w1 ⟨rfl, hb⟩
  have HB1 := Az.mk (below_step HB.out hb)
  have HBR1 := Az.mk (blk_below HBR.out hb)
  clear hb HB HBR
  go_wp2_with fail
  refine (spec_validIndices.calls k A1 c1 l1 _ false _ (Kd.C_below HR1.out HB1.out) HC1.out HVI.out).mono ?_
  rintro e w2 ⟨rfl, hd⟩
  have n0_ := Az.mk (below_step HB1.out hd.below)
  have n1_ := Az.mk (blk_below HBR1.out hd.below)
  clear hd HB1 HBR1
  have HB1 := n0_
  have HBR1 := n1_
  clear n0_ n1_
  have hq0 : w2.cell? ⟨gR, 0, none⟩ = some (.slice none 0 0) := (bC HBR1.out 0).trans rfl
  have hq1 : w2.cell? ⟨gR, 1, none⟩ = some (.slice none 0 0) := (bC HBR1.out 1).trans rfl
  have hq2 : w2.cell? ⟨gR, 2, none⟩ = some (.slice none 0 0) := (bC HBR1.out 2).trans rfl
  have hq3 : w2.cell? ⟨gR, 3, none⟩ = some (.slice none 0 0) := (bC HBR1.out 3).trans rfl
  have hq4 : w2.cell? ⟨gR, 4, none⟩ = some (.slice none 0 0) := (bC HBR1.out 4).trans rfl
  have hqf : ∀ j, w2.frozen? ⟨gR, j, none⟩ = false := fun j => bF HBR1.out j
  go_wp2_with fail
  refine bodyPost_ret (results_cell_row rfl _ _ gR 48 #[.slice none 0 0, .slice none 0 0, .slice none 0 0, .slice none 0 0, .slice none 0 0] (0, 0) _ rfl (put5 HBR1.out) Try.underlying48 rfl (by kernel_rfl)) rfl ?_
  exact five_nil HB1.out (by have := HGR.out; omega)
 | true =>
 rw [if_pos rfl] at h
 split at h
 ·rename_i hm
  have HM := Az.mk hm
  have H := Az.mk h
  clear hm h
  go_enter Try.func26, Try.ntmps26
  go_wp2_with (first | ((with_reducible refine gate_dst (N := 4) rfl ?_); refine box_event ?hg (N := 4) ?hd (cs := #[.slice none 0 0, .slice none 0 0, .slice none 0 0, .slice none 0 0, .slice none 0 0]) (t := 48) ?hr ?_; (case hd => rfl); (case hg => rfl); (case hr => first | (go_simp; done) | (go_simp; rfl)); intro gR hg wA hbox hb; have HBR := Az.mk hbox; have HB := Az.mk hb; have HGR : Az (gR = w.heap.size) := ⟨hg⟩; clear hbox hb hg))
  refine (spec_validMods.calls k A0 c0 l0 true _ (Kd.C_below HR0.out HB.out) HC0.out HV.out).mono ?_
  rintro e w1 ⟨rfl, hb⟩
  have HB1 := Az.mk (below_step HB.out hb)
  have HBR1 := Az.mk (blk_below HBR.out hb)
  clear hb HB HBR
  go_wp2_with fail
  refine (spec_validIndices.calls k A1 c1 l1 _ true _ (Kd.C_below HR1.out HB1.out) HC1.out HVI.out).mono ?_
  rintro e w2 ⟨rfl, hd⟩
  have n0_ := Az.mk (below_step HB1.out hd.below)
  have n1_ := Az.mk (blk_below HBR1.out hd.below)
  clear hd HB1 HBR1
  have HB1 := n0_
  have HBR1 := n1_
  clear n0_ n1_
  go_wp2_with fail
  refine (sp_imported decT dec_spec k A0 c0 l0 A1 c1 l1 r1 r2 r3 r4 r5 _ (Kd.C_below HR0.out HB1.out) (Kd.C_below HR1.out HB1.out) HM.out H.out).mono ?_
  rintro e w3 ⟨v0, v1, v2, v3, v4, rfl, h0, h1, h2, h3, h4, hb⟩
  obtain ⟨X0, Y0, e0⟩ := Kd.R_slice h0
  subst e0
  obtain ⟨X1, Y1, e1⟩ := Kd.R_slice h1
  subst e1
  obtain ⟨X2, Y2, e2⟩ := Kd.R_slice h2
  subst e2
  obtain ⟨X3, Y3, e3⟩ := Kd.R_slice h3
  subst e3
  obtain ⟨X4, Y4, e4⟩ := Kd.R_slice h4
  subst e4
  have H0 := Az.mk h0
  have H1 := Az.mk h1
  have H2 := Az.mk h2
  have H3 := Az.mk h3
  have H4 := Az.mk h4
  have HLE := Az.mk HB1.out.size
  have n0_ := Az.mk (below_step HB1.out hb)
  have n1_ := Az.mk (blk_below HBR1.out hb)
  clear hb HB1 HBR1 h0 h1 h2 h3 h4
  have HB1 := n0_
  have HBR1 := n1_
  clear n0_ n1_
  have hq0 : w3.cell? ⟨gR, 0, none⟩ = some (.slice none 0 0) := (bC HBR1.out 0).trans rfl
  have hq1 : w3.cell? ⟨gR, 1, none⟩ = some (.slice none 0 0) := (bC HBR1.out 1).trans rfl
  have hq2 : w3.cell? ⟨gR, 2, none⟩ = some (.slice none 0 0) := (bC HBR1.out 2).trans rfl
  have hq3 : w3.cell? ⟨gR, 3, none⟩ = some (.slice none 0 0) := (bC HBR1.out 3).trans rfl
  have hq4 : w3.cell? ⟨gR, 4, none⟩ = some (.slice none 0 0) := (bC HBR1.out 4).trans rfl
  have hqf : ∀ j, w3.frozen? ⟨gR, j, none⟩ = false := fun j => bF HBR1.out j
  go_wp2_with fail
  refine bodyPost_ret (results_cell_row rfl _ _ gR 48 #[.slice X0 r1.length Y0, .slice X1 r2.length Y1, .slice X2 r3.length Y2, .slice X3 r4.length Y3, .slice X4 r5.length Y4] (0, 0) _ rfl (put5 HBR1.out) Try.underlying48 rfl (by kernel_rfl)) rfl ?_
  have hge : w.heap.size ≤ gR := by have := HGR.out; omega
  exact ⟨_, _, _, _, _, rfl, farG HBR1.out H0.out HLE.out (by decide), farG HBR1.out H1.out HLE.out (by decide), farG HBR1.out H2.out HLE.out (by decide), farG HBR1.out H3.out HLE.out (by decide), farG HBR1.out H4.out HLE.out (by decide),
   bS (bS (bS (bS (bS HB1.out hge) hge) hge) hge) hge⟩
 ·cases h
theorem spec_ImportRun.calls (k : Nat) (A0 : Option Addr) (c0 : Nat) (l0 : List S72) (A1 : Option Addr) (c1 : Nat) (l1 : List Int) (r1 r2 r3 : List Int) (r4 : List ByteArray) (r5 : List Int) (w : World) (hr0 : Kd.C k72 w A0 l0.length l0) (hc0 : l0.length ≤ c0) (hr1 : Kd.C (Kd.int .i64) w A1 l1.length l1) (hc1 : l1.length ≤ c1) (h : spec_ImportRun.f k l0 l1 = some (r1, r2, r3, r4, r5)) :
  Calls Try.prog 26 #[.slice A0 l0.length c0, .slice A1 l1.length c1] w fun e w' => ∃ v0 v1 v2 v3 v4 : Value, e = .returned (.agg #[v0, v1, v2, v3, v4]) ∧
   Kd.R (Kd.int .i64) 3 w' w.heap.size (fun k => some k ≠ v1.ownBlock ∧ some k ≠ v2.ownBlock ∧ some k ≠ v4.ownBlock) v0 r1 ∧ Kd.R (Kd.int .i64) 3 w' w.heap.size (fun k => some k ≠ v0.ownBlock ∧ some k ≠ v2.ownBlock ∧ some k ≠ v4.ownBlock) v1 r2 ∧
   Kd.R (Kd.int .i64) 3 w' w.heap.size (fun k => some k ≠ v0.ownBlock ∧ some k ≠ v1.ownBlock ∧ some k ≠ v4.ownBlock) v2 r3 ∧ Kd.R Kd.string 9 w' w.heap.size (fun _ => True) v3 r4 ∧
   Kd.R (Kd.int .i64) 3 w' w.heap.size (fun k => some k ≠ v0.ownBlock ∧ some k ≠ v1.ownBlock ∧ some k ≠ v2.ownBlock) v4 r5 ∧ Below w.heap.size w w' :=
 spec_ImportRun.five k A0 c0 l0 A1 c1 l1 r1 r2 r3 r4 r5 w hr0 hc0 hr1 hc1 h
end Go.Proofs.Ytehhhlhedmfdiaa.PFnImportOrder
end
section
namespace Go.Proofs.Ytehhhlhedmfdiaa.PFnImportOrder
open Go.RowKit Go.Proofs.Yz0.PrintWords Go.Proofs.Yz0.PrintLast Go.Proofs.Yz0.PrintMore
set_option linter.unusedVariables false
set_option linter.unusedSimpArgs false
theorem info140 : (Try.prog.info? 140).map (fun i => (i.zero, i.size, i.bytes)) = some (some (.map none), 1, 8) := by kernel_rfl
section
variable {dec : Int → ByteArray} {M : List S72} {A0 : Option Addr} {c0 : Nat} {w0 : World} {gI : Nat} {uf us un : Value} {fa : List Int}
theorem im_steps (hdec : ∀ v, 0 ≤ v → v ≤ 1000000 → ∃ k, impl_decimal.f k v = some (dec v)) (L : Int → IS → Option (Bool × IS)) (hL : ImLoads M A0 c0 w0 gI uf us un fa L) : ImSteps M A0 c0 w0 gI uf us un fa (stp dec L M.length) := by
 intro i x s b s' W h hR
 obtain ⟨f0, f1, f2⟩ := x
 unfold stp at h
 dsimp only at h ⊢
 split at h
 ·rename_i e; subst e
  split at h
  ·exact im_step1 L hL i f1 f2 s b s' W h hR
  ·cases h
 split at h
 ·rename_i e; subst e
  split at h
  ·cases hf : L f1 s with
   | none => rw [hf] at h; cases h
   | some r =>
    obtain ⟨b2, t⟩ := r
    rw [hf] at h
    injection h with h
    injection h with h1 h2
    subst h1 h2
    exact im_step2 L hL i f1 f2 s b2 t W hf hR
  ·cases h
 split at h
 ·rename_i e; subst e
  split at h
  ·rename_i hg
   obtain ⟨⟨g1, g2, g3⟩, g4, ⟨g5, g6⟩, ⟨g7, g8⟩, g9⟩ := hg
   injection h with h
   injection h with h1 h2
   subst h1 h2
   obtain ⟨n, rfl⟩ := Int.eq_ofNat_of_zero_le g7
   exact im_step3 n f1 f2 s W ⟨g1, g2⟩ g3 (by omega) g5 g9 g4 hR
  ·cases h
 split at h
 ·rename_i e; subst e
  split at h
  ·rename_i hg
   obtain ⟨⟨g1, g2, g3⟩, g4, g5⟩ := hg
   obtain ⟨q, rfl⟩ := Int.eq_ofNat_of_zero_le g1
   cases hlk : look (nms s (q : Int)) f2 with
   | none =>
    rw [hlk] at h
    injection h with h
    injection h with h1 h2
    subst h1 h2
    exact im_step4n i q f2 _ W g3 (by omega) g4 hlk hR
   | some v =>
    rw [hlk] at h
    dsimp only at h
    split at h
    ·rename_i hg2
     injection h with h
     injection h with h1 h2
     subst h1 h2
     obtain ⟨k, hk⟩ := hdec v hg2.1.1 hg2.1.2
     exact im_step4s i q f2 s W k v hk hg2.2 g3 (by omega) g4 hlk hR
    ·cases h
  ·cases h
 split at h
 ·rename_i e; subst e
  injection h with h
  injection h with h1 h2
  subst h1 h2
  exact im_step5 i f1 f2 _ W hR
 ·cases h
theorem im_all (hdec : ∀ v, 0 ≤ v → v ≤ 1000000 → ∃ k, impl_decimal.f k v = some (dec v)) (hC : Kd.C k72 w0 A0 M.length M) : ∀ k, ImLoads M A0 c0 w0 gI uf us un fa (ld dec M k) := by
 intro k
 induction k with
 | zero => intro i s b s' W h; cases h
 | succ k ih =>
  intro i s b s' W h hR
  simp only [ld] at h
  split at h
  ·rename_i hg
   obtain ⟨⟨g1, g2⟩, g3, g4⟩ := hg
   obtain ⟨n, rfl⟩ := Int.eq_ofNat_of_zero_le g1
   split at h
   ·rename_i h0
    split at h
    ·rename_i hg2
     cases hr : runs (stp dec (ld dec M k) M.length (n : Int)) (rX M (n : Int)).f0 (ldStart (n : Int) s) with
     | none => rw [hr] at h; cases h
     | some r =>
      obtain ⟨b2, t⟩ := r
      rw [hr] at h
      dsimp only [Option.bind_some] at h
      split at h
      ·rename_i hg3
       injection h with h
       injection h with h1 h2
       subst h1 h2
       exact im_load (stp dec (ld dec M k) M.length) (im_steps hdec _ ih) hC n s W (by omega) g3 g4 h0 hg2.1 hg2.2 b2 t hr hg3.1.1 hg3.1.2 hg3.2.1 hg3.2.2 hR
      ·cases h
    ·cases h
   ·rename_i h0
    injection h with h
    injection h with h1 h2
    subst h1 h2
    exact im_load1 n s W (by omega) g3 h0 hR
  ·cases h
end
theorem mapsI0 (base : Nat) (W : World) (n : Nat) : MapsI base W (List.replicate n none) (List.replicate n []) := by
 refine ⟨by simp, fun i b h => ?_, fun i h => ?_, fun i j b h => ?_⟩
 ·rw [List.getElem?_replicate] at h
  split at h <;> cases h
 ·rw [List.getD_eq_getElem?_getD, List.getElem?_replicate]
  split <;> rfl
 ·rw [List.getElem?_replicate] at h
  split at h <;> cases h
theorem msOk0 (n : Nat) : MsOk (List.replicate n 0) (List.replicate n none) := by
 intro i h
 exact absurd (by rw [List.getD_eq_getElem?_getD, List.getElem?_replicate]; split <;> rfl) h
def impl_ImportRun.f (k : Nat) (M : List S72) (l : List Int) : Option (List Int × List Int × List Int × List ByteArray × List Int) :=
 (impl_ModsOk.f k M).bind fun t => if t = true then (if l.length > 60 then some ([], [], [], [], []) else (impl_indicesOk.f k l (M.length : Int)).bind fun u => if u = true then (if M.length ≤ 1000 then impAll decT M k l else none) else some ([], [], [], [], [])) else some ([], [], [], [], [])
theorem impl_ImportRun.good (k : Nat) (A0 : Option Addr) (c0 : Nat) (M : List S72) (A1 : Option Addr) (c1 : Nat) (l1 : List Int) (r1 r2 r3 : List Int) (r4 : List ByteArray) (r5 : List Int) (w : World)
  (hr0 : Kd.C k72 w A0 M.length M) (hc0 : M.length ≤ c0) (hr1 : Kd.C (Kd.int .i64) w A1 l1.length l1) (hc1 : l1.length ≤ c1) (hv : impl_ModsOk.f k M = some true) (h60 : ¬ l1.length > 60) (hix : impl_indicesOk.f k l1 (M.length : Int) = some true)
  (hm : M.length ≤ 1000) (h : impAll decT M k l1 = some (r1, r2, r3, r4, r5)) :
  Calls Try.prog 24 #[.slice A0 M.length c0, .slice A1 l1.length c1] w (Five w r1 r2 r3 r4 r5) := by
 obtain ⟨⟨s1, fa1⟩, hall, heq⟩ := Option.map_eq_some_iff.1 h
 injection heq with e1 e2
 injection e2 with e2 e3
 injection e3 with e3 e4
 injection e4 with e4 e5
 subst e1 e2 e3 e4 e5
 dsimp only
 have HR0 := Az.mk hr0
 have HC0 := Az.mk hc0
 have HR1 := Az.mk hr1
 have HC1 := Az.mk hc1
 have HML := Az.mk hm
 have HALL := Az.mk hall
 have HV := Az.mk hv
 have HIX := Az.mk hix
 have hu48 := Try.underlying48
 have hu104 := Try.underlying104
 have hm0 : decide ((0 : Int) ≤ (M.length : Int)) = true := decide_eq_true (by omega)
 have h61 : decide ((60 : Int) < (l1.length : Int)) = false := decide_eq_false (by omega)
 have h62 : (60 < l1.length) = False := eq_false (by omega)
 have h63 : (l1.length ≤ 60) = True := eq_true (by omega)
 clear hr0 hc0 hr1 hc1 hm hall h hv hix h60
 go_enter Try.func24, Try.ntmps24
 go_wp2_with (first | ((with_reducible refine gate_dst (N := 4) rfl ?_); refine box_event ?hg (N := 4) ?hd (cs := #[.slice none 0 0, .slice none 0 0, .slice none 0 0, .slice none 0 0, .slice none 0 0]) (t := 48) ?hr ?_; (case hd => rfl); (case hg => rfl); (case hr => first | (go_simp; done) | (go_simp; rfl)); intro gR hg wA hbox hb; have HBR := Az.mk hbox; have HB := Az.mk hb; have HGR : Az (gR = w.heap.size) := ⟨hg⟩; clear hbox hb hg))
 refine (impl_ModsOk.calls k A0 c0 M true _ (Kd.C_below HR0.out HB.out) HC0.out HV.out).mono ?_
 rintro e w1 ⟨rfl, hb⟩
 have HB1 := Az.mk (below_step HB.out hb)
 have HBR1 := Az.mk (blk_below HBR.out hb)
 clear hb HB HBR
 go_wp2_with fail
 refine (impl_indicesOk.calls k A1 c1 l1 _ true _ (Kd.C_below HR1.out HB1.out) HC1.out HIX.out).mono ?_
 rintro e wB ⟨rfl, hd⟩
 have n0_ := Az.mk (below_step HB1.out hd.below)
 have n1_ := Az.mk (blk_below HBR1.out hd.below)
 clear hd HB1 HBR1
 have HB := n0_
 have HBR := n1_
 clear n0_ n1_
 go_wp2_with fail
 refine start_ (n := 11) (S := fun w' => True) (ds := []) #[false, false, false, false, false, false, false, false, false, false, false] (by kernel_rfl) rfl rfl trivial (fun hHeld => ?_)
 have HBA := Az.mk (below_drew (Below.refl wB.heap.size wB))
 clear hHeld
 have hHeld : True := trivial
 generalize World.drew _ = w4 at HBA ⊢
 refine pure_ (i := 0) (N := some 24) (v := ?_) (a' := ?_) #[true, false, false, false, false, false, false, false, false, false, false] rfl rfl (by kernel_rfl) (fun _ _ _ h => h) (Or.inl ⟨by rfl, ?_⟩) ?_ ?_
 rotate_left
 ·intro w'
  go_simp
  with_reducible rfl
 rotate_left
 ·simp only [Act.put, List.setIfInBounds_toArray, List.set_cons_zero, List.set_cons_succ, i64_w, i32_w]
  rfl
 refine pure_ (i := 1) (N := some 25) (v := ?_) (a' := ?_) #[true, true, false, false, false, false, false, false, false, false, false] rfl rfl (by kernel_rfl) (fun _ _ _ h => h) (Or.inl ⟨by rfl, ?_⟩) ?_ ?_
 rotate_left
 ·intro w'
  go_simp
  with_reducible rfl
 rotate_left
 ·simp only [Act.put, List.setIfInBounds_toArray, List.set_cons_zero, List.set_cons_succ, i64_w, i32_w]
  rfl
 refine pure_ (i := 2) (N := some 26) (v := ?_) (a' := ?_) #[true, true, true, false, false, false, false, false, false, false, false] rfl rfl (by kernel_rfl) (fun _ _ _ h => h) (Or.inl ⟨by rfl, ?_⟩) ?_ ?_
 rotate_left
 ·intro w'
  go_simp
  with_reducible rfl
 rotate_left
 ·simp only [Act.put, List.setIfInBounds_toArray, List.set_cons_zero, List.set_cons_succ, i64_w, i32_w]
  rfl
 refine pure_ (i := 4) (N := some 28) (v := ?_) (a' := ?_) #[true, true, true, false, true, false, false, false, false, false, false] rfl rfl (by kernel_rfl) (fun _ _ _ h => h) (Or.inl ⟨by rfl, ?_⟩) ?_ ?_
 rotate_left
 ·intro w'
  go_simp
  with_reducible rfl
 rotate_left
 ·simp only [Act.put, List.setIfInBounds_toArray, List.set_cons_zero, List.set_cons_succ, i64_w, i32_w]
  rfl
 refine pure_ (i := 5) (N := some 29) (v := ?_) (a' := ?_) #[true, true, true, false, true, true, false, false, false, false, false] rfl rfl (by kernel_rfl) (fun _ _ _ h => h) (Or.inl ⟨by rfl, ?_⟩) ?_ ?_
 rotate_left
 ·intro w'
  go_simp
  with_reducible rfl
 rotate_left
 ·simp only [Act.put, List.setIfInBounds_toArray, List.set_cons_zero, List.set_cons_succ, i64_w, i32_w]
  rfl
 refine join_ (σ := (Option Addr × Nat) × (Option Addr × Nat)) 3 #[true, true, true, true, true, true, true, true, false, false, false] (fun s_ => [(27, .slice s_.1.1 M.length s_.1.2), (30, .slice s_.2.1 M.length s_.2.2), (31, .agg #[.slice none 0 0, .slice none 0 0, .slice none 0 0, .slice none 0 0, .slice s_.2.1 M.length s_.2.2])]) (fun s_ w' => Kd.R kmap 140 w' wB.heap.size (fun _ => True) (.slice s_.1.1 M.length s_.1.2) (List.replicate M.length none) ∧ Kd.R (Kd.int .i64) 3 w' wB.heap.size (fun _ => True) (.slice s_.2.1 M.length s_.2.2) (List.replicate M.length (0 : Int)) ∧ Below wB.heap.size wB w') ?_ ?_
 rotate_left
 ·intro hCont
  refine two_ (i := 3) (j := 6) (Ni := some 27) (Nj := some 30) #[true, true, true, true, true, true, false, false, false, false, false] #[true, true, true, false, true, true, true, false, false, false, false] rfl rfl rfl rfl (by kernel_rfl) (by decide) (by decide) (fun K hK => ?_) (fun K hK => ?_)
  ·skip
   refine Kd.R_make_step kmap (w0 := wB) wB.heap.size 140 (by rfl) (N := 27) rfl 102 _ _ rfl (M.length : Int) rfl rfl Try.underlying102 (.map none) 8 info140 rfl (by decide) (by omega) (none : Option Nat) (ok := fun _ => True) (okp := fun _ => True) rfl (fun _ hk => hk) trivial (of_decide_eq_true hm0) ?bd30 HBA.out (below_size HBA.out) ?_
   (case bd30 => have := HML.out; omega)
   intro un w5 ho hb hg_ hnew_
   obtain ⟨gn, cn, e_⟩ := Kd.R_slice ho
   simp only [List.length_replicate, Int.toNat_natCast] at e_
   subst e_
   have n0_ := Az.mk ho
   have n1_ := Az.mk hb
   clear HBA ho hb hg_ hnew_
   have HUN := n0_
   have HBA := n1_
   clear n0_ n1_
   refine hK.out _ _ trivial (fun hHeld => ?_)
   clear hK K
   refine norm_ (a' := ?_) ?_ ?_
   rotate_left
   ·show Act.put _ (some 27) _ = _
    simp only [Act.put, List.setIfInBounds_toArray, List.set_cons_zero, List.set_cons_succ, i64_w, i32_w]
    rfl
   refine one_ (i := 6) (N := some 30) #[true, true, true, true, true, true, true, false, false, false, false] rfl rfl (by kernel_rfl) (by decide) (fun K hK => ?_)
   refine Kd.R_make_step (Kd.int .i64) (w0 := wB) wB.heap.size 3 (by rfl) (N := 30) rfl 35 _ _ rfl (M.length : Int) rfl rfl Try.underlying35 (.int .i64 0) 8 info3 rfl (by decide) (by omega) (0 : Int) (ok := fun _ => True) (okp := fun _ => True) rfl (fun _ hk => hk) trivial (of_decide_eq_true hm0) ?bd61 HBA.out (below_size HBA.out) ?_
   (case bd61 => have := HML.out; omega)
   intro us w6 ho hb hg_ hnew_
   obtain ⟨gs, cs, e_⟩ := Kd.R_slice ho
   simp only [List.length_replicate, Int.toNat_natCast] at e_
   subst e_
   have n0_ := Az.mk ho
   have n1_ := Az.mk hb
   have mHUN_ := Az.mk (Kd.R_grown HUN.out hg_ (by simp))
   clear HBA ho hb hg_ hnew_ HUN
   have HUS := n0_
   have HBA := n1_
   have HUN := mHUN_
   clear n0_ n1_ mHUN_
   refine hK.out _ _ trivial (fun hHeld => ?_)
   clear hK K
   refine norm_ (a' := ?_) ?_ ?_
   rotate_left
   ·show Act.put _ (some 30) _ = _
    simp only [Act.put, List.setIfInBounds_toArray, List.set_cons_zero, List.set_cons_succ, i64_w, i32_w]
    rfl
   refine pure_ (i := 7) (N := some 31) (v := ?_) (a' := ?_) #[true, true, true, true, true, true, true, true, false, false, false] rfl rfl (by kernel_rfl) (fun _ _ _ h => h) (Or.inl ⟨by rfl, ?_⟩) ?_ ?_
   rotate_left
   ·intro w'
    go_simp
    with_reducible rfl
   rotate_left
   ·simp only [Act.put, List.setIfInBounds_toArray, List.set_cons_zero, List.set_cons_succ, i64_w, i32_w]
    rfl
   exact norm_ (by simp only [putAll, Act.put, List.setIfInBounds_toArray, List.set_cons_zero, List.set_cons_succ]) (hCont ((gn, cn), (gs, cs)) _ ⟨HUN.out, HUS.out, HBA.out⟩)
  ·skip
   refine Kd.R_make_step (Kd.int .i64) (w0 := wB) wB.heap.size 3 (by rfl) (N := 30) rfl 35 _ _ rfl (M.length : Int) rfl rfl Try.underlying35 (.int .i64 0) 8 info3 rfl (by decide) (by omega) (0 : Int) (ok := fun _ => True) (okp := fun _ => True) rfl (fun _ hk => hk) trivial (of_decide_eq_true hm0) ?bd60 HBA.out (below_size HBA.out) ?_
   (case bd60 => have := HML.out; omega)
   intro us w5 ho hb hg_ hnew_
   obtain ⟨gs, cs, e_⟩ := Kd.R_slice ho
   simp only [List.length_replicate, Int.toNat_natCast] at e_
   subst e_
   have n0_ := Az.mk ho
   have n1_ := Az.mk hb
   clear HBA ho hb hg_ hnew_
   have HUS := n0_
   have HBA := n1_
   clear n0_ n1_
   refine hK.out _ _ trivial (fun hHeld => ?_)
   clear hK K
   refine norm_ (a' := ?_) ?_ ?_
   rotate_left
   ·show Act.put _ (some 30) _ = _
    simp only [Act.put, List.setIfInBounds_toArray, List.set_cons_zero, List.set_cons_succ, i64_w, i32_w]
    rfl
   refine pure_ (i := 7) (N := some 31) (v := ?_) (a' := ?_) #[true, true, true, false, true, true, true, true, false, false, false] rfl rfl (by kernel_rfl) (fun _ _ _ h => h) (Or.inl ⟨by rfl, ?_⟩) ?_ ?_
   rotate_left
   ·intro w'
    go_simp
    with_reducible rfl
   rotate_left
   ·simp only [Act.put, List.setIfInBounds_toArray, List.set_cons_zero, List.set_cons_succ, i64_w, i32_w]
    rfl
   refine one_ (i := 3) (N := some 27) #[true, true, true, true, true, true, true, true, false, false, false] rfl rfl (by kernel_rfl) (by decide) (fun K hK => ?_)
   refine Kd.R_make_step kmap (w0 := wB) wB.heap.size 140 (by rfl) (N := 27) rfl 102 _ _ rfl (M.length : Int) rfl rfl Try.underlying102 (.map none) 8 info140 rfl (by decide) (by omega) (none : Option Nat) (ok := fun _ => True) (okp := fun _ => True) rfl (fun _ hk => hk) trivial (of_decide_eq_true hm0) ?bd31 HBA.out (below_size HBA.out) ?_
   (case bd31 => have := HML.out; omega)
   intro un w6 ho hb hg_ hnew_
   obtain ⟨gn, cn, e_⟩ := Kd.R_slice ho
   simp only [List.length_replicate, Int.toNat_natCast] at e_
   subst e_
   have n0_ := Az.mk ho
   have n1_ := Az.mk hb
   have mHUS_ := Az.mk (Kd.R_grown HUS.out hg_ (by simp))
   clear HBA ho hb hg_ hnew_ HUS
   have HUN := n0_
   have HBA := n1_
   have HUS := mHUS_
   clear n0_ n1_ mHUS_
   refine hK.out _ _ trivial (fun hHeld => ?_)
   clear hK K
   refine norm_ (a' := ?_) ?_ ?_
   rotate_left
   ·show Act.put _ (some 27) _ = _
    simp only [Act.put, List.setIfInBounds_toArray, List.set_cons_zero, List.set_cons_succ, i64_w, i32_w]
    rfl
   exact norm_ (by simp only [putAll, Act.put, List.setIfInBounds_toArray, List.set_cons_zero, List.set_cons_succ]) (hCont ((gn, cn), (gs, cs)) _ ⟨HUN.out, HUS.out, HBA.out⟩)
 rintro ⟨⟨gn, cn⟩, ⟨gs, cs⟩⟩ w7 ⟨h1, h2, h3⟩
 have hHeld : True := trivial
 dsimp only at h1 h2
 have HUN := Az.mk h1
 have HUS := Az.mk h2
 have HBA := Az.mk h3
 clear h1 h2 h3
 refine norm_ (a' := ?_) ?_ ?_
 rotate_left
 ·simp only [putAll, Act.put, List.setIfInBounds_toArray, List.set_cons_zero, List.set_cons_succ]
  rfl
 refine pure_ (i := 8) (N := some 32) (v := ?_) (a' := ?_) #[true, true, true, true, true, true, true, true, true, false, false] rfl rfl (by kernel_rfl) (fun _ _ _ h => h) (Or.inl ⟨by rfl, ?_⟩) ?_ ?_
 rotate_left
 ·intro w'
  go_simp
  with_reducible rfl
 rotate_left
 ·simp only [Act.put, List.setIfInBounds_toArray, List.set_cons_zero, List.set_cons_succ, i64_w, i32_w]
  rfl
 refine one_ (i := 9) (N := some 33) #[true, true, true, true, true, true, true, true, true, true, false] rfl rfl (by kernel_rfl) (by decide) (fun K hK => ?_)
 refine value_ (w1 := ?_) (v := ?_) (by rfl) rfl ?_ ?_
 rotate_left 2
 ·go_simp
  constructor
  ·rfl
  ·rfl
 refine hK.out _ _ trivial (fun hHeld => ?_)
 clear hK K
 refine norm_ (a' := ?_) ?_ ?_
 rotate_left
 ·show Act.put _ (some 33) _ = _
  simp only [Act.put, List.setIfInBounds_toArray, List.set_cons_zero, List.set_cons_succ, i64_w, i32_w]
  rfl
 refine pure_ (i := 10) (N := some 5) (v := ?_) (a' := ?_) #[true, true, true, true, true, true, true, true, true, true, true] rfl rfl (by kernel_rfl) (fun _ _ _ h => h) (Or.inl ⟨by rfl, ?_⟩) ?_ ?_
 rotate_left
 ·intro w'
  go_simp
  with_reducible rfl
 rotate_left
 ·simp only [Act.put, List.setIfInBounds_toArray, List.set_cons_zero, List.set_cons_succ, i64_w, i32_w]
  rfl
 refine done_ (by kernel_rfl) ?_
 have HBI := Az.mk (blk_new w7 (.cells #[.slice A0 M.length c0, .slice gn M.length cn, .slice none 0 0, .slice none 0 0, .slice none 0 0, .slice none 0 0, .slice gs M.length cs] 104 (0, 0)))
 have n0_ := Az.mk (bal HBA.out (.cells #[.slice A0 M.length c0, .slice gn M.length cn, .slice none 0 0, .slice none 0 0, .slice none 0 0, .slice none 0 0, .slice gs M.length cs] 104 (0, 0)))
 have n1_ := Az.mk (Kd.R_alloc HUN.out (.cells #[.slice A0 M.length c0, .slice gn M.length cn, .slice none 0 0, .slice none 0 0, .slice none 0 0, .slice none 0 0, .slice gs M.length cs] 104 (0, 0)))
 have n2_ := Az.mk (Kd.R_alloc HUS.out (.cells #[.slice A0 M.length c0, .slice gn M.length cn, .slice none 0 0, .slice none 0 0, .slice none 0 0, .slice none 0 0, .slice gs M.length cs] 104 (0, 0)))
 have HGI : Az (wB.heap.size ≤ w7.heap.size) := ⟨below_size HBA.out⟩
 have HI : Az (ImI wB (w7.alloc (.cells #[.slice A0 M.length c0, .slice gn M.length cn, .slice none 0 0, .slice none 0 0, .slice none 0 0, .slice none 0 0, .slice gs M.length cs] 104 (0, 0))) w7.heap.size (.slice A0 M.length c0) (.slice none 0 0) (.slice none 0 0) (.slice none 0 0) (.slice none 0 0) (.slice gs M.length cs) (.slice gn M.length cn) [] [] [] [] (List.replicate M.length 0) (List.replicate M.length none) (List.replicate M.length [])) :=
  ⟨⟨Kd.R_nil _ _ _ _ _, Kd.R_nil _ _ _ _ _, Kd.R_nil _ _ _ _ _, Kd.R_mono n2_.out (fun _ _ => by simp [Value.ownBlock]), Kd.R_nil _ _ _ _ _, n1_.out, mapsI0 _ _ _, HBI.out, n0_.out, HGI.out⟩⟩
 clear n0_ n1_ n2_ HBI HUN HUS HBA hHeld
 have HR1A := Az.mk (Kd.C_below HR1.out HB.out)
 have HR0A := Az.mk (Kd.C_below HR0.out HB.out)
 have HLM := Az.mk (Kd.C_max HR1.out)
 obtain ⟨gI, hgI⟩ : ∃ g, g = w7.heap.size := ⟨_, rfl⟩
 rw [← hgI] at HI ⊢
 clear HR0 HR1 hgI HGI
 generalize World.alloc _ _ = w8 at HI ⊢
 go_wp2_with fail
 go_loopg [36] (l1.length + 1) (fun kq v36 w' => ∃ (j : Nat) (t : IS) (fa : List Int) (uf : Value), v36 = .int .i64 (j : Int) ∧ Az (j + kq = l1.length + 1 ∧ j ≤ l1.length) ∧ Az (ldAll decT M k (l1.drop j) t fa = some (s1, fa1)) ∧ Az (ImR wB w' gI (.slice A0 M.length c0) uf (.slice gs M.length cs) (.slice gn M.length cn) fa t))
 case atStart => exact ⟨0, is0 M.length, [], _, rfl, ⟨by omega, by omega⟩, ⟨by simpa using HALL.out⟩, ⟨⟨_, _, _, _, HI.out, msOk0 M.length⟩⟩⟩
 case round =>
  clear HI HALL
  obtain ⟨j, t, fa, uf, rfl, HJ, HA, HS⟩ := hrel
  by_cases hj : j < l1.length
  ·have hj1 : decide ((j : Int) < (l1.length : Int)) = true := decide_eq_true (by omega)
   have hj2 : (j < l1.length) = True := eq_true hj
   obtain ⟨ad1, e1, hx⟩ := Kd.at_int HR1A.out (j : Int) (by omega) (by omega)
   subst e1
   have HBW : Az (Below wB.heap.size wB wr) := ⟨by obtain ⟨_, _, _, _, hI, _⟩ := HS.out; exact hI.be⟩
   have HX := Az.mk hx
   replace hx : wr.cell? (ad1.add j) = some (.int .i64 (rd l1 (j : Int))) := (HBW.out.cell (World.block_lt_of_cell? wB _ hx)).trans hx
   have hw := HA.out
   rw [rdI_drop hj, ldAll] at hw
   have hwr : wrap64 ((j : Int) + 1) = ((j + 1 : Nat) : Int) := by have := HLM.out; unfold wrap64; omega
   clear HA
   cases hf : ld decT M k (rd l1 (j : Int)) t with
   | none => rw [hf] at hw; cases hw
   | some r =>
    obtain ⟨b2, t2⟩ := r
    rw [hf] at hw
    dsimp only [Option.bind_some] at hw
    have HFF := Az.mk hf
    have HJL := Az.mk hj
    have HWR := Az.mk hwr
    clear hf hj hwr
    cases b2 with
    | true =>
     have HR := Az.mk hw
     clear hw
     go_wp2_with fail
     refine (im_all dec_impl HR0A.out k _ t true t2 _ HFF.out HS.out).mono ?_
     rintro e w5 ⟨rfl, hR2⟩
     have HS2 := Az.mk hR2
     clear hR2 hx
     go_wp2_with fail
     go_roundg (gk - 1)
     case measure => have := HJ.out; omega
     case rel => exact ⟨j + 1, t2, fa, uf, (by first | rfl | (rw [HWR.out]) | (simp [HWR.out])), ⟨by have := HJ.out; omega, by have := HJL.out; omega⟩, HR, HS2⟩
    | false =>
     rw [if_neg (by decide)] at hw
     split at hw
     ·rename_i hfl
      have HR := Az.mk hw
      have HFL := Az.mk hfl
      clear hw hfl
      go_wp2_with fail
      refine (im_all dec_impl HR0A.out k _ t false t2 _ HFF.out HS.out).mono ?_
      rintro e w5 ⟨rfl, hR2⟩
      obtain ⟨ub, uw, ur, mb, hI, hV⟩ := hR2
      have HI := Az.mk hI
      have HV2 := Az.mk hV
      obtain ⟨hz0, hz1, hz2, hz3, hz4, hz5, hz6, hzf⟩ := hI.cells
      clear hI hV hx HS
      go_wp2_with (first | ((with_reducible refine gate_builtin (b := .append) (xs := #[.tmp 49, .tmp 51]) rfl ?_); at_builtin; refine Kd.R_append (Kd.int .i64) (w0 := wB) wB.heap.size rfl (.tmp 49) (.tmp 51) 35 3 (.int .i64 0) 8 rfl Try.underlying35 info3 rfl (by decide) (by omega) uf fa (rd l1 (j : Int)) [.int .i64 (rd l1 (j : Int))] (fun k => some k ≠ ub.ownBlock ∧ some k ≠ uw.ownBlock ∧ some k ≠ Value.ownBlock (.slice gs M.length cs)) (fun _ => False) rfl rfl ?aP (fun _ hk => hk.elim) ?aF ?aO ?aB ?aS ?aL ?_; (case aP => exact rfl); (case aB => exact HI.out.be); (case aF => exact (fun k_ hk => ⟨Kd.fresh' (Kd.R_lt HI.out.rb) k_ hk, Kd.fresh' (Kd.R_lt HI.out.rw_) k_ hk, Kd.fresh' (Kd.R_lt HI.out.rs) k_ hk⟩)); (case aO => exact HI.out.rf); (case aS => exact below_size HI.out.be); (case aL => have := HFL.out; unfold IB at this; omega); intro v1 w9 ho hb hg hat; obtain ⟨A1_, c1_, e_⟩ := Kd.R_slice ho; simp only [List.length_append, List.length_cons, List.length_nil, Nat.zero_add] at e_; subst e_; obtain ⟨hI_, hy0, hyf⟩ := ImI.putF HI.out ho hb hg hat; have n0_ := Az.mk hI_; clear HI hI_ ho hb hg hat hz0 hz1 hz2 hz3 hz4 hz5 hz6 hzf; have HI := n0_; clear n0_))
      clear hy0 hyf
      go_roundg (gk - 1)
      case measure => have := HJ.out; omega
      case rel => exact ⟨j + 1, t2, fa ++ [rd l1 (j : Int)], _, (by first | rfl | (rw [HWR.out]) | (simp [HWR.out])), ⟨by have := HJ.out; omega, by have := HJL.out; omega⟩, HR, ⟨_, _, _, _, HI.out, HV2.out⟩⟩
     ·cases hw
  ·have hj1 : decide ((j : Int) < (l1.length : Int)) = false := decide_eq_false (by omega)
   have hj2 : (j < l1.length) = False := eq_false hj
   have hw := HA.out
   rw [List.drop_of_length_le (by omega), ldAll] at hw
   injection hw with hw
   injection hw with ha hs
   subst ha hs
   obtain ⟨ub, uw, ur, mb, hI, hV⟩ := HS.out
   obtain ⟨Xb, Yb, eb⟩ := Kd.R_slice hI.rb
   subst eb
   obtain ⟨Xw, Yw, ew⟩ := Kd.R_slice hI.rw_
   subst ew
   obtain ⟨Xf, Yf, ef⟩ := Kd.R_slice hI.rf
   subst ef
   obtain ⟨Xr, Yr, er⟩ := Kd.R_slice hI.rr
   subst er
   obtain ⟨hz0, hz1, hz2, hz3, hz4, hz5, hz6, hzf⟩ := hI.cells
   have HI := Az.mk hI
   have HBR2 := Az.mk ((hI.be.block gR (blk_lt HBR.out)).trans HBR.out)
   have hq0 : wr.cell? ⟨gR, 0, none⟩ = some (.slice none 0 0) := (bC HBR2.out 0).trans rfl
   have hq1 : wr.cell? ⟨gR, 1, none⟩ = some (.slice none 0 0) := (bC HBR2.out 1).trans rfl
   have hq2 : wr.cell? ⟨gR, 2, none⟩ = some (.slice none 0 0) := (bC HBR2.out 2).trans rfl
   have hq3 : wr.cell? ⟨gR, 3, none⟩ = some (.slice none 0 0) := (bC HBR2.out 3).trans rfl
   have hq4 : wr.cell? ⟨gR, 4, none⟩ = some (.slice none 0 0) := (bC HBR2.out 4).trans rfl
   have hqf : ∀ j, wr.frozen? ⟨gR, j, none⟩ = false := fun j => bF HBR2.out j
   clear hI hV HS HA
   go_wp2_with fail
   refine bodyPost_ret (results_cell_row rfl _ _ gR 48 #[.slice Xb t.bg.length Yb, .slice Xw t.wh.length Yw, .slice Xf fa.length Yf, .slice Xr t.re.length Yr, .slice gs M.length cs] (0, 0) _ rfl (put5 HBR2.out) Try.underlying48 rfl (by kernel_rfl)) rfl ?_
   have hle : w.heap.size ≤ wB.heap.size := HB.out.size
   have hbw := below_step HB.out HI.out.be
   have hge : w.heap.size ≤ gR := by have := HGR.out; omega
   exact ⟨_, _, _, _, _, rfl, farG HBR2.out HI.out.rb hle (by decide), farG HBR2.out HI.out.rw_ hle (by decide), farG HBR2.out HI.out.rf hle (by decide), farG HBR2.out HI.out.rr hle (by decide), farG HBR2.out HI.out.rs hle (by decide),
    bS (bS (bS (bS (bS hbw hge) hge) hge) hge) hge⟩
theorem impl_ImportRun.bad (k : Nat) (A0 : Option Addr) (c0 : Nat) (M : List S72) (A1 : Option Addr) (c1 : Nat) (l1 : List Int) (w : World)
  (hr0 : Kd.C k72 w A0 M.length M) (hc0 : M.length ≤ c0) (hr1 : Kd.C (Kd.int .i64) w A1 l1.length l1) (hc1 : l1.length ≤ c1) (hv : impl_ModsOk.f k M = some false ∨ impl_ModsOk.f k M = some true ∧ (l1.length > 60 ∨ ¬ l1.length > 60 ∧ impl_indicesOk.f k l1 (M.length : Int) = some false)) :
  Calls Try.prog 24 #[.slice A0 M.length c0, .slice A1 l1.length c1] w (Five w [] [] [] [] []) := by
 have HR0 := Az.mk hr0
 have HC0 := Az.mk hc0
 have HR1 := Az.mk hr1
 have HC1 := Az.mk hc1
 have hu48 := Try.underlying48
 clear hr0 hc0 hr1 hc1
 rcases hv with hv | ⟨hv, h60 | ⟨h60, hix⟩⟩
 ·have HV := Az.mk hv
  clear hv
  go_enter Try.func24, Try.ntmps24
  go_wp2_with (first | ((with_reducible refine gate_dst (N := 4) rfl ?_); refine box_event ?hg (N := 4) ?hd (cs := #[.slice none 0 0, .slice none 0 0, .slice none 0 0, .slice none 0 0, .slice none 0 0]) (t := 48) ?hr ?_; (case hd => rfl); (case hg => rfl); (case hr => first | (go_simp; done) | (go_simp; rfl)); intro gR hg wA hbox hb; have HBR := Az.mk hbox; have HB := Az.mk hb; have HGR : Az (gR = w.heap.size) := ⟨hg⟩; clear hbox hb hg))
  refine (impl_ModsOk.calls k A0 c0 M false _ (Kd.C_below HR0.out HB.out) HC0.out HV.out).mono ?_
  rintro e w1 ⟨rfl, hb⟩
  have HB1 := Az.mk (below_step HB.out hb)
  have HBR1 := Az.mk (blk_below HBR.out hb)
  clear hb HB HBR
  have hq0 : w1.cell? ⟨gR, 0, none⟩ = some (.slice none 0 0) := (bC HBR1.out 0).trans rfl
  have hq1 : w1.cell? ⟨gR, 1, none⟩ = some (.slice none 0 0) := (bC HBR1.out 1).trans rfl
  have hq2 : w1.cell? ⟨gR, 2, none⟩ = some (.slice none 0 0) := (bC HBR1.out 2).trans rfl
  have hq3 : w1.cell? ⟨gR, 3, none⟩ = some (.slice none 0 0) := (bC HBR1.out 3).trans rfl
  have hq4 : w1.cell? ⟨gR, 4, none⟩ = some (.slice none 0 0) := (bC HBR1.out 4).trans rfl
  have hqf : ∀ j, w1.frozen? ⟨gR, j, none⟩ = false := fun j => bF HBR1.out j
  go_wp2_with fail
  refine bodyPost_ret (results_cell_row rfl _ _ gR 48 #[.slice none 0 0, .slice none 0 0, .slice none 0 0, .slice none 0 0, .slice none 0 0] (0, 0) _ rfl (put5 HBR1.out) Try.underlying48 rfl (by kernel_rfl)) rfl ?_
  exact five_nil HB1.out (by have := HGR.out; omega)
 ·have HV := Az.mk hv
  have h61 : decide ((60 : Int) < (l1.length : Int)) = true := decide_eq_true (by omega)
  have h62 : (60 < l1.length) = True := eq_true (by omega)
  clear hv h60
  go_enter Try.func24, Try.ntmps24
  go_wp2_with (first | ((with_reducible refine gate_dst (N := 4) rfl ?_); refine box_event ?hg (N := 4) ?hd (cs := #[.slice none 0 0, .slice none 0 0, .slice none 0 0, .slice none 0 0, .slice none 0 0]) (t := 48) ?hr ?_; (case hd => rfl); (case hg => rfl); (case hr => first | (go_simp; done) | (go_simp; rfl)); intro gR hg wA hbox hb; have HBR := Az.mk hbox; have HB := Az.mk hb; have HGR : Az (gR = w.heap.size) := ⟨hg⟩; clear hbox hb hg))
  refine (impl_ModsOk.calls k A0 c0 M true _ (Kd.C_below HR0.out HB.out) HC0.out HV.out).mono ?_
  rintro e w1 ⟨rfl, hb⟩
  have HB1 := Az.mk (below_step HB.out hb)
  have HBR1 := Az.mk (blk_below HBR.out hb)
  clear hb HB HBR
  have hq0 : w1.cell? ⟨gR, 0, none⟩ = some (.slice none 0 0) := (bC HBR1.out 0).trans rfl
  have hq1 : w1.cell? ⟨gR, 1, none⟩ = some (.slice none 0 0) := (bC HBR1.out 1).trans rfl
  have hq2 : w1.cell? ⟨gR, 2, none⟩ = some (.slice none 0 0) := (bC HBR1.out 2).trans rfl
  have hq3 : w1.cell? ⟨gR, 3, none⟩ = some (.slice none 0 0) := (bC HBR1.out 3).trans rfl
  have hq4 : w1.cell? ⟨gR, 4, none⟩ = some (.slice none 0 0) := (bC HBR1.out 4).trans rfl
  have hqf : ∀ j, w1.frozen? ⟨gR, j, none⟩ = false := fun j => bF HBR1.out j
  go_wp2_with fail
  refine bodyPost_ret (results_cell_row rfl _ _ gR 48 #[.slice none 0 0, .slice none 0 0, .slice none 0 0, .slice none 0 0, .slice none 0 0] (0, 0) _ rfl (put5 HBR1.out) Try.underlying48 rfl (by kernel_rfl)) rfl ?_
  exact five_nil HB1.out (by have := HGR.out; omega)
 ·have HV := Az.mk hv
  have HIX := Az.mk hix
  have h61 : decide ((60 : Int) < (l1.length : Int)) = false := decide_eq_false (by omega)
  have h62 : (60 < l1.length) = False := eq_false (by omega)
  have h63 : (l1.length ≤ 60) = True := eq_true (by omega)
  clear hv h60 hix
  go_enter Try.func24, Try.ntmps24
  go_wp2_with (first | ((with_reducible refine gate_dst (N := 4) rfl ?_); refine box_event ?hg (N := 4) ?hd (cs := #[.slice none 0 0, .slice none 0 0, .slice none 0 0, .slice none 0 0, .slice none 0 0]) (t := 48) ?hr ?_; (case hd => rfl); (case hg => rfl); (case hr => first | (go_simp; done) | (go_simp; rfl)); intro gR hg wA hbox hb; have HBR := Az.mk hbox; have HB := Az.mk hb; have HGR : Az (gR = w.heap.size) := ⟨hg⟩; clear hbox hb hg))
  refine (impl_ModsOk.calls k A0 c0 M true _ (Kd.C_below HR0.out HB.out) HC0.out HV.out).mono ?_
  rintro e w1 ⟨rfl, hb⟩
  have HB1 := Az.mk (below_step HB.out hb)
  have HBR1 := Az.mk (blk_below HBR.out hb)
  clear hb HB HBR
  go_wp2_with fail
  refine (impl_indicesOk.calls k A1 c1 l1 _ false _ (Kd.C_below HR1.out HB1.out) HC1.out HIX.out).mono ?_
  rintro e w2 ⟨rfl, hd⟩
  have n0_ := Az.mk (below_step HB1.out hd.below)
  have n1_ := Az.mk (blk_below HBR1.out hd.below)
  clear hd HB1 HBR1
  have HB1 := n0_
  have HBR1 := n1_
  clear n0_ n1_
  have hq0 : w2.cell? ⟨gR, 0, none⟩ = some (.slice none 0 0) := (bC HBR1.out 0).trans rfl
  have hq1 : w2.cell? ⟨gR, 1, none⟩ = some (.slice none 0 0) := (bC HBR1.out 1).trans rfl
  have hq2 : w2.cell? ⟨gR, 2, none⟩ = some (.slice none 0 0) := (bC HBR1.out 2).trans rfl
  have hq3 : w2.cell? ⟨gR, 3, none⟩ = some (.slice none 0 0) := (bC HBR1.out 3).trans rfl
  have hq4 : w2.cell? ⟨gR, 4, none⟩ = some (.slice none 0 0) := (bC HBR1.out 4).trans rfl
  have hqf : ∀ j, w2.frozen? ⟨gR, j, none⟩ = false := fun j => bF HBR1.out j
  go_wp2_with fail
  refine bodyPost_ret (results_cell_row rfl _ _ gR 48 #[.slice none 0 0, .slice none 0 0, .slice none 0 0, .slice none 0 0, .slice none 0 0] (0, 0) _ rfl (put5 HBR1.out) Try.underlying48 rfl (by kernel_rfl)) rfl ?_
  exact five_nil HB1.out (by have := HGR.out; omega)
end Go.Proofs.Ytehhhlhedmfdiaa.PFnImportOrder
end
section
namespace Go.Proofs.Ytehhhlhedmfdiaa.PFnImportOrder
open Go.RowKit Go.Proofs.Yz0.PrintWords Go.Proofs.Yz0.PrintLast Go.Proofs.Yz0.PrintMore
set_option linter.unusedVariables false
set_option linter.unusedSimpArgs false
theorem impl_ImportRun.five (k : Nat) (A0 : Option Addr) (c0 : Nat) (l0 : List S72) (A1 : Option Addr) (c1 : Nat) (l1 : List Int) (r1 r2 r3 : List Int) (r4 : List ByteArray) (r5 : List Int) (w : World) (hr0 : Kd.C k72 w A0 l0.length l0) (hc0 : l0.length ≤ c0) (hr1 : Kd.C (Kd.int .i64) w A1 l1.length l1) (hc1 : l1.length ≤ c1) (h : impl_ImportRun.f k l0 l1 = some (r1, r2, r3, r4, r5)) :
  Calls Try.prog 24 #[.slice A0 l0.length c0, .slice A1 l1.length c1] w (Five w r1 r2 r3 r4 r5) := by
 unfold impl_ImportRun.f at h
 have nil : ∀ {x1 x2 x3 : List Int} {x4 : List ByteArray} {x5 : List Int}, some (([] : List Int), ([] : List Int), ([] : List Int), ([] : List ByteArray), ([] : List Int)) = some (x1, x2, x3, x4, x5) → x1 = [] ∧ x2 = [] ∧ x3 = [] ∧ x4 = [] ∧ x5 = [] := by
  intro x1 x2 x3 x4 x5 h
  injection h with h
  injection h with e1 e2
  injection e2 with e2 e3
  injection e3 with e3 e4
  injection e4 with e4 e5
  exact ⟨e1.symm, e2.symm, e3.symm, e4.symm, e5.symm⟩
 cases hv : impl_ModsOk.f k l0 with
 | none => rw [hv] at h; cases h
 | some t =>
 rw [hv] at h
 dsimp only [Option.bind_some] at h
 cases t with
 | false =>
  rw [if_neg (by decide)] at h
  obtain ⟨rfl, rfl, rfl, rfl, rfl⟩ := nil h
  exact impl_ImportRun.bad k A0 c0 l0 A1 c1 l1 w hr0 hc0 hr1 hc1 (.inl hv)
 | true =>
 rw [if_pos rfl] at h
 by_cases h60 : l1.length > 60
 ·rw [if_pos h60] at h
  obtain ⟨rfl, rfl, rfl, rfl, rfl⟩ := nil h
  exact impl_ImportRun.bad k A0 c0 l0 A1 c1 l1 w hr0 hc0 hr1 hc1 (.inr ⟨hv, .inl h60⟩)
 rw [if_neg h60] at h
 cases hi : impl_indicesOk.f k l1 (l0.length : Int) with
 | none => rw [hi] at h; cases h
 | some u =>
 rw [hi] at h
 dsimp only [Option.bind_some] at h
 cases u with
 | false =>
  rw [if_neg (by decide)] at h
  obtain ⟨rfl, rfl, rfl, rfl, rfl⟩ := nil h
  exact impl_ImportRun.bad k A0 c0 l0 A1 c1 l1 w hr0 hc0 hr1 hc1 (.inr ⟨hv, .inr ⟨h60, hi⟩⟩)
 | true =>
 rw [if_pos rfl] at h
 split at h
 ·rename_i hm
  exact impl_ImportRun.good k A0 c0 l0 A1 c1 l1 r1 r2 r3 r4 r5 w hr0 hc0 hr1 hc1 hv h60 hi hm h
 ·cases h
theorem impl_ImportRun.calls (k : Nat) (A0 : Option Addr) (c0 : Nat) (l0 : List S72) (A1 : Option Addr) (c1 : Nat) (l1 : List Int) (r1 r2 r3 : List Int) (r4 : List ByteArray) (r5 : List Int) (w : World) (hr0 : Kd.C k72 w A0 l0.length l0) (hc0 : l0.length ≤ c0) (hr1 : Kd.C (Kd.int .i64) w A1 l1.length l1) (hc1 : l1.length ≤ c1) (h : impl_ImportRun.f k l0 l1 = some (r1, r2, r3, r4, r5)) :
  Calls Try.prog 24 #[.slice A0 l0.length c0, .slice A1 l1.length c1] w fun e w' => ∃ v0 v1 v2 v3 v4 : Value, e = .returned (.agg #[v0, v1, v2, v3, v4]) ∧
   Kd.R (Kd.int .i64) 3 w' w.heap.size (fun k => some k ≠ v1.ownBlock ∧ some k ≠ v2.ownBlock ∧ some k ≠ v4.ownBlock) v0 r1 ∧ Kd.R (Kd.int .i64) 3 w' w.heap.size (fun k => some k ≠ v0.ownBlock ∧ some k ≠ v2.ownBlock ∧ some k ≠ v4.ownBlock) v1 r2 ∧
   Kd.R (Kd.int .i64) 3 w' w.heap.size (fun k => some k ≠ v0.ownBlock ∧ some k ≠ v1.ownBlock ∧ some k ≠ v4.ownBlock) v2 r3 ∧ Kd.R Kd.string 9 w' w.heap.size (fun _ => True) v3 r4 ∧
   Kd.R (Kd.int .i64) 3 w' w.heap.size (fun k => some k ≠ v0.ownBlock ∧ some k ≠ v1.ownBlock ∧ some k ≠ v2.ownBlock) v4 r5 ∧ Below w.heap.size w w' :=
 impl_ImportRun.five k A0 c0 l0 A1 c1 l1 r1 r2 r3 r4 r5 w hr0 hc0 hr1 hc1 h
end Go.Proofs.Ytehhhlhedmfdiaa.PFnImportOrder
end
