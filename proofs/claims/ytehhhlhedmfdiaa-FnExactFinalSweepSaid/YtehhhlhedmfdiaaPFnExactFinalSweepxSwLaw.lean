/- FnExactFinalSweep: sizes, copies, comparisons, marks; all that the law's walk asks. -/
import Derived.Test.YtehhhlhedmfdiaaPFnExactFinalSweepxSame
import Derived.Test.YtehhhlhedmfdiaaPFnExactFinalSweepxInts
import Derived.Test.YtehhhlhedmfdiaaPFnExactFinalSweepxLaw
namespace Go.Proofs.Ytehhhlhedmfdiaa.PFnExactFinalSweep
open Go.RowKit Go.Proofs.YtehhhlhedmfdiaaW.PrintWords Go.Proofs.YtehhhlhedmfdiaaW.PrintLast Go.Proofs.YtehhhlhedmfdiaaW.PrintMore Go.Proofs.Ytehhhlhedmfdiaa.Plain
set_option linter.unusedVariables false
theorem kp64 {x : Int} (h0 : -9223372036854775808 ≤ x) (h1 : x ≤ 9223372036854775807) : wrap64 x = x := by unfold wrap64; omega
theorem szIntSS_from (l : List (List Int)) (hl : l.length ≤ 1048576) (hi : ∀ x ∈ l, x.length ≤ 9223372036854775807) : ∀ (d i : Nat) (x : Int), i ≤ l.length → l.length - i = d → 0 ≤ x → x ≤ 1048576 →
    ∃ t, Ev (fun k => laws_szIntSS.l0 k l x (i : Int)) t ∧ t ≤ 1048576 ∧ (0 ≤ t → ∀ x ∈ l.drop i, x.length ≤ 1048576) := by
  intro d
  induction d with
  | zero =>
    intro i x hil hd h0 h1
    refine ⟨x, Ev.step (f := fun _ => some x) (fun k => by simp only [laws_szIntSS.l0]; rw [if_neg (by omega)]) (Ev.now _), h1, fun _ => ?_⟩
    rw [List.drop_eq_nil_of_le (by omega)]; simp
  | succ d ih =>
    intro i x hil hd h0 h1
    have hm : rd_L1 l (i : Int) ∈ l := List.mem_of_mem_drop (i := i) (by rw [partsL (show i < l.length by omega)]; exact List.mem_cons_self)
    have hb := hi _ hm
    have hw : wrap64 (x - ((rd_L1 l (i : Int)).length : Int)) = x - ((rd_L1 l (i : Int)).length : Int) := kp64 (by omega) (by omega)
    by_cases hlt : x - ((rd_L1 l (i : Int)).length : Int) < 0
    · refine ⟨-1, Ev.step (f := fun _ => some (-1)) (fun k => ?_) (Ev.now _), by omega, fun h => by omega⟩
      simp only [laws_szIntSS.l0]
      rw [if_pos (by omega), if_pos (by omega)]
      unfold laws_szIntS.f
      rw [hw, if_pos hlt]
      rfl
    · obtain ⟨t, e, ht, hts⟩ := ih (i + 1) (x - ((rd_L1 l (i : Int)).length : Int)) (by omega) (by omega) (by omega) (by omega)
      refine ⟨t, Ev.step (fun k => ?_) e, ht, fun h => ?_⟩
      · simp only [laws_szIntSS.l0]
        rw [if_pos (by omega), if_pos (by omega)]
        unfold laws_szIntS.f
        rw [hw, if_neg hlt]
        simp only [Option.bind_some]
        rw [if_neg hlt, wn (by omega) (by omega)]; rfl
      · rw [partsL (show i < l.length by omega)]
        intro y hy
        rcases List.mem_cons.1 hy with rfl | hy
        · omega
        · exact hts h y hy
theorem szIntSS_ev (l : List (List Int)) (hl : l.length ≤ 9223372036854775807) (hi : ∀ x ∈ l, x.length ≤ 9223372036854775807) :
    ∃ t, Ev (fun k => laws_szIntSS.f k l 1048576) t ∧ t ≤ 1048576 ∧ (0 ≤ t → l.length ≤ 1048576 ∧ ∀ x ∈ l, x.length ≤ 1048576) := by
  have hw : wrap64 (1048576 - (l.length : Int)) = 1048576 - (l.length : Int) := kp64 (by omega) (by omega)
  by_cases h : 1048576 - (l.length : Int) < 0
  · exact ⟨-1, Ev.congr (f := fun _ => some (-1)) (fun k => by unfold laws_szIntSS.f; rw [hw, if_pos h]) (Ev.now _), by omega, fun h => by omega⟩
  · obtain ⟨t, e, ht, hts⟩ := szIntSS_from l (by omega) hi l.length 0 (1048576 - (l.length : Int)) (by omega) (by omega) (by omega) (by omega)
    exact ⟨t, Ev.congr (fun k => by unfold laws_szIntSS.f; rw [hw, if_neg h]; rfl) e, ht, fun h2 => ⟨by omega, hts h2⟩⟩
theorem szFinalS_ev (l : List S112) (hl : l.length ≤ 9223372036854775807) (x : Int) (h0 : 0 ≤ x) (h1 : x ≤ 1048576) : ∃ t, Ev (fun k => laws_szFinalS.f l x) t ∧ (0 ≤ t → l.length ≤ 1048576) := by
  have hw : wrap64 (x - (l.length : Int)) = x - (l.length : Int) := kp64 (by omega) (by omega)
  unfold laws_szFinalS.f
  rw [hw]
  by_cases h : x - (l.length : Int) < 0
  · exact ⟨-1, Ev.yes h (Ev.now _), fun h => by omega⟩
  · exact ⟨_, Ev.no h (Ev.now _), fun _ => by omega⟩

theorem set_parts {α : Type} {l m : List α} {i : Nat} (hi : i < m.length) (h : l = m.take i ++ l.drop i) (hl : l.length = m.length) (x : α) (hx : m[i]? = some x) : l.set i x = m.take (i + 1) ++ (l.set i x).drop (i + 1) := by
  have e1 : m.take (i + 1) = m.take i ++ [x] := by rw [List.take_add_one, hx]; rfl
  have e2 : (l.set i x).take i = m.take i := by
    rw [List.take_set_of_le (Nat.le_refl _)]
    have : l.take i = (m.take i ++ l.drop i).take i := by rw [← h]
    rw [this, List.take_left' (by rw [List.length_take]; omega)]
  have e3 : (l.set i x).drop i = x :: (l.set i x).drop (i + 1) := by
    rw [List.drop_eq_getElem_cons (by rw [List.length_set]; omega), List.getElem_set_self]
  conv => lhs; rw [← List.take_append_drop i (l.set i x)]
  rw [e2, e3, e1, List.append_assoc]; rfl
theorem all_taken {α : Type} {l m : List α} (h : l = m.take m.length ++ l.drop m.length) (hl : l.length = m.length) : l = m := by
  rw [h, List.take_of_length_le (Nat.le_refl _), List.drop_eq_nil_of_le (by omega), List.append_nil]
theorem toIntS_from (m : List Int) (hm : m.length ≤ 1048576) : ∀ (d i : Nat) (l : List Int), i ≤ m.length → m.length - i = d → l.length = m.length → l = m.take i ++ l.drop i → Ev (fun k => laws_toIntS.l0 k m l (i : Int)) m := by
  intro d
  induction d with
  | zero =>
    intro i l hi hd hl h
    obtain rfl : i = m.length := by omega
    have : l = m := all_taken h hl
    subst this
    exact Ev.step (f := fun _ => some l) (fun k => by simp only [laws_toIntS.l0]; rw [if_neg (by omega)]) (Ev.now _)
  | succ d ih =>
    intro i l hi hd hl h
    have hx : m[i]? = some (rd m (i : Int)) := by unfold rd; rw [show ((i : Int)).toNat = i from rfl, List.getD_eq_getElem?_getD, List.getElem?_eq_getElem (show i < m.length by omega)]; rfl
    refine Ev.step (fun k => ?_) (ih (i + 1) (l.set i (rd m (i : Int))) (by omega) (by omega) (by rw [List.length_set]; exact hl) (set_parts (by omega) h hl _ hx))
    simp only [laws_toIntS.l0]
    rw [if_pos (by omega), if_pos (by omega), if_pos (by omega), wn (by omega) (by omega)]; rfl
theorem toIntS_ev (m : List Int) (hm : m.length ≤ 1048576) : Ev (fun k => laws_toIntS.f k m) m := by
  refine Ev.congr (fun k => ?_) (toIntS_from m hm m.length 0 (List.replicate m.length 0) (by omega) (by omega) (by simp) (by simp))
  unfold laws_toIntS.f
  rw [if_pos (by omega), if_pos (by omega)]; rfl
theorem toIntSS_from (m : List (List Int)) (hm : m.length ≤ 1048576) (hi2 : ∀ x ∈ m, x.length ≤ 1048576) : ∀ (d i : Nat) (l : List (List Int)), i ≤ m.length → m.length - i = d → l.length = m.length → l = m.take i ++ l.drop i → Ev (fun k => laws_toIntSS.l0 k m l (i : Int)) m := by
  intro d
  induction d with
  | zero =>
    intro i l hi hd hl h
    obtain rfl : i = m.length := by omega
    have : l = m := all_taken h hl
    subst this
    exact Ev.step (f := fun _ => some l) (fun k => by simp only [laws_toIntSS.l0]; rw [if_neg (by omega)]) (Ev.now _)
  | succ d ih =>
    intro i l hi hd hl h
    have hm2 : rd_L1 m (i : Int) ∈ m := List.mem_of_mem_drop (i := i) (by rw [partsL (show i < m.length by omega)]; exact List.mem_cons_self)
    have hx : m[i]? = some (rd_L1 m (i : Int)) := by unfold rd_L1; rw [show ((i : Int)).toNat = i from rfl, List.getD_eq_getElem?_getD, List.getElem?_eq_getElem (show i < m.length by omega)]; rfl
    refine Ev.step (fun k => ?_) (Ev.bind (f := fun k t => if (i : Int) < (l.length : Int) then (laws_toIntSS.l0 k m (l.set ((i : Int)).toNat t) (wrap64 ((i : Int) + 1))) else none) (toIntS_ev (rd_L1 m (i : Int)) (hi2 _ hm2)) (Ev.yes (by omega) (Ev.congr (fun k => ?_) (ih (i + 1) (l.set i (rd_L1 m (i : Int))) (by omega) (by omega) (by rw [List.length_set]; exact hl) (set_parts (by omega) h hl _ hx)))))
    · simp only [laws_toIntSS.l0]
      rw [if_pos (by omega), if_pos (by omega)]
    · rw [wn (by omega) (by omega)]; rfl
theorem toIntSS_ev (m : List (List Int)) (hm : m.length ≤ 1048576) (hi2 : ∀ x ∈ m, x.length ≤ 1048576) : Ev (fun k => laws_toIntSS.f k m) m := by
  refine Ev.congr (fun k => ?_) (toIntSS_from m hm hi2 m.length 0 (List.replicate m.length []) (by omega) (by omega) (by simp) (by simp))
  unfold laws_toIntSS.f
  rw [if_pos (by omega), if_pos (by omega)]; rfl
def conv (x : S112) : S110 := ⟨x.f0, x.f1, x.f2⟩
theorem toFinalS_from (m : List S112) (hm : m.length ≤ 1048576) : ∀ (d i : Nat) (l : List S110), i ≤ m.length → m.length - i = d → l.length = m.length → l = (m.map conv).take i ++ l.drop i → Ev (fun k => laws_toFinalS.l0 k m l (i : Int)) (m.map conv) := by
  intro d
  induction d with
  | zero =>
    intro i l hi hd hl h
    obtain rfl : i = (m.map conv).length := by rw [List.length_map]; omega
    have : l = m.map conv := all_taken h (by rw [List.length_map]; exact hl)
    subst this
    exact Ev.step (f := fun _ => some (m.map conv)) (fun k => by simp only [laws_toFinalS.l0]; rw [if_neg (by rw [List.length_map]; omega)]) (Ev.now _)
  | succ d ih =>
    intro i l hi hd hl h
    have hx : (m.map conv)[i]? = some (conv (rd_T112 m (i : Int))) := by unfold rd_T112; rw [show ((i : Int)).toNat = i from rfl, List.getD_eq_getElem?_getD, List.getElem?_map, List.getElem?_eq_getElem (show i < m.length by omega)]; rfl
    refine Ev.step (fun k => ?_) (ih (i + 1) (l.set i (conv (rd_T112 m (i : Int)))) (by omega) (by omega) (by rw [List.length_set]; exact hl) (set_parts (by rw [List.length_map]; omega) h (by rw [List.length_map]; exact hl) _ hx))
    simp only [laws_toFinalS.l0]
    rw [if_pos (by omega), if_pos (by omega)]
    unfold laws_toFinal.f
    simp only [Option.bind_some]
    rw [if_pos (by omega), wn (by omega) (by omega)]; rfl
theorem toFinalS_ev (m : List S112) (hm : m.length ≤ 1048576) : Ev (fun k => laws_toFinalS.f k m) (m.map conv) := by
  refine Ev.congr (fun k => ?_) (toFinalS_from m hm m.length 0 (List.replicate m.length z110) (by omega) (by omega) (by simp) (by simp))
  unfold laws_toFinalS.f
  rw [if_pos (by omega), if_pos (by omega)]; rfl

theorem eqFinalS_from (l : List S110) (hl : l.length ≤ 1048576) : ∀ (d i : Nat), i ≤ l.length → l.length - i = d → Ev (fun k => laws_eqFinalS.l0 k l l (i : Int)) true := by
  intro d
  induction d with
  | zero => intro i hi hd; exact Ev.step (f := fun _ => some true) (fun k => by simp only [laws_eqFinalS.l0]; rw [if_neg (by omega)]) (Ev.now _)
  | succ d ih =>
    intro i hi hd
    refine Ev.step (fun k => ?_) (ih (i + 1) (by omega) (by omega))
    simp only [laws_eqFinalS.l0]
    rw [if_pos (by omega), if_pos (by omega), if_pos (by omega)]
    unfold laws_eqFinal.f
    rw [if_pos rfl, if_pos rfl, if_neg (by simp)]
    simp only [Option.bind_some]
    rw [if_pos trivial, wn (by omega) (by omega)]; rfl
theorem eqFinalS_self (l : List S110) (hl : l.length ≤ 1048576) : Ev (fun k => laws_eqFinalS.f k l l) true := Ev.congr (fun k => by unfold laws_eqFinalS.f; rw [if_pos rfl]; rfl) (eqFinalS_from l hl l.length 0 (by omega) (by omega))
theorem eqIntSS_from (l : List (List Int)) (hl : l.length ≤ 1048576) (hi2 : ∀ x ∈ l, x.length ≤ 1048576) : ∀ (d i : Nat), i ≤ l.length → l.length - i = d → Ev (fun k => laws_eqIntSS.l0 k l l (i : Int)) true := by
  intro d
  induction d with
  | zero => intro i hi hd; exact Ev.step (f := fun _ => some true) (fun k => by simp only [laws_eqIntSS.l0]; rw [if_neg (by omega)]) (Ev.now _)
  | succ d ih =>
    intro i hi hd
    have hm2 : rd_L1 l (i : Int) ∈ l := List.mem_of_mem_drop (i := i) (by rw [partsL (show i < l.length by omega)]; exact List.mem_cons_self)
    refine Ev.step (fun k => ?_) (Ev.bind (f := fun k t => if t = true then (laws_eqIntSS.l0 k l l (wrap64 ((i : Int) + 1))) else some false) (eqInt_self (rd_L1 l (i : Int)) (by have := hi2 _ hm2; omega)) (Ev.yes rfl (Ev.congr (fun k => ?_) (ih (i + 1) (by omega) (by omega)))))
    · simp only [laws_eqIntSS.l0]
      rw [if_pos (by omega), if_pos (by omega), if_pos (by omega)]
    · rw [wn (by omega) (by omega)]; rfl
theorem eqIntSS_self (l : List (List Int)) (hl : l.length ≤ 1048576) (hi2 : ∀ x ∈ l, x.length ≤ 1048576) : Ev (fun k => laws_eqIntSS.f k l l) true := Ev.congr (fun k => by unfold laws_eqIntSS.f; rw [if_pos rfl]; rfl) (eqIntSS_from l hl hi2 l.length 0 (by omega) (by omega))
theorem eqSweep_self (a b c : List Int) (d : List S110) (ha : a.length ≤ 1048576) (hb : b.length ≤ 1048576) (hc : c.length ≤ 1048576) (hd : d.length ≤ 1048576) : Ev (fun k => laws_eqSweep.f k a b c d a b c d) true := by
  unfold laws_eqSweep.f
  exact Ev.bind (eqInt_self a (by omega)) (Ev.yes rfl (Ev.bind (eqInt_self b (by omega)) (Ev.yes rfl (Ev.bind (eqInt_self c (by omega)) (Ev.yes rfl (Ev.bind (eqFinalS_self d hd) (Ev.yes rfl (Ev.now _))))))))

theorem markIntSS_from : ∀ (d i : Nat) (l : List (List Int)) (a : Int), l.length ≤ 1048576 → (∀ x ∈ l, x.length ≤ 1048576) → i ≤ l.length → l.length - i = d → 0 ≤ a → a + d * 1048576 ≤ 4611686018427380000 → ∃ t, Ev (fun k => laws_markIntSS.l0 k l a (i : Int)) t ∧ a ≤ t ∧ t ≤ a + d * 1048576 := by
  intro d
  induction d with
  | zero => intro i l a hl hi2 hi hd h0 h1; exact ⟨a, Ev.step (f := fun _ => some a) (fun k => by simp only [laws_markIntSS.l0]; rw [if_neg (by omega)]) (Ev.now _), by omega, by omega⟩
  | succ d ih =>
    intro i l a hl hi2 hi hd h0 h1
    have hm2 : rd_L1 l (i : Int) ∈ l := List.mem_of_mem_drop (i := i) (by rw [partsL (show i < l.length by omega)]; exact List.mem_cons_self)
    have hb := hi2 _ hm2
    obtain ⟨t, e, h2, h3⟩ := ih (i + 1) (l.set i (marks a (rd_L1 l (i : Int)).length)) (a + (rd_L1 l (i : Int)).length) (by rw [List.length_set]; exact hl)
      (fun x hx => by rcases List.mem_or_eq_of_mem_set hx with h | h; exact hi2 x h; rw [h, marks_len]; exact hb) (by rw [List.length_set]; omega) (by rw [List.length_set]; omega) (by omega) (by omega)
    refine ⟨t, Ev.step (fun k => ?_) (Ev.bind (f := fun k b => laws_markIntSS.l0 k (l.set ((i : Int)).toNat b.2) b.1 (wrap64 ((i : Int) + 1))) (mark_ev (rd_L1 l (i : Int)) a (by omega) h0 (by omega)) (Ev.congr (fun k => ?_) e)), by omega, by omega⟩
    · simp only [laws_markIntSS.l0]
      rw [if_pos (by omega), if_pos (by omega)]
    · rw [wn (by omega) (by omega)]; rfl
def fmarks (a : Int) : Nat → List S110
  | 0 => []
  | n + 1 => ⟨a, a + 1, (Int.tmod (a + 1 + 1) 3) == 0⟩ :: fmarks (a + 1 + 1 + 1) n
theorem fmarks_len (n : Nat) : ∀ a, (fmarks a n).length = n := by
  induction n with
  | zero => intro a; rfl
  | succ n ih => intro a; rw [fmarks, List.length_cons, ih]
theorem rd_setT {l : List S110} {i : Nat} (x : S110) (h : i < l.length) : rd_T110 (l.set i x) (i : Int) = x := rd_set110 h
theorem markFinal_from : ∀ (d i : Nat) (l : List S110) (a : Int), l.length ≤ 1048576 → i ≤ l.length → l.length - i = d → 0 ≤ a → a + 3 * d ≤ 4611686018427380000 → Ev (fun k => laws_markFinalS.l0 k l a (i : Int)) (a + 3 * d, l.take i ++ fmarks a d) := by
  intro d
  induction d with
  | zero =>
    intro i l a hl hi hd h0 h1
    refine Ev.step (f := fun _ => some (a + 3 * ((0 : Nat) : Int), l.take i ++ fmarks a 0)) (fun k => ?_) (Ev.now _)
    simp only [laws_markFinalS.l0]
    rw [if_neg (by omega), List.take_of_length_le (by omega), fmarks, List.append_nil]; simp
  | succ d ih =>
    intro i l a hl hi hd h0 h1
    have hil : i < l.length := by omega
    have h := ih (i + 1) (l.set i ⟨a, a + 1, (Int.tmod (a + 1 + 1) 3) == 0⟩) (a + 1 + 1 + 1) (by rw [List.length_set]; exact hl) (by rw [List.length_set]; omega) (by rw [List.length_set]; omega) (by omega) (by omega)
    have e : (l.set i (⟨a, a + 1, (Int.tmod (a + 1 + 1) 3) == 0⟩ : S110)).take (i + 1) ++ fmarks (a + 1 + 1 + 1) d = l.take i ++ fmarks a (d + 1) := by
      rw [List.take_succ_eq_append_getElem (by rw [List.length_set]; exact hil), List.getElem_set_self, List.take_set_of_le (Nat.le_refl _), List.append_assoc]; rfl
    rw [e, show a + 1 + 1 + 1 + 3 * (d : Int) = a + 3 * ((d + 1 : Nat) : Int) from by omega] at h
    refine Ev.step (fun k => ?_) h
    simp only [laws_markFinalS.l0]
    rw [if_pos (by omega), if_pos (by omega)]
    simp only [Option.bind_some, show ((i : Int)).toNat = i from rfl]
    simp only [rd_setT _ hil, List.set_set]
    rw [wn (a := a + 1) (by omega) (by omega), wn (a := a + 1 + 1) (by omega) (by omega), wn (a := a + 1 + 1 + 1) (by omega) (by omega), wn (a := (i : Int) + 1) (by omega) (by omega)]
    rfl
theorem markFinal_ev (l : List S110) (a : Int) (hl : l.length ≤ 1048576) (h0 : 0 ≤ a) (h1 : a + 3 * l.length ≤ 4611686018427380000) : Ev (fun k => laws_markFinalS.f k l a) (a + 3 * l.length, fmarks a l.length) := by
  have h := markFinal_from l.length 0 l a hl (by omega) (by omega) h0 h1
  rw [List.take_zero, List.nil_append] at h
  exact h
theorem heldFinal_from : ∀ (d i : Nat) (l : List S110) (a : Int), l.length ≤ 1048576 → i ≤ l.length → l.length - i = d → 0 ≤ a → a + 3 * d ≤ 4611686018427380000 → l.drop i = fmarks a d → Ev (fun k => laws_heldFinalS.l0 k l a (i : Int)) (a + 3 * d) := by
  intro d
  induction d with
  | zero =>
    intro i l a hl hi hd h0 h1 hm
    refine Ev.step (f := fun _ => some (a + 3 * ((0 : Nat) : Int))) (fun k => ?_) (Ev.now _)
    simp only [laws_heldFinalS.l0]
    rw [if_neg (by omega)]; simp
  | succ d ih =>
    intro i l a hl hi hd h0 h1 hm
    have hil : i < l.length := by omega
    rw [drop_S110 hil, fmarks] at hm
    injection hm with hm1 hm2
    have h := ih (i + 1) l (a + 1 + 1 + 1) hl (by omega) (by omega) (by omega) (by omega) hm2
    rw [show a + 1 + 1 + 1 + 3 * (d : Int) = a + 3 * ((d + 1 : Nat) : Int) from by omega] at h
    refine Ev.step (fun k => ?_) h
    simp only [laws_heldFinalS.l0]
    rw [hm1, wn (a := a + 1) (by omega) (by omega), wn (a := a + 1 + 1) (by omega) (by omega), wn (a := a + 1 + 1 + 1) (by omega) (by omega), wn (a := (i : Int) + 1) (by omega) (by omega)]
    rw [if_pos (by omega), if_pos (by omega), if_pos rfl, if_pos rfl, if_neg (by simp)]
    rfl
theorem heldFinal_ev (n : Nat) (a : Int) (hn : n ≤ 1048576) (h0 : 0 ≤ a) (h1 : a + 3 * n ≤ 4611686018427380000) : Ev (fun k => laws_heldFinalS.f k (fmarks a n) a) (a + 3 * n) :=
  heldFinal_from n 0 (fmarks a n) a (by rw [fmarks_len]; exact hn) (by omega) (by rw [fmarks_len]; omega) h0 h1 rfl
theorem markSweep_ev (a b c : List Int) (d : List S110) (ha : a.length ≤ 1048576) (hb : b.length ≤ 1048576) (hc : c.length ≤ 1048576) (hd : d.length ≤ 1048576) :
    ∃ mm s1 s2 s3 s4, Ev (fun k => laws_markSweep.f k a b c d 1) (mm, s1, s2, s3, s4) ∧ Ev (fun k => laws_heldSweep.f k s1 s2 s3 s4 1) mm ∧ ¬ mm < 0 := by
  refine ⟨1 + a.length + b.length + c.length + 3 * d.length, marks 1 a.length, marks (1 + a.length) b.length, marks (1 + a.length + b.length) c.length, fmarks (1 + a.length + b.length + c.length) d.length, ?_, ?_, by omega⟩
  · unfold laws_markSweep.f
    exact Ev.bind (mark_ev a 1 (by omega) (by omega) (by omega)) (Ev.bind (mark_ev b (1 + a.length) (by omega) (by omega) (by omega)) (Ev.bind (mark_ev c (1 + a.length + b.length) (by omega) (by omega) (by omega)) (Ev.bind (markFinal_ev d (1 + a.length + b.length + c.length) hd (by omega) (by omega)) (Ev.now _))))
  · unfold laws_heldSweep.f
    exact Ev.bind (held_ev a.length 1 (by omega) (by omega) (by omega)) (Ev.no (by omega) (Ev.bind (held_ev b.length (1 + a.length) (by omega) (by omega) (by omega)) (Ev.no (by omega) (Ev.bind (held_ev c.length (1 + a.length + b.length) (by omega) (by omega) (by omega)) (Ev.no (by omega) (Ev.bind (heldFinal_ev d.length (1 + a.length + b.length + c.length) hd (by omega) (by omega)) (Ev.no (by omega) (Ev.now _))))))))

/-- The reference's sweep and the program's: one and the same. -/
theorem sweep_same (l0 : List (List Int)) (l1 : List Int) (m2 : List S110) (h0 : l0.length ≤ 1048576) (h0i : ∀ x ∈ l0, x.length ≤ 1048576) (h1 : l1.length ≤ 1048576) (h2 : m2.length ≤ 1048576) :
    ∃ r1 r2 r3 r4, Ev (fun k => spec_FinalSweep.f k l0 l1 m2) (r1, r2, r3, r4) ∧ r1.length ≤ 1048576 ∧ r2.length ≤ 1048576 ∧ r3.length ≤ 1048576 ∧ r4.length ≤ 1048576 ∧
      (∀ (A0 : Option Addr) (c0 : Nat) (A1 : Option Addr) (c1 : Nat) (A2 : Option Addr) (c2 : Nat) (w : World), Kd.C (Kd.slice 3 (Kd.int .i64)) w A0 l0.length l0 → l0.length ≤ c0 → Kd.C (Kd.int .i64) w A1 l1.length l1 → l1.length ≤ c1 → Kd.C k110 w A2 m2.length m2 → m2.length ≤ c2 →
        Calls Try.prog 34 #[.slice A0 l0.length c0, .slice A1 l1.length c1, .slice A2 m2.length c2] w (Four w r1 r2 r3 r4)) := by
  obtain ⟨K0, eG⟩ := graphOk_ev (l := l0) (r := l1)
  have e1 := validGraph_ev h0 h0i
  have e2 := validRoots_ev (n := l0.length) h0 h1
  have e3 := validFinals_ev (n := l0.length) h0 h2
  by_cases hg : gOk l0 = true ∧ rOk l0.length l1 = true ∧ finB l0.length m2 = true
  · obtain ⟨hg1, hg2, hg3⟩ := hg
    have hF := (finB_iff _ _).1 hg3
    have hG2 : gOk l0 = true := hg1
    unfold gOk at hG2
    rw [Bool.and_eq_true, decide_eq_true_eq, List.all_eq_true] at hG2
    have hR2 : rOk l0.length l1 = true := hg2
    unfold rOk at hR2
    rw [Bool.and_eq_true, decide_eq_true_eq, List.all_eq_true] at hR2
    have hgr : Graph l0 := fun row hrow v hv => by
      have := hG2.1 row hrow
      unfold rowOk at this
      rw [Bool.and_eq_true, List.all_eq_true] at this
      have := this.1 v hv
      unfold inb at this
      have t : 0 ≤ v ∧ v < (l0.length : Int) := of_decide_eq_true this
      exact t
    have hin : AllIn l0.length l1 := fun v hv => by
      have t : 0 ≤ v ∧ v < (l0.length : Int) := of_decide_eq_true (hR2.1 v hv)
      exact t
    have hD : ∀ v, (outs l0 v).length ≤ 5 := fun v => by
      unfold outs
      rw [List.getD_eq_getElem?_getD]
      cases he : l0[v.toNat]? with
      | none => simp
      | some row =>
        have := hG2.1 row (List.mem_of_getElem? he)
        unfold rowOk at this
        rw [Bool.and_eq_true, decide_eq_true_eq] at this
        exact this.2
    obtain ⟨seen, m1, ⟨K1, m1'⟩, hw⟩ := marks_same hgr hin 5 hD (by omega) (by omega)
    obtain ⟨ran, roots, fin, hs, b1, b2, b3, b4, hfin⟩ := loop_same (g := l0) (l := m2) (seen := seen) hw.len hF.1 (fun i hi => (hF.2 i hi).1) m2.length 0 [] l1 [] rfl (by omega) (by simp) hR2.2 hin
    rw [List.nil_append, List.drop_zero] at hs
    obtain ⟨s2, n1, ⟨K2, n1'⟩, hw2⟩ := marks_same hgr b4 5 hD (by omega) (by omega)
    obtain ⟨gone, i1, ⟨K3, i2⟩, hgl⟩ := idx_same s2 false (by rw [hw2.len]; omega)
    have hl := hw2.len
    refine ⟨ran, roots, gone, fin, ?_, by omega, by omega, by omega, by omega, ?_⟩
    · unfold spec_FinalSweep.f
      rw [hg1] at e1
      rw [hg2] at e2
      rw [hg3] at e3
      have hfz : Ev (fun k => spec_finalized.f k l0 l1 m2) (ran, roots, gone, fin) := by
        have h7 := hfin (ran, roots, gone, fin) (Ev.bind n1 (Ev.bind i1 (Ev.now _)))
        unfold spec_finalized.f
        simp only [Option.bind_some, List.nil_append, List.length_nil]
        exact Ev.yes (by omega) (Ev.bind m1 h7)
      exact Ev.bind e1 (Ev.yes rfl (Ev.bind e2 (Ev.yes rfl (Ev.bind e3 (Ev.yes rfl (Ev.bind hfz (Ev.now _)))))))
    · intro A0 c0 A1 c1 A2 c2 w hr0 hc0 hr1 hc1 hr2 hc2
      exact sweep_good (K0 + K1 + K2 + K3) A0 c0 l0 A1 c1 l1 A2 c2 m2 w hr0 hc0 hr1 hc1 hr2 hc2 ((eG _ (by omega)).trans (by rw [hg1, hg2]; rfl)) hF seen (m1' _ (by omega)) hR2.2 ran roots fin hs s2 (n1' _ (by omega)) gone (i2 _ (by omega))
  · refine ⟨[], [], [], [], ?_, by simp, by simp, by simp, by simp, ?_⟩
    · unfold spec_FinalSweep.f
      refine Ev.bind e1 ?_
      by_cases g1 : gOk l0 = true
      · refine Ev.yes g1 (Ev.bind e2 ?_)
        by_cases g2 : rOk l0.length l1 = true
        · refine Ev.yes g2 (Ev.bind e3 ?_)
          exact Ev.no (fun g3 => hg ⟨g1, g2, g3⟩) (Ev.now _)
        · exact Ev.no g2 (Ev.now _)
      · exact Ev.no g1 (Ev.now _)
    · intro A0 c0 A1 c1 A2 c2 w hr0 hc0 hr1 hc1 hr2 hc2
      refine sweep_bad K0 A0 c0 l0 A1 c1 l1 A2 c2 m2 w hr0 hc0 hr1 hc1 hr2 hc2 _ (eG K0 (Nat.le_refl _)) ?_
      by_cases hgb : (gOk l0 && rOk l0.length l1) = true
      · rw [Bool.and_eq_true] at hgb
        exact Or.inr (fun h => hg ⟨hgb.1, hgb.2, (finB_iff _ _).2 h⟩)
      · exact Or.inl (Bool.eq_false_iff.2 hgb)

/-- All that the law's walk asks, at any arguments that are not too long: with enough rounds it is there. -/
theorem law_all (l0 : List (List Int)) (l1 : List Int) (l2 : List S112) (h0 : l0.length ≤ 9223372036854775807) (h0i : ∀ x ∈ l0, x.length ≤ 9223372036854775807) (h1 : l1.length ≤ 9223372036854775807) (h2 : l2.length ≤ 9223372036854775807)
    (A0 : Option Addr) (c0 : Nat) (A1 : Option Addr) (c1 : Nat) (A2 : Option Addr) (c2 : Nat) (w : World) (hr0 : Kd.C (Kd.slice 3 (Kd.int .i64)) w A0 l0.length l0) (hc0 : l0.length ≤ c0) (hr1 : Kd.C (Kd.int .i64) w A1 l1.length l1) (hc1 : l1.length ≤ c1) (hr2 : Kd.C k112 w A2 l2.length l2) (hc2 : l2.length ≤ c2) :
    Calls Try.prog 6 #[.slice A0 l0.length c0, .slice A1 l1.length c1, .slice A2 l2.length c2] w (Ends w) := by
  by_cases hlong : (l1.length : Int) > 1048576
  · exact law_long 0 A0 c0 l0 A1 c1 l1 A2 c2 l2 w hr0 hc0 hr1 hc1 hr2 hc2 hlong
  obtain ⟨t1, ⟨K1, e1⟩, ht1, hs1⟩ := szIntSS_ev l0 h0 h0i
  by_cases hn1 : t1 < 0
  · exact law_small1 K1 A0 c0 l0 A1 c1 l1 A2 c2 l2 w hr0 hc0 hr1 hc1 hr2 hc2 hlong t1 (e1 K1 (Nat.le_refl _)) hn1
  obtain ⟨hl0, hl0i⟩ := hs1 (by omega)
  obtain ⟨t2, ⟨K2, e2⟩, hs2⟩ := szFinalS_ev l2 h2 t1 (by omega) ht1
  by_cases hn2 : t2 < 0
  · exact law_small2 (K1 + K2) A0 c0 l0 A1 c1 l1 A2 c2 l2 w hr0 hc0 hr1 hc1 hr2 hc2 hlong t1 t2 (e1 _ (by omega)) hn1 (e2 K2 (Nat.le_refl _)) hn2
  have hl2 := hs2 (by omega)
  have hl1 : l1.length ≤ 1048576 := by omega
  have hlm : (l2.map conv).length ≤ 1048576 := by rw [List.length_map]; exact hl2
  obtain ⟨K3, e3⟩ := toIntSS_ev l0 hl0 hl0i
  obtain ⟨K4, e4⟩ := toIntS_ev l1 hl1
  obtain ⟨K5, e5⟩ := toFinalS_ev l2 hl2
  obtain ⟨r1, r2, r3, r4, ⟨K6, e6⟩, q1, q2, q3, q4, him⟩ := sweep_same l0 l1 (l2.map conv) hl0 hl0i hl1 hlm
  obtain ⟨K7, e7⟩ := eqSweep_self r1 r2 r3 r4 q1 q2 q3 q4
  obtain ⟨K8, e8⟩ := eqIntSS_self l0 hl0 hl0i
  obtain ⟨K9, e9⟩ := eqInt_self l1 (by omega)
  obtain ⟨K10, e10⟩ := eqFinalS_self (l2.map conv) hlm
  obtain ⟨k1, ⟨K11, e11⟩, g1, g2⟩ := markIntSS_from l0.length 0 l0 1 hl0 hl0i (by omega) (by omega) (by omega) (by omega)
  obtain ⟨K12, e12⟩ := mark_ev l1 k1 (by omega) (by omega) (by omega)
  obtain ⟨K13, e13⟩ := markFinal_ev (l2.map conv) (k1 + l1.length) hlm (by omega) (by omega)
  obtain ⟨mm, s1, s2, s3, s4, ⟨K14, e14⟩, ⟨K15, e15⟩, hmm⟩ := markSweep_ev r1 r2 r3 r4 q1 q2 q3 q4
  exact law_whole (K1 + K2 + K3 + K4 + K5 + K6 + K7 + K8 + K9 + K10 + K11 + K12 + K13 + K14 + K15) A0 c0 l0 A1 c1 l1 A2 c2 l2 w hr0 hc0 hr1 hc1 hr2 hc2 hlong t1 t2 (e1 _ (by omega)) hn1 (e2 K2 (Nat.le_refl _)) hn2 l0 l1 (l2.map conv) (e3 _ (by omega)) (e4 _ (by omega)) (e5 _ (by omega)) r1 r2 r3 r4 (e6 _ (by omega)) him
    (e7 _ (by omega)) (e8 _ (by omega)) (e9 _ (by omega)) (e10 _ (by omega)) k1 (k1 + l1.length) (k1 + l1.length + 3 * (l2.map conv).length) (marks k1 l1.length) (fmarks (k1 + l1.length) (l2.map conv).length) (e11 _ (by omega)) (e12 _ (by omega)) (e13 _ (by omega)) (by omega) mm s1 s2 s3 s4 (e14 _ (by omega)) (e15 _ (by omega)) hmm
end Go.Proofs.Ytehhhlhedmfdiaa.PFnExactFinalSweep
