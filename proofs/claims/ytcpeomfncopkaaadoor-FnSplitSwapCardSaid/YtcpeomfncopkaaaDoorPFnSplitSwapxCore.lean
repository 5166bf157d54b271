/- The reference's search and cut, and the program's test of lengths: what they come to. -/
import Derived.Test.YtcpeomfncopkaaaDoorPFnSplitSwapx
import Derived.Test.YtcpeomfncopkaaaDoorTextPlain
namespace Go.Proofs.YtcpeomfncopkaaaDoor.PFnSplitSwap
open Go.RowKit Go.Proofs.YtcpeomfncopkaaaDoorW.PrintWords Go.Proofs.YtcpeomfncopkaaaDoorW.PrintLast Go.Proofs.YtcpeomfncopkaaaDoorW.PrintMore Go.Proofs.YtcpeomfncopkaaaDoor.Plain Go.Lib
set_option linter.unusedVariables false

theorem Ev.yes {α : Type} {c : Prop} [Decidable c] {g f : Nat → Option α} {r : α} (hc : c) (h : Ev g r) : Ev (fun k => if c then g k else f k) r := Ev.congr (fun k => if_pos hc) h
theorem Ev.no {α : Type} {c : Prop} [Decidable c] {g f : Nat → Option α} {r : α} (hc : ¬ c) (h : Ev f r) : Ev (fun k => if c then g k else f k) r := Ev.congr (fun k => if_neg hc) h
theorem wn {a : Int} (h0 : 0 ≤ a) (h : a < 4611686018427387904) : wrap64 a = a := by unfold wrap64; omega
theorem partsB {l : List ByteArray} {i : Nat} (h : i < l.length) : l.drop i = rdOf ByteArray.empty l (i : Int) :: l.drop (i + 1) := by
  unfold rdOf
  rw [show ((i : Int)).toNat = i from rfl, List.getD_eq_getElem?_getD, List.getElem?_eq_getElem h, List.drop_eq_getElem_cons h]
  rfl
theorem bytes_eq {a b : ByteArray} : a.toList = b.toList ↔ a = b := by
  rw [toList_data, toList_data]; exact ⟨ext_of_data, fun h => by rw [h]⟩

def fnd (s p : ByteArray) (i : Nat) : Int := if index (s.data.toList.drop i) p.data.toList = -1 then -1 else (i : Int) + index (s.data.toList.drop i) p.data.toList
theorem find_ev {s p : ByteArray} (hp : 1 ≤ p.size) (hs : s.size ≤ 400) (hp4 : p.size ≤ 400) :
    ∀ (d i : Nat), i ≤ s.size → s.size - i = d → Ev (fun k => spec_textFind.l0 k s p (i : Int)) (fnd s p i) := by
  intro d
  induction d with
  | zero =>
    intro i hi hd
    refine Ev.step (f := fun _ => some (fnd s p i)) (fun k => ?_) (Ev.now _)
    simp only [spec_textFind.l0]
    rw [wn (by omega) (by omega), if_neg (by omega)]
    unfold fnd
    rw [List.drop_eq_nil_of_le (by rw [← size_eq]; omega)]
    have : index [] p.data.toList = -1 := by
      unfold index; rw [if_neg]; intro h
      have := List.isEmpty_iff.1 h
      rw [size_eq, this] at hp; simp at hp
    rw [if_pos this]
  | succ d ih =>
    intro i hi hd
    by_cases hr : i + p.size ≤ s.size
    · by_cases ho : (s.extract i (i + p.size)).toList = p.toList
      · refine Ev.step (f := fun _ => some (i : Int)) (fun k => ?_) (Ev.congr (f := fun _ => some (fnd s p i)) (fun k => ?_) (Ev.now _))
        · simp only [spec_textFind.l0]
          rw [wn (by omega) (by omega), if_pos (by omega), if_pos (by omega), if_pos (by omega), show ((i : Int)).toNat = i from rfl, show ((i : Int) + (p.size : Int)).toNat = i + p.size from by omega, if_pos ho]
        · have h1 := Go.Proofs.occ_yes s p i hr (by rw [ho]; simp)
          have h2 : index (s.data.toList.drop i) p.data.toList = (0 : Nat) := index_first (Nat.zero_le _) (by unfold occAt at h1 ⊢; simpa using h1) (fun j hj => by omega)
          unfold fnd
          rw [h2]; simp
      · have h1 := Go.Proofs.occ_no s p i hr (by simpa using ho)
        have hl : i < s.data.toList.length := by rw [← size_eq]; omega
        have e : fnd s p i = fnd s p (i + 1) := by
          unfold fnd
          rw [List.drop_eq_getElem_cons hl]
          unfold occAt at h1
          rw [List.drop_eq_getElem_cons hl] at h1
          rw [index, h1]
          by_cases hm : index (s.data.toList.drop (i + 1)) p.data.toList = -1
          · simp [hm]
          · have := index_ge (s.data.toList.drop (i + 1)) p.data.toList
            simp only [hm, Bool.false_eq_true, if_false, beq_iff_eq]
            rw [if_neg (by omega)]; omega
        rw [e]
        refine Ev.step (fun k => ?_) (ih (i + 1) (by omega) (by omega))
        simp only [spec_textFind.l0]
        rw [wn (a := (i : Int) + (p.size : Int)) (by omega) (by omega), if_pos (by omega), if_pos (by omega), if_pos (by omega), show ((i : Int)).toNat = i from rfl, show ((i : Int) + (p.size : Int)).toNat = i + p.size from by omega, if_neg ho, wn (by omega) (by omega)]
        rfl
    · refine Ev.step (f := fun _ => some (fnd s p i)) (fun k => ?_) (Ev.now _)
      simp only [spec_textFind.l0]
      rw [wn (by omega) (by omega), if_neg (by omega)]
      have hx := index_room (s.data.toList.drop i) p.data.toList
      have hg := index_ge (s.data.toList.drop i) p.data.toList
      rw [List.length_drop, ← size_eq, ← size_eq] at hx
      unfold fnd
      rw [if_pos]
      by_cases h : 0 ≤ index (s.data.toList.drop i) p.data.toList
      · have := hx h; omega
      · omega

theorem split_last {s p : ByteArray} (hp : 1 ≤ p.size) (hs : s.size ≤ 400) (hp4 : p.size ≤ 400) (i : Nat) (acc : List ByteArray) (hi : i ≤ s.size) (ha : acc.length ≤ i)
    (hm : index (s.data.toList.drop i) p.data.toList = -1) : Ev (fun k => spec_textSplit.l0 k s p acc (i : Int)) (acc ++ pieces (s.extract i s.size) p) := by
  have hf : fnd s p i = -1 := by unfold fnd; rw [if_pos hm]
  have hdat : (s.extract i s.size).data.toList = s.data.toList.drop i := extract_to_end _ _
  rw [pieces_miss (by show index _ _ = _; rw [hdat]; exact hm)]
  refine Ev.step (fun k => ?_) (Ev.bind (f := fun k t => if t < 0 then (if 0 ≤ (i : Int) then (if (i : Int) ≤ (s.size : Int) then (if acc.length < 8796093022208 then (some (acc ++ [s.extract ((i : Int)).toNat s.size])) else (none)) else (none)) else (none)) else (if 0 ≤ (i : Int) then (if (i : Int) ≤ t then (if t ≤ (s.size : Int) then (if acc.length < 8796093022208 then (spec_textSplit.l0 k s p (acc ++ [s.extract ((i : Int)).toNat (t : Int).toNat]) (wrap64 (t + (p.size : Int)))) else (none)) else (none)) else (none)) else (none)))
      (find_ev hp hs hp4 _ i hi rfl) (Ev.congr (fun k => ?_) (Ev.now _)))
  · simp only [spec_textSplit.l0]; rfl
  · rw [hf, if_pos (by omega), if_pos (by omega), if_pos (by omega), if_pos (by omega), show ((i : Int)).toNat = i from rfl]
theorem split_ev {s p : ByteArray} (hp : 1 ≤ p.size) (hs : s.size ≤ 400) (hp4 : p.size ≤ 400) :
    ∀ (n i : Nat) (acc : List ByteArray), s.size - i ≤ n → i ≤ s.size → acc.length ≤ i → Ev (fun k => spec_textSplit.l0 k s p acc (i : Int)) (acc ++ pieces (s.extract i s.size) p) := by
  intro n
  induction n with
  | zero =>
    intro i acc hn hi ha
    exact (split_last hp hs hp4 i acc hi ha (by
      have hx := index_room (s.data.toList.drop i) p.data.toList
      have hg := index_ge (s.data.toList.drop i) p.data.toList
      rw [List.length_drop, ← size_eq, ← size_eq] at hx
      by_cases h : 0 ≤ index (s.data.toList.drop i) p.data.toList
      · have := hx h; omega
      · omega))
  | succ n ih =>
    intro i acc hn hi ha
    by_cases hm : index (s.data.toList.drop i) p.data.toList = -1
    · exact split_last hp hs hp4 i acc hi ha hm
    · have hg := index_ge (s.data.toList.drop i) p.data.toList
      have hx := index_room (s.data.toList.drop i) p.data.toList (by omega)
      rw [List.length_drop, ← size_eq, ← size_eq] at hx
      obtain ⟨j, hj⟩ : ∃ j : Nat, index (s.data.toList.drop i) p.data.toList = j := ⟨(index (s.data.toList.drop i) p.data.toList).toNat, by omega⟩
      rw [hj] at hx
      have hf : fnd s p i = (i : Int) + j := by unfold fnd; rw [if_neg hm, hj]
      have hdat : (s.extract i s.size).data.toList = s.data.toList.drop i := extract_to_end _ _
      have e : acc ++ pieces (s.extract i s.size) p = (acc ++ [s.extract i (i + j)]) ++ pieces (s.extract (i + j + p.size) s.size) p := by
        rw [pieces_hit (i := j) hp (by show index _ _ = _; rw [hdat]; exact hj), List.append_assoc]
        congr 1
        have e1 : (s.extract i s.size).extract 0 j = s.extract i (i + j) := ext_of_data (by rw [extract_data, hdat, extract_data]; simp)
        have e2 : (s.extract i s.size).extract (j + p.size) (s.extract i s.size).size = s.extract (i + j + p.size) s.size := ext_of_data (by rw [extract_to_end, hdat, extract_to_end, List.drop_drop]; congr 1; omega)
        rw [e1, e2]; rfl
      rw [e]
      refine Ev.step (fun k => ?_) (Ev.bind (f := fun k t => if t < 0 then (if 0 ≤ (i : Int) then (if (i : Int) ≤ (s.size : Int) then (if acc.length < 8796093022208 then (some (acc ++ [s.extract ((i : Int)).toNat s.size])) else (none)) else (none)) else (none)) else (if 0 ≤ (i : Int) then (if (i : Int) ≤ t then (if t ≤ (s.size : Int) then (if acc.length < 8796093022208 then (spec_textSplit.l0 k s p (acc ++ [s.extract ((i : Int)).toNat (t : Int).toNat]) (wrap64 (t + (p.size : Int)))) else (none)) else (none)) else (none)) else (none)))
        (find_ev hp hs hp4 _ i hi rfl) (Ev.congr (fun k => ?_) (ih (i + j + p.size) (acc ++ [s.extract i (i + j)]) (by omega) (by omega) (by rw [List.length_append]; simp; omega))))
      · simp only [spec_textSplit.l0]; rfl
      · rw [hf, if_neg (by omega), if_pos (by omega), if_pos (by omega), if_pos (by omega), if_pos (by omega), wn (by omega) (by omega), show ((i : Int)).toNat = i from rfl, show ((i : Int) + (j : Int)).toNat = i + j from by omega]
        rfl

theorem textSplit_ev {s p : ByteArray} (hp : 1 ≤ p.size) (hs : s.size ≤ 400) (hp4 : p.size ≤ 400) : Ev (fun k => spec_textSplit.f k s p) (pieces s p) := by
  have h := split_ev hp hs hp4 s.size 0 [] (by omega) (by omega) (by simp)
  have e : s.extract 0 s.size = s := ext_of_data (by rw [extract_to_end]; rfl)
  rw [e] at h
  exact h
theorem short_ev {l : List ByteArray} (hl : l.length ≤ 1000) : ∀ (d i : Nat), i ≤ l.length → l.length - i = d → Ev (fun k => impl_shortTexts.l0 k l (l.length : Int) (i : Int)) ((l.drop i).all fun x => decide (x.size ≤ 400)) := by
  intro d
  induction d with
  | zero =>
    intro i hi hd
    refine Ev.step (f := fun _ => some ((l.drop i).all fun x => decide (x.size ≤ 400))) (fun k => ?_) (Ev.now _)
    simp only [impl_shortTexts.l0]
    rw [if_neg (by omega), List.drop_eq_nil_of_le (by omega)]; rfl
  | succ d ih =>
    intro i hi hd
    rw [partsB (show i < l.length by omega), List.all_cons]
    by_cases hx : (rdOf ByteArray.empty l (i : Int)).size ≤ 400
    · rw [decide_eq_true hx, Bool.true_and]
      refine Ev.step (fun k => ?_) (ih (i + 1) (by omega) (by omega))
      simp only [impl_shortTexts.l0]
      rw [if_pos (by omega), if_pos (by omega), if_pos (by omega), if_neg (by omega), wn (by omega) (by omega)]
      rfl
    · rw [decide_eq_false hx, Bool.false_and]
      refine Ev.step (f := fun _ => some false) (fun k => ?_) (Ev.now _)
      simp only [impl_shortTexts.l0]
      rw [if_pos (by omega), if_pos (by omega), if_pos (by omega), if_pos (by omega)]
theorem shortTexts_ev {l : List ByteArray} (hl : l.length ≤ 1000) : Ev (fun k => impl_shortTexts.f k l) (l.all fun x => decide (x.size ≤ 400)) := short_ev hl l.length 0 (by omega) (by omega)
theorem valid_ev (s : ByteArray) : Ev (fun k => spec_validText.f s) (decide (s.size ≤ 400)) := by
  have e : decide ((s.size : Int) ≤ 400) = decide (s.size ≤ 400) := by rw [decide_eq_decide]; omega
  unfold spec_validText.f; rw [e]; exact Ev.now _
end Go.Proofs.YtcpeomfncopkaaaDoor.PFnSplitSwap
