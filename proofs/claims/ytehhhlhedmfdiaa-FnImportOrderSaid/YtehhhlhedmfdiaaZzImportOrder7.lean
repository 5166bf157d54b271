/- FnImportOrder holds of every input: without circles and failures each module that a whole module imports stands ahead of it; no condition. -/
import Derived.Test.YtehhhlhedmfdiaaZzImportOrder6
import Derived.OpenShut
import Derived.Laws.BitsLemmas
import Derived.SizedLaws
import Derived.ChangeSlices
import Derived.Test.YtehhhlhedmfdiaaRows
import Derived.WalkKit
import Derived.ProofKit
import Derived.ShutString
import Derived.ChangeOld
import Derived.Below
set_option maxHeartbeats 8000000
set_option maxRecDepth 100000
section
namespace Go.Proofs.Ytehhhlhedmfdiaa.PFnImportOrder
open Go.RowKit Go.Proofs.Yz0.PrintWords Go.Proofs.Yz0.PrintLast Go.Proofs.Yz0.PrintMore Go.Proofs.Ytehhhlhedmfdiaa.Plain
set_option linter.unusedVariables false
def Circ (M : List S72) (m : Int) : Prop := ∃ x, Plain.Reach (edges M) [m] x ∧ Plain.Reach (edges M) (outs (edges M) x) x
theorem reach_back {R : List (List Int)} {a b c : Int} (h : Plain.Reach R [a] b) (hc : c ∈ outs R b) : Plain.Reach R (outs R a) c := by
 have h1 := h (fun v => v = a ∨ Plain.Reach R (outs R a) v) (fun r hr => .inl (List.mem_singleton.1 hr)) (fun x y hx hy => by
  rcases hx with rfl | hx
  ·exact .inr (Plain.Reach.root hy)
  ·exact .inr (hx.step hy))
 rcases h1 with rfl | h1
 ·exact Plain.Reach.root hc
 ·exact h1.step hc
theorem circ_of {M : List S72} {i x : Int} (hx : x ∈ outs (edges M) i) (h : Plain.Reach (edges M) [x] i) : Circ M i :=
 ⟨x, (Plain.Reach.root (List.mem_singleton.2 rfl)).step hx, reach_back h hx⟩
theorem edge_of {M : List S72} {i : Nat} (hi : i < M.length) {x : S74} (hx : x ∈ (rX M (i : Int)).f0) (hk : x.f0 = 1 ∨ x.f0 = 2) : x.f1 ∈ outs (edges M) (i : Int) := by
 unfold outs edges
 rw [show ((i : Int)).toNat = i from rfl, List.getD_eq_getElem?_getD, List.getElem?_map, List.getElem?_eq_getElem hi]
 unfold rX at hx
 rw [show ((i : Int)).toNat = i from rfl, List.getD_eq_getElem?_getD, List.getElem?_eq_getElem hi] at hx
 show x.f1 ∈ sel (M[i]).f0
 unfold sel
 exact List.mem_map.2 ⟨x, List.mem_filter.2 ⟨hx, by simpa using hk⟩, rfl⟩
structure IInv (M : List S72) (s : IS) : Prop where
 l1 : s.st.length = M.length
 l2 : s.nm.length = M.length
 tri : ∀ i : Nat, s.st.getD i 0 = 0 ∨ s.st.getD i 0 = 1 ∨ s.st.getD i 0 = 2
 nil : ∀ i : Nat, s.st.getD i 0 = 0 → s.nm.getD i [] = []
 val : ∀ i : Nat, ∀ p ∈ s.nm.getD i [], 0 ≤ p.2 ∧ p.2 ≤ 1000000
 who : ∀ i : Nat, s.st.getD i 0 = 2 ↔ (i : Int) ∈ s.wh
 whr : ∀ x ∈ s.wh, 0 ≤ x ∧ x < M.length
 nod : s.wh.Nodup
 bgn : ∀ i : Nat, s.st.getD i 0 ≠ 0 → (i : Int) ∈ s.bg
 ord : ∀ a m b, s.wh = a ++ m :: b → ∀ x ∈ (rX M m).f0, x.f0 = 1 → x.f1 ∈ a ∨ Circ M m
def Le (c : Nat) (s : IS) : Prop := s.bg.length ≤ c ∧ s.wh.length ≤ c ∧ s.re.length ≤ c ∧ ∀ j : Nat, (s.nm.getD j []).length ≤ c
theorem Le.mono {c d : Nat} {s : IS} (h : Le c s) (hd : c ≤ d) : Le d s := ⟨Nat.le_trans h.1 hd, Nat.le_trans h.2.1 hd, Nat.le_trans h.2.2.1 hd, fun j => Nat.le_trans (h.2.2.2 j) hd⟩
def tb : Nat → Nat
 | 0 => 0
 | d + 1 => 10 + 8 * tb d
def nb (l : List Int) : Nat := (l.filter (fun x => x != 1)).length
theorem nb_le (l : List Int) : nb l ≤ l.length := List.length_filter_le _ _
theorem nb_same : ∀ {l l' : List Int}, l.length = l'.length → (∀ j : Nat, l.getD j 0 = 1 ↔ l'.getD j 0 = 1) → nb l = nb l' := by
 intro l
 induction l with
 | nil => intro l' h _; rw [List.eq_nil_of_length_eq_zero h.symm]
 | cons x l ih =>
  intro l' h hj
  cases l' with
  | nil => simp at h
  | cons y l' =>
   have h0 := hj 0
   have i1 := ih (l' := l') (by simpa using h) (fun j => by have := hj (j + 1); simpa using this)
   unfold nb at i1 ⊢
   have h0 : x = 1 ↔ y = 1 := by simpa using h0
   by_cases hx : x = 1
   ·have hy := h0.1 hx
    subst hx hy
    simpa using i1
   ·have hy : ¬ y = 1 := fun e => hx (h0.2 e)
    have hx2 : (x != 1) = true := bne_iff_ne.2 hx
    have hy2 : (y != 1) = true := bne_iff_ne.2 hy
    rw [List.filter_cons, if_pos hx2, List.filter_cons, if_pos hy2, List.length_cons, List.length_cons, i1]
theorem nb_set : ∀ {l : List Int} {i : Nat}, i < l.length → l.getD i 0 ≠ 1 → nb (l.set i 1) + 1 = nb l := by
 intro l
 induction l with
 | nil => intro i h; simp at h
 | cons x l ih =>
  intro i h hx
  cases i with
  | zero =>
   have hx : x ≠ 1 := by simpa using hx
   unfold nb
   have hx2 : (x != 1) = true := bne_iff_ne.2 hx
   rw [List.set_cons_zero, List.filter_cons, List.filter_cons, if_pos hx2, if_neg (by decide), List.length_cons]
  | succ i =>
   have := ih (i := i) (by simpa using h) (by simpa using hx)
   unfold nb at this ⊢
   rw [List.set_cons_succ, List.filter_cons, List.filter_cons]
   split
   ·rw [List.length_cons, List.length_cons]; omega
   ·exact this
theorem stI {l : List Int} {i j : Nat} {x : Int} (hi : i < l.length) : (l.set i x).getD j 0 = if i = j then x else l.getD j 0 := by
 rw [List.getD_eq_getElem?_getD, List.getD_eq_getElem?_getD]
 by_cases h : i = j
 ·subst h; rw [if_pos rfl, List.getElem?_set_self hi]; rfl
 ·rw [if_neg h, List.getElem?_set_ne h]
theorem nmI {α : Type} {l : List (List α)} {i j : Nat} {x : List α} (hi : i < l.length) : (l.set i x).getD j [] = if i = j then x else l.getD j [] := by
 rw [List.getD_eq_getElem?_getD, List.getD_eq_getElem?_getD]
 by_cases h : i = j
 ·subst h; rw [if_pos rfl, List.getElem?_set_self hi]; rfl
 ·rw [if_neg h, List.getElem?_set_ne h]
theorem look_mem {nm : List (ByteArray × Int)} {s : ByteArray} {v : Int} (h : look nm s = some v) : ∃ p ∈ nm, p.2 = v := by
 induction nm with
 | nil => cases h
 | cons p l ih =>
  obtain ⟨a, u⟩ := p
  simp only [look] at h
  split at h
  ·injection h with h; exact ⟨(a, u), by simp, h⟩
  ·obtain ⟨q, hq, e⟩ := ih h
   exact ⟨q, List.mem_cons_of_mem _ hq, e⟩
structure IPost (M : List S72) (s s' : IS) : Prop where
 inv : IInv M s'
 bgs : ∀ j : Nat, s'.st.getD j 0 = 1 ↔ s.st.getD j 0 = 1
 whp : ∃ t, s'.wh = s.wh ++ t
 bgp : ∃ t, s'.bg = s.bg ++ t
theorem IPost.refl {M : List S72} {s : IS} (h : IInv M s) : IPost M s s := ⟨h, fun _ => Iff.rfl, ⟨[], by simp⟩, ⟨[], by simp⟩⟩
theorem IPost.trans {M : List S72} {s t u : IS} (h : IPost M s t) (k : IPost M t u) : IPost M s u := by
 obtain ⟨a, ha⟩ := h.whp
 obtain ⟨b, hb⟩ := k.whp
 obtain ⟨c, hc⟩ := h.bgp
 obtain ⟨d, hd⟩ := k.bgp
 exact ⟨k.inv, fun j => (k.bgs j).trans (h.bgs j), ⟨a ++ b, by rw [hb, ha, List.append_assoc]⟩, ⟨c ++ d, by rw [hd, hc, List.append_assoc]⟩⟩
theorem IPost.nb {M : List S72} {s t : IS} (h : IPost M s t) (hs : IInv M s) : nb t.st = nb s.st := nb_same (h.inv.l1.trans hs.l1.symm) h.bgs
def Loads (M : List S72) (d : Nat) (L : Int → IS → Option (Bool × IS)) : Prop :=
 ∀ (i : Nat) (s : IS) (c : Nat), i < M.length → IInv M s → nb s.st ≤ d → (∀ j : Nat, s.st.getD j 0 = 1 → Plain.Reach (edges M) [(j : Int)] (i : Int)) → Le c s → c + tb d < IB →
  ∃ b s', L (i : Int) s = some (b, s') ∧ IPost M s s' ∧ (b = true → s'.st.getD i 0 ≠ 0) ∧ (b = false → s'.st.getD i 0 = 0) ∧ Le (c + tb d) s'
def Met (s : IS) (x : S74) : Prop := x.f0 = 1 → ∃ q : Nat, x.f1 = (q : Int) ∧ s.st.getD q 0 ≠ 0
theorem Met.keep {M : List S72} {s t : IS} {x : S74} (h : Met s x) (k : IPost M s t) (hs : IInv M s) : Met t x := by
 intro e
 obtain ⟨q, hq, h1⟩ := h e
 refine ⟨q, hq, ?_⟩
 rcases hs.tri q with h2 | h2 | h2
 ·exact absurd h2 h1
 ·rw [(k.bgs q).2 h2]; decide
 ·obtain ⟨a, ha⟩ := k.whp
  have : (q : Int) ∈ t.wh := by rw [ha]; exact List.mem_append_left _ ((hs.who q).1 h2)
  rw [(k.inv.who q).2 this]; decide
theorem stp_ok {M : List S72} (hM : ModsP M) {dec : Int → ByteArray} {d : Nat} {L : Int → IS → Option (Bool × IS)} (hL : Loads M d L) {i : Nat} (hi : i < M.length) {x : S74} (hx : x ∈ (rX M (i : Int)).f0) {s : IS} {c : Nat}
  (hs : IInv M s) (hd : nb s.st ≤ d) (hb : s.st.getD i 0 = 1) (hr : ∀ j : Nat, s.st.getD j 0 = 1 → Plain.Reach (edges M) [(j : Int)] (i : Int)) (hle : Le c s) (hc : c + (tb d + 1) < IB) :
  ∃ b s', stp dec L M.length (i : Int) x s = some (b, s') ∧ IPost M s s' ∧ (b = true → Met s' x) ∧ Le (c + (tb d + 1)) s' := by
 have hmem : rX M (i : Int) ∈ M := by
  unfold rX
  rw [show ((i : Int)).toNat = i from rfl, List.getD_eq_getElem?_getD, List.getElem?_eq_getElem hi]
  exact List.getElem_mem hi
 obtain ⟨⟨k1, k2⟩, ⟨n1, n2⟩, nm1, nm2⟩ := (hM.1 _ hmem).1 x hx
 have hsz : x.f2.size ≤ 1000 := by
  by_cases h : Named x
  ·have := (nm2 h).2.1.2; omega
  ·have he : x.f2.toList = [] := by
    by_cases e : x.f2.toList = []
    ·exact e
    ·exact absurd (nm1.2 e) h
   rw [Lib.toList_data] at he
   have : x.f2.size = 0 := by show x.f2.data.size = 0; rw [← Array.length_toList, he]; rfl
   omega
 unfold stp
 by_cases h1 : x.f0 = 1
 ·rw [if_pos h1]
  unfold top at n2
  rw [if_neg (by omega)] at n2
  obtain ⟨q, hq⟩ := Int.eq_ofNat_of_zero_le n1
  rw [if_pos ⟨n1, by omega⟩, hq]
  have he := edge_of hi hx (.inl h1)
  obtain ⟨b, s', e, hp, hb1, hb0, hl⟩ := hL q s c (by omega) hs hd (fun j hj => by rw [← hq]; exact (hr j hj).step he) hle (by omega)
  exact ⟨b, s', e, hp, fun eb _ => ⟨q, hq, hb1 eb⟩, hl.mono (by omega)⟩
 rw [if_neg h1]
 by_cases h2 : x.f0 = 2
 ·rw [if_pos h2]
  unfold top at n2
  rw [if_neg (by omega)] at n2
  obtain ⟨q, hq⟩ := Int.eq_ofNat_of_zero_le n1
  rw [if_pos ⟨n1, by omega⟩, hq]
  have he := edge_of hi hx (.inr h2)
  obtain ⟨b, s', e, hp, _, _, hl⟩ := hL q s c (by omega) hs hd (fun j hj => by rw [← hq]; exact (hr j hj).step he) hle (by omega)
  exact ⟨true, s', by rw [e]; rfl, hp, fun _ e1 => absurd e1 h1, hl.mono (by omega)⟩
 rw [if_neg h2]
 by_cases h3 : x.f0 = 3
 ·rw [if_pos h3]
  unfold top at n2
  rw [if_pos (.inl h3)] at n2
  have hg : (0 ≤ x.f1 ∧ x.f1 ≤ 1000000 ∧ x.f2.size ≤ 1000) ∧ (nms s (i : Int)).length < IB ∧ (s.nm.length = M.length ∧ s.st.length = M.length) ∧ (0 ≤ (i : Int) ∧ (i : Int) < M.length) ∧ rd s.st (i : Int) ≠ 0 := by
   refine ⟨⟨n1, n2, hsz⟩, ?_, ⟨hs.l2, hs.l1⟩, ⟨by omega, by omega⟩, ?_⟩
   ·have := hle.2.2.2 i; unfold nms; exact Nat.lt_of_le_of_lt this (by omega)
   ·show s.st.getD i 0 ≠ 0; rw [hb]; decide
  rw [if_pos hg]
  have hni : i < s.nm.length := by rw [hs.l2]; exact hi
  refine ⟨true, _, rfl, ⟨⟨hs.l1, ?_, hs.tri, fun j hj => ?_, fun j p hp => ?_, hs.who, hs.whr, hs.nod, hs.bgn, hs.ord⟩, fun _ => Iff.rfl, ⟨[], by simp [ldSet]⟩, ⟨[], by simp [ldSet]⟩⟩, fun _ e1 => absurd e1 h1, ?_⟩
  ·show (s.nm.set i _).length = _; rw [List.length_set]; exact hs.l2
  ·show (s.nm.set i _).getD j [] = []
   rw [nmI hni]
   have hj0 : s.st.getD j 0 = 0 := hj
   rw [if_neg (fun e => by subst e; rw [hb] at hj0; exact absurd hj0 (by decide))]
   exact hs.nil j hj0
  ·have hp : p ∈ (s.nm.set i ((x.f2, x.f1) :: nms s (i : Int))).getD j [] := hp
   rw [nmI hni] at hp
   split at hp
   ·rcases List.mem_cons.1 hp with rfl | hp
    ·exact ⟨n1, n2⟩
    ·exact hs.val i p hp
   ·exact hs.val j p hp
  ·refine ⟨Nat.le_trans hle.1 (by omega), Nat.le_trans hle.2.1 (by omega), Nat.le_trans hle.2.2.1 (by omega), fun j => ?_⟩
   show ((s.nm.set i ((x.f2, x.f1) :: nms s (i : Int))).getD j []).length ≤ _
   rw [nmI hni]
   split
   ·rw [List.length_cons]; have := hle.2.2.2 i; unfold nms; rw [show ((i : Int)).toNat = i from rfl]; omega
   ·have := hle.2.2.2 j; omega
 rw [if_neg h3]
 by_cases h4 : x.f0 = 4
 ·rw [if_pos h4]
  unfold top at n2
  rw [if_neg (by omega)] at n2
  obtain ⟨q, hq⟩ := Int.eq_ofNat_of_zero_le n1
  have hq2 : nms s x.f1 = s.nm.getD q [] := by rw [hq]; rfl
  have hg : (0 ≤ x.f1 ∧ x.f1 < M.length ∧ x.f2.size ≤ 1000) ∧ s.nm.length = M.length ∧ (nms s x.f1).length < IB :=
   ⟨⟨n1, by omega, hsz⟩, hs.l2, by rw [hq2]; exact Nat.lt_of_le_of_lt (hle.2.2.2 q) (by omega)⟩
  rw [if_pos hg]
  cases hlk : look (nms s x.f1) x.f2 with
  | none => exact ⟨false, s, rfl, IPost.refl hs, (fun e => by cases e), hle.mono (by omega)⟩
  | some v =>
   obtain ⟨p, hp, hv⟩ := look_mem hlk
   rw [hq2] at hp
   have hv2 := hs.val q p hp
   rw [hv] at hv2
   dsimp only
   rw [if_pos ⟨hv2, Nat.lt_of_le_of_lt hle.2.2.1 (by omega)⟩]
   refine ⟨true, _, rfl, ⟨⟨hs.l1, hs.l2, hs.tri, hs.nil, hs.val, hs.who, hs.whr, hs.nod, hs.bgn, hs.ord⟩, fun _ => Iff.rfl, ⟨[], by simp⟩, ⟨[], by simp⟩⟩, fun _ e1 => absurd e1 h1, ?_⟩
   refine ⟨Nat.le_trans hle.1 (by omega), Nat.le_trans hle.2.1 (by omega), ?_, fun j => Nat.le_trans (hle.2.2.2 j) (by omega)⟩
   show (s.re ++ [dec v]).length ≤ _
   rw [List.length_append, List.length_singleton]
   have := hle.2.2.1
   omega
 rw [if_neg h4, if_pos (by omega)]
 exact ⟨false, s, rfl, IPost.refl hs, (fun e => by cases e), hle.mono (by omega)⟩
theorem runs_ok {M : List S72} (hM : ModsP M) {dec : Int → ByteArray} {d : Nat} {L : Int → IS → Option (Bool × IS)} (hL : Loads M d L) {i : Nat} (hi : i < M.length) : ∀ (xs : List S74) (s : IS) (c : Nat), (∀ x ∈ xs, x ∈ (rX M (i : Int)).f0) →
  IInv M s → nb s.st ≤ d → s.st.getD i 0 = 1 → (∀ j : Nat, s.st.getD j 0 = 1 → Plain.Reach (edges M) [(j : Int)] (i : Int)) → Le c s → c + xs.length * (tb d + 1) < IB →
  ∃ b s', runs (stp dec L M.length (i : Int)) xs s = some (b, s') ∧ IPost M s s' ∧ (b = true → ∀ x ∈ xs, Met s' x) ∧ Le (c + xs.length * (tb d + 1)) s' := by
 intro xs
 induction xs with
 | nil => intro s c _ hs _ _ _ hle _; exact ⟨true, s, rfl, IPost.refl hs, (fun _ x hx => by cases hx), by simpa using hle⟩
 | cons x xs ih =>
  intro s c hxs hs hd hb hr hle hc
  rw [List.length_cons, Nat.succ_mul] at hc ⊢
  obtain ⟨b, s1, e, hp, hm, hl⟩ := stp_ok (dec := dec) hM hL hi (hxs x (by simp)) hs hd hb hr hle (by have := Nat.zero_le (xs.length * (tb d + 1)); omega)
  simp only [runs]
  rw [e]
  dsimp only [Option.bind_some]
  cases b with
  | false => exact ⟨false, s1, by rw [if_neg (by decide)], hp, (fun e => by cases e), hl.mono (by have := Nat.zero_le (xs.length * (tb d + 1)); omega)⟩
  | true =>
   rw [if_pos rfl]
   obtain ⟨b2, s2, e2, hp2, hm2, hl2⟩ := ih s1 (c + (tb d + 1)) (fun y hy => hxs y (List.mem_cons_of_mem _ hy)) hp.inv (by rw [hp.nb hs]; exact hd) ((hp.bgs i).2 hb) (fun j hj => hr j ((hp.bgs j).1 hj)) hl (by omega)
   refine ⟨b2, s2, e2, hp.trans hp2, fun eb y hy => ?_, hl2.mono (by omega)⟩
   rcases List.mem_cons.1 hy with rfl | hy
   ·exact (hm rfl).keep hp2 hp.inv
   ·exact hm2 eb y hy
theorem ld_ok {M : List S72} (hM : ModsP M) (dec : Int → ByteArray) : ∀ d : Nat, Loads M d (ld dec M (d + 1)) := by
 intro d
 induction d with
 | zero =>
  intro i s c hi hs hd hr hle hc
  have hne : s.st.getD i 0 ≠ 0 := by
   intro e
   have := nb_set (l := s.st) (i := i) (by rw [hs.l1]; exact hi) (by rw [e]; decide)
   omega
  refine ⟨true, s, ?_, IPost.refl hs, fun _ => hne, (fun e => by cases e), hle.mono (by omega)⟩
  simp only [ld]
  rw [if_pos ⟨⟨by omega, by omega⟩, hs.l1, hs.l2⟩, if_neg (show ¬ rd s.st (i : Int) = 0 from hne)]
 | succ d ih =>
  intro i s c hi hs hd hr hle hc
  rw [ld, if_pos ⟨⟨by omega, by omega⟩, hs.l1, hs.l2⟩]
  by_cases h0 : s.st.getD i 0 = 0
  ·rw [if_pos (show rd s.st (i : Int) = 0 from h0), if_pos ⟨Nat.lt_of_le_of_lt hle.1 (by omega), hs.nil i h0⟩]
   have hil : i < s.st.length := by rw [hs.l1]; exact hi
   have hnw : (i : Int) ∉ s.wh := fun e => by rw [(hs.who i).2 e] at h0; exact absurd h0 (by decide)
   have hs1 : IInv M (ldStart (i : Int) s) := by
    refine ⟨?_, hs.l2, fun j => ?_, fun j hj => ?_, hs.val, fun j => ?_, hs.whr, hs.nod, fun j hj => ?_, hs.ord⟩
    ·show (s.st.set i 1).length = _; rw [List.length_set]; exact hs.l1
    ·show (s.st.set i 1).getD j 0 = 0 ∨ (s.st.set i 1).getD j 0 = 1 ∨ (s.st.set i 1).getD j 0 = 2
     rw [stI hil]
     split
     ·exact .inr (.inl rfl)
     ·exact hs.tri j
    ·have hj : (s.st.set i 1).getD j 0 = 0 := hj
     rw [stI hil] at hj
     split at hj
     ·exact absurd hj (by decide)
     ·exact hs.nil j hj
    ·show (s.st.set i 1).getD j 0 = 2 ↔ _
     rw [stI hil]
     split
     ·rename_i e; subst e; exact ⟨fun h => absurd h (by decide), fun h => absurd h hnw⟩
     ·exact hs.who j
    ·have hj : (s.st.set i 1).getD j 0 ≠ 0 := hj
     show (j : Int) ∈ s.bg ++ [(i : Int)]
     rw [stI hil] at hj
     split at hj
     ·rename_i e; subst e; simp
     ·exact List.mem_append_left _ (hs.bgn j hj)
   have hb1 : (ldStart (i : Int) s).st.getD i 0 = 1 := by
    show (s.st.set i 1).getD i 0 = 1
    rw [stI hil, if_pos rfl]
   have hnb : nb (ldStart (i : Int) s).st ≤ d := by
    have := nb_set (l := s.st) (i := i) hil (by rw [h0]; decide)
    show nb (s.st.set i 1) ≤ d
    omega
   have hr1 : ∀ j : Nat, (ldStart (i : Int) s).st.getD j 0 = 1 → Plain.Reach (edges M) [(j : Int)] (i : Int) := fun j hj => by
    have hj : (s.st.set i 1).getD j 0 = 1 := hj
    rw [stI hil] at hj
    split at hj
    ·rename_i e; subst e; exact Plain.Reach.root (List.mem_singleton.2 rfl)
    ·exact hr j hj
   have hle1 : Le (c + 1) (ldStart (i : Int) s) := by
    refine ⟨?_, Nat.le_trans hle.2.1 (by omega), Nat.le_trans hle.2.2.1 (by omega), fun j => Nat.le_trans (hle.2.2.2 j) (by omega)⟩
    show (s.bg ++ [(i : Int)]).length ≤ _
    rw [List.length_append, List.length_singleton]
    have := hle.1
    omega
   have hmem : rX M (i : Int) ∈ M := by
    unfold rX
    rw [show ((i : Int)).toNat = i from rfl, List.getD_eq_getElem?_getD, List.getElem?_eq_getElem hi]
    exact List.getElem_mem hi
   have h8 := (hM.1 _ hmem).2
   have hmul : (rX M (i : Int)).f0.length * (tb d + 1) ≤ 8 * (tb d + 1) := Nat.mul_le_mul_right _ h8
   rw [tb] at hc
   obtain ⟨b, s2, e2, hp, hm, hl2⟩ := runs_ok (dec := dec) hM ih hi (rX M (i : Int)).f0 (ldStart (i : Int) s) (c + 1) (fun _ h => h) hs1 hnb hb1 hr1 hle1 (by omega)
   have hb2 : s2.st.getD i 0 = 1 := (hp.bgs i).2 hb1
   have hil2 : i < s2.st.length := by rw [hp.inv.l1]; exact hi
   have hin2 : i < s2.nm.length := by rw [hp.inv.l2]; exact hi
   have hnw2 : (i : Int) ∉ s2.wh := fun e => by rw [(hp.inv.who i).2 e] at hb2; exact absurd hb2 (by decide)
   rw [e2]
   dsimp only [Option.bind_some]
   rw [if_pos ⟨⟨hp.inv.l1, hp.inv.l2⟩, Nat.lt_of_le_of_lt hl2.2.1 (by omega), show ¬ rd s2.st (i : Int) = 0 from by show ¬ s2.st.getD i 0 = 0; rw [hb2]; decide⟩]
   have hbgp : ∃ t, s2.bg = s.bg ++ t := by
    obtain ⟨t, ht⟩ := hp.bgp
    exact ⟨[(i : Int)] ++ t, by rw [ht]; show (s.bg ++ [(i : Int)]) ++ t = _; rw [List.append_assoc]⟩
   have hwhp : ∃ t, s2.wh = s.wh ++ t := hp.whp
   have hbgs : ∀ j : Nat, j ≠ i → (s2.st.getD j 0 = 1 ↔ s.st.getD j 0 = 1) := fun j hj => by
    rw [hp.bgs j]
    show (s.st.set i 1).getD j 0 = 1 ↔ _
    rw [stI hil, if_neg (fun e => hj e.symm)]
   cases b with
   | true =>
    have hw := fun x hx => hm rfl x hx
    refine ⟨true, _, rfl, ⟨⟨?_, hp.inv.l2, fun j => ?_, fun j hj => ?_, hp.inv.val, fun j => ?_, fun x hx => ?_, ?_, fun j hj => ?_, fun a m b e x hx hk => ?_⟩, fun j => ?_, ?_, hbgp⟩, fun _ => ?_, (fun e => by cases e), ?_⟩
    ·show (s2.st.set i 2).length = _; rw [List.length_set]; exact hp.inv.l1
    ·show (s2.st.set i 2).getD j 0 = 0 ∨ (s2.st.set i 2).getD j 0 = 1 ∨ (s2.st.set i 2).getD j 0 = 2
     rw [stI hil2]
     split
     ·exact .inr (.inr rfl)
     ·exact hp.inv.tri j
    ·have hj : (s2.st.set i 2).getD j 0 = 0 := hj
     rw [stI hil2] at hj
     split at hj
     ·exact absurd hj (by decide)
     ·exact hp.inv.nil j hj
    ·show (s2.st.set i 2).getD j 0 = 2 ↔ (j : Int) ∈ s2.wh ++ [(i : Int)]
     rw [stI hil2, List.mem_append, List.mem_singleton]
     split
     ·rename_i e; subst e; exact ⟨fun _ => .inr rfl, fun _ => rfl⟩
     ·rename_i e
      rw [hp.inv.who j]
      exact ⟨.inl, fun h => h.elim id (fun h => absurd (Int.ofNat.inj h).symm e)⟩
    ·have hx : x ∈ s2.wh ++ [(i : Int)] := hx
     rw [List.mem_append, List.mem_singleton] at hx
     rcases hx with hx | rfl
     ·exact hp.inv.whr x hx
     ·omega
    ·show (s2.wh ++ [(i : Int)]).Nodup
     rw [List.nodup_append]
     exact ⟨hp.inv.nod, by simp, fun a ha b hb => by rw [List.mem_singleton] at hb; subst hb; exact fun e => hnw2 (e ▸ ha)⟩
    ·have hj : (s2.st.set i 2).getD j 0 ≠ 0 := hj
     rw [stI hil2] at hj
     refine hp.inv.bgn j ?_
     split at hj
     ·rename_i e; subst e; rw [hb2]; decide
     ·exact hj
    ·have e : s2.wh ++ [(i : Int)] = a ++ m :: b := e
     rcases List.eq_nil_or_concat b with rfl | ⟨b', y, rfl⟩
     ·obtain ⟨ea, em⟩ := List.append_inj' e rfl
      injection em with em _
      subst em ea
      obtain ⟨q, hq, hq0⟩ := hw x hx hk
      rcases hp.inv.tri q with h | h | h
      ·exact absurd h hq0
      ·right
       refine circ_of (x := x.f1) (edge_of hi hx (.inl hk)) ?_
       rw [hq]
       exact hr1 q ((hp.bgs q).1 h)
      ·left
       rw [hq]
       exact (hp.inv.who q).1 h
     ·rw [List.concat_eq_append, ← List.cons_append, ← List.append_assoc] at e
      obtain ⟨ea, _⟩ := List.append_inj' e rfl
      exact hp.inv.ord a m b' ea x hx hk
    ·show (s2.st.set i 2).getD j 0 = 1 ↔ s.st.getD j 0 = 1
     rw [stI hil2]
     split
     ·rename_i e; subst e; rw [h0]; decide
     ·rename_i e; exact hbgs j (fun e2 => e e2.symm)
    ·obtain ⟨t, ht⟩ := hwhp
     exact ⟨t ++ [(i : Int)], by show s2.wh ++ [(i : Int)] = _; rw [ht, List.append_assoc]⟩
    ·show (s2.st.set i 2).getD i 0 ≠ 0
     rw [stI hil2, if_pos rfl]; decide
    ·rw [tb]
     refine ⟨Nat.le_trans hl2.1 (by omega), ?_, Nat.le_trans hl2.2.2.1 (by omega), fun j => Nat.le_trans (hl2.2.2.2 j) (by omega)⟩
     show (s2.wh ++ [(i : Int)]).length ≤ _
     rw [List.length_append, List.length_singleton]
     have := hl2.2.1
     omega
   | false =>
    refine ⟨false, _, rfl, ⟨⟨?_, ?_, fun j => ?_, fun j hj => ?_, fun j p hp2 => ?_, fun j => ?_, hp.inv.whr, hp.inv.nod, fun j hj => ?_, hp.inv.ord⟩, fun j => ?_, hwhp, hbgp⟩, (fun e => by cases e), fun _ => ?_, ?_⟩
    ·show (s2.st.set i 0).length = _; rw [List.length_set]; exact hp.inv.l1
    ·show (s2.nm.set i []).length = _; rw [List.length_set]; exact hp.inv.l2
    ·show (s2.st.set i 0).getD j 0 = 0 ∨ (s2.st.set i 0).getD j 0 = 1 ∨ (s2.st.set i 0).getD j 0 = 2
     rw [stI hil2]
     split
     ·exact .inl rfl
     ·exact hp.inv.tri j
    ·have hj : (s2.st.set i 0).getD j 0 = 0 := hj
     show (s2.nm.set i []).getD j [] = []
     rw [nmI hin2]
     rw [stI hil2] at hj
     split
     ·rfl
     ·rename_i e; rw [if_neg e] at hj; exact hp.inv.nil j hj
    ·have hp2 : p ∈ (s2.nm.set i []).getD j [] := hp2
     rw [nmI hin2] at hp2
     split at hp2
     ·cases hp2
     ·exact hp.inv.val j p hp2
    ·show (s2.st.set i 0).getD j 0 = 2 ↔ (j : Int) ∈ s2.wh
     rw [stI hil2]
     split
     ·rename_i e; subst e; exact ⟨fun h => absurd h (by decide), fun h => absurd h hnw2⟩
     ·exact hp.inv.who j
    ·have hj : (s2.st.set i 0).getD j 0 ≠ 0 := hj
     rw [stI hil2] at hj
     split at hj
     ·exact absurd rfl hj
     ·exact hp.inv.bgn j hj
    ·show (s2.st.set i 0).getD j 0 = 1 ↔ s.st.getD j 0 = 1
     rw [stI hil2]
     split
     ·rename_i e; subst e; rw [h0]
     ·rename_i e; exact hbgs j (fun e2 => e e2.symm)
    ·show (s2.st.set i 0).getD i 0 = 0
     rw [stI hil2, if_pos rfl]
    ·rw [tb]
     refine ⟨Nat.le_trans hl2.1 (by omega), Nat.le_trans hl2.2.1 (by omega), Nat.le_trans hl2.2.2.1 (by omega), fun j => ?_⟩
     show ((s2.nm.set i []).getD j []).length ≤ _
     rw [nmI hin2]
     split
     ·simp
     ·exact Nat.le_trans (hl2.2.2.2 j) (by omega)
  ·rw [if_neg (show ¬ rd s.st (i : Int) = 0 from h0)]
   exact ⟨true, s, rfl, IPost.refl hs, fun _ => h0, (fun e => by cases e), hle.mono (by omega)⟩
end Go.Proofs.Ytehhhlhedmfdiaa.PFnImportOrder
end
section
namespace Go.Proofs.Ytehhhlhedmfdiaa.PFnImportOrder
open Go.RowKit Go.Proofs.Yz0.PrintWords Go.Proofs.Yz0.PrintLast Go.Proofs.Yz0.PrintMore Go.Proofs.Ytehhhlhedmfdiaa.Plain
set_option linter.unusedVariables false
theorem tb6 : tb 6 = 374490 := by decide
def NoB (s : IS) : Prop := ∀ j : Nat, s.st.getD j 0 ≠ 1
theorem NoB.keep {M : List S72} {s t : IS} (h : NoB s) (k : IPost M s t) : NoB t := fun j e => h j ((k.bgs j).1 e)
theorem st2_keep {M : List S72} {s t : IS} (hs : IInv M s) (k : IPost M s t) {j : Nat} (h : s.st.getD j 0 = 2) : t.st.getD j 0 = 2 := by
 obtain ⟨a, ha⟩ := k.whp
 exact (k.inv.who j).2 (by rw [ha]; exact List.mem_append_left _ ((hs.who j).1 h))
theorem ldAll_ok {M : List S72} (hM : ModsP M) (dec : Int → ByteArray) : ∀ (l : List Int) (s : IS) (fa : List Int) (c : Nat), (∀ x ∈ l, 0 ≤ x ∧ x < M.length) → IInv M s → NoB s → Le c s → c + l.length * tb 6 < IB → fa.length + l.length < IB →
  ∃ s' t, ldAll dec M 7 l s fa = some (s', fa ++ t) ∧ IPost M s s' ∧ Le (c + l.length * tb 6) s' ∧ (∀ x ∈ l, s'.st.getD x.toNat 0 = 2 ∨ x ∈ t) ∧ (t = [] → ∀ x ∈ l, s'.st.getD x.toNat 0 = 2) ∧ t.length ≤ l.length := by
 intro l
 induction l with
 | nil => intro s fa c _ hs _ hle _ _; exact ⟨s, [], by simp [ldAll], IPost.refl hs, by simpa using hle, (fun x hx => by cases hx), (fun _ x hx => by cases hx), Nat.le_refl _⟩
 | cons i l ih =>
  intro s fa c hx hs hn hle hc hf
  rw [List.length_cons, Nat.succ_mul] at hc
  rw [List.length_cons] at hf
  obtain ⟨h0, h1⟩ := hx i (by simp)
  obtain ⟨q, rfl⟩ := Int.eq_ofNat_of_zero_le h0
  have hq : q < M.length := by omega
  obtain ⟨b, s1, e1, hp, hb1, hb0, hl⟩ := ld_ok hM dec 6 q s c hq hs (by have := nb_le s.st; rw [hs.l1] at this; have := hM.2.2; omega) (fun j hj => absurd hj (hn j)) hle (by have := Nat.zero_le (l.length * tb 6); omega)
  have hn1 := hn.keep hp
  simp only [ldAll]
  rw [e1]
  dsimp only [Option.bind_some]
  cases b with
  | true =>
   rw [if_pos rfl]
   obtain ⟨s2, t, e2, hp2, hl2, hw, ht, htl⟩ := ih s1 fa (c + tb 6) (fun x h => hx x (List.mem_cons_of_mem _ h)) hp.inv hn1 hl (by omega) (by omega)
   have hq2 : s1.st.getD q 0 = 2 := by
    rcases hp.inv.tri q with h | h | h
    ·exact absurd h (hb1 rfl)
    ·exact absurd h (hn1 q)
    ·exact h
   have hq3 := st2_keep hp.inv hp2 hq2
   refine ⟨s2, t, e2, hp.trans hp2, hl2.mono (by rw [List.length_cons, Nat.succ_mul]; omega), fun x h => ?_, fun et x h => ?_, by rw [List.length_cons]; omega⟩
   ·rcases List.mem_cons.1 h with rfl | h
    ·exact .inl hq3
    ·exact hw x h
   ·rcases List.mem_cons.1 h with rfl | h
    ·exact hq3
    ·exact ht et x h
  | false =>
   rw [if_neg (by decide), if_pos (by omega)]
   obtain ⟨s2, t, e2, hp2, hl2, hw, ht, htl⟩ := ih s1 (fa ++ [(q : Int)]) (c + tb 6) (fun x h => hx x (List.mem_cons_of_mem _ h)) hp.inv hn1 hl (by omega) (by rw [List.length_append, List.length_singleton]; omega)
   refine ⟨s2, (q : Int) :: t, by rw [e2, List.append_assoc]; rfl, hp.trans hp2, hl2.mono (by rw [List.length_cons, Nat.succ_mul]; omega), fun x h => ?_, (fun et => by cases et), by rw [List.length_cons, List.length_cons]; omega⟩
   rcases List.mem_cons.1 h with rfl | h
   ·exact .inr (by simp)
   ·exact (hw x h).imp id (List.mem_cons_of_mem _)
theorem rep0 {α : Type} (n j : Nat) (z : α) : (List.replicate n z).getD j z = z := by
 rw [List.getD_eq_getElem?_getD, List.getElem?_replicate]
 split <;> rfl
theorem is0_inv (M : List S72) : IInv M (is0 M.length) := by
 have h0 : ∀ j : Nat, (is0 M.length).st.getD j 0 = 0 := fun j => rep0 _ _ _
 have h1 : ∀ j : Nat, (is0 M.length).nm.getD j [] = [] := fun j => rep0 _ _ _
 refine ⟨by simp [is0], by simp [is0], fun i => .inl (h0 i), fun i _ => h1 i, (fun i p hp => by rw [h1] at hp; cases hp), fun i => ?_, (fun x hx => by cases hx), List.nodup_nil, fun i hi => absurd (h0 i) hi, fun a m b e => ?_⟩
 ·rw [h0]; exact ⟨fun h => absurd h (by decide), fun h => by cases h⟩
 ·have e : ([] : List Int) = a ++ m :: b := e
  cases a <;> cases e
theorem is0_noB (n : Nat) : NoB (is0 n) := fun j => by
 show (List.replicate n 0).getD j 0 ≠ 1
 rw [rep0]; decide
theorem is0_le (n : Nat) : Le 0 (is0 n) := ⟨Nat.le_refl _, Nat.le_refl _, Nat.le_refl _, fun j => by
 show ((List.replicate n []).getD j []).length ≤ 0
 rw [rep0]; exact Nat.le_refl _⟩
theorem run_ok {M : List S72} (hM : ModsP M) (dec : Int → ByteArray) (l : List Int) (hx : ∀ x ∈ l, 0 ≤ x ∧ x < M.length) (hl : l.length ≤ 1000) :
  ∃ s fa, ldAll dec M 7 l (is0 M.length) [] = some (s, fa) ∧ IInv M s ∧ NoB s ∧ (∀ x ∈ l, s.st.getD x.toNat 0 = 2 ∨ x ∈ fa) ∧ (fa = [] → ∀ x ∈ l, s.st.getD x.toNat 0 = 2) ∧ Le (l.length * tb 6) s ∧ fa.length ≤ l.length := by
 have hmul : l.length * tb 6 ≤ 1000 * tb 6 := Nat.mul_le_mul_right _ hl
 rw [tb6] at hmul
 obtain ⟨s, t, e, hp, hle, hw, ht, htl⟩ := ldAll_ok hM dec l (is0 M.length) [] 0 hx (is0_inv M) (is0_noB _) (is0_le _) (by rw [tb6]; unfold IB; omega) (by unfold IB; simp; omega)
 rw [List.nil_append] at e
 exact ⟨s, t, e, hp.inv, (is0_noB _).keep hp, hw, ht, by simpa using hle, htl⟩
theorem impAll_ev {dec : Int → ByteArray} {M : List S72} {l : List Int} {s : IS} {fa : List Int} (h : ldAll dec M 7 l (is0 M.length) [] = some (s, fa)) : Ev (fun k => impAll dec M k l) (s.bg, s.wh, fa, s.re, s.st) := by
 refine Ev.of (fun k => impAll_mono dec M k l) (k := 7) ?_
 unfold impAll
 rw [h]; rfl
def IdxP (n : Nat) (l : List Int) : Prop := (∀ x ∈ l, 0 ≤ x ∧ x < (n : Int)) ∧ l.length ≤ 60
theorem rd_drop {l : List Int} {j : Nat} (h : j < l.length) : l.drop j = rd l (j : Int) :: l.drop (j + 1) := rdI_drop h
theorem validIx_from (l : List Int) (n : Nat) (hl : l.length ≤ 9000000000000000000) (hn : n ≤ 1000) (d : Nat) : ∀ j : Nat, j + d = l.length → Tells (fun k => spec_validIndices.l0 k l (n : Int) (j : Int)) ((∀ x ∈ l.drop j, 0 ≤ x ∧ x < (n : Int)) ∧ l.length ≤ 60) := by
 have hw : wrap64 ((n : Int) - 1) = (n : Int) - 1 := by unfold wrap64; omega
 induction d with
 | zero =>
  intro j hj
  refine Tells.step (f := fun _ => some (decide ((l.length : Int) ≤ 60))) (fun k => ?_) (Tells.now ?_)
  ·simp only [spec_validIndices.l0]; rw [if_neg (by omega)]
  ·rw [List.drop_of_length_le (by omega), decide_eq_true_iff]
   exact ⟨fun h => ⟨(fun x hx => by cases hx), by omega⟩, fun h => by have := h.2; omega⟩
 | succ d ih =>
  intro j hj
  have hlt : j < l.length := by omega
  have hwr : wrap64 ((j : Int) + 1) = ((j + 1 : Nat) : Int) := by unfold wrap64; omega
  refine Tells.step (f := fun k => (spec_inRange.f (rd l (j : Int)) 0 ((n : Int) - 1)).bind fun t => (if t = true then (spec_validIndices.l0 k l (n : Int) ((j + 1 : Nat) : Int)) else (some false))) (fun k => ?_) ?_
  ·simp only [spec_validIndices.l0]; rw [if_pos (by omega), if_pos (by omega), hw, hwr]
  ·refine Tells.ask (f := fun k t => (if t = true then (spec_validIndices.l0 k l (n : Int) ((j + 1 : Nat) : Int)) else (some false))) (inRange_tells (rd l (j : Int)) 0 ((n : Int) - 1)) (fun h => ?_) (fun h => ?_)
   ·refine Tells.congr (f := fun k => spec_validIndices.l0 k l (n : Int) ((j + 1 : Nat) : Int)) (fun k => by rw [if_pos rfl]) (ih (j + 1) (by omega)) ?_
    rw [rd_drop hlt]
    exact ⟨fun h2 => ⟨fun x hx => (List.mem_cons.1 hx).elim (fun e => by subst e; omega) (h2.1 x), h2.2⟩, fun h2 => ⟨fun x hx => h2.1 x (List.mem_cons_of_mem _ hx), h2.2⟩⟩
   ·refine Tells.congr (f := fun _ => some false) (fun k => by rw [if_neg (by decide)]) (Tells.now (P := False) (by simp)) ?_
    rw [rd_drop hlt]
    exact ⟨False.elim, fun h2 => h (by have := h2.1 _ (List.mem_cons_self); omega)⟩
theorem validIx_tells (l : List Int) (n : Nat) (hl : l.length ≤ 9000000000000000000) (hn : n ≤ 1000) : Tells (fun k => spec_validIndices.f k l (n : Int)) (IdxP n l) :=
 Tells.congr (fun k => by unfold spec_validIndices.f; rfl) (validIx_from l n hl hn l.length 0 (by omega)) (by rw [List.drop_zero]; exact Iff.rfl)
theorem indicesOk_from (l : List Int) (n : Nat) (hl : l.length ≤ 9000000000000000000) (d : Nat) : ∀ j : Nat, j + d = l.length → Tells (fun k => impl_indicesOk.l0 k (n : Int) l (l.length : Int) (j : Int)) (∀ x ∈ l.drop j, 0 ≤ x ∧ x < (n : Int)) := by
 induction d with
 | zero =>
  intro j hj
  refine Tells.step (f := fun _ => some true) (fun k => ?_) (Tells.now ?_)
  ·simp only [impl_indicesOk.l0]; rw [if_neg (by omega)]
  ·rw [List.drop_of_length_le (by omega)]
   exact ⟨fun _ => (fun x hx => by cases hx), fun _ => rfl⟩
 | succ d ih =>
  intro j hj
  have hlt : j < l.length := by omega
  have hwr : wrap64 ((j : Int) + 1) = ((j + 1 : Nat) : Int) := by unfold wrap64; omega
  by_cases h0 : rd l (j : Int) < 0
  ·refine Tells.step (f := fun _ => some false) (fun k => ?_) (Tells.now (by rw [rd_drop hlt]; exact ⟨(fun h => by cases h), fun h => by have := h _ (List.mem_cons_self); omega⟩))
   simp only [impl_indicesOk.l0]; rw [if_pos (by omega), if_pos (by omega), if_pos (by omega)]; exact if_pos h0
  ·by_cases h1 : rd l (j : Int) ≥ (n : Int)
   ·refine Tells.step (f := fun _ => some false) (fun k => ?_) (Tells.now (by rw [rd_drop hlt]; exact ⟨(fun h => by cases h), fun h => by have := h _ (List.mem_cons_self); omega⟩))
    simp only [impl_indicesOk.l0]; rw [if_pos (by omega), if_pos (by omega), if_pos (by omega), if_neg h0, if_pos h1]
   ·refine Tells.step (f := fun k => impl_indicesOk.l0 k (n : Int) l (l.length : Int) ((j + 1 : Nat) : Int)) (fun k => ?_) ((ih (j + 1) (by omega)).iff ?_)
    ·simp only [impl_indicesOk.l0]; rw [if_pos (by omega), if_pos (by omega), if_pos (by omega), if_neg h0, if_neg h1, hwr]
    ·rw [rd_drop hlt]
     exact ⟨fun h2 => (fun x hx => (List.mem_cons.1 hx).elim (fun e => by subst e; omega) (h2 x)), fun h2 => fun x hx => h2 x (List.mem_cons_of_mem _ hx)⟩
theorem indicesOk_tells (l : List Int) (n : Nat) (hl : l.length ≤ 9000000000000000000) : Tells (fun k => impl_indicesOk.f k l (n : Int)) (∀ x ∈ l, 0 ≤ x ∧ x < (n : Int)) :=
 Tells.congr (fun k => by unfold impl_indicesOk.f; rfl) (indicesOk_from l n hl l.length 0 (by omega)) (by rw [List.drop_zero])
def RunIs (M : List S72) (l : List Int) (r : List Int × List Int × List Int × List ByteArray × List Int) : Prop :=
 Ev (fun k => impl_ImportRun.f k M l) r ∧ Ev (fun k => spec_ImportRun.f k M l) r
theorem run_bad (M : List S72) (hm : Small M) (l : List Int) (hl : l.length ≤ 9000000000000000000) (h : ¬ (ModsP M ∧ IdxP M.length l)) : RunIs M l ([], [], [], [], []) := by
 obtain ⟨b, v1, v2, hb⟩ := (validMods_tells M hm).same (modsOk_tells M hm)
 constructor
 ·cases b with
  | false =>
   exact Ev.bind (f := fun k t => if t = true then (if l.length > 60 then some ([], [], [], [], []) else (impl_indicesOk.f k l (M.length : Int)).bind fun u => if u = true then (if M.length ≤ 1000 then impAll decT M k l else none) else some ([], [], [], [], [])) else some ([], [], [], [], [])) v2 (Ev.congr (f := fun _ => some ([], [], [], [], [])) (fun k => by rw [if_neg (by decide)]) (Ev.now _))
  | true =>
   have hP := hb.1 rfl
   refine Ev.bind (f := fun k t => if t = true then (if l.length > 60 then some ([], [], [], [], []) else (impl_indicesOk.f k l (M.length : Int)).bind fun u => if u = true then (if M.length ≤ 1000 then impAll decT M k l else none) else some ([], [], [], [], [])) else some ([], [], [], [], [])) v2 ?_
   by_cases h60 : l.length > 60
   ·exact Ev.congr (f := fun _ => some ([], [], [], [], [])) (fun k => by rw [if_pos rfl, if_pos h60]) (Ev.now _)
   ·obtain ⟨c, i1, hc⟩ := indicesOk_tells l M.length hl
    have hcf : c = false := by
     cases c with
     | false => rfl
     | true => exact absurd ⟨hP, hc.1 rfl, by omega⟩ h
    subst hcf
    exact Ev.congr (fun k => by rw [if_pos rfl, if_neg h60]) (Ev.bind (f := fun k u => if u = true then (if M.length ≤ 1000 then impAll decT M k l else none) else some ([], [], [], [], [])) i1 (Ev.congr (f := fun _ => some ([], [], [], [], [])) (fun k => by rw [if_neg (by decide)]) (Ev.now _)))
 ·cases b with
  | false =>
   exact Ev.bind (f := fun k t => if t = true then ((spec_validIndices.f k l (M.length : Int)).bind fun u => if u = true then (if M.length ≤ 1000 then impAll decT M k l else none) else some ([], [], [], [], [])) else some ([], [], [], [], [])) v1 (Ev.congr (f := fun _ => some ([], [], [], [], [])) (fun k => by rw [if_neg (by decide)]) (Ev.now _))
  | true =>
   have hP := hb.1 rfl
   obtain ⟨c, i1, hc⟩ := validIx_tells l M.length hl (by have := hP.2.2; omega)
   have hcf : c = false := by
    cases c with
    | false => rfl
    | true => exact absurd ⟨hP, hc.1 rfl⟩ h
   subst hcf
   refine Ev.bind (f := fun k t => if t = true then ((spec_validIndices.f k l (M.length : Int)).bind fun u => if u = true then (if M.length ≤ 1000 then impAll decT M k l else none) else some ([], [], [], [], [])) else some ([], [], [], [], [])) v1 ?_
   exact Ev.congr (fun k => by rw [if_pos rfl]) (Ev.bind (f := fun k u => if u = true then (if M.length ≤ 1000 then impAll decT M k l else none) else some ([], [], [], [], [])) i1 (Ev.congr (f := fun _ => some ([], [], [], [], [])) (fun k => by rw [if_neg (by decide)]) (Ev.now _)))
theorem run_good (M : List S72) (hm : Small M) (l : List Int) (hP : ModsP M) (hI : IdxP M.length l) {s : IS} {fa : List Int} (h : ldAll decT M 7 l (is0 M.length) [] = some (s, fa)) : RunIs M l (s.bg, s.wh, fa, s.re, s.st) := by
 obtain ⟨b, v1, v2, hb⟩ := (validMods_tells M hm).same (modsOk_tells M hm)
 have hbt : b = true := hb.2 hP
 subst hbt
 have hl : l.length ≤ 9000000000000000000 := by have := hI.2; omega
 constructor
 ·obtain ⟨c, i1, hc⟩ := indicesOk_tells l M.length hl
  have hct : c = true := hc.2 hI.1
  subst hct
  refine Ev.bind (f := fun k t => if t = true then (if l.length > 60 then some ([], [], [], [], []) else (impl_indicesOk.f k l (M.length : Int)).bind fun u => if u = true then (if M.length ≤ 1000 then impAll decT M k l else none) else some ([], [], [], [], [])) else some ([], [], [], [], [])) v2 ?_
  refine Ev.congr (fun k => by rw [if_pos rfl, if_neg (by have := hI.2; omega)]) (Ev.bind (f := fun k u => if u = true then (if M.length ≤ 1000 then impAll decT M k l else none) else some ([], [], [], [], [])) i1 (Ev.congr (fun k => by rw [if_pos rfl, if_pos (by have := hP.2.2; omega)]) (impAll_ev h)))
 ·obtain ⟨c, i1, hc⟩ := validIx_tells l M.length hl (by have := hP.2.2; omega)
  have hct : c = true := hc.2 hI
  subst hct
  refine Ev.bind (f := fun k t => if t = true then ((spec_validIndices.f k l (M.length : Int)).bind fun u => if u = true then (if M.length ≤ 1000 then impAll decT M k l else none) else some ([], [], [], [], [])) else some ([], [], [], [], [])) v1 ?_
  refine Ev.congr (fun k => by rw [if_pos rfl]) (Ev.bind (f := fun k u => if u = true then (if M.length ≤ 1000 then impAll decT M k l else none) else some ([], [], [], [], [])) i1 (Ev.congr (fun k => by rw [if_pos rfl, if_pos (by have := hP.2.2; omega)]) (impAll_ev h)))
end Go.Proofs.Ytehhhlhedmfdiaa.PFnImportOrder
end
section
namespace Go.Proofs.Ytehhhlhedmfdiaa.PFnImportOrder
open Go.RowKit Go.Proofs.Yz0.PrintWords Go.Proofs.Yz0.PrintLast Go.Proofs.Yz0.PrintMore Go.Proofs.Ytehhhlhedmfdiaa.Plain
set_option linter.unusedVariables false
theorem sameNums_from (l : List Int) (hl : l.length ≤ 1000000000000) (d : Nat) : ∀ j : Nat, j + d = l.length → Ev (fun k => spec_sameNums.l0 k l l (j : Int)) true := by
 induction d with
 | zero =>
  intro j hj
  refine Ev.step (f := fun _ => some true) (fun k => ?_) (Ev.now _)
  simp only [spec_sameNums.l0]; rw [if_neg (by omega)]
 | succ d ih =>
  intro j hj
  refine Ev.step (fun k => ?_) (ih (j + 1) (by omega))
  simp only [spec_sameNums.l0]
  rw [if_pos (by omega), if_pos (by omega), if_pos (by omega), show wrap64 ((j : Int) + 1) = ((j + 1 : Nat) : Int) from by unfold wrap64; omega]
  exact if_pos trivial
theorem sameNums_ev (l : List Int) (hl : l.length ≤ 1000000000000) : Ev (fun k => spec_sameNums.f k l l) true := by
 refine Ev.congr (fun k => ?_) (sameNums_from l hl l.length 0 (by omega))
 unfold spec_sameNums.f
 rw [if_pos rfl]; rfl
theorem sameTexts_from (l : List ByteArray) (hl : l.length ≤ 1000000000000) (d : Nat) : ∀ j : Nat, j + d = l.length → Ev (fun k => spec_sameTexts.l0 k l l (j : Int)) true := by
 induction d with
 | zero =>
  intro j hj
  refine Ev.step (f := fun _ => some true) (fun k => ?_) (Ev.now _)
  simp only [spec_sameTexts.l0]; rw [if_neg (by omega)]
 | succ d ih =>
  intro j hj
  refine Ev.step (fun k => ?_) (ih (j + 1) (by omega))
  simp only [spec_sameTexts.l0]
  rw [if_pos (by omega), if_pos (by omega), if_pos (by omega), show wrap64 ((j : Int) + 1) = ((j + 1 : Nat) : Int) from by unfold wrap64; omega]
  exact if_pos trivial
theorem sameTexts_ev (l : List ByteArray) (hl : l.length ≤ 1000000000000) : Ev (fun k => spec_sameTexts.f k l l) true := by
 refine Ev.congr (fun k => ?_) (sameTexts_from l hl l.length 0 (by omega))
 unfold spec_sameTexts.f
 rw [if_pos rfl]; rfl
theorem yes_bind {g : Nat → Option Bool} {f : Nat → Option Bool} {b : Bool} (h : Ev g true) (k : Ev f b) : Ev (fun n => (g n).bind fun t => if t = true then f n else some false) b :=
 Ev.bind (f := fun n t => if t = true then f n else some false) h (Ev.congr (fun n => by rw [if_pos rfl]) k)
theorem same_ev (r1 r2 r3 : List Int) (r4 : List ByteArray) (r5 : List Int) (h1 : r1.length ≤ 1000000000000) (h2 : r2.length ≤ 1000000000000) (h3 : r3.length ≤ 1000000000000) (h4 : r4.length ≤ 1000000000000) (h5 : r5.length ≤ 1000000000000) :
  Ev (fun k => spec_SameImports.f k r1 r2 r3 r4 r5 r1 r2 r3 r4 r5) true := by
 refine Ev.congr (fun k => by unfold spec_SameImports.f; rfl) ?_
 exact yes_bind (sameNums_ev r1 h1) (yes_bind (sameNums_ev r2 h2) (yes_bind (sameNums_ev r3 h3) (yes_bind (sameTexts_ev r4 h4) (Ev.congr (fun k => by rw [bindSome]) (sameNums_ev r5 h5)))))
theorem inList_from (l : List Int) (n : Int) (hl : l.length ≤ 1000000000000) (d : Nat) : ∀ j : Nat, j + d = l.length → Tells (fun k => spec_inList.l0 k l n (j : Int)) (n ∈ l.drop j) := by
 induction d with
 | zero =>
  intro j hj
  refine Tells.step (f := fun _ => some false) (fun k => ?_) (Tells.now ?_)
  ·simp only [spec_inList.l0]; rw [if_neg (by omega)]
  ·rw [List.drop_of_length_le (by omega)]; simp
 | succ d ih =>
  intro j hj
  have hlt : j < l.length := by omega
  by_cases h : rd l (j : Int) = n
  ·refine Tells.step (f := fun _ => some true) (fun k => ?_) (Tells.now ?_)
   ·simp only [spec_inList.l0]; rw [if_pos (by omega), if_pos (by omega), if_pos h]
   ·rw [rd_drop hlt, h]; simp
  ·refine Tells.step (fun k => ?_) ((ih (j + 1) (by omega)).iff ?_)
   ·simp only [spec_inList.l0]; rw [if_pos (by omega), if_pos (by omega), if_neg h, show wrap64 ((j : Int) + 1) = ((j + 1 : Nat) : Int) from by unfold wrap64; omega]
   ·rw [rd_drop hlt, List.mem_cons]
    exact ⟨.inr, fun h2 => h2.elim (fun e => absurd e.symm h) id⟩
theorem hasInt_tells (l : List Int) (n : Int) (hl : l.length ≤ 1000000000000) : Tells (fun k => spec_HasInt.f k l n) (n ∈ l) :=
 Tells.congr (fun k => by unfold spec_HasInt.f spec_inList.f; rw [bindSome]; rfl) (inList_from l n hl l.length 0 (by omega)) (by rw [List.drop_zero])
theorem hasInt_ev {l : List Int} {n : Int} (hl : l.length ≤ 1000000000000) (h : n ∈ l) : Ev (fun k => spec_HasInt.f k l n) true := by
 obtain ⟨b, e, hb⟩ := hasInt_tells l n hl
 rw [hb.2 h] at e
 exact e
end Go.Proofs.Ytehhhlhedmfdiaa.PFnImportOrder
end
section
namespace Go.Proofs.Ytehhhlhedmfdiaa.PFnImportOrder
open Go.RowKit Go.Proofs.Yz0.PrintWords Go.Proofs.Yz0.PrintLast Go.Proofs.Yz0.PrintMore Go.Proofs.Ytehhhlhedmfdiaa.Plain
set_option linter.unusedVariables false
theorem wrs {i : Int} (h0 : -4611686018427387904 ≤ i) (h : i < 4611686018427387904) : wrap64 i = i := by unfold wrap64; omega
theorem rdOf_mkd (seen : List Bool) (v : Int) : rdOf false seen v = mkd seen v := rfl
theorem blank_take {seen : List Bool} {v : Int} (hi : InR seen.length v) (hm : ¬ mkd seen v = true) : nblank (seen.set v.toNat true) + 1 = nblank seen :=
 blank_set (by have := hi.1; have := hi.2; omega) (by unfold mkd at hm; simpa using hm)
theorem take_parts {l : List Int} (h : 0 < l.length) : l = l.take (l.length - 1) ++ [rd l ((l.length : Int) - 1)] := by
 have hl : l.length - 1 < l.length := by omega
 have e : ((l.length : Int) - 1).toNat = l.length - 1 := by omega
 unfold rd
 rw [e, List.getD_eq_getElem?_getD, List.getElem?_eq_getElem hl]
 show l = l.take (l.length - 1) ++ [l[l.length - 1]]
 rw [← List.take_succ_eq_append_getElem hl, List.take_of_length_le (by omega)]
theorem dfs {refs : List (List Int)} {roots : List Int} (hg : Graph refs) (D B : Nat) (hD : ∀ v, (outs refs v).length ≤ D) (hB : B < 17592186044416) (m : Nat) :
  ∀ (seen : List Bool) (todo : List Int), todo.length + nblank seen * (D + 1) ≤ m → todo.length + nblank seen * D ≤ B →
   Work refs roots seen todo → ∃ out, Ev (fun k => impl_reached.l0 k refs seen todo) out ∧ Work refs roots out [] := by
 induction m with
 | zero =>
  intro seen todo hm hb hw
  refine ⟨seen, Ev.step (f := fun _ => some seen) (fun k => ?_) (Ev.now _), ?_⟩
  ·simp only [impl_reached.l0]; rw [if_neg (by omega)]
  ·rw [List.eq_nil_of_length_eq_zero (by omega : todo.length = 0)] at hw; exact hw
 | succ m ih =>
  intro seen todo hm hb hw
  by_cases hi : (todo.length : Int) > 0
  ·have hlp : 0 < todo.length := by omega
   have hp := take_parts hlp
   have hv : rd todo ((todo.length : Int) - 1) ∈ todo := by
    have h := List.mem_append_right (todo.take (todo.length - 1)) (List.mem_singleton.2 (rfl : rd todo ((todo.length : Int) - 1) = rd todo ((todo.length : Int) - 1)))
    rw [← hp] at h
    exact h
   have hin : InR refs.length (rd todo ((todo.length : Int) - 1)) := hw.ok _ hv
   have hin2 : InR seen.length (rd todo ((todo.length : Int) - 1)) := by rw [hw.len]; exact hin
   have hwr : wrap64 ((todo.length : Int) - 1) = (todo.length : Int) - 1 := wrs (by omega) (by omega)
   have htn : ((todo.length : Int) - 1).toNat = todo.length - 1 := by omega
   have hsub : ∀ x ∈ todo.take (todo.length - 1), x ∈ todo := fun x hx => List.mem_of_mem_take hx
   have hor : ∀ x ∈ todo, x = rd todo ((todo.length : Int) - 1) ∨ x ∈ todo.take (todo.length - 1) := fun x hx => by
    have hx2 : x ∈ todo.take (todo.length - 1) ++ [rd todo ((todo.length : Int) - 1)] := by rw [← hp]; exact hx
    rcases List.mem_append.1 hx2 with h | h
    ·exact .inr h
    ·exact .inl (List.mem_singleton.1 h)
   have htl : (todo.take (todo.length - 1)).length = todo.length - 1 := by rw [List.length_take]; omega
   by_cases hmk : mkd seen (rd todo ((todo.length : Int) - 1)) = true
   ·obtain ⟨out, he, hwk⟩ := ih seen (todo.take (todo.length - 1)) (by omega) (by omega) (hw.drop hmk hsub hor)
    refine ⟨out, Ev.step (fun k => ?_) he, hwk⟩
    simp only [impl_reached.l0, hwr]
    rw [if_pos hi, if_pos (by omega), if_pos (by omega), if_pos (by omega)]
    simp only [Option.bind_some]
    rw [if_pos hin.1, if_pos hin2.2, rdOf_mkd, if_pos hmk, htn]
   ·have hbl := blank_take hin2 hmk
    have hd := hD (rd todo ((todo.length : Int) - 1))
    have hlen : (todo.take (todo.length - 1) ++ outs refs (rd todo ((todo.length : Int) - 1))).length = (todo.length - 1) + (outs refs (rd todo ((todo.length : Int) - 1))).length := by rw [List.length_append, htl]
    have hmul : nblank seen * D = nblank (seen.set (rd todo ((todo.length : Int) - 1)).toNat true) * D + D := by rw [← hbl, Nat.succ_mul]
    have hmul2 : nblank seen * (D + 1) = nblank (seen.set (rd todo ((todo.length : Int) - 1)).toNat true) * (D + 1) + (D + 1) := by rw [← hbl, Nat.succ_mul]
    obtain ⟨out, he, hwk⟩ := ih (seen.set (rd todo ((todo.length : Int) - 1)).toNat true) (todo.take (todo.length - 1) ++ outs refs (rd todo ((todo.length : Int) - 1))) (by omega) (by omega)
     (hw.take hg hv (fun x hx => (List.mem_append.1 hx).imp (hsub x) id) (fun x hx => (hor x hx).imp id (fun h => List.mem_append_left _ h)) (fun x hx => List.mem_append_right _ hx))
    refine ⟨out, Ev.step (fun k => ?_) he, hwk⟩
    simp only [impl_reached.l0, hwr]
    rw [if_pos hi, if_pos (by omega), if_pos (by omega), if_pos (by omega)]
    simp only [Option.bind_some]
    rw [if_pos hin.1, if_pos hin2.2, rdOf_mkd, if_neg hmk, if_pos hin.2, htn, show rd_L6 refs (rd todo ((todo.length : Int) - 1)) = outs refs (rd todo ((todo.length : Int) - 1)) from rfl, if_pos (show (todo.take (todo.length - 1)).length + (outs refs (rd todo ((todo.length : Int) - 1))).length < 17592186044416 from by omega)]
  ·refine ⟨seen, Ev.step (f := fun _ => some seen) (fun k => ?_) (Ev.now _), ?_⟩
   ·simp only [impl_reached.l0]; rw [if_neg hi]
   ·rw [List.eq_nil_of_length_eq_zero (by omega : todo.length = 0)] at hw; exact hw
theorem reached_ev {refs : List (List Int)} {roots : List Int} (hg : Graph refs) (hr : AllIn refs.length roots) (D : Nat) (hD : ∀ v, (outs refs v).length ≤ D) (hB : roots.length + refs.length * D < 17592186044416) (hn : refs.length ≤ 281474976710656) :
  ∃ out, Ev (fun k => impl_reached.f k refs roots) out ∧ Work refs roots out [] := by
 have h0 := Work.start hr
 obtain ⟨o2, e2, w2⟩ := dfs hg D _ hD hB _ (List.replicate refs.length false) roots (Nat.le_refl _) (by rw [blank_nil]; exact Nat.le_refl _) h0
 refine ⟨o2, Ev.congr (fun k => ?_) e2, w2⟩
 unfold impl_reached.f slices_Clone_int_int.f
 rw [if_pos (by omega), if_pos (by omega), if_pos (by have := Nat.zero_le (refs.length * D); omega)]
 simp only [Option.bind_some, Int.toNat_natCast]
end Go.Proofs.Ytehhhlhedmfdiaa.PFnImportOrder
end
section
namespace Go.Proofs.Ytehhhlhedmfdiaa.PFnImportOrder
open Go.RowKit Go.Proofs.Yz0.PrintWords Go.Proofs.Yz0.PrintLast Go.Proofs.Yz0.PrintMore Go.Proofs.Ytehhhlhedmfdiaa.Plain
set_option linter.unusedVariables false
theorem edges_graph {m : List S72} (h : ModsP m) : Graph (edges m) := by
 intro l hl v hv
 unfold edges at hl ⊢
 obtain ⟨x, hx, rfl⟩ := List.mem_map.1 hl
 rw [List.length_map]
 unfold sel at hv
 obtain ⟨s, hs, rfl⟩ := List.mem_map.1 hv
 rw [List.mem_filter] at hs
 have hk : s.f0 = 1 ∨ s.f0 = 2 := by simpa using hs.2
 have := ((h.1 x hx).1 s hs.1).2.1
 unfold top at this
 rw [if_neg (by omega)] at this
 unfold InR; omega
theorem edges_outs {m : List S72} (h : ModsP m) (v : Int) : (outs (edges m) v).length ≤ 8 := by
 unfold outs
 rw [List.getD_eq_getElem?_getD]
 cases he : (edges m)[v.toNat]? with
 | none => simp
 | some l =>
  unfold edges at he
  rw [List.getElem?_map] at he
  obtain ⟨x, hx, rfl⟩ := Option.map_eq_some_iff.1 he
  exact Nat.le_trans (sel_len _) (h.1 x (List.mem_of_getElem? hx)).2
theorem edges_len (m : List S72) : (edges m).length = m.length := by unfold edges; rw [List.length_map]
theorem marked_from (l : List Bool) (b : Bool) (hl : l.length ≤ 1048576) (d : Nat) : ∀ (acc : List Int) (j : Nat), acc.length ≤ j → j + d = l.length →
  ∃ r : List Int, Ev (fun k => impl_marked.l0 k b acc l (l.length : Int) (j : Int)) r ∧ r.length ≤ acc.length + d ∧ ∀ v : Int, v ∈ r ↔ v ∈ acc ∨ ∃ q : Nat, v = (q : Int) ∧ j ≤ q ∧ q < l.length ∧ mkd l (q : Int) = b := by
 induction d with
 | zero =>
  intro acc j ha hj
  refine ⟨acc, Ev.step (f := fun _ => some acc) (fun k => ?_) (Ev.now _), Nat.le_refl _, fun v => ⟨.inl, fun h => h.elim id (fun ⟨q, _, h1, h2, _⟩ => by omega)⟩⟩
  simp only [impl_marked.l0]; rw [if_neg (by omega)]
 | succ d ih =>
  intro acc j ha hj
  have hw : wrap64 ((j : Int) + 1) = ((j + 1 : Nat) : Int) := by unfold wrap64; omega
  by_cases hb : ((rdOf false l (j : Int)) == b) = true
  ·obtain ⟨r, e, hr, hm⟩ := ih (acc ++ [(j : Int)]) (j + 1) (by rw [List.length_append, List.length_singleton]; omega) (by omega)
   refine ⟨r, Ev.step (fun k => ?_) e, by rw [List.length_append, List.length_singleton] at hr; omega, fun v => ?_⟩
   ·simp only [impl_marked.l0]; rw [if_pos (by omega), if_pos (by omega), if_pos (by omega), if_pos hb, if_pos (by omega), hw]
   ·rw [hm v, List.mem_append, List.mem_singleton]
    constructor
    ·rintro ((h | h) | ⟨q, h1, h2, h3, h4⟩)
     ·exact .inl h
     ·exact .inr ⟨j, h, Nat.le_refl _, by omega, beq_iff_eq.1 hb⟩
     ·exact .inr ⟨q, h1, by omega, h3, h4⟩
    ·rintro (h | ⟨q, h1, h2, h3, h4⟩)
     ·exact .inl (.inl h)
     ·by_cases e : q = j
      ·subst e; exact .inl (.inr h1)
      ·exact .inr ⟨q, h1, by omega, h3, h4⟩
  ·obtain ⟨r, e, hr, hm⟩ := ih acc (j + 1) (by omega) (by omega)
   refine ⟨r, Ev.step (fun k => ?_) e, by omega, fun v => ?_⟩
   ·simp only [impl_marked.l0]; rw [if_pos (by omega), if_pos (by omega), if_pos (by omega), if_neg hb, hw]
   ·rw [hm v]
    constructor
    ·rintro (h | ⟨q, h1, h2, h3, h4⟩)
     ·exact .inl h
     ·exact .inr ⟨q, h1, by omega, h3, h4⟩
    ·rintro (h | ⟨q, h1, h2, h3, h4⟩)
     ·exact .inl h
     ·by_cases e : q = j
      ·subst e; exact absurd (beq_iff_eq.2 h4) hb
      ·exact .inr ⟨q, h1, by omega, h3, h4⟩
theorem marked_ev (l : List Bool) (b : Bool) (hl : l.length ≤ 1048576) : ∃ r : List Int, Ev (fun k => impl_marked.f k l b) r ∧ r.length ≤ l.length ∧ ∀ v : Int, v ∈ r ↔ ∃ q : Nat, v = (q : Int) ∧ q < l.length ∧ mkd l (q : Int) = b := by
 obtain ⟨r, e, hr, hm⟩ := marked_from l b hl l.length [] 0 (by simp) (by omega)
 refine ⟨r, Ev.congr (fun k => by unfold impl_marked.f; rfl) e, by simpa using hr, fun v => ?_⟩
 rw [hm v]
 exact ⟨fun h => h.elim (fun h => by cases h) (fun ⟨q, h1, _, h3, h4⟩ => ⟨q, h1, h3, h4⟩), fun ⟨q, h1, h3, h4⟩ => .inr ⟨q, h1, Nat.zero_le _, h3, h4⟩⟩
theorem needs_ev (M : List S72) (hs : Small M) (hM : ModsP M) (a : Int) (h0 : 0 ≤ a) (h1 : a < M.length) :
  ∃ r : List Int, Ev (fun k => impl_ImportNeeds.f k M a) r ∧ r.length ≤ 6 ∧ (∀ v ∈ r, 0 ≤ v ∧ v < M.length) ∧ ∀ v, Plain.Reach (edges M) [a] v → v ∈ r := by
 have h8 : ∀ x ∈ M, x.f0.length ≤ 8 := fun x hx => (hM.1 x hx).2
 have hm := hM.2.2
 have hain : AllIn (edges M).length [a] := fun v hv => by rw [List.mem_singleton.1 hv, edges_len]; exact ⟨h0, h1⟩
 obtain ⟨seen, e1, hw⟩ := reached_ev (edges_graph hM) (roots := [a]) hain 8 (edges_outs hM) (by rw [edges_len]; simp; omega) (by rw [edges_len]; omega)
 have hsl : seen.length = M.length := hw.len.trans (edges_len M)
 obtain ⟨r, e2, hr, hmem⟩ := marked_ev seen true (by omega)
 have e3 : Ev (fun k => (impl_importsOf.f k M).bind fun t303 => ((impl_reached.f k t303 (([a] : List Int))).bind fun t309 => ((impl_marked.f k t309 true).bind fun t312 => (some t312)))) r :=
  Ev.bind (f := fun k t303 => ((impl_reached.f k t303 (([a] : List Int))).bind fun t309 => ((impl_marked.f k t309 true).bind fun t312 => (some t312)))) (importsOf_ev M hm h8)
   (Ev.bind (f := fun k t309 => ((impl_marked.f k t309 true).bind fun t312 => (some t312))) e1 (Ev.congr (fun k => by rw [bindSome]) e2))
 obtain ⟨b, v2, hb⟩ := modsOk_tells M hs
 have hbt : b = true := hb.2 hM
 subst hbt
 have iyes : Ev (fun k => impl_ImportNeeds.j0 k M a false) r := Ev.step (fun k => by simp only [impl_ImportNeeds.j0]; exact if_neg (by decide)) e3
 refine ⟨r, ?_, by omega, fun v hv => ?_, fun v hv => ?_⟩
 ·refine Ev.bind (f := fun k t302 => (if t302 = true then (if a < 0 then (impl_ImportNeeds.j0 k M a true) else (impl_ImportNeeds.j0 k M a (decide (a ≥ (M.length : Int))))) else (impl_ImportNeeds.j0 k M a true))) v2 (Ev.congr (fun k => ?_) iyes)
  rw [if_pos rfl, if_neg (by omega), decide_eq_false (by omega)]
 ·obtain ⟨q, rfl, h2, _⟩ := (hmem v).1 hv
  omega
 ·have hin : InR (edges M).length v := hv (fun x => InR (edges M).length x) (fun x hx => hain x hx) (fun x y _ hy => outs_in (edges_graph hM) hy)
  have hk := (hw.done hain (edges_graph hM) v hin.1).2 hv
  obtain ⟨q, rfl⟩ := Int.eq_ofNat_of_zero_le hin.1
  refine (hmem _).2 ⟨q, rfl, ?_, hk⟩
  have := hin.2
  rw [edges_len] at this
  omega
theorem circle_from (M : List S72) (hM : ModsP M) (r : List Int) (hr : r.length ≤ 6) (hin : ∀ v ∈ r, 0 ≤ v ∧ v < M.length) (d : Nat) : ∀ j : Nat, j + d = r.length →
  ∃ b, Ev (fun k => impl_ImportCircle.l0 k M r (r.length : Int) (j : Int)) b ∧ (b = false → ∀ v ∈ r.drop j, ¬ Plain.Reach (edges M) (outs (edges M) v) v) := by
 have h8 : ∀ x ∈ M, x.f0.length ≤ 8 := fun x hx => (hM.1 x hx).2
 have hm := hM.2.2
 induction d with
 | zero =>
  intro j hj
  refine ⟨false, Ev.step (f := fun _ => some false) (fun k => ?_) (Ev.now _), fun _ => ?_⟩
  ·simp only [impl_ImportCircle.l0]; rw [if_neg (by omega)]
  ·rw [List.drop_of_length_le (by omega)]; intro v hv; cases hv
 | succ d ih =>
  intro j hj
  have hlt : j < r.length := by omega
  have hd : r.drop j = rd r (j : Int) :: r.drop (j + 1) := by
   unfold rd
   rw [show ((j : Int)).toNat = j from rfl, List.getD_eq_getElem?_getD, List.getElem?_eq_getElem hlt, List.drop_eq_getElem_cons hlt]
   rfl
  have hv : rd r (j : Int) ∈ r := List.mem_of_mem_drop (by rw [hd]; simp : rd r (j : Int) ∈ r.drop j)
  obtain ⟨h0, h1⟩ := hin _ hv
  have hw : wrap64 ((j : Int) + 1) = ((j + 1 : Nat) : Int) := by unfold wrap64; omega
  have hain : AllIn (edges M).length (outs (edges M) (rd r (j : Int))) := fun x hx => outs_in (edges_graph hM) hx
  obtain ⟨seen, e1, hwk⟩ := reached_ev (edges_graph hM) hain 8 (edges_outs hM) (by rw [edges_len]; have := edges_outs hM (rd r (j : Int)); omega) (by rw [edges_len]; omega)
  have hsl : seen.length = M.length := hwk.len.trans (edges_len M)
  have hdone := hwk.done hain (edges_graph hM) (rd r (j : Int)) h0
  have main : ∀ {b : Bool}, Ev (fun k => if rdOf false seen (rd r (j : Int)) = true then some true else impl_ImportCircle.l0 k M r (r.length : Int) ((j + 1 : Nat) : Int)) b → Ev (fun k => impl_ImportCircle.l0 k M r (r.length : Int) (j : Int)) b := by
   intro b hb
   refine Ev.step (f := fun k => (impl_importsOf.f k M).bind fun t319 => (if 0 ≤ (rd r (j : Int)) then (if (rd r (j : Int)) < (t319.length : Int) then ((impl_reached.f k t319 (rd_L6 t319 (rd r (j : Int)))).bind fun t323 => (if (rd r (j : Int)) < (t323.length : Int) then (if rdOf false t323 (rd r (j : Int)) = true then (some true) else (impl_ImportCircle.l0 k M r (r.length : Int) ((j + 1 : Nat) : Int))) else (none))) else (none)) else (none))) (fun k => ?_) ?_
   ·simp only [impl_ImportCircle.l0]
    rw [if_pos (by omega), if_pos (by omega), if_pos (by omega), hw]
   ·refine Ev.bind (f := fun k t319 => (if 0 ≤ (rd r (j : Int)) then (if (rd r (j : Int)) < (t319.length : Int) then ((impl_reached.f k t319 (rd_L6 t319 (rd r (j : Int)))).bind fun t323 => (if (rd r (j : Int)) < (t323.length : Int) then (if rdOf false t323 (rd r (j : Int)) = true then (some true) else (impl_ImportCircle.l0 k M r (r.length : Int) ((j + 1 : Nat) : Int))) else (none))) else (none)) else (none))) (importsOf_ev M hm h8) ?_
    refine Ev.congr (f := fun k => (impl_reached.f k (edges M) (outs (edges M) (rd r (j : Int)))).bind fun t323 => (if (rd r (j : Int)) < (t323.length : Int) then (if rdOf false t323 (rd r (j : Int)) = true then (some true) else (impl_ImportCircle.l0 k M r (r.length : Int) ((j + 1 : Nat) : Int))) else (none))) (fun k => ?_) ?_
    ·rw [if_pos h0, if_pos (by rw [edges_len]; exact h1)]; rfl
    ·refine Ev.bind (f := fun k t323 => (if (rd r (j : Int)) < (t323.length : Int) then (if rdOf false t323 (rd r (j : Int)) = true then (some true) else (impl_ImportCircle.l0 k M r (r.length : Int) ((j + 1 : Nat) : Int))) else (none))) e1 (Ev.congr (fun k => ?_) hb)
     rw [if_pos (by omega)]
  by_cases hk : mkd seen (rd r (j : Int)) = true
  ·exact ⟨true, main (Ev.congr (f := fun _ => some true) (fun k => by rw [rdOf_mkd, if_pos hk]) (Ev.now _)), fun e => by cases e⟩
  ·obtain ⟨b, e, hb⟩ := ih (j + 1) (by omega)
   refine ⟨b, main (Ev.congr (fun k => by rw [rdOf_mkd, if_neg hk]) e), fun eb v hv2 => ?_⟩
   rw [hd] at hv2
   rcases List.mem_cons.1 hv2 with rfl | hv2
   ·exact fun hR => hk (hdone.2 hR)
   ·exact hb eb v hv2
theorem circle_ev (M : List S72) (hs : Small M) (hM : ModsP M) (a : Int) (h0 : 0 ≤ a) (h1 : a < M.length) : ∃ b, Ev (fun k => impl_ImportCircle.f k M a) b ∧ (b = false → ¬ Circ M a) := by
 obtain ⟨r, e1, hr, hin, hreach⟩ := needs_ev M hs hM a h0 h1
 obtain ⟨b, e2, hb⟩ := circle_from M hM r hr hin r.length 0 (by omega)
 refine ⟨b, Ev.bind (f := fun k t315 => (impl_ImportCircle.l0 k M t315 (t315.length : Int) 0)) e1 e2, fun eb ⟨x, hx1, hx2⟩ => ?_⟩
 have := hb eb x (by rw [List.drop_zero]; exact hreach x hx1)
 exact this hx2
end Go.Proofs.Ytehhhlhedmfdiaa.PFnImportOrder
end
section
namespace Go.Proofs.Ytehhhlhedmfdiaa.PFnImportOrder
open Go.RowKit Go.Proofs.Yz0.PrintWords Go.Proofs.Yz0.PrintLast Go.Proofs.Yz0.PrintMore
attribute [local go_sem] max2_int min2_int max_two min_two max_three min_three max_four min_four
set_option linter.unusedVariables false
set_option linter.unusedSimpArgs false
end Go.Proofs.Ytehhhlhedmfdiaa.PFnImportOrder
end
section
namespace Go.Proofs.Ytehhhlhedmfdiaa.PFnImportOrder
open Go.RowKit Go.Proofs.Yz0.PrintWords Go.Proofs.Yz0.PrintLast Go.Proofs.Yz0.PrintMore
set_option linter.unusedVariables false
def Bytes (l : List Int) : Prop := ∀ x ∈ l, 0 ≤ x ∧ x ≤ 255
theorem rnd_rd {l : List Int} (h : Bytes l) (i : Int) : 0 ≤ rd l i ∧ rd l i ≤ 255 := by
 unfold rd
 rw [List.getD_eq_getElem?_getD]
 cases e : l[i.toNat]? with
 | none => simp
 | some x => exact h x (List.mem_of_getElem? e)
theorem rnd_wr {a : Int} (h0 : 0 ≤ a) (h : a < 4611686018427387904) : wrap64 a = a := by unfold wrap64; omega
theorem xor_nn {a b : Int} (ha : 0 ≤ a) (ha2 : a < 4611686018427387904) (hb : 0 ≤ b) (hb2 : b < 4611686018427387904) : 0 ≤ Go.bits .xor .i64 a b := by
 obtain ⟨x, rfl⟩ := Int.eq_ofNat_of_zero_le ha
 obtain ⟨y, rfl⟩ := Int.eq_ofNat_of_zero_le hb
 have hx : x < 2 ^ 62 := by omega
 have hy : y < 2 ^ 62 := by omega
 have hxy : x ^^^ y < 2 ^ 62 := Nat.xor_lt_two_pow hx hy
 have ex : x % 2 ^ 64 = x := Nat.mod_eq_of_lt (by omega)
 have ey : y % 2 ^ 64 = y := Nat.mod_eq_of_lt (by omega)
 have e : ((BitVec.ofInt 64 (x : Int)) ^^^ (BitVec.ofInt 64 (y : Int))).toNat = x ^^^ y := by
  rw [BitVec.toNat_xor, BitVec.ofInt_natCast, BitVec.ofInt_natCast, BitVec.toNat_ofNat, BitVec.toNat_ofNat, ex, ey]
 show 0 ≤ IntKind.i64.wrap ((((BitVec.ofInt 64 (x : Int)) ^^^ (BitVec.ofInt 64 (y : Int))).toNat : Nat) : Int)
 rw [e, IntKind.wrap_i64]
 omega
theorem mixed_nn {r1 r2 pos q : Int} (h1 : 0 ≤ r1 ∧ r1 ≤ 255) (h2 : 0 ≤ r2 ∧ r2 ≤ 255) (hp : 0 ≤ pos ∧ pos ≤ 1000000000) (hq : 0 ≤ q ∧ q ≤ 1000000000) :
  0 ≤ Go.bits .xor .i64 (wrap64 ((wrap64 ((wrap64 ((wrap64 ((wrap64 r1) * 131)) + (wrap64 ((wrap64 r2) * 1117)))) + (wrap64 (pos * 29)))) + (wrap64 ((wrap64 q) * 53))))
   (wrap64 (Int.tdiv (wrap64 ((wrap64 ((wrap64 ((wrap64 ((wrap64 r1) * 131)) + (wrap64 ((wrap64 r2) * 1117)))) + (wrap64 (pos * 29)))) + (wrap64 ((wrap64 q) * 53)))) 64)) := by
 rw [rnd_wr (a := r1) (by omega) (by omega), rnd_wr (a := r2) (by omega) (by omega), rnd_wr (a := q) (by omega) (by omega), rnd_wr (a := r1 * 131) (by omega) (by omega), rnd_wr (a := r2 * 1117) (by omega) (by omega),
  rnd_wr (a := pos * 29) (by omega) (by omega), rnd_wr (a := q * 53) (by omega) (by omega), rnd_wr (a := r1 * 131 + r2 * 1117) (by omega) (by omega), rnd_wr (a := r1 * 131 + r2 * 1117 + pos * 29) (by omega) (by omega),
  rnd_wr (a := r1 * 131 + r2 * 1117 + pos * 29 + q * 53) (by omega) (by omega)]
 have e : Int.tdiv (r1 * 131 + r2 * 1117 + pos * 29 + q * 53) 64 = (r1 * 131 + r2 * 1117 + pos * 29 + q * 53) / 64 := Int.tdiv_eq_ediv_of_nonneg (by omega)
 rw [e, rnd_wr (by omega) (by omega)]
 exact xor_nn (by omega) (by omega) (by omega) (by omega)
theorem pick_ok {l : List Int} (hb : Bytes l) {pos n : Int} (h0 : 0 ≤ pos) (h1 : pos < 1000000) : ∃ r p', spec_rnd_pick.f l pos n = some (r, p') ∧ 0 ≤ r ∧ (n < 2 ∧ r = 0 ∨ r < n) ∧ pos ≤ p' ∧ p' ≤ pos + 1 := by
 unfold spec_rnd_pick.f
 by_cases hn : n < 2
 ·rw [if_pos hn]; exact ⟨0, pos, rfl, by omega, Or.inl ⟨hn, rfl⟩, by omega, by omega⟩
 rw [if_neg hn]
 have hw : wrap64 (pos + 1) = pos + 1 := rnd_wr (by omega) (by omega)
 have hn0 : ¬ n = 0 := by omega
 by_cases hl : (l.length : Int) > 0
 ·have i0 : 0 ≤ Int.tmod pos (l.length : Int) := Int.tmod_nonneg _ h0
  have i1 : Int.tmod pos (l.length : Int) < (l.length : Int) := Int.tmod_lt_of_pos _ hl
  have ej : wrap64 ((wrap64 (pos * 7)) + 3) = pos * 7 + 3 := by rw [rnd_wr (a := pos * 7) (by omega) (by omega), rnd_wr (by omega) (by omega)]
  have j0 : 0 ≤ Int.tmod (wrap64 ((wrap64 (pos * 7)) + 3)) (l.length : Int) := by rw [ej]; exact Int.tmod_nonneg _ (by omega)
  have j1 : Int.tmod (wrap64 ((wrap64 (pos * 7)) + 3)) (l.length : Int) < (l.length : Int) := Int.tmod_lt_of_pos _ hl
  have q0 : 0 ≤ Int.tdiv pos (l.length : Int) := Int.tdiv_nonneg h0 (by omega)
  have q1 : Int.tdiv pos (l.length : Int) ≤ pos := Int.tdiv_le_self _ h0
  have hm := mixed_nn (rnd_rd hb (Int.tmod pos (l.length : Int))) (rnd_rd hb (Int.tmod (wrap64 ((wrap64 (pos * 7)) + 3)) (l.length : Int))) ⟨h0, by omega⟩ ⟨q0, by omega⟩
  have hr := rnd_rd hb (Int.tmod pos (l.length : Int))
  rw [if_pos hl, if_neg (by omega), if_pos i0, if_pos i1]
  by_cases hbig : n > 256
  ·rw [if_pos hbig, if_pos j0, if_pos j1, if_neg hn0, hw]
   exact ⟨_, _, rfl, Int.tmod_nonneg _ hm, Or.inr (Int.tmod_lt_of_pos _ (by omega)), by omega, by omega⟩
  ·rw [if_neg hbig]
   by_cases hp : pos ≥ (l.length : Int)
   ·rw [if_pos hp, if_pos j0, if_pos j1, if_neg hn0, hw]
    exact ⟨_, _, rfl, Int.tmod_nonneg _ hm, Or.inr (Int.tmod_lt_of_pos _ (by omega)), by omega, by omega⟩
   ·rw [if_neg hp, if_neg hn0, hw, rnd_wr (a := rd l (Int.tmod pos (l.length : Int))) (by omega) (by omega)]
    exact ⟨_, _, rfl, Int.tmod_nonneg _ hr.1, Or.inr (Int.tmod_lt_of_pos _ (by omega)), by omega, by omega⟩
 ·rw [if_neg hl, if_neg hn0, hw, Int.zero_emod]
  exact ⟨0, pos + 1, rfl, by omega, Or.inr (by omega), by omega, by omega⟩
theorem newRnd_ok (l : List Int) (h : ∀ x ∈ l, (Lit.int .u8 x).wf = true) : ∃ c, spec_newRnd.f l = some (c, 0) ∧ Bytes c ∧ c.length ≤ 4000 := by
 unfold spec_newRnd.f
 have h1 : 0 ≤ mn (l.length : Int) 4000 := by unfold mn; split <;> omega
 have h2 : mn (l.length : Int) 4000 ≤ (l.length : Int) := by unfold mn; split <;> omega
 have h3 : mn (l.length : Int) 4000 ≤ 4000 := by unfold mn; split <;> omega
 rw [if_pos h1, if_pos h2]
 refine ⟨_, rfl, fun x hx => bounds_u8 (h x (List.mem_of_mem_take hx)), ?_⟩
 rw [List.length_take]; omega
end Go.Proofs.Ytehhhlhedmfdiaa.PFnImportOrder
end
section
namespace Go.Proofs.Ytehhhlhedmfdiaa.PFnImportOrder
open Go.RowKit Go.Proofs.Yz0.PrintWords Go.Proofs.Yz0.PrintLast Go.Proofs.Yz0.PrintMore
set_option linter.unusedVariables false
theorem one_ok {c : List Int} (hb : Bytes c) {pos : Int} (h0 : 0 ≤ pos) (h1 : pos < 1000000) {l : List Int} (hl : 0 < l.length) :
  ∃ x p', spec_rnd_one.f c pos l = some (x, p') ∧ pos ≤ p' ∧ p' ≤ pos + 1 := by
 obtain ⟨r, p', e, r0, r1, a, b⟩ := pick_ok hb (pos := pos) (n := (l.length : Int)) h0 h1
 have hr : r < (l.length : Int) := by omega
 refine ⟨rd l r, p', ?_, a, b⟩
 unfold spec_rnd_one.f
 rw [e]
 show (if 0 ≤ r then _ else _) = _
 rw [if_pos r0, if_pos hr]
theorem of_ok {c : List Int} (hb : Bytes c) {pos : Int} (h0 : 0 ≤ pos) (h1 : pos < 1000000) {l : List ByteArray} (hl : 0 < l.length) :
  ∃ x p', spec_rnd_of.f c pos l = some (x, p') ∧ x ∈ l ∧ pos ≤ p' ∧ p' ≤ pos + 1 := by
 obtain ⟨r, p', e, r0, r1, a, b⟩ := pick_ok hb (pos := pos) (n := (l.length : Int)) h0 h1
 have hr : r < (l.length : Int) := by omega
 refine ⟨rdOf ByteArray.empty l r, p', ?_, ?_, a, b⟩
 ·unfold spec_rnd_of.f
  rw [e]
  show (if 0 ≤ r then _ else _) = _
  rw [if_pos r0, if_pos hr]
 ·have hr2 : r.toNat < l.length := by omega
  unfold rdOf
  rw [List.getD_eq_getElem?_getD, List.getElem?_eq_getElem hr2]
  exact List.getElem_mem hr2
theorem often_ok {c : List Int} (hb : Bytes c) {pos : Int} (h0 : 0 ≤ pos) (h1 : pos < 900000) (a : Int) : ∃ x p', spec_rnd_often.f c pos a = some (x, p') ∧ pos ≤ p' ∧ p' ≤ pos + 2 := by
 obtain ⟨r, p', e, r0, r1, e1, e2⟩ := pick_ok hb (pos := pos) (n := 16) h0 (by omega)
 unfold spec_rnd_often.f
 rw [e]
 simp only [Option.bind_some]
 by_cases hr : r = 0
 ·rw [if_pos hr]
  unfold spec_rnd_odd.f
  obtain ⟨x, p2, e3, e4, e5⟩ := one_ok hb (pos := p') (by omega) (by omega) (l := ([(-1), 4611686018427387904, (-4611686018427387904), 1001, 7, 1000001, (-9223372036854775808), 9223372036854775807] : List Int)) (by decide)
  rw [e3]
  exact ⟨x, p2, rfl, by omega, by omega⟩
 ·rw [if_neg hr]
  exact ⟨a, p', rfl, by omega, by omega⟩
def words : List ByteArray := [(⟨#[97]⟩ : ByteArray), (⟨#[98]⟩ : ByteArray), (⟨#[120]⟩ : ByteArray), (⟨#[102]⟩ : ByteArray), (⟨#[120, 115]⟩ : ByteArray), (⟨#[95, 49]⟩ : ByteArray), (⟨#[78, 97, 109, 101, 57]⟩ : ByteArray), (⟨#[105, 102]⟩ : ByteArray), (⟨#[78, 111, 110, 101]⟩ : ByteArray), (⟨#[108, 97, 109, 98, 100, 97]⟩ : ByteArray), (⟨#[49, 97]⟩ : ByteArray), (⟨#[]⟩ : ByteArray), (⟨#[97, 45, 98]⟩ : ByteArray), (⟨#[97, 98, 99, 100, 101, 102, 103, 104, 105, 106, 107, 108]⟩ : ByteArray), (⟨#[97, 98, 99, 100, 101, 102, 103, 104, 105, 106, 107, 108, 109]⟩ : ByteArray), (⟨#[105, 115]⟩ : ByteArray), (⟨#[105, 115, 97]⟩ : ByteArray)]
theorem word_ok {c : List Int} (hb : Bytes c) {pos : Int} (h0 : 0 ≤ pos) (h1 : pos < 900000) : ∃ x p', spec_rnd_word.f c pos = some (x, p') ∧ x.size ≤ 20 ∧ pos ≤ p' ∧ p' ≤ pos + 1 := by
 have hall : ∀ x ∈ words, x.size ≤ 20 := by decide +kernel
 obtain ⟨x, p', e, hx, e1, e2⟩ := of_ok hb (pos := pos) h0 (by omega) (l := words) (by decide)
 refine ⟨x, p', ?_, hall x hx, e1, e2⟩
 show (spec_rnd_of.f c pos words).bind _ = _
 rw [e]; rfl
def DrawnMods (r : List S72) : Prop := r.length ≤ 10 ∧ ∀ x ∈ r, x.f0.length ≤ 10 ∧ ∀ s ∈ x.f0, s.f2.size ≤ 20
theorem mods_inner {c : List Int} (hb : Bytes c) (n i : Nat) (hi : i < n) (hn : n ≤ 5) (out : List S72) (hout : out.length ≤ i) (hg : ∀ x ∈ out, x.f0.length ≤ 10 ∧ ∀ s ∈ x.f0, s.f2.size ≤ 20)
  (ih : ∀ (out : List S72) (pos : Int), out.length ≤ i + 1 → (∀ x ∈ out, x.f0.length ≤ 10 ∧ ∀ s ∈ x.f0, s.f2.size ≤ 20) → 0 ≤ pos → pos + 40 * ((n - (i + 1) : Nat) : Int) ≤ 5000 → ∃ r p', Ev (fun k => spec_rnd_mods.l0 k out (n : Int) ((i + 1 : Nat) : Int) c pos) (r, p') ∧ DrawnMods r ∧ 0 ≤ p' ∧ p' ≤ 5000) :
  ∀ (d : Nat) (steps : List S74) (pos : Int), steps.length + d ≤ 10 → (∀ s ∈ steps, s.f2.size ≤ 20) → 0 ≤ pos → pos + 6 * (d : Int) + 40 * ((n - (i + 1) : Nat) : Int) ≤ 5000 →
   ∃ r p', Ev (fun k => spec_rnd_mods.l1 k out (n : Int) (i : Int) steps (d : Int) c pos) (r, p') ∧ DrawnMods r ∧ 0 ≤ p' ∧ p' ≤ 5000 := by
 intro d
 induction d with
 | zero =>
  intro steps pos hs hz h0 h1
  obtain ⟨r, p', e, hr⟩ := ih (out ++ [⟨steps⟩]) pos (by rw [List.length_append, List.length_singleton]; omega) (fun x hx => by
   rcases List.mem_append.1 hx with hx | hx
   ·exact hg x hx
   ·rw [List.mem_singleton.1 hx]; exact ⟨by show steps.length ≤ 10; omega, hz⟩) h0 (by omega)
  refine ⟨r, p', Ev.step (fun k => ?_) e, hr⟩
  simp only [spec_rnd_mods.l1]
  rw [if_neg (by omega), if_pos (by omega), show wrap64 ((i : Int) + 1) = ((i + 1 : Nat) : Int) from by unfold wrap64; omega]
 | succ d ihd =>
  intro steps pos hs hz h0 h1
  have hw : wrap64 (((d + 1 : Nat) : Int) - 1) = (d : Int) := by unfold wrap64; omega
  obtain ⟨kd, p1, e1, a1, b1⟩ := one_ok hb (pos := pos) h0 (by omega) (l := ([1, 1, 2, 3, 3, 4, 4, 5] : List Int)) (by decide)
  obtain ⟨v, p2, e2, _, _, a2, b2⟩ := pick_ok hb (pos := p1) (n := (n : Int)) (by omega) (by omega)
  obtain ⟨u, p3, e3, a3, b3⟩ := often_ok hb (pos := p2) (by omega) (by omega) v
  have join : ∀ nm : Bool, ∃ r p', Ev (fun k => spec_rnd_mods.j2 k out (n : Int) (i : Int) steps ((d + 1 : Nat) : Int) nm c p3 kd u (⟨#[]⟩ : ByteArray)) (r, p') ∧ DrawnMods r ∧ 0 ≤ p' ∧ p' ≤ 5000 := by
   intro nm
   cases nm with
   | true =>
    obtain ⟨w, p4, e4, hw4, a4, b4⟩ := word_ok hb (pos := p3) (by omega) (by omega)
    obtain ⟨z, p5, e5, hz5, a5, b5⟩ := of_ok hb (pos := p4) (by omega) (by omega) (l := ([(⟨#[97]⟩ : ByteArray), (⟨#[97]⟩ : ByteArray), (⟨#[98]⟩ : ByteArray), w] : List ByteArray)) (by simp)
    have hz20 : z.size ≤ 20 := by
     simp only [List.mem_cons, List.not_mem_nil, or_false] at hz5
     rcases hz5 with rfl | rfl | rfl | rfl
     ·decide
     ·decide
     ·decide
     ·exact hw4
    obtain ⟨r, p', e, hr⟩ := ihd (steps ++ [⟨kd, u, z⟩]) p5 (by rw [List.length_append, List.length_singleton]; omega) (fun s hs => by
     rcases List.mem_append.1 hs with hs | hs
     ·exact hz s hs
     ·rw [List.mem_singleton.1 hs]; exact hz20) (by omega) (by omega)
    refine ⟨r, p', Ev.step (fun k => ?_) e, hr⟩
    simp only [spec_rnd_mods.j2]
    rw [if_pos trivial, e4]
    simp only [Option.bind_some]
    rw [e5]
    simp only [Option.bind_some]
    rw [if_pos (by omega), hw]
   | false =>
    obtain ⟨r, p', e, hr⟩ := ihd (steps ++ [⟨kd, u, (⟨#[]⟩ : ByteArray)⟩]) p3 (by rw [List.length_append, List.length_singleton]; omega) (fun s hs => by
     rcases List.mem_append.1 hs with hs | hs
     ·exact hz s hs
     ·rw [List.mem_singleton.1 hs]; show (0 : Nat) ≤ 20; omega) (by omega) (by omega)
    refine ⟨r, p', Ev.step (fun k => ?_) e, hr⟩
    simp only [spec_rnd_mods.j2]
    rw [if_neg (by decide), if_pos (by omega), hw]
  by_cases h3 : kd = 3
  ·obtain ⟨r, p', e, hr⟩ := join true
   refine ⟨r, p', Ev.step (fun k => ?_) e, hr⟩
   simp only [spec_rnd_mods.l1]
   rw [if_pos (by omega), e1]
   simp only [Option.bind_some]
   rw [e2]
   simp only [Option.bind_some]
   rw [e3]
   simp only [Option.bind_some]
   rw [if_pos h3]
  ·obtain ⟨r, p', e, hr⟩ := join (kd == 4)
   refine ⟨r, p', Ev.step (fun k => ?_) e, hr⟩
   simp only [spec_rnd_mods.l1]
   rw [if_pos (by omega), e1]
   simp only [Option.bind_some]
   rw [e2]
   simp only [Option.bind_some]
   rw [e3]
   simp only [Option.bind_some]
   rw [if_neg h3]
theorem mods_outer {c : List Int} (hb : Bytes c) (n : Nat) (hn : n ≤ 5) : ∀ (e i : Nat), i + e = n → ∀ (out : List S72) (pos : Int), out.length ≤ i → (∀ x ∈ out, x.f0.length ≤ 10 ∧ ∀ s ∈ x.f0, s.f2.size ≤ 20) → 0 ≤ pos → pos + 40 * ((n - i : Nat) : Int) ≤ 5000 →
  ∃ r p', Ev (fun k => spec_rnd_mods.l0 k out (n : Int) (i : Int) c pos) (r, p') ∧ DrawnMods r ∧ 0 ≤ p' ∧ p' ≤ 5000 := by
 intro e
 induction e with
 | zero =>
  intro i hi out pos ho hg h0 h1
  refine ⟨out, pos, Ev.step (f := fun _ => some (out, pos)) (fun k => ?_) (Ev.now _), ⟨by omega, hg⟩, h0, by omega⟩
  simp only [spec_rnd_mods.l0]; rw [if_neg (by omega)]
 | succ e ih =>
  intro i hi out pos ho hg h0 h1
  obtain ⟨v, p1, e1, v0, v1, a1, b1⟩ := pick_ok hb (pos := pos) (n := 6) h0 (by omega)
  obtain ⟨d, rfl⟩ := Int.eq_ofNat_of_zero_le v0
  obtain ⟨r, p', ev, hr⟩ := mods_inner hb n i (by omega) hn out ho hg (ih (i + 1) (by omega)) d [] p1 (by simp; omega) (fun s hs => by cases hs) (by omega) (by omega)
  refine ⟨r, p', Ev.step (fun k => ?_) ev, hr⟩
  simp only [spec_rnd_mods.l0]
  rw [if_pos (by omega), e1]
  simp only [Option.bind_some]
theorem mods_ev {c : List Int} (hb : Bytes c) {pos : Int} (h0 : 0 ≤ pos) (h1 : pos < 1000) : ∃ r p', Ev (fun k => spec_rnd_mods.f k c pos) (r, p') ∧ DrawnMods r ∧ 0 ≤ p' ∧ p' ≤ 5000 := by
 obtain ⟨v, p1, e1, v0, v1, a1, b1⟩ := pick_ok hb (pos := pos) (n := 5) h0 (by omega)
 obtain ⟨q, rfl⟩ := Int.eq_ofNat_of_zero_le v0
 obtain ⟨r, p', ev, hr⟩ := mods_outer hb (q + 1) (by omega) (q + 1) 0 (by omega) [] p1 (by simp) (fun x hx => by cases hx) (by omega) (by omega)
 refine ⟨r, p', Ev.congr (fun k => ?_) ev, hr⟩
 unfold spec_rnd_mods.f
 rw [e1]
 simp only [Option.bind_some]
 rw [show wrap64 (1 + (q : Int)) = ((q + 1 : Nat) : Int) from by unfold wrap64; omega]
 rfl
theorem numbers_ev {c : List Int} (hb : Bytes c) (n : Int) : ∀ (d : Nat) (out : List Int) (pos : Int), 0 ≤ pos → pos + (d : Int) < 900000 → out.length + d ≤ 100 → ∃ r p', Ev (fun k => spec_rnd_numbers.l0 k n out (d : Int) c pos) (r, p') ∧ r.length = out.length + d := by
 intro d
 induction d with
 | zero =>
  intro out pos h0 h1 hl
  refine ⟨out, pos, Ev.step (f := fun _ => some (out, pos)) (fun k => ?_) (Ev.now _), rfl⟩
  simp only [spec_rnd_numbers.l0]; rw [if_neg (by omega)]
 | succ d ih =>
  intro out pos h0 h1 hl
  obtain ⟨v, p1, e1, v0, v1, a1, b1⟩ := pick_ok hb (pos := pos) (n := n) h0 (by omega)
  obtain ⟨r, p', ev, hr⟩ := ih (out ++ [v]) p1 (by omega) (by omega) (by rw [List.length_append, List.length_singleton]; omega)
  refine ⟨r, p', Ev.step (fun k => ?_) ev, by rw [hr, List.length_append, List.length_singleton]; omega⟩
  simp only [spec_rnd_numbers.l0]
  rw [if_pos (by omega), e1]
  simp only [Option.bind_some]
  rw [if_pos (by omega), show wrap64 (((d + 1 : Nat) : Int) - 1) = (d : Int) from by unfold wrap64; omega]
theorem draw_ev (l0 : List Int) (h : ∀ x ∈ l0, (Lit.int .u8 x).wf = true) : ∃ M l, Ev (fun k => spec_DrawImportRun.f k l0) (M, l) ∧ Small M ∧ l.length ≤ 4 := by
 obtain ⟨c, e0, hb, _⟩ := newRnd_ok l0 h
 obtain ⟨M, p1, e1, hM, a1, b1⟩ := mods_ev hb (pos := 0) (by omega) (by omega)
 obtain ⟨v, p2, e2, v0, v1, a2, b2⟩ := pick_ok hb (pos := p1) (n := 5) a1 (by omega)
 obtain ⟨d, rfl⟩ := Int.eq_ofNat_of_zero_le v0
 obtain ⟨l, p3, e3, hl⟩ := numbers_ev hb (M.length : Int) d [] p2 (by omega) (by omega) (by simp; omega)
 refine ⟨M, l, Ev.congr (f := fun k => (spec_rnd_mods.f k c 0).bind fun bt175 => ((spec_rnd_numbers.f k c bt175.2 4 (bt175.1.length : Int)).bind fun bt179 => (some (bt175.1, bt179.1)))) (fun k => ?_) (Ev.bind (f := fun k bt175 => ((spec_rnd_numbers.f k c bt175.2 4 (bt175.1.length : Int)).bind fun bt179 => (some (bt175.1, bt179.1)))) e1 (Ev.bind (f := fun _ bt179 => (some (M, bt179.1))) (a := (l, p3)) (Ev.congr (fun k => ?_) e3) (Ev.now _))), ⟨by have := hM.1; omega, fun x hx => ?_⟩, by rw [hl]; simp; omega⟩
 ·unfold spec_DrawImportRun.f
  rw [e0]
  simp only [Option.bind_some]
 ·unfold spec_rnd_numbers.f
  rw [show wrap64 (4 + 1) = 5 from by unfold wrap64; omega, e2]
  simp only [Option.bind_some]
 ·obtain ⟨g1, g2⟩ := hM.2 x hx
  exact ⟨by omega, fun s hs => by have := g2 s hs; omega⟩
end Go.Proofs.Ytehhhlhedmfdiaa.PFnImportOrder
end
section
namespace Go.Proofs.Ytehhhlhedmfdiaa.Pure
open Go.RowKit Go.Proofs.Ytehhhlhedmfdiaa.PFnImportOrder Go.Proofs.Yz0.PrintWords Go.Proofs.Yz0.PrintLast Go.Proofs.Ytehhhlhedmfdiaa.Plain
set_option linter.unusedVariables false
theorem inner_ev (M : List S72) (m : Nat) (hm : m < M.length) (j : Nat) (bg wh fa : List Int) (re : List ByteArray) (st : List Int) (hj : j ≤ wh.length) (hwl : wh.length ≤ 1000000000000) (h8 : (rX M (m : Int)).f0.length ≤ 8)
  (hmem : ∀ x ∈ (rX M (m : Int)).f0, x.f0 = 1 → x.f1 ∈ wh.take j) (rest : Ev (fun k => laws_FnImportOrder.l0 k M ((j + 1 : Nat) : Int) bg wh fa re st) true) (d : Nat) :
  ∀ e : Nat, e + d = (rX M (m : Int)).f0.length → Ev (fun k => laws_FnImportOrder.l1 k M (j : Int) (m : Int) (e : Int) bg wh fa re st) true := by
 induction d with
 | zero =>
  intro e he
  refine Ev.step (fun k => ?_) rest
  simp only [laws_FnImportOrder.l1]
  rw [if_pos (by omega), if_pos (by omega), if_neg (by omega), show wrap64 ((j : Int) + 1) = ((j + 1 : Nat) : Int) from by unfold wrap64; omega]
 | succ d ih =>
  intro e he
  have hlt : e < (rX M (m : Int)).f0.length := by omega
  have hw : wrap64 ((e : Int) + 1) = ((e + 1 : Nat) : Int) := by unfold wrap64; omega
  have hx : rY (rX M (m : Int)).f0 (e : Int) ∈ (rX M (m : Int)).f0 := by
   unfold rY
   rw [show ((e : Int)).toNat = e from rfl, List.getD_eq_getElem?_getD, List.getElem?_eq_getElem hlt]
   exact List.getElem_mem hlt
  by_cases hk : (rY (rX M (m : Int)).f0 (e : Int)).f0 = 1
  ·have hh := hasInt_ev (l := wh.take j) (by rw [List.length_take]; omega) (hmem _ hx hk)
   refine Ev.step (f := fun k => (spec_HasInt.f k (wh.take j) ((rY ((rX M (m : Int)).f0) (e : Int)).f1)).bind fun t375 => (if t375 = true then (laws_FnImportOrder.l1 k M (j : Int) (m : Int) ((e + 1 : Nat) : Int) bg wh fa re st) else (some false))) (fun k => ?_) (yes_bind hh (ih (e + 1) (by omega)))
   simp only [laws_FnImportOrder.l1]
   rw [if_pos (by omega), if_pos (by omega), if_pos (by omega), if_pos (by omega), if_pos hk, if_pos (by omega), if_pos (by omega), hw]
   rfl
  ·refine Ev.step (fun k => ?_) (ih (e + 1) (by omega))
   simp only [laws_FnImportOrder.l1]
   rw [if_pos (by omega), if_pos (by omega), if_pos (by omega), if_pos (by omega), if_neg hk, hw]
theorem outer_ev (M : List S72) (hs : Small M) (hM : ModsP M) (s : IS) (fa : List Int) (hI : IInv M s) (hwl : s.wh.length ≤ 1000000000000) (d : Nat) :
  ∀ j : Nat, j + d = s.wh.length → Ev (fun k => laws_FnImportOrder.l0 k M (j : Int) s.bg s.wh fa s.re s.st) true := by
 induction d with
 | zero =>
  intro j hj
  refine Ev.step (f := fun _ => some true) (fun k => ?_) (Ev.now _)
  simp only [laws_FnImportOrder.l0]
  rw [if_neg (by omega)]
 | succ d ih =>
  intro j hj
  have hlt : j < s.wh.length := by omega
  have hd := rd_drop hlt
  have hmem : rd s.wh (j : Int) ∈ s.wh := List.mem_of_mem_drop (by rw [hd]; simp : rd s.wh (j : Int) ∈ s.wh.drop j)
  obtain ⟨h0, h1⟩ := hI.whr _ hmem
  obtain ⟨b, e1, hb⟩ := circle_ev M hs hM (rd s.wh (j : Int)) h0 h1
  have hw : wrap64 ((j : Int) + 1) = ((j + 1 : Nat) : Int) := by unfold wrap64; omega
  have rest := ih (j + 1) (by omega)
  refine Ev.step (f := fun k => (impl_ImportCircle.f k M (rd s.wh (j : Int))).bind fun t366 => (if t366 = true then (laws_FnImportOrder.l0 k M ((j + 1 : Nat) : Int) s.bg s.wh fa s.re s.st) else (laws_FnImportOrder.l1 k M (j : Int) (rd s.wh (j : Int)) 0 s.bg s.wh fa s.re s.st))) (fun k => ?_) ?_
  ·simp only [laws_FnImportOrder.l0]
   rw [if_pos (by omega), if_pos (by omega), hw]
  ·refine Ev.bind (f := fun k t366 => (if t366 = true then (laws_FnImportOrder.l0 k M ((j + 1 : Nat) : Int) s.bg s.wh fa s.re s.st) else (laws_FnImportOrder.l1 k M (j : Int) (rd s.wh (j : Int)) 0 s.bg s.wh fa s.re s.st))) e1 ?_
   cases b with
   | true => exact Ev.congr (fun k => by rw [if_pos rfl]) rest
   | false =>
    refine Ev.congr (fun k => by rw [if_neg (by decide)]) ?_
    have hnc := hb rfl
    have hsplit : s.wh = s.wh.take j ++ rd s.wh (j : Int) :: s.wh.drop (j + 1) := by rw [← hd, List.take_append_drop]
    generalize rd s.wh (j : Int) = m at h0 h1 hnc hsplit hmem ⊢
    obtain ⟨q, rfl⟩ := Int.eq_ofNat_of_zero_le h0
    have hq : q < M.length := by omega
    have hmm : rX M (q : Int) ∈ M := by
     unfold rX
     rw [show ((q : Int)).toNat = q from rfl, List.getD_eq_getElem?_getD, List.getElem?_eq_getElem hq]
     exact List.getElem_mem hq
    exact inner_ev M q hq j s.bg s.wh fa s.re s.st (by omega) hwl (hM.1 _ hmm).2 (fun x hx hk => (hI.ord _ _ _ hsplit x hx hk).resolve_right hnc) rest (rX M (q : Int)).f0.length 0 (by omega)
theorem FnImportOrder : laws_FnImportOrder.Pure := by
 intro l0 _ _ hb
 apply Ev.rounds
 by_cases hbig : (l0.length : Int) > 1048576
 ·exact Ev.congr (f := fun _ => some true) (fun k => by unfold laws_FnImportOrder.f; rw [if_pos hbig]) (Ev.now _)
 obtain ⟨M, l, ed, hs, hl⟩ := draw_ev l0 hb
 have go : ∀ (s : IS) (fa : List Int), RunIs M l (s.bg, s.wh, fa, s.re, s.st) → Le 1000000000000 s → s.st.length ≤ 1000000000000 → fa.length ≤ 1000000000000 → Ev (fun k => laws_FnImportOrder.l0 k M 0 s.bg s.wh fa s.re s.st) true → Ev (fun k => laws_FnImportOrder.f k l0) true := by
  intro s fa hr hle hst hfa hloop
  refine Ev.congr (f := fun k => (spec_DrawImportRun.f k l0).bind fun bt327 => ((impl_ImportRun.f k bt327.1 bt327.2).bind fun bt333 => ((spec_ImportRun.f k bt327.1 bt327.2).bind fun bt349 => ((spec_SameImports.f k bt333.1 bt333.2.1 bt333.2.2.1 bt333.2.2.2.1 bt333.2.2.2.2 bt349.1 bt349.2.1 bt349.2.2.1 bt349.2.2.2.1 bt349.2.2.2.2).bind fun t364 => (if t364 = true then (laws_FnImportOrder.l0 k bt327.1 0 bt333.1 bt333.2.1 bt333.2.2.1 bt333.2.2.2.1 bt333.2.2.2.2) else (some false)))))) (fun k => by unfold laws_FnImportOrder.f; rw [if_neg hbig]) ?_
  exact Ev.bind (f := fun k bt327 => ((impl_ImportRun.f k bt327.1 bt327.2).bind fun bt333 => ((spec_ImportRun.f k bt327.1 bt327.2).bind fun bt349 => ((spec_SameImports.f k bt333.1 bt333.2.1 bt333.2.2.1 bt333.2.2.2.1 bt333.2.2.2.2 bt349.1 bt349.2.1 bt349.2.2.1 bt349.2.2.2.1 bt349.2.2.2.2).bind fun t364 => (if t364 = true then (laws_FnImportOrder.l0 k bt327.1 0 bt333.1 bt333.2.1 bt333.2.2.1 bt333.2.2.2.1 bt333.2.2.2.2) else (some false)))))) ed
   (Ev.bind (f := fun k (bt333 : List Int × List Int × List Int × List ByteArray × List Int) => ((spec_ImportRun.f k M l).bind fun bt349 => ((spec_SameImports.f k bt333.1 bt333.2.1 bt333.2.2.1 bt333.2.2.2.1 bt333.2.2.2.2 bt349.1 bt349.2.1 bt349.2.2.1 bt349.2.2.2.1 bt349.2.2.2.2).bind fun t364 => (if t364 = true then (laws_FnImportOrder.l0 k M 0 bt333.1 bt333.2.1 bt333.2.2.1 bt333.2.2.2.1 bt333.2.2.2.2) else (some false))))) hr.1
   (Ev.bind (f := fun k (bt349 : List Int × List Int × List Int × List ByteArray × List Int) => ((spec_SameImports.f k s.bg s.wh fa s.re s.st bt349.1 bt349.2.1 bt349.2.2.1 bt349.2.2.2.1 bt349.2.2.2.2).bind fun t364 => (if t364 = true then (laws_FnImportOrder.l0 k M 0 s.bg s.wh fa s.re s.st) else (some false)))) hr.2
   (yes_bind (same_ev s.bg s.wh fa s.re s.st hle.1 hle.2.1 hfa hle.2.2.1 hst) hloop)))
 by_cases hv : ModsP M ∧ IdxP M.length l
 ·obtain ⟨s, fa, e, hI, hn, hw, ht, hle, hfl⟩ := run_ok hv.1 decT l hv.2.1 (by have := hv.2.2; omega)
  have hmul : l.length * tb 6 ≤ 1000 * tb 6 := Nat.mul_le_mul_right _ (by omega)
  rw [tb6] at hmul
  refine go s fa (run_good M hs l hv.1 hv.2 e) (hle.mono (by rw [tb6] at *; omega)) (by rw [hI.l1]; have := hv.1.2.2; omega) (by omega) ?_
  exact outer_ev M hs hv.1 s fa hI (Nat.le_trans hle.2.1 (by rw [tb6] at *; omega)) s.wh.length 0 (by omega)
 ·refine go ⟨[], [], [], [], []⟩ [] (run_bad M hs l (by omega) hv) ⟨by simp, by simp, by simp, fun j => by simp⟩ (by simp) (by simp) ?_
  exact Ev.step (f := fun _ => some true) (fun k => by simp only [laws_FnImportOrder.l0]; rw [if_neg (by simp)]) (Ev.now _)
end Go.Proofs.Ytehhhlhedmfdiaa.Pure
end
section
namespace Go.Proofs.Yz0.PrintWords
open Go.ChangeShapes Go.WideShapes
theorem sized_ints {H : Type} {enc : TypeId × Value → H} {P : Program} {W : World} {base : Nat} {spare : Nat → Bool} {held : Bool} {t e : TypeId} {k : IntKind} {a : Option Addr} {len cap : Nat} {d : DataW H} {ps : List MemPlace} {ts : List TypeId} {ds : List (DataW H)} {j : Nat}
  (hsz : (DataW.weightsEach P ts ds).all (· ≤ reachBytes) = true) (ht : ts[j]? = some t) (hd : ds[j]? = some d) (hu : P.underlying t = some (.slice e)) (he : P.underlying e = some (.int k)) (hc : P.cellsOf e = 1) {B : Nat} (hB : P.bytesOf e = B)
  (h : DataW.Trod enc P W base spare held t (.slice a len cap) d ps) : len * B ≤ 140737488351232 := by
 obtain ⟨fuel, hf⟩ := h
 rcases open_ints hu he hc hf with ⟨hcs, _⟩ | ⟨x, l, c, zs, hcs, _, hl, _, hz, hx, _, _⟩
 ·simp [Value.cells] at hcs
  obtain ⟨rfl, rfl, rfl⟩ := hcs
  simp
 ·simp [Value.cells] at hcs
  obtain ⟨rfl, rfl, rfl⟩ := hcs
  obtain ⟨hx, _⟩ := Prod.mk.inj hx
  subst hx
  have z := sized_slice hsz ht hd hu
  rw [hB] at z
  have hl2 : len ≤ zs.length := by
   rw [hz]
   split
   ·exact hl
   ·exact Nat.le_refl _
  have h1 : (lits (H := H) k (zs.take len)).length + (lits (H := H) k (zs.drop len)).length = zs.length := by
   simp [lits]
   omega
  rw [h1] at z
  exact Nat.le_trans (Nat.mul_le_mul_right _ hl2) z
end Go.Proofs.Yz0.PrintWords
end
section
namespace Go.Proofs.Ytehhhlhedmfdiaa.fnImportOrder
open Go.ChangeShapes Go.WideShapes Go.ChangeAt Go.RowKit
open Go.ChangeMaps (open_string shut_string)
set_option linter.unusedVariables false
theorem own : ownKnob Try.prog.godebug = none := by kernel_rfl
theorem laidOut : laidOutB Try.prog = true := by kernel_rfl
def IsRow (k : IntKind) (w : World) (a : Option Addr) (len cap : Nat) (zs : List Int) : Prop :=
 (a = none ∧ len = 0 ∧ cap = 0 ∧ zs = []) ∨
 ∃ x, a = some x ∧ len ≤ cap ∧ cap ≤ maxLen ∧ zs.length = cap ∧ (∀ i, i < zs.length → w.cell? (x.add i) = some (.int k (zs.getD i 0))) ∧ ∀ n ∈ zs, (Lit.int k n).wf = true
theorem lifted (os : Os) (started : os.Started) (H : Type) (enc : TypeId × Value → H) :
  ReturnsInHanded {} Try.checked os 8 .any (Rows.fnImportOrderSpec.pre6 enc Try.prog Try.f8 Rows.fnImportOrderRow.domain false) (Rows.fnImportOrderSpec.post enc Try.prog Try.f8 false true false false) := by
 refine returnsInHanded_of_change_sized (C := Try.checked) own started (by kernel_rfl) Try.func8
  (ChangeSpec.witness6 (enc := enc) (C := Try.checked) false ⟨#[], #[.slice none 0 0], []⟩ 8 (by kernel_rfl) (by kernel_rfl) (by kernel_rfl) (by kernel_rfl)) ?_
 intro W base args ds gs before hval0 hW hcnd hsz0 _
 have hsz : (DataW.weightsEach Try.prog (Try.f8.params.toList ++ Rows.fnImportOrderSpec.plain.varTypes Try.prog) (ds ++ gs)).all (· ≤ reachBytes) = true := hsz0
 have hval : ∀ (j : Nat) t v, Try.f8.params[j]? = some t → args[j]? = some v → Value.okWide Try.prog W .any base t v := hval0
 have hW' := hW
 obtain ⟨p, q, hA0, hV, rfl, hfz, hnd⟩ := hW
 have hA : DataW.TrodAll enc Try.prog W 0 (fun _ => true) true Try.f8.params.toList args.toList ds p := hA0
 rw [Try.params8] at hA hval hsz
 obtain ⟨v0, vs0, d0, ds0, p0, q0, hargs, rfl, rfl, h0, r0⟩ := trodAll_cons hA
 obtain ⟨rfl, rfl, rfl⟩ := trodAll_nil r0
 obtain rfl : args = #[v0] := by cases args; simp_all
 obtain ⟨rfl, rfl⟩ := trodVars_none hV
 obtain ⟨a0, len0, cap0, rfl⟩ := okWide_slice Try.underlying22 (hval 0 22 v0 rfl rfl)
 have k0 := h0
 have lt0 : ∀ x ∈ p0, x.block < W.heap.size := by obtain ⟨m, hm⟩ := k0; exact DataW.trod_lt m _ _ _ hm
 obtain ⟨z0, w0⟩ : ∃ zs, IsRow .u8 W a0 len0 cap0 zs := by
  obtain ⟨fuel, hf⟩ := h0
  rcases open_ints Try.underlying22 Try.underlying5 (by kernel_rfl) hf with ⟨hcs, _⟩ | ⟨x, l, c, zs, hcs, _, hl, hm, hz, _, hcell, hwz⟩
  ·simp [Value.cells] at hcs
   obtain ⟨rfl, rfl, rfl⟩ := hcs
   exact ⟨[], .inl ⟨rfl, rfl, rfl, rfl⟩⟩
  ·simp [Value.cells] at hcs
   obtain ⟨rfl, rfl, rfl⟩ := hcs
   exact ⟨zs, .inr ⟨_, rfl, hl, hm, by simpa using hz, hcell, hwz⟩⟩
 have y0 : len0 * 1 ≤ 140737488351232 := Go.Proofs.Yz0.PrintWords.sized_ints hsz (j := 0) (t := 22) rfl rfl Try.underlying22 Try.underlying5 (by kernel_rfl) (by kernel_rfl) h0
 clear hA0 hval0 hsz0 hsz
 refine (PFnImportOrder.laws_FnImportOrder.walk Pure.FnImportOrder a0 len0 cap0 z0 W w0 y0).mono fun e W' ⟨he, bel⟩ => ?_
 subst he
 exact ⟨_, rfl, _, _, _, [], _, [], hW', trodAll_mk1 (shut_bool Try.underlying4 _), (trodAll_cons_mk (Below.trod laidOut (by kernel_rfl) (of_decide_eq_true (by kernel_rfl)) k0 bel lt0) trodAll_mk0), rfl, bel.frame _, fun h => by cases h⟩
theorem over : Rows.fnImportOrderRow.holds Try.pinned (OpenSpec.ofChange Rows.fnImportOrderSpec) :=
 OpenClaim.holds_of_wide 8 Try.f8 rfl rfl rfl rfl rfl rfl rfl ⟨rfl, rfl, rfl, rfl, rfl⟩ rfl rfl rfl rfl rfl (by kernel_rfl) Try.func8 (by kernel_rfl)
  (of_decide_eq_true (by kernel_rfl)) (by unfold Func.isWrapper; first | (rw [if_pos (by decide +kernel)]; kernel_rfl) | (rw [if_neg (by decide +kernel)]; exact ⟨rfl, rfl⟩))
  (fun os started H enc _ => lifted os started H enc)
theorem proved : Rows.FnImportOrderSaid := over
end Go.Proofs.Ytehhhlhedmfdiaa.fnImportOrder
namespace Go.Proofs.Ytehhhlhedmfdiaa
theorem fnImportOrder_holds : Rows.FnImportOrderSaid := fnImportOrder.proved
end Go.Proofs.Ytehhhlhedmfdiaa
end
#print axioms Go.Proofs.Ytehhhlhedmfdiaa.fnImportOrder_holds
