/- FnImportRun holds of every input: what is whole has begun, and every listed module is whole or failed; no condition. Part 4 of 5: what the proof needs. -/
import Derived.Test.YtehhhlhedmfdiaaZzImportRun3
import Derived.Maps.OwnSet
import Derived.StringKeys
import Derived.WalkArith
import Derived.Lib.Strings
set_option maxHeartbeats 8000000
set_option maxRecDepth 100000
section
namespace Go.Proofs.Ytehhhlhedmfdiaa.Plain
def outs (refs : List (List Int)) (v : Int) : List Int := refs.getD v.toNat []
def Reach (refs : List (List Int)) (roots : List Int) (v : Int) : Prop :=
 ∀ S : Int → Prop, (∀ r ∈ roots, S r) → (∀ a b, S a → b ∈ outs refs a → S b) → S v
theorem Reach.root {refs : List (List Int)} {roots : List Int} {v : Int} (h : v ∈ roots) : Reach refs roots v := fun _ hr _ => hr v h
theorem Reach.step {refs : List (List Int)} {roots : List Int} {v w : Int} (h : Reach refs roots v) (hw : w ∈ outs refs v) : Reach refs roots w :=
 fun S hr hs => hs v w (h S hr hs) hw
def InR (n : Nat) (v : Int) : Prop := 0 ≤ v ∧ v < n
def Graph (refs : List (List Int)) : Prop := ∀ l ∈ refs, ∀ v ∈ l, InR refs.length v
def AllIn (n : Nat) (l : List Int) : Prop := ∀ v ∈ l, InR n v
theorem outs_in {refs : List (List Int)} (hg : Graph refs) {a b : Int} (h : b ∈ outs refs a) : InR refs.length b := by
 unfold outs at h
 rw [List.getD_eq_getElem?_getD] at h
 cases he : refs[a.toNat]? with
 | none => rw [he] at h; simp at h
 | some l => rw [he] at h; exact hg l (List.mem_of_getElem? he) b (by simpa using h)
def mkd (seen : List Bool) (v : Int) : Bool := seen.getD v.toNat false
theorem mkd_set {seen : List Bool} {u v : Int} (hu : InR seen.length u) (hv : 0 ≤ v) : mkd (seen.set u.toNat true) v = (if v = u then true else mkd seen v) := by
 unfold mkd InR at *
 rw [List.getD_eq_getElem?_getD, List.getD_eq_getElem?_getD, List.getElem?_set]
 by_cases h : v = u
 ·subst h
  rw [if_pos rfl, if_pos (by omega), if_pos rfl]; rfl
 ·rw [if_neg (by omega), if_neg h]
structure Work (refs : List (List Int)) (roots : List Int) (seen : List Bool) (todo : List Int) : Prop where
 len : seen.length = refs.length
 ok : AllIn refs.length todo
 sound : ∀ v, mkd seen v = true → 0 ≤ v → Reach refs roots v
 waits : ∀ v ∈ todo, Reach refs roots v
 root : ∀ r ∈ roots, mkd seen r = true ∨ r ∈ todo
 closed : ∀ v, 0 ≤ v → mkd seen v = true → ∀ w ∈ outs refs v, mkd seen w = true ∨ w ∈ todo
theorem Work.drop {refs : List (List Int)} {roots : List Int} {seen : List Bool} {todo todo' : List Int} {v : Int} (h : Work refs roots seen todo) (hm : mkd seen v = true)
    (h1 : ∀ x ∈ todo', x ∈ todo) (h2 : ∀ x ∈ todo, x = v ∨ x ∈ todo') : Work refs roots seen todo' :=
  ⟨h.len, fun x hx => h.ok x (h1 x hx), h.sound, fun x hx => h.waits x (h1 x hx),
   fun r hr => (h.root r hr).elim .inl (fun hx => (h2 r hx).elim (fun e => .inl (by rw [e]; exact hm)) .inr),
   fun a ha hma w hw => (h.closed a ha hma w hw).elim .inl (fun hx => (h2 w hx).elim (fun e => .inl (by rw [e]; exact hm)) .inr)⟩
theorem Work.take {refs : List (List Int)} {roots : List Int} {seen : List Bool} {todo todo' : List Int} {v : Int} (hg : Graph refs) (h : Work refs roots seen todo) (hv : v ∈ todo)
  (h1 : ∀ x ∈ todo', x ∈ todo ∨ x ∈ outs refs v) (h2 : ∀ x ∈ todo, x = v ∨ x ∈ todo') (h3 : ∀ x ∈ outs refs v, x ∈ todo') : Work refs roots (seen.set v.toNat true) todo' := by
 have hi : InR seen.length v := by rw [h.len]; exact h.ok v hv
 have hmv : mkd (seen.set v.toNat true) v = true := by rw [mkd_set hi hi.1, if_pos rfl]
 have up : ∀ w, 0 ≤ w → mkd seen w = true → mkd (seen.set v.toNat true) w = true := fun w hw hm => by
  rw [mkd_set hi hw]; split
  ·rfl
  ·exact hm
 have nn : ∀ w ∈ todo, 0 ≤ w := fun w hw => (h.ok w hw).1
 refine ⟨by rw [List.length_set]; exact h.len, fun x hx => (h1 x hx).elim (h.ok x) (fun ho => outs_in hg ho), fun w hm hw => ?_, fun x hx => (h1 x hx).elim (h.waits x) (fun ho => (h.waits v hv).step ho), fun r hr => ?_, fun a ha hma w hw => ?_⟩
 ·rw [mkd_set hi hw] at hm
  by_cases e : w = v
  ·rw [e]; exact h.waits v hv
  ·rw [if_neg e] at hm; exact h.sound w hm hw
 ·by_cases e : r = v
  ·rw [e]; exact .inl hmv
  ·rcases h.root r hr with hm | hx
   ·by_cases h0 : 0 ≤ r
    ·exact .inl (up r h0 hm)
    ·refine .inl ?_
     have : r.toNat = 0 := by omega
     unfold mkd at hm ⊢
     rw [this] at hm ⊢
     rw [List.getD_eq_getElem?_getD] at hm ⊢
     rw [List.getElem?_set]
     split
     ·split
      ·rfl
      ·rename_i h5 h6; rw [List.getElem?_eq_none (by omega)] at hm; exact hm
     ·exact hm
   ·exact .inr ((h2 r hx).resolve_left e)
 ·have hw0 : 0 ≤ w := (outs_in hg hw).1
  rw [mkd_set hi ha] at hma
  by_cases e : a = v
  ·subst e; exact .inr (h3 w hw)
  ·rw [if_neg e] at hma
   rcases h.closed a ha hma w hw with hm | hx
   ·exact .inl (up w hw0 hm)
   ·rcases h2 w hx with e2 | hx2
    ·rw [e2]; exact .inl hmv
    ·exact .inr hx2
theorem Work.done {refs : List (List Int)} {roots : List Int} {seen : List Bool} (hr : AllIn refs.length roots) (hg : Graph refs) (h : Work refs roots seen []) (v : Int) (hv : 0 ≤ v) : mkd seen v = true ↔ Reach refs roots v := by
 refine ⟨fun hm => h.sound v hm hv, fun hR => ?_⟩
 have := hR (fun x => 0 ≤ x ∧ mkd seen x = true) (fun r hr' => ⟨(hr r hr').1, (h.root r hr').elim id (fun hx => by cases hx)⟩)
  (fun a b ha hb => ⟨(outs_in hg hb).1, (h.closed a ha.1 ha.2 b hb).elim id (fun hx => by cases hx)⟩)
 exact this.2
end Go.Proofs.Ytehhhlhedmfdiaa.Plain
end
section
namespace Go.Proofs.Ytehhhlhedmfdiaa.PFnImportRun
open Go.RowKit Go.Proofs.Yz0.PrintWords Go.Proofs.Yz0.PrintLast Go.Proofs.Yz0.PrintMore Go.Proofs.Ytehhhlhedmfdiaa.Plain
set_option linter.unusedVariables false
def Circ (M : List S72) (m : Int) : Prop := ∃ x, Plain.Reach (edges M) [m] x ∧ Plain.Reach (edges M) (outs (edges M) x) x
theorem reach_back {R : List (List Int)} {a b c : Int} (h : Plain.Reach R [a] b) (hc : c ∈ outs R b) : Plain.Reach R (outs R a) c := by
 have h1 := h (fun v => v = a ∨ Plain.Reach R (outs R a) v) (fun r hr => .inl (List.mem_singleton.1 hr)) (fun x y hx hy => by
  rcases hx with rfl | hx
  ·exact .inr (Plain.Reach.root hy)
  ·exact .inr (hx.step hy))
 rcases h1 with rfl | h1
 ·exact Plain.Reach.root hc
 ·exact h1.step hc
theorem circ_of {M : List S72} {i x : Int} (hx : x ∈ outs (edges M) i) (h : Plain.Reach (edges M) [x] i) : Circ M i :=
 ⟨x, (Plain.Reach.root (List.mem_singleton.2 rfl)).step hx, reach_back h hx⟩
theorem edge_of {M : List S72} {i : Nat} (hi : i < M.length) {x : S74} (hx : x ∈ (rX M (i : Int)).f0) (hk : x.f0 = 1 ∨ x.f0 = 2) : x.f1 ∈ outs (edges M) (i : Int) := by
 unfold outs edges
 rw [show ((i : Int)).toNat = i from rfl, List.getD_eq_getElem?_getD, List.getElem?_map, List.getElem?_eq_getElem hi]
 unfold rX at hx
 rw [show ((i : Int)).toNat = i from rfl, List.getD_eq_getElem?_getD, List.getElem?_eq_getElem hi] at hx
 show x.f1 ∈ sel (M[i]).f0
 unfold sel
 exact List.mem_map.2 ⟨x, List.mem_filter.2 ⟨hx, by simpa using hk⟩, rfl⟩
structure IInv (M : List S72) (s : IS) : Prop where
 l1 : s.st.length = M.length
 l2 : s.nm.length = M.length
 tri : ∀ i : Nat, s.st.getD i 0 = 0 ∨ s.st.getD i 0 = 1 ∨ s.st.getD i 0 = 2
 nil : ∀ i : Nat, s.st.getD i 0 = 0 → s.nm.getD i [] = []
 val : ∀ i : Nat, ∀ p ∈ s.nm.getD i [], 0 ≤ p.2 ∧ p.2 ≤ 1000000
 who : ∀ i : Nat, s.st.getD i 0 = 2 ↔ (i : Int) ∈ s.wh
 whr : ∀ x ∈ s.wh, 0 ≤ x ∧ x < M.length
 nod : s.wh.Nodup
 bgn : ∀ i : Nat, s.st.getD i 0 ≠ 0 → (i : Int) ∈ s.bg
 ord : ∀ a m b, s.wh = a ++ m :: b → ∀ x ∈ (rX M m).f0, x.f0 = 1 → x.f1 ∈ a ∨ Circ M m
def Le (c : Nat) (s : IS) : Prop := s.bg.length ≤ c ∧ s.wh.length ≤ c ∧ s.re.length ≤ c ∧ ∀ j : Nat, (s.nm.getD j []).length ≤ c
theorem Le.mono {c d : Nat} {s : IS} (h : Le c s) (hd : c ≤ d) : Le d s := ⟨Nat.le_trans h.1 hd, Nat.le_trans h.2.1 hd, Nat.le_trans h.2.2.1 hd, fun j => Nat.le_trans (h.2.2.2 j) hd⟩
def tb : Nat → Nat
 | 0 => 0
 | d + 1 => 10 + 8 * tb d
def nb (l : List Int) : Nat := (l.filter (fun x => x != 1)).length
theorem nb_le (l : List Int) : nb l ≤ l.length := List.length_filter_le _ _
theorem nb_same : ∀ {l l' : List Int}, l.length = l'.length → (∀ j : Nat, l.getD j 0 = 1 ↔ l'.getD j 0 = 1) → nb l = nb l' := by
 intro l
 induction l with
 | nil => intro l' h _; rw [List.eq_nil_of_length_eq_zero h.symm]
 | cons x l ih =>
  intro l' h hj
  cases l' with
  | nil => simp at h
  | cons y l' =>
   have h0 := hj 0
   have i1 := ih (l' := l') (by simpa using h) (fun j => by have := hj (j + 1); simpa using this)
   unfold nb at i1 ⊢
   have h0 : x = 1 ↔ y = 1 := by simpa using h0
   by_cases hx : x = 1
   ·have hy := h0.1 hx
    subst hx hy
    simpa using i1
   ·have hy : ¬ y = 1 := fun e => hx (h0.2 e)
    have hx2 : (x != 1) = true := bne_iff_ne.2 hx
    have hy2 : (y != 1) = true := bne_iff_ne.2 hy
    rw [List.filter_cons, if_pos hx2, List.filter_cons, if_pos hy2, List.length_cons, List.length_cons, i1]
theorem nb_set : ∀ {l : List Int} {i : Nat}, i < l.length → l.getD i 0 ≠ 1 → nb (l.set i 1) + 1 = nb l := by
 intro l
 induction l with
 | nil => intro i h; simp at h
 | cons x l ih =>
  intro i h hx
  cases i with
  | zero =>
   have hx : x ≠ 1 := by simpa using hx
   unfold nb
   have hx2 : (x != 1) = true := bne_iff_ne.2 hx
   rw [List.set_cons_zero, List.filter_cons, List.filter_cons, if_pos hx2, if_neg (by decide), List.length_cons]
  | succ i =>
   have := ih (i := i) (by simpa using h) (by simpa using hx)
   unfold nb at this ⊢
   rw [List.set_cons_succ, List.filter_cons, List.filter_cons]
   split
   ·rw [List.length_cons, List.length_cons]; omega
   ·exact this
theorem stI {l : List Int} {i j : Nat} {x : Int} (hi : i < l.length) : (l.set i x).getD j 0 = if i = j then x else l.getD j 0 := by
 rw [List.getD_eq_getElem?_getD, List.getD_eq_getElem?_getD]
 by_cases h : i = j
 ·subst h; rw [if_pos rfl, List.getElem?_set_self hi]; rfl
 ·rw [if_neg h, List.getElem?_set_ne h]
theorem nmI {α : Type} {l : List (List α)} {i j : Nat} {x : List α} (hi : i < l.length) : (l.set i x).getD j [] = if i = j then x else l.getD j [] := by
 rw [List.getD_eq_getElem?_getD, List.getD_eq_getElem?_getD]
 by_cases h : i = j
 ·subst h; rw [if_pos rfl, List.getElem?_set_self hi]; rfl
 ·rw [if_neg h, List.getElem?_set_ne h]
theorem look_mem {nm : List (ByteArray × Int)} {s : ByteArray} {v : Int} (h : look nm s = some v) : ∃ p ∈ nm, p.2 = v := by
 induction nm with
 | nil => cases h
 | cons p l ih =>
  obtain ⟨a, u⟩ := p
  simp only [look] at h
  split at h
  ·injection h with h; exact ⟨(a, u), by simp, h⟩
  ·obtain ⟨q, hq, e⟩ := ih h
   exact ⟨q, List.mem_cons_of_mem _ hq, e⟩
structure IPost (M : List S72) (s s' : IS) : Prop where
 inv : IInv M s'
 bgs : ∀ j : Nat, s'.st.getD j 0 = 1 ↔ s.st.getD j 0 = 1
 whp : ∃ t, s'.wh = s.wh ++ t
 bgp : ∃ t, s'.bg = s.bg ++ t
theorem IPost.refl {M : List S72} {s : IS} (h : IInv M s) : IPost M s s := ⟨h, fun _ => Iff.rfl, ⟨[], by simp⟩, ⟨[], by simp⟩⟩
theorem IPost.trans {M : List S72} {s t u : IS} (h : IPost M s t) (k : IPost M t u) : IPost M s u := by
 obtain ⟨a, ha⟩ := h.whp
 obtain ⟨b, hb⟩ := k.whp
 obtain ⟨c, hc⟩ := h.bgp
 obtain ⟨d, hd⟩ := k.bgp
 exact ⟨k.inv, fun j => (k.bgs j).trans (h.bgs j), ⟨a ++ b, by rw [hb, ha, List.append_assoc]⟩, ⟨c ++ d, by rw [hd, hc, List.append_assoc]⟩⟩
theorem IPost.nb {M : List S72} {s t : IS} (h : IPost M s t) (hs : IInv M s) : nb t.st = nb s.st := nb_same (h.inv.l1.trans hs.l1.symm) h.bgs
def Loads (M : List S72) (d : Nat) (L : Int → IS → Option (Bool × IS)) : Prop :=
 ∀ (i : Nat) (s : IS) (c : Nat), i < M.length → IInv M s → nb s.st ≤ d → (∀ j : Nat, s.st.getD j 0 = 1 → Plain.Reach (edges M) [(j : Int)] (i : Int)) → Le c s → c + tb d < IB →
  ∃ b s', L (i : Int) s = some (b, s') ∧ IPost M s s' ∧ (b = true → s'.st.getD i 0 ≠ 0) ∧ (b = false → s'.st.getD i 0 = 0) ∧ Le (c + tb d) s'
def Met (s : IS) (x : S74) : Prop := x.f0 = 1 → ∃ q : Nat, x.f1 = (q : Int) ∧ s.st.getD q 0 ≠ 0
theorem Met.keep {M : List S72} {s t : IS} {x : S74} (h : Met s x) (k : IPost M s t) (hs : IInv M s) : Met t x := by
 intro e
 obtain ⟨q, hq, h1⟩ := h e
 refine ⟨q, hq, ?_⟩
 rcases hs.tri q with h2 | h2 | h2
 ·exact absurd h2 h1
 ·rw [(k.bgs q).2 h2]; decide
 ·obtain ⟨a, ha⟩ := k.whp
  have : (q : Int) ∈ t.wh := by rw [ha]; exact List.mem_append_left _ ((hs.who q).1 h2)
  rw [(k.inv.who q).2 this]; decide
theorem stp_ok {M : List S72} (hM : ModsP M) {dec : Int → ByteArray} {d : Nat} {L : Int → IS → Option (Bool × IS)} (hL : Loads M d L) {i : Nat} (hi : i < M.length) {x : S74} (hx : x ∈ (rX M (i : Int)).f0) {s : IS} {c : Nat}
  (hs : IInv M s) (hd : nb s.st ≤ d) (hb : s.st.getD i 0 = 1) (hr : ∀ j : Nat, s.st.getD j 0 = 1 → Plain.Reach (edges M) [(j : Int)] (i : Int)) (hle : Le c s) (hc : c + (tb d + 1) < IB) :
  ∃ b s', stp dec L M.length (i : Int) x s = some (b, s') ∧ IPost M s s' ∧ (b = true → Met s' x) ∧ Le (c + (tb d + 1)) s' := by
 have hmem : rX M (i : Int) ∈ M := by
  unfold rX
  rw [show ((i : Int)).toNat = i from rfl, List.getD_eq_getElem?_getD, List.getElem?_eq_getElem hi]
  exact List.getElem_mem hi
 obtain ⟨⟨k1, k2⟩, ⟨n1, n2⟩, nm1, nm2⟩ := (hM.1 _ hmem).1 x hx
 have hsz : x.f2.size ≤ 1000 := by
  by_cases h : Named x
  ·have := (nm2 h).2.1.2; omega
  ·have he : x.f2.toList = [] := by
    by_cases e : x.f2.toList = []
    ·exact e
    ·exact absurd (nm1.2 e) h
   rw [Lib.toList_data] at he
   have : x.f2.size = 0 := by show x.f2.data.size = 0; rw [← Array.length_toList, he]; rfl
   omega
 unfold stp
 by_cases h1 : x.f0 = 1
 ·rw [if_pos h1]
  unfold top at n2
  rw [if_neg (by omega)] at n2
  obtain ⟨q, hq⟩ := Int.eq_ofNat_of_zero_le n1
  rw [if_pos ⟨n1, by omega⟩, hq]
  have he := edge_of hi hx (.inl h1)
  obtain ⟨b, s', e, hp, hb1, hb0, hl⟩ := hL q s c (by omega) hs hd (fun j hj => by rw [← hq]; exact (hr j hj).step he) hle (by omega)
  exact ⟨b, s', e, hp, fun eb _ => ⟨q, hq, hb1 eb⟩, hl.mono (by omega)⟩
 rw [if_neg h1]
 by_cases h2 : x.f0 = 2
 ·rw [if_pos h2]
  unfold top at n2
  rw [if_neg (by omega)] at n2
  obtain ⟨q, hq⟩ := Int.eq_ofNat_of_zero_le n1
  rw [if_pos ⟨n1, by omega⟩, hq]
  have he := edge_of hi hx (.inr h2)
  obtain ⟨b, s', e, hp, _, _, hl⟩ := hL q s c (by omega) hs hd (fun j hj => by rw [← hq]; exact (hr j hj).step he) hle (by omega)
  exact ⟨true, s', by rw [e]; rfl, hp, fun _ e1 => absurd e1 h1, hl.mono (by omega)⟩
 rw [if_neg h2]
 by_cases h3 : x.f0 = 3
 ·rw [if_pos h3]
  unfold top at n2
  rw [if_pos (.inl h3)] at n2
  have hg : (0 ≤ x.f1 ∧ x.f1 ≤ 1000000 ∧ x.f2.size ≤ 1000) ∧ (nms s (i : Int)).length < IB ∧ (s.nm.length = M.length ∧ s.st.length = M.length) ∧ (0 ≤ (i : Int) ∧ (i : Int) < M.length) ∧ rd s.st (i : Int) ≠ 0 := by
   refine ⟨⟨n1, n2, hsz⟩, ?_, ⟨hs.l2, hs.l1⟩, ⟨by omega, by omega⟩, ?_⟩
   ·have := hle.2.2.2 i; unfold nms; exact Nat.lt_of_le_of_lt this (by omega)
   ·show s.st.getD i 0 ≠ 0; rw [hb]; decide
  rw [if_pos hg]
  have hni : i < s.nm.length := by rw [hs.l2]; exact hi
  refine ⟨true, _, rfl, ⟨⟨hs.l1, ?_, hs.tri, fun j hj => ?_, fun j p hp => ?_, hs.who, hs.whr, hs.nod, hs.bgn, hs.ord⟩, fun _ => Iff.rfl, ⟨[], by simp [ldSet]⟩, ⟨[], by simp [ldSet]⟩⟩, fun _ e1 => absurd e1 h1, ?_⟩
  ·show (s.nm.set i _).length = _; rw [List.length_set]; exact hs.l2
  ·show (s.nm.set i _).getD j [] = []
   rw [nmI hni]
   have hj0 : s.st.getD j 0 = 0 := hj
   rw [if_neg (fun e => by subst e; rw [hb] at hj0; exact absurd hj0 (by decide))]
   exact hs.nil j hj0
  ·have hp : p ∈ (s.nm.set i ((x.f2, x.f1) :: nms s (i : Int))).getD j [] := hp
   rw [nmI hni] at hp
   split at hp
   ·rcases List.mem_cons.1 hp with rfl | hp
    ·exact ⟨n1, n2⟩
    ·exact hs.val i p hp
   ·exact hs.val j p hp
  ·refine ⟨Nat.le_trans hle.1 (by omega), Nat.le_trans hle.2.1 (by omega), Nat.le_trans hle.2.2.1 (by omega), fun j => ?_⟩
   show ((s.nm.set i ((x.f2, x.f1) :: nms s (i : Int))).getD j []).length ≤ _
   rw [nmI hni]
   split
   ·rw [List.length_cons]; have := hle.2.2.2 i; unfold nms; rw [show ((i : Int)).toNat = i from rfl]; omega
   ·have := hle.2.2.2 j; omega
 rw [if_neg h3]
 by_cases h4 : x.f0 = 4
 ·rw [if_pos h4]
  unfold top at n2
  rw [if_neg (by omega)] at n2
  obtain ⟨q, hq⟩ := Int.eq_ofNat_of_zero_le n1
  have hq2 : nms s x.f1 = s.nm.getD q [] := by rw [hq]; rfl
  have hg : (0 ≤ x.f1 ∧ x.f1 < M.length ∧ x.f2.size ≤ 1000) ∧ s.nm.length = M.length ∧ (nms s x.f1).length < IB :=
   ⟨⟨n1, by omega, hsz⟩, hs.l2, by rw [hq2]; exact Nat.lt_of_le_of_lt (hle.2.2.2 q) (by omega)⟩
  rw [if_pos hg]
  cases hlk : look (nms s x.f1) x.f2 with
  | none => exact ⟨false, s, rfl, IPost.refl hs, (fun e => by cases e), hle.mono (by omega)⟩
  | some v =>
   obtain ⟨p, hp, hv⟩ := look_mem hlk
   rw [hq2] at hp
   have hv2 := hs.val q p hp
   rw [hv] at hv2
   dsimp only
   rw [if_pos ⟨hv2, Nat.lt_of_le_of_lt hle.2.2.1 (by omega)⟩]
   refine ⟨true, _, rfl, ⟨⟨hs.l1, hs.l2, hs.tri, hs.nil, hs.val, hs.who, hs.whr, hs.nod, hs.bgn, hs.ord⟩, fun _ => Iff.rfl, ⟨[], by simp⟩, ⟨[], by simp⟩⟩, fun _ e1 => absurd e1 h1, ?_⟩
   refine ⟨Nat.le_trans hle.1 (by omega), Nat.le_trans hle.2.1 (by omega), ?_, fun j => Nat.le_trans (hle.2.2.2 j) (by omega)⟩
   show (s.re ++ [dec v]).length ≤ _
   rw [List.length_append, List.length_singleton]
   have := hle.2.2.1
   omega
 rw [if_neg h4, if_pos (by omega)]
 exact ⟨false, s, rfl, IPost.refl hs, (fun e => by cases e), hle.mono (by omega)⟩
theorem runs_ok {M : List S72} (hM : ModsP M) {dec : Int → ByteArray} {d : Nat} {L : Int → IS → Option (Bool × IS)} (hL : Loads M d L) {i : Nat} (hi : i < M.length) : ∀ (xs : List S74) (s : IS) (c : Nat), (∀ x ∈ xs, x ∈ (rX M (i : Int)).f0) →
  IInv M s → nb s.st ≤ d → s.st.getD i 0 = 1 → (∀ j : Nat, s.st.getD j 0 = 1 → Plain.Reach (edges M) [(j : Int)] (i : Int)) → Le c s → c + xs.length * (tb d + 1) < IB →
  ∃ b s', runs (stp dec L M.length (i : Int)) xs s = some (b, s') ∧ IPost M s s' ∧ (b = true → ∀ x ∈ xs, Met s' x) ∧ Le (c + xs.length * (tb d + 1)) s' := by
 intro xs
 induction xs with
 | nil => intro s c _ hs _ _ _ hle _; exact ⟨true, s, rfl, IPost.refl hs, (fun _ x hx => by cases hx), by simpa using hle⟩
 | cons x xs ih =>
  intro s c hxs hs hd hb hr hle hc
  rw [List.length_cons, Nat.succ_mul] at hc ⊢
  obtain ⟨b, s1, e, hp, hm, hl⟩ := stp_ok (dec := dec) hM hL hi (hxs x (by simp)) hs hd hb hr hle (by have := Nat.zero_le (xs.length * (tb d + 1)); omega)
  simp only [runs]
  rw [e]
  dsimp only [Option.bind_some]
  cases b with
  | false => exact ⟨false, s1, by rw [if_neg (by decide)], hp, (fun e => by cases e), hl.mono (by have := Nat.zero_le (xs.length * (tb d + 1)); omega)⟩
  | true =>
   rw [if_pos rfl]
   obtain ⟨b2, s2, e2, hp2, hm2, hl2⟩ := ih s1 (c + (tb d + 1)) (fun y hy => hxs y (List.mem_cons_of_mem _ hy)) hp.inv (by rw [hp.nb hs]; exact hd) ((hp.bgs i).2 hb) (fun j hj => hr j ((hp.bgs j).1 hj)) hl (by omega)
   refine ⟨b2, s2, e2, hp.trans hp2, fun eb y hy => ?_, hl2.mono (by omega)⟩
   rcases List.mem_cons.1 hy with rfl | hy
   ·exact (hm rfl).keep hp2 hp.inv
   ·exact hm2 eb y hy
theorem ld_ok {M : List S72} (hM : ModsP M) (dec : Int → ByteArray) : ∀ d : Nat, Loads M d (ld dec M (d + 1)) := by
 intro d
 induction d with
 | zero =>
  intro i s c hi hs hd hr hle hc
  have hne : s.st.getD i 0 ≠ 0 := by
   intro e
   have := nb_set (l := s.st) (i := i) (by rw [hs.l1]; exact hi) (by rw [e]; decide)
   omega
  refine ⟨true, s, ?_, IPost.refl hs, fun _ => hne, (fun e => by cases e), hle.mono (by omega)⟩
  simp only [ld]
  rw [if_pos ⟨⟨by omega, by omega⟩, hs.l1, hs.l2⟩, if_neg (show ¬ rd s.st (i : Int) = 0 from hne)]
 | succ d ih =>
  intro i s c hi hs hd hr hle hc
  rw [ld, if_pos ⟨⟨by omega, by omega⟩, hs.l1, hs.l2⟩]
  by_cases h0 : s.st.getD i 0 = 0
  ·rw [if_pos (show rd s.st (i : Int) = 0 from h0), if_pos ⟨Nat.lt_of_le_of_lt hle.1 (by omega), hs.nil i h0⟩]
   have hil : i < s.st.length := by rw [hs.l1]; exact hi
   have hnw : (i : Int) ∉ s.wh := fun e => by rw [(hs.who i).2 e] at h0; exact absurd h0 (by decide)
   have hs1 : IInv M (ldStart (i : Int) s) := by
    refine ⟨?_, hs.l2, fun j => ?_, fun j hj => ?_, hs.val, fun j => ?_, hs.whr, hs.nod, fun j hj => ?_, hs.ord⟩
    ·show (s.st.set i 1).length = _; rw [List.length_set]; exact hs.l1
    ·show (s.st.set i 1).getD j 0 = 0 ∨ (s.st.set i 1).getD j 0 = 1 ∨ (s.st.set i 1).getD j 0 = 2
     rw [stI hil]
     split
     ·exact .inr (.inl rfl)
     ·exact hs.tri j
    ·have hj : (s.st.set i 1).getD j 0 = 0 := hj
     rw [stI hil] at hj
     split at hj
     ·exact absurd hj (by decide)
     ·exact hs.nil j hj
    ·show (s.st.set i 1).getD j 0 = 2 ↔ _
     rw [stI hil]
     split
     ·rename_i e; subst e; exact ⟨fun h => absurd h (by decide), fun h => absurd h hnw⟩
     ·exact hs.who j
    ·have hj : (s.st.set i 1).getD j 0 ≠ 0 := hj
     show (j : Int) ∈ s.bg ++ [(i : Int)]
     rw [stI hil] at hj
     split at hj
     ·rename_i e; subst e; simp
     ·exact List.mem_append_left _ (hs.bgn j hj)
   have hb1 : (ldStart (i : Int) s).st.getD i 0 = 1 := by
    show (s.st.set i 1).getD i 0 = 1
    rw [stI hil, if_pos rfl]
   have hnb : nb (ldStart (i : Int) s).st ≤ d := by
    have := nb_set (l := s.st) (i := i) hil (by rw [h0]; decide)
    show nb (s.st.set i 1) ≤ d
    omega
   have hr1 : ∀ j : Nat, (ldStart (i : Int) s).st.getD j 0 = 1 → Plain.Reach (edges M) [(j : Int)] (i : Int) := fun j hj => by
    have hj : (s.st.set i 1).getD j 0 = 1 := hj
    rw [stI hil] at hj
    split at hj
    ·rename_i e; subst e; exact Plain.Reach.root (List.mem_singleton.2 rfl)
    ·exact hr j hj
   have hle1 : Le (c + 1) (ldStart (i : Int) s) := by
    refine ⟨?_, Nat.le_trans hle.2.1 (by omega), Nat.le_trans hle.2.2.1 (by omega), fun j => Nat.le_trans (hle.2.2.2 j) (by omega)⟩
    show (s.bg ++ [(i : Int)]).length ≤ _
    rw [List.length_append, List.length_singleton]
    have := hle.1
    omega
   have hmem : rX M (i : Int) ∈ M := by
    unfold rX
    rw [show ((i : Int)).toNat = i from rfl, List.getD_eq_getElem?_getD, List.getElem?_eq_getElem hi]
    exact List.getElem_mem hi
   have h8 := (hM.1 _ hmem).2
   have hmul : (rX M (i : Int)).f0.length * (tb d + 1) ≤ 8 * (tb d + 1) := Nat.mul_le_mul_right _ h8
   rw [tb] at hc
   obtain ⟨b, s2, e2, hp, hm, hl2⟩ := runs_ok (dec := dec) hM ih hi (rX M (i : Int)).f0 (ldStart (i : Int) s) (c + 1) (fun _ h => h) hs1 hnb hb1 hr1 hle1 (by omega)
   have hb2 : s2.st.getD i 0 = 1 := (hp.bgs i).2 hb1
   have hil2 : i < s2.st.length := by rw [hp.inv.l1]; exact hi
   have hin2 : i < s2.nm.length := by rw [hp.inv.l2]; exact hi
   have hnw2 : (i : Int) ∉ s2.wh := fun e => by rw [(hp.inv.who i).2 e] at hb2; exact absurd hb2 (by decide)
   rw [e2]
   dsimp only [Option.bind_some]
   rw [if_pos ⟨⟨hp.inv.l1, hp.inv.l2⟩, Nat.lt_of_le_of_lt hl2.2.1 (by omega), show ¬ rd s2.st (i : Int) = 0 from by show ¬ s2.st.getD i 0 = 0; rw [hb2]; decide⟩]
   have hbgp : ∃ t, s2.bg = s.bg ++ t := by
    obtain ⟨t, ht⟩ := hp.bgp
    exact ⟨[(i : Int)] ++ t, by rw [ht]; show (s.bg ++ [(i : Int)]) ++ t = _; rw [List.append_assoc]⟩
   have hwhp : ∃ t, s2.wh = s.wh ++ t := hp.whp
   have hbgs : ∀ j : Nat, j ≠ i → (s2.st.getD j 0 = 1 ↔ s.st.getD j 0 = 1) := fun j hj => by
    rw [hp.bgs j]
    show (s.st.set i 1).getD j 0 = 1 ↔ _
    rw [stI hil, if_neg (fun e => hj e.symm)]
   cases b with
   | true =>
    have hw := fun x hx => hm rfl x hx
    refine ⟨true, _, rfl, ⟨⟨?_, hp.inv.l2, fun j => ?_, fun j hj => ?_, hp.inv.val, fun j => ?_, fun x hx => ?_, ?_, fun j hj => ?_, fun a m b e x hx hk => ?_⟩, fun j => ?_, ?_, hbgp⟩, fun _ => ?_, (fun e => by cases e), ?_⟩
    ·show (s2.st.set i 2).length = _; rw [List.length_set]; exact hp.inv.l1
    ·show (s2.st.set i 2).getD j 0 = 0 ∨ (s2.st.set i 2).getD j 0 = 1 ∨ (s2.st.set i 2).getD j 0 = 2
     rw [stI hil2]
     split
     ·exact .inr (.inr rfl)
     ·exact hp.inv.tri j
    ·have hj : (s2.st.set i 2).getD j 0 = 0 := hj
     rw [stI hil2] at hj
     split at hj
     ·exact absurd hj (by decide)
     ·exact hp.inv.nil j hj
    ·show (s2.st.set i 2).getD j 0 = 2 ↔ (j : Int) ∈ s2.wh ++ [(i : Int)]
     rw [stI hil2, List.mem_append, List.mem_singleton]
     split
     ·rename_i e; subst e; exact ⟨fun _ => .inr rfl, fun _ => rfl⟩
     ·rename_i e
      rw [hp.inv.who j]
      exact ⟨.inl, fun h => h.elim id (fun h => absurd (Int.ofNat.inj h).symm e)⟩
    ·have hx : x ∈ s2.wh ++ [(i : Int)] := hx
     rw [List.mem_append, List.mem_singleton] at hx
     rcases hx with hx | rfl
     ·exact hp.inv.whr x hx
     ·omega
    ·show (s2.wh ++ [(i : Int)]).Nodup
     rw [List.nodup_append]
     exact ⟨hp.inv.nod, by simp, fun a ha b hb => by rw [List.mem_singleton] at hb; subst hb; exact fun e => hnw2 (e ▸ ha)⟩
    ·have hj : (s2.st.set i 2).getD j 0 ≠ 0 := hj
     rw [stI hil2] at hj
     refine hp.inv.bgn j ?_
     split at hj
     ·rename_i e; subst e; rw [hb2]; decide
     ·exact hj
    ·have e : s2.wh ++ [(i : Int)] = a ++ m :: b := e
     rcases List.eq_nil_or_concat b with rfl | ⟨b', y, rfl⟩
     ·obtain ⟨ea, em⟩ := List.append_inj' e rfl
      injection em with em _
      subst em ea
      obtain ⟨q, hq, hq0⟩ := hw x hx hk
      rcases hp.inv.tri q with h | h | h
      ·exact absurd h hq0
      ·right
       refine circ_of (x := x.f1) (edge_of hi hx (.inl hk)) ?_
       rw [hq]
       exact hr1 q ((hp.bgs q).1 h)
      ·left
       rw [hq]
       exact (hp.inv.who q).1 h
     ·rw [List.concat_eq_append, ← List.cons_append, ← List.append_assoc] at e
      obtain ⟨ea, _⟩ := List.append_inj' e rfl
      exact hp.inv.ord a m b' ea x hx hk
    ·show (s2.st.set i 2).getD j 0 = 1 ↔ s.st.getD j 0 = 1
     rw [stI hil2]
     split
     ·rename_i e; subst e; rw [h0]; decide
     ·rename_i e; exact hbgs j (fun e2 => e e2.symm)
    ·obtain ⟨t, ht⟩ := hwhp
     exact ⟨t ++ [(i : Int)], by show s2.wh ++ [(i : Int)] = _; rw [ht, List.append_assoc]⟩
    ·show (s2.st.set i 2).getD i 0 ≠ 0
     rw [stI hil2, if_pos rfl]; decide
    ·rw [tb]
     refine ⟨Nat.le_trans hl2.1 (by omega), ?_, Nat.le_trans hl2.2.2.1 (by omega), fun j => Nat.le_trans (hl2.2.2.2 j) (by omega)⟩
     show (s2.wh ++ [(i : Int)]).length ≤ _
     rw [List.length_append, List.length_singleton]
     have := hl2.2.1
     omega
   | false =>
    refine ⟨false, _, rfl, ⟨⟨?_, ?_, fun j => ?_, fun j hj => ?_, fun j p hp2 => ?_, fun j => ?_, hp.inv.whr, hp.inv.nod, fun j hj => ?_, hp.inv.ord⟩, fun j => ?_, hwhp, hbgp⟩, (fun e => by cases e), fun _ => ?_, ?_⟩
    ·show (s2.st.set i 0).length = _; rw [List.length_set]; exact hp.inv.l1
    ·show (s2.nm.set i []).length = _; rw [List.length_set]; exact hp.inv.l2
    ·show (s2.st.set i 0).getD j 0 = 0 ∨ (s2.st.set i 0).getD j 0 = 1 ∨ (s2.st.set i 0).getD j 0 = 2
     rw [stI hil2]
     split
     ·exact .inl rfl
     ·exact hp.inv.tri j
    ·have hj : (s2.st.set i 0).getD j 0 = 0 := hj
     show (s2.nm.set i []).getD j [] = []
     rw [nmI hin2]
     rw [stI hil2] at hj
     split
     ·rfl
     ·rename_i e; rw [if_neg e] at hj; exact hp.inv.nil j hj
    ·have hp2 : p ∈ (s2.nm.set i []).getD j [] := hp2
     rw [nmI hin2] at hp2
     split at hp2
     ·cases hp2
     ·exact hp.inv.val j p hp2
    ·show (s2.st.set i 0).getD j 0 = 2 ↔ (j : Int) ∈ s2.wh
     rw [stI hil2]
     split
     ·rename_i e; subst e; exact ⟨fun h => absurd h (by decide), fun h => absurd h hnw2⟩
     ·exact hp.inv.who j
    ·have hj : (s2.st.set i 0).getD j 0 ≠ 0 := hj
     rw [stI hil2] at hj
     split at hj
     ·exact absurd rfl hj
     ·exact hp.inv.bgn j hj
    ·show (s2.st.set i 0).getD j 0 = 1 ↔ s.st.getD j 0 = 1
     rw [stI hil2]
     split
     ·rename_i e; subst e; rw [h0]
     ·rename_i e; exact hbgs j (fun e2 => e e2.symm)
    ·show (s2.st.set i 0).getD i 0 = 0
     rw [stI hil2, if_pos rfl]
    ·rw [tb]
     refine ⟨Nat.le_trans hl2.1 (by omega), Nat.le_trans hl2.2.1 (by omega), Nat.le_trans hl2.2.2.1 (by omega), fun j => ?_⟩
     show ((s2.nm.set i []).getD j []).length ≤ _
     rw [nmI hin2]
     split
     ·simp
     ·exact Nat.le_trans (hl2.2.2.2 j) (by omega)
  ·rw [if_neg (show ¬ rd s.st (i : Int) = 0 from h0)]
   exact ⟨true, s, rfl, IPost.refl hs, fun _ => h0, (fun e => by cases e), hle.mono (by omega)⟩
end Go.Proofs.Ytehhhlhedmfdiaa.PFnImportRun
end
section
namespace Go.Proofs.Ytehhhlhedmfdiaa.PFnImportRun
open Go.RowKit Go.Proofs.Yz0.PrintWords Go.Proofs.Yz0.PrintLast Go.Proofs.Yz0.PrintMore
open Go.Maps
set_option linter.unusedVariables false
set_option linter.unusedSimpArgs false
theorem law9 : Keyed Try.prog 9 := string_keyed Try.underlying9
theorem zero3 (w : World) : (zeroValue 3).run Try.prog w = .ok (.int .i64 0) w := by kernel_rfl
abbrev klit (s : ByteArray) : Lit := .string s.data.toList
theorem klit_ne {s t : ByteArray} (h : ¬ s = t) : klit t ≠ klit s := by
 intro e
 injection e with e
 exact h (ByteArray.ext (Array.toList_inj.mp e.symm))
def MapIs (D : DataW Unit) (nm : List (ByteArray × Int)) : Prop :=
 IsMap D ∧ ∀ (s : ByteArray) (z : DataW Unit), D.atKey (klit s) z = match look nm s with
  | some v => .lit (.int .i64 v)
  | none => z
theorem mapIs_nil : MapIs (.map []) [] := ⟨⟨[], rfl⟩, fun s z => rfl⟩
theorem mapIs_put {D : DataW Unit} {nm : List (ByteArray × Int)} (h : MapIs D nm) (s : ByteArray) (v : Int) : MapIs (D.put (klit s) (.lit (.int .i64 v))) ((s, v) :: nm) := by
 obtain ⟨h1, h2⟩ := h
 refine ⟨h1.put _ _, fun t z => ?_⟩
 simp only [look]
 by_cases e : s = t
 ·subst e
  rw [if_pos rfl, atKey_put_same h1 (by simp [klit, WideAt.IsKeyLit])]
 ·rw [if_neg e, atKey_put_other (klit_ne e)]
  exact h2 t z
structure MapsI (base : Nat) (W : World) (mb : List (Option Nat)) (nm : List (List (ByteArray × Int))) : Prop where
 len : mb.length = nm.length
 some_ : ∀ (i b : Nat), mb[i]? = some (some b) → base ≤ b ∧ ∃ D, W.ownsMap Try.prog 9 (plainElem Try.prog 3) b (nm.getD i []).length D ∧ MapIs D (nm.getD i [])
 none_ : ∀ (i : Nat), mb[i]? = some none → nm.getD i [] = []
 apart : ∀ (i j b : Nat), mb[i]? = some (some b) → mb[j]? = some (some b) → i = j
theorem MapsI.step {base : Nat} {W w1 : World} {mb : List (Option Nat)} {nm : List (List (ByteArray × Int))} (h : MapsI base W mb nm) (hs : ∀ (b : Nat) es c, W.heap[b]? = some (Obj.map es c) → w1.heap[b]? = W.heap[b]?) : MapsI base w1 mb nm := by
 refine ⟨h.len, fun i b hb => ?_, h.none_, h.apart⟩
 obtain ⟨h1, D, ⟨es, c, h2, h3⟩, h4⟩ := h.some_ i b hb
 exact ⟨h1, D, ⟨es, c, (hs b es c h2).trans h2, h3⟩, h4⟩
theorem MapsI.below {base : Nat} {W w1 : World} {mb : List (Option Nat)} {nm : List (List (ByteArray × Int))} (h : MapsI base W mb nm) (hb : Below W.heap.size W w1) : MapsI base w1 mb nm := h.step (fun b es c e => hb.block b (Array.getElem?_eq_some_iff.1 e).1)
theorem MapsI.grown {base : Nat} {W w1 : World} {mb : List (Option Nat)} {nm : List (List (ByteArray × Int))} {row : Option Nat} (h : MapsI base W mb nm) (hg : W.grownBy w1 row) (hr : ∀ k, row = some k → ∃ cells e, W.heap[k]? = some (.cells cells e (0, 0))) : MapsI base w1 mb nm :=
 h.step (fun b es c e => hg.block b (Array.getElem?_eq_some_iff.1 e).1 (fun he => by
  obtain ⟨cs, t, h2⟩ := hr b he.symm
  rw [e] at h2; cases h2))
theorem MapsI.set {base g j t : Nat} {W : World} {cs : Array Value} {u : Value} {mb : List (Option Nat)} {nm : List (List (ByteArray × Int))} (h : MapsI base W mb nm) (hg : W.heap[g]? = some (.cells cs t (0, 0))) : MapsI base (W.setCell ⟨g, j, none⟩ u) mb nm :=
 h.step (fun b es c e => Below.heap_setCell W ⟨g, j, none⟩ u b (fun he => by
  dsimp only at he
  subst he
  rw [e] at hg; cases hg))
def kmap : Kd (Option Nat) := Kd.scalar Value.map (fun _ => rfl)
structure ImI (w0 W : World) (gI : Nat) (vM ub uw uf ur us un : Value) (bg wh fa : List Int) (re : List ByteArray) (st : List Int) (mb : List (Option Nat)) (nm : List (List (ByteArray × Int))) : Prop where
 rb : Kd.R (Kd.int .i64) 3 W w0.heap.size (fun k => some k ≠ uw.ownBlock ∧ some k ≠ uf.ownBlock ∧ some k ≠ us.ownBlock) ub bg
 rw_ : Kd.R (Kd.int .i64) 3 W w0.heap.size (fun k => some k ≠ ub.ownBlock ∧ some k ≠ uf.ownBlock ∧ some k ≠ us.ownBlock) uw wh
 rf : Kd.R (Kd.int .i64) 3 W w0.heap.size (fun k => some k ≠ ub.ownBlock ∧ some k ≠ uw.ownBlock ∧ some k ≠ us.ownBlock) uf fa
 rs : Kd.R (Kd.int .i64) 3 W w0.heap.size (fun k => some k ≠ ub.ownBlock ∧ some k ≠ uw.ownBlock ∧ some k ≠ uf.ownBlock) us st
 rr : Kd.R Kd.string 9 W w0.heap.size (fun _ => True) ur re
 rn : Kd.R kmap 140 W w0.heap.size (fun _ => True) un mb
 mp : MapsI w0.heap.size W mb nm
 bx : W.heap[gI]? = some (.cells #[vM, un, ub, uw, uf, ur, us] 104 (0, 0))
 be : Below w0.heap.size w0 W
 hg : w0.heap.size ≤ gI
variable {w0 W w1 : World} {gI : Nat} {vM ub uw uf ur us un v1 : Value} {bg wh fa : List Int} {re : List ByteArray} {st r' : List Int} {mb : List (Option Nat)} {nm : List (List (ByteArray × Int))}
theorem ImI.below (h : ImI w0 W gI vM ub uw uf ur us un bg wh fa re st mb nm) (hb : Below W.heap.size W w1) : ImI w0 w1 gI vM ub uw uf ur us un bg wh fa re st mb nm :=
 ⟨Kd.R_below h.rb hb, Kd.R_below h.rw_ hb, Kd.R_below h.rf hb, Kd.R_below h.rs hb, Kd.R_below h.rr hb, Kd.R_below h.rn hb, h.mp.below hb, blk_below h.bx hb, below_step h.be hb, h.hg⟩
theorem ImI.alloc (h : ImI w0 W gI vM ub uw uf ur us un bg wh fa re st mb nm) (o : Obj) : ImI w0 (W.alloc o) gI vM ub uw uf ur us un bg wh fa re st mb nm := h.below (bal (Below.refl _ _) o)
theorem ImI.drew (h : ImI w0 W gI vM ub uw uf ur us un bg wh fa re st mb nm) : ImI w0 W.drew gI vM ub uw uf ur us un bg wh fa re st mb nm := h.below (below_drew (Below.refl _ _))
theorem ImI.cells (h : ImI w0 W gI vM ub uw uf ur us un bg wh fa re st mb nm) : W.cell? ⟨gI, 0, none⟩ = some vM ∧ W.cell? ⟨gI, 1, none⟩ = some un ∧ W.cell? ⟨gI, 2, none⟩ = some ub ∧ W.cell? ⟨gI, 3, none⟩ = some uw ∧ W.cell? ⟨gI, 4, none⟩ = some uf ∧ W.cell? ⟨gI, 5, none⟩ = some ur ∧ W.cell? ⟨gI, 6, none⟩ = some us ∧ ∀ j, W.frozen? ⟨gI, j, none⟩ = false :=
 ⟨(bC h.bx 0).trans rfl, (bC h.bx 1).trans rfl, (bC h.bx 2).trans rfl, (bC h.bx 3).trans rfl, (bC h.bx 4).trans rfl, (bC h.bx 5).trans rfl, (bC h.bx 6).trans rfl, fun j => bF h.bx j⟩
theorem ImI.stateAt (h : ImI w0 W gI vM ub uw uf ur us un bg wh fa re st mb nm) {i : Nat} (hi : i < st.length) : ∃ g c, us = .slice (some ⟨g, 0, none⟩) st.length c ∧ W.cell? ⟨g, i, none⟩ = some (.int .i64 (rd st (i : Int))) ∧ W.frozen? ⟨g, i, none⟩ = false := by
 obtain ⟨g, c, rfl, _⟩ := Kd.R_form h.rs (by omega)
 obtain ⟨h1, h2⟩ := Kd.R_cell (0 : Int) h.rs (i : Int) (by omega) (by omega)
 exact ⟨g, c, rfl, h1, h2⟩
theorem ImI.stateN {n g c i : Nat} (h : ImI w0 W gI vM ub uw uf ur (.slice (some ⟨g, 0, none⟩) n c) un bg wh fa re st mb nm) (hn : st.length = n) (hi : i < n) :
  W.cell? ⟨g, i, none⟩ = some (.int .i64 (rd st (i : Int))) ∧ W.frozen? ⟨g, i, none⟩ = false := by
 obtain ⟨g2, c2, e, h1, h2⟩ := h.stateAt (i := i) (by omega)
 injection e with e _ _
 injection e with e
 injection e with e _ _
 subst e
 exact ⟨h1, h2⟩
theorem ImI.mapAt {n g c i : Nat} (h : ImI w0 W gI vM ub uw uf ur us (.slice (some ⟨g, 0, none⟩) n c) bg wh fa re st mb nm) (hn : mb.length = n) (hi : i < n) :
  W.cell? ⟨g, i, none⟩ = some (.map (mb.getD i none)) ∧ W.frozen? ⟨g, i, none⟩ = false := by
 subst hn
 exact Kd.R_cell (none : Option Nat) h.rn (i : Int) (by omega) (by omega)
theorem ImI.setStateN {n g c i : Nat} {x : Int} (h : ImI w0 W gI vM ub uw uf ur (.slice (some ⟨g, 0, none⟩) n c) un bg wh fa re st mb nm) (hn : st.length = n) (hi : i < n) :
  ImI w0 (W.setCell ⟨g, i, none⟩ (.int .i64 x)) gI vM ub uw uf ur (.slice (some ⟨g, 0, none⟩) n c) un bg wh fa re (st.set i x) mb nm := by
 subst hn
 have HP := Kd.R_put h.rs (i : Int) x
 have own : (Value.slice (some ⟨g, 0, none⟩) st.length c).ownBlock = some g := rfl
 obtain ⟨cells, hty⟩ := Kd.R_typed h.rs g own
 have hb2 := Kd.R_base h.rs g own
 have hg : W.grownBy (W.setCell ⟨g, i, none⟩ (.int .i64 x)) (Value.slice (some ⟨g, 0, none⟩) st.length c).ownBlock := HP.2
 exact ⟨Kd.R_far (p := ⟨g, i, none⟩) h.rb (fun k hk e => hk.2.2 (by rw [own, e])) _, Kd.R_far (p := ⟨g, i, none⟩) h.rw_ (fun k hk e => hk.2.2 (by rw [own, e])) _, Kd.R_far (p := ⟨g, i, none⟩) h.rf (fun k hk e => hk.2.2 (by rw [own, e])) _,
  HP.1, Kd.R_over' h.rr (Kd.R_typed h.rs) (by decide) hg, Kd.R_over' h.rn (Kd.R_typed h.rs) (by decide) hg, h.mp.set hty, blk_far h.bx (blk_ne h.bx hty (by decide)) _, bS h.be hb2, h.hg⟩
theorem ImI.putB (h : ImI w0 W gI vM ub uw uf ur us un bg wh fa re st mb nm) (ho : Kd.R (Kd.int .i64) 3 w1 w0.heap.size (fun k => some k ≠ uw.ownBlock ∧ some k ≠ uf.ownBlock ∧ some k ≠ us.ownBlock) v1 r') (hb : Below w0.heap.size w0 w1) (hg : W.grownBy w1 ub.ownBlock)
  (hat : v1.ownBlock = ub.ownBlock ∨ ∃ b, v1.ownBlock = some b ∧ W.heap.size ≤ b) : ImI w0 (w1.setCell ⟨gI, 2, none⟩ v1) gI vM v1 uw uf ur us un r' wh fa re st mb nm ∧ w1.cell? ⟨gI, 2, none⟩ = some ub ∧ w1.frozen? ⟨gI, 2, none⟩ = false := by
 have BX := blk_grown h.bx hg (Kd.R_ne h.rb h.bx (by decide))
 have S0 := Kd.R_after (ok := (fun k => some k ≠ uf.ownBlock ∧ some k ≠ us.ownBlock)) (Kd.R_mono h.rw_ (fun _ hk => ⟨hk.2, hk.1⟩)) hg hat
 have S1 := Kd.R_after (ok := (fun k => some k ≠ uw.ownBlock ∧ some k ≠ us.ownBlock)) (Kd.R_mono h.rf (fun _ hk => ⟨hk.2, hk.1⟩)) hg hat
 have S2 := Kd.R_after (ok := (fun k => some k ≠ uw.ownBlock ∧ some k ≠ uf.ownBlock)) (Kd.R_mono h.rs (fun _ hk => ⟨hk.2, hk.1⟩)) hg hat
 have S5 := Kd.R_over' h.rr (Kd.R_typed h.rb) (by decide) hg
 have S6 := Kd.R_over' h.rn (Kd.R_typed h.rb) (by decide) hg
 refine ⟨⟨Kd.R_mono (Kd.R_far (p := ⟨gI, 2, none⟩) (Kd.R_types ho BX (by decide)) (fun _ hk => hk.2) v1) (fun _ hk => hk.1), Kd.R_mono (Kd.R_far (p := ⟨gI, 2, none⟩) (Kd.R_types S0 BX (by decide)) (fun _ hk => hk.2) v1) (fun _ hk => ⟨hk.1.2, hk.1.1⟩), Kd.R_mono (Kd.R_far (p := ⟨gI, 2, none⟩) (Kd.R_types S1 BX (by decide)) (fun _ hk => hk.2) v1) (fun _ hk => ⟨hk.1.2, hk.1.1⟩), Kd.R_mono (Kd.R_far (p := ⟨gI, 2, none⟩) (Kd.R_types S2 BX (by decide)) (fun _ hk => hk.2) v1) (fun _ hk => ⟨hk.1.2, hk.1.1⟩), Kd.R_mono (Kd.R_far (p := ⟨gI, 2, none⟩) (Kd.R_types S5 BX (by decide)) (fun _ hk => hk.2) v1) (fun _ hk => trivial), Kd.R_mono (Kd.R_far (p := ⟨gI, 2, none⟩) (Kd.R_types S6 BX (by decide)) (fun _ hk => hk.2) v1) (fun _ hk => trivial),
  (h.mp.grown hg (fun k hk => let ⟨c, hc⟩ := Kd.R_typed h.rb k hk; ⟨c, 3, hc⟩)).set BX, blk_put (cs := #[vM, un, ub, uw, uf, ur, us]) BX 2 _ rfl, bS hb h.hg, h.hg⟩, (bC BX 2).trans rfl, bF BX 2⟩
theorem ImI.putW (h : ImI w0 W gI vM ub uw uf ur us un bg wh fa re st mb nm) (ho : Kd.R (Kd.int .i64) 3 w1 w0.heap.size (fun k => some k ≠ ub.ownBlock ∧ some k ≠ uf.ownBlock ∧ some k ≠ us.ownBlock) v1 r') (hb : Below w0.heap.size w0 w1) (hg : W.grownBy w1 uw.ownBlock)
  (hat : v1.ownBlock = uw.ownBlock ∨ ∃ b, v1.ownBlock = some b ∧ W.heap.size ≤ b) : ImI w0 (w1.setCell ⟨gI, 3, none⟩ v1) gI vM ub v1 uf ur us un bg r' fa re st mb nm ∧ w1.cell? ⟨gI, 3, none⟩ = some uw ∧ w1.frozen? ⟨gI, 3, none⟩ = false := by
 have BX := blk_grown h.bx hg (Kd.R_ne h.rw_ h.bx (by decide))
 have S0 := Kd.R_after (ok := (fun k => some k ≠ uf.ownBlock ∧ some k ≠ us.ownBlock)) (Kd.R_mono h.rb (fun _ hk => ⟨hk.2, hk.1⟩)) hg hat
 have S1 := Kd.R_after (ok := (fun k => some k ≠ ub.ownBlock ∧ some k ≠ us.ownBlock)) (Kd.R_mono h.rf (fun _ hk => ⟨⟨hk.1, hk.2.2⟩, hk.2.1⟩)) hg hat
 have S2 := Kd.R_after (ok := (fun k => some k ≠ ub.ownBlock ∧ some k ≠ uf.ownBlock)) (Kd.R_mono h.rs (fun _ hk => ⟨⟨hk.1, hk.2.2⟩, hk.2.1⟩)) hg hat
 have S5 := Kd.R_over' h.rr (Kd.R_typed h.rw_) (by decide) hg
 have S6 := Kd.R_over' h.rn (Kd.R_typed h.rw_) (by decide) hg
 refine ⟨⟨Kd.R_mono (Kd.R_far (p := ⟨gI, 3, none⟩) (Kd.R_types S0 BX (by decide)) (fun _ hk => hk.2) v1) (fun _ hk => ⟨hk.1.2, hk.1.1⟩), Kd.R_mono (Kd.R_far (p := ⟨gI, 3, none⟩) (Kd.R_types ho BX (by decide)) (fun _ hk => hk.2) v1) (fun _ hk => hk.1), Kd.R_mono (Kd.R_far (p := ⟨gI, 3, none⟩) (Kd.R_types S1 BX (by decide)) (fun _ hk => hk.2) v1) (fun _ hk => ⟨hk.1.1.1, hk.1.2, hk.1.1.2⟩), Kd.R_mono (Kd.R_far (p := ⟨gI, 3, none⟩) (Kd.R_types S2 BX (by decide)) (fun _ hk => hk.2) v1) (fun _ hk => ⟨hk.1.1.1, hk.1.2, hk.1.1.2⟩), Kd.R_mono (Kd.R_far (p := ⟨gI, 3, none⟩) (Kd.R_types S5 BX (by decide)) (fun _ hk => hk.2) v1) (fun _ hk => trivial), Kd.R_mono (Kd.R_far (p := ⟨gI, 3, none⟩) (Kd.R_types S6 BX (by decide)) (fun _ hk => hk.2) v1) (fun _ hk => trivial),
  (h.mp.grown hg (fun k hk => let ⟨c, hc⟩ := Kd.R_typed h.rw_ k hk; ⟨c, 3, hc⟩)).set BX, blk_put (cs := #[vM, un, ub, uw, uf, ur, us]) BX 3 _ rfl, bS hb h.hg, h.hg⟩, (bC BX 3).trans rfl, bF BX 3⟩
theorem ImI.putF (h : ImI w0 W gI vM ub uw uf ur us un bg wh fa re st mb nm) (ho : Kd.R (Kd.int .i64) 3 w1 w0.heap.size (fun k => some k ≠ ub.ownBlock ∧ some k ≠ uw.ownBlock ∧ some k ≠ us.ownBlock) v1 r') (hb : Below w0.heap.size w0 w1) (hg : W.grownBy w1 uf.ownBlock)
  (hat : v1.ownBlock = uf.ownBlock ∨ ∃ b, v1.ownBlock = some b ∧ W.heap.size ≤ b) : ImI w0 (w1.setCell ⟨gI, 4, none⟩ v1) gI vM ub uw v1 ur us un bg wh r' re st mb nm ∧ w1.cell? ⟨gI, 4, none⟩ = some uf ∧ w1.frozen? ⟨gI, 4, none⟩ = false := by
 have BX := blk_grown h.bx hg (Kd.R_ne h.rf h.bx (by decide))
 have S0 := Kd.R_after (ok := (fun k => some k ≠ uw.ownBlock ∧ some k ≠ us.ownBlock)) (Kd.R_mono h.rb (fun _ hk => ⟨⟨hk.1, hk.2.2⟩, hk.2.1⟩)) hg hat
 have S1 := Kd.R_after (ok := (fun k => some k ≠ ub.ownBlock ∧ some k ≠ us.ownBlock)) (Kd.R_mono h.rw_ (fun _ hk => ⟨⟨hk.1, hk.2.2⟩, hk.2.1⟩)) hg hat
 have S2 := Kd.R_after (ok := (fun k => some k ≠ ub.ownBlock ∧ some k ≠ uw.ownBlock)) (Kd.R_mono h.rs (fun _ hk => ⟨⟨hk.1, hk.2.1⟩, hk.2.2⟩)) hg hat
 have S5 := Kd.R_over' h.rr (Kd.R_typed h.rf) (by decide) hg
 have S6 := Kd.R_over' h.rn (Kd.R_typed h.rf) (by decide) hg
 refine ⟨⟨Kd.R_mono (Kd.R_far (p := ⟨gI, 4, none⟩) (Kd.R_types S0 BX (by decide)) (fun _ hk => hk.2) v1) (fun _ hk => ⟨hk.1.1.1, hk.1.2, hk.1.1.2⟩), Kd.R_mono (Kd.R_far (p := ⟨gI, 4, none⟩) (Kd.R_types S1 BX (by decide)) (fun _ hk => hk.2) v1) (fun _ hk => ⟨hk.1.1.1, hk.1.2, hk.1.1.2⟩), Kd.R_mono (Kd.R_far (p := ⟨gI, 4, none⟩) (Kd.R_types ho BX (by decide)) (fun _ hk => hk.2) v1) (fun _ hk => hk.1), Kd.R_mono (Kd.R_far (p := ⟨gI, 4, none⟩) (Kd.R_types S2 BX (by decide)) (fun _ hk => hk.2) v1) (fun _ hk => ⟨hk.1.1.1, hk.1.1.2, hk.1.2⟩), Kd.R_mono (Kd.R_far (p := ⟨gI, 4, none⟩) (Kd.R_types S5 BX (by decide)) (fun _ hk => hk.2) v1) (fun _ hk => trivial), Kd.R_mono (Kd.R_far (p := ⟨gI, 4, none⟩) (Kd.R_types S6 BX (by decide)) (fun _ hk => hk.2) v1) (fun _ hk => trivial),
  (h.mp.grown hg (fun k hk => let ⟨c, hc⟩ := Kd.R_typed h.rf k hk; ⟨c, 3, hc⟩)).set BX, blk_put (cs := #[vM, un, ub, uw, uf, ur, us]) BX 4 _ rfl, bS hb h.hg, h.hg⟩, (bC BX 4).trans rfl, bF BX 4⟩
theorem ImI.putR {r2 : List ByteArray} (h : ImI w0 W gI vM ub uw uf ur us un bg wh fa re st mb nm) (ho : Kd.R Kd.string 9 w1 w0.heap.size (fun _ => True) v1 r2) (hb : Below w0.heap.size w0 w1) (hg : W.grownBy w1 ur.ownBlock) :
  ImI w0 (w1.setCell ⟨gI, 5, none⟩ v1) gI vM ub uw uf v1 us un bg wh fa r2 st mb nm ∧ w1.cell? ⟨gI, 5, none⟩ = some ur ∧ w1.frozen? ⟨gI, 5, none⟩ = false := by
 have BX := blk_grown h.bx hg (Kd.R_ne h.rr h.bx (by decide))
 have R1 := Kd.R_over' h.rb (Kd.R_typed h.rr) (by decide) hg
 have R2 := Kd.R_over' h.rw_ (Kd.R_typed h.rr) (by decide) hg
 have R3 := Kd.R_over' h.rf (Kd.R_typed h.rr) (by decide) hg
 have R4 := Kd.R_over' h.rs (Kd.R_typed h.rr) (by decide) hg
 have R6 := Kd.R_over' h.rn (Kd.R_typed h.rr) (by decide) hg
 refine ⟨⟨Kd.R_mono (Kd.R_far (p := ⟨gI, 5, none⟩) (Kd.R_types R1 BX (by decide)) (fun _ hk => hk.2) v1) (fun _ hk => hk.1), Kd.R_mono (Kd.R_far (p := ⟨gI, 5, none⟩) (Kd.R_types R2 BX (by decide)) (fun _ hk => hk.2) v1) (fun _ hk => hk.1), Kd.R_mono (Kd.R_far (p := ⟨gI, 5, none⟩) (Kd.R_types R3 BX (by decide)) (fun _ hk => hk.2) v1) (fun _ hk => hk.1), Kd.R_mono (Kd.R_far (p := ⟨gI, 5, none⟩) (Kd.R_types R4 BX (by decide)) (fun _ hk => hk.2) v1) (fun _ hk => hk.1), Kd.R_mono (Kd.R_far (p := ⟨gI, 5, none⟩) (Kd.R_types ho BX (by decide)) (fun _ hk => hk.2) v1) (fun _ hk => trivial), Kd.R_mono (Kd.R_far (p := ⟨gI, 5, none⟩) (Kd.R_types R6 BX (by decide)) (fun _ hk => hk.2) v1) (fun _ hk => trivial),
  (h.mp.grown hg (fun k hk => let ⟨c, hc⟩ := Kd.R_typed h.rr k hk; ⟨c, 9, hc⟩)).set BX, blk_put (cs := #[vM, un, ub, uw, uf, ur, us]) BX 5 _ rfl, bS hb h.hg, h.hg⟩, (bC BX 5).trans rfl, bF BX 5⟩
theorem getD_set2 {α : Type} {l : List α} {i j : Nat} {x d : α} (hi : i < l.length) : (l.set i x).getD j d = if i = j then x else l.getD j d := by
 rw [List.getD_eq_getElem?_getD, List.getD_eq_getElem?_getD]
 by_cases h : i = j
 ·subst h; rw [if_pos rfl, List.getElem?_set_self hi]; rfl
 ·rw [if_neg h, List.getElem?_set_ne h]
theorem ImI.setMap {n g c i : Nat} {x : Option Nat} {y : List (ByteArray × Int)} (h : ImI w0 W gI vM ub uw uf ur us (.slice (some ⟨g, 0, none⟩) n c) bg wh fa re st mb nm) (hn : mb.length = n) (hi : i < n)
  (h0 : x = none → y = []) (h1 : ∀ b : Nat, x = some b → w0.heap.size ≤ b ∧ (∃ D, W.ownsMap Try.prog 9 (plainElem Try.prog 3) b y.length D ∧ MapIs D y) ∧ ∀ j : Nat, mb[j]? = some (some b) → j = i) :
  ImI w0 (W.setCell ⟨g, i, none⟩ (.map x)) gI vM ub uw uf ur us (.slice (some ⟨g, 0, none⟩) n c) bg wh fa re st (mb.set i x) (nm.set i y) := by
 subst hn
 have HP := Kd.R_put h.rn (i : Int) x
 have own : (Value.slice (some ⟨g, 0, none⟩) mb.length c).ownBlock = some g := rfl
 obtain ⟨cells, hty⟩ := Kd.R_typed h.rn g own
 have hb2 := Kd.R_base h.rn g own
 have hg : W.grownBy (W.setCell ⟨g, i, none⟩ (.map x)) (Value.slice (some ⟨g, 0, none⟩) mb.length c).ownBlock := HP.2
 have hni : i < nm.length := by have := h.mp.len; omega
 have hM : MapsI w0.heap.size W (mb.set i x) (nm.set i y) := by
  refine ⟨by simp [h.mp.len], fun j b hj => ?_, fun j hj => ?_, fun j k b hj hk => ?_⟩
  ·rw [getD_set2 hni]
   by_cases e : i = j
   ·subst e
    rw [List.getElem?_set_self hi] at hj
    injection hj with hj
    rw [if_pos rfl]
    obtain ⟨h2, h3, _⟩ := h1 b hj
    exact ⟨h2, h3⟩
   ·rw [List.getElem?_set_ne e] at hj
    rw [if_neg e]
    exact h.mp.some_ j b hj
  ·rw [getD_set2 hni]
   by_cases e : i = j
   ·subst e
    rw [List.getElem?_set_self hi] at hj
    injection hj with hj
    rw [if_pos rfl]
    exact h0 hj
   ·rw [List.getElem?_set_ne e] at hj
    rw [if_neg e]
    exact h.mp.none_ j hj
  ·by_cases e : i = j
   ·subst e
    rw [List.getElem?_set_self hi] at hj
    injection hj with hj
    by_cases e2 : i = k
    ·exact e2
    ·rw [List.getElem?_set_ne e2] at hk
     exact ((h1 b hj).2.2 k hk).symm
   ·rw [List.getElem?_set_ne e] at hj
    by_cases e2 : i = k
    ·subst e2
     rw [List.getElem?_set_self hi] at hk
     injection hk with hk
     exact (h1 b hk).2.2 j hj
    ·rw [List.getElem?_set_ne e2] at hk
     exact h.mp.apart j k b hj hk
 exact ⟨Kd.R_over' h.rb (Kd.R_typed h.rn) (by decide) hg, Kd.R_over' h.rw_ (Kd.R_typed h.rn) (by decide) hg, Kd.R_over' h.rf (Kd.R_typed h.rn) (by decide) hg, Kd.R_over' h.rs (Kd.R_typed h.rn) (by decide) hg, Kd.R_over' h.rr (Kd.R_typed h.rn) (by decide) hg,
  HP.1, hM.set hty, blk_far h.bx (blk_ne h.bx hty (by decide)) _, bS h.be hb2, h.hg⟩
theorem getD_none {mb : List (Option Nat)} {i : Nat} (hi : i < mb.length) : mb[i]? = some (mb.getD i none) := by
 rw [List.getD_eq_getElem?_getD, List.getElem?_eq_getElem hi]; rfl
theorem R_nomap {α : Type} {d : Kd α} {e b base : Nat} {w w1 : World} {ok : Nat → Prop} {v : Value} {xs : List α} {es : _} {c : _} (h : d.R e w base ok v xs) (hb : w.heap[b]? = some (Obj.map es c)) (hg : w.grownBy w1 (some b)) : d.R e w1 base ok v xs :=
 Kd.R_mono (Kd.R_grown (Kd.R_bound h) hg (fun k hk he => by
  obtain ⟨_, _, _, q, _, cells, h2⟩ := hk
  injection he with he
  subst he
  rw [hb] at h2; cases h2)) (fun _ hk => hk.1)
theorem ImI.mapPut {i b : Nat} {s : ByteArray} {v : Int} (h : ImI w0 W gI vM ub uw uf ur us un bg wh fa re st mb nm) (hi : mb[i]? = some (some b)) (hs : s.size ≤ 1000) (hv : 0 ≤ v ∧ v ≤ 1000000) (hl : (nm.getD i []).length < 1000000000000) :
  ∃ w1, (Instr.mapUpdate 140 (.map (some b)) (.string s) (.int .i64 v)).run Try.prog W = .ok () w1 ∧ ImI w0 w1 gI vM ub uw uf ur us un bg wh fa re st mb (nm.set i ((s, v) :: nm.getD i [])) := by
 obtain ⟨hbase, D, hown, hD⟩ := h.mp.some_ i b hi
 obtain ⟨w1, hrun, hown1, hg⟩ := hown.update law9 Try.underlying140 (by unfold maxLen; omega) (WideMaps.keyOf_string_mk (s := s) Try.underlying9 (by unfold maxLen; omega)) (plainElem_int (a := v) Try.underlying3 (WalkArith.wf_i64 ⟨by omega, by omega⟩))
 obtain ⟨es, c, hb0, _⟩ := hown
 have hlt : i < mb.length := (List.getElem?_eq_some_iff.1 hi).1
 have hni : i < nm.length := by have := h.mp.len; omega
 refine ⟨w1, hrun, ⟨R_nomap h.rb hb0 hg, R_nomap h.rw_ hb0 hg, R_nomap h.rf hb0 hg, R_nomap h.rs hb0 hg, R_nomap h.rr hb0 hg, R_nomap h.rn hb0 hg, ⟨by simp [h.mp.len], fun j b2 hj => ?_, fun j hj => ?_, h.mp.apart⟩, blk_grown h.bx hg (fun e => by injection e with e; subst e; rw [h.bx] at hb0; cases hb0), pw_below_grown h.be _ (below_size h.be) hg (fun k hk => by injection hk with hk; subst hk; exact hbase), h.hg⟩⟩
 ·rw [getD_set2 hni]
  by_cases e : i = j
  ·subst e
   rw [hi] at hj
   injection hj with hj
   injection hj with hj
   subst hj
   rw [if_pos rfl]
   exact ⟨hbase, _, hown1, mapIs_put hD s v⟩
  ·rw [if_neg e]
   obtain ⟨h2, D2, h3, h4⟩ := h.mp.some_ j b2 hj
   exact ⟨h2, D2, h3.kept hg (fun e2 => e (by injection e2 with e2; subst e2; exact h.mp.apart i j b2 hi hj)), h4⟩
 ·rw [getD_set2 hni]
  by_cases e : i = j
  ·subst e; rw [hi] at hj; cases hj
  ·rw [if_neg e]; exact h.mp.none_ j hj
theorem ImI.lookup {i : Nat} {s : ByteArray} (h : ImI w0 W gI vM ub uw uf ur us un bg wh fa re st mb nm) (hi : i < mb.length) (hs : s.size ≤ 1000) :
  (Instr.lookup 140 (.map (mb.getD i none)) (.string s) true).run Try.prog W = .ok (.tuple #[.int .i64 ((look (nm.getD i []) s).getD 0), .bool (look (nm.getD i []) s).isSome]) W := by
 have hk : keyOf Try.prog 9 (.string s) = some (klit s) := WideMaps.keyOf_string_mk (s := s) Try.underlying9 (by unfold maxLen; omega)
 have hi2 := getD_none hi
 cases hm : mb.getD i none with
 | none =>
  rw [hm] at hi2
  rw [h.mp.none_ i hi2]
  exact Maps.look_nil true law9 Try.underlying140 (zero3 W) hk
 | some b =>
  rw [hm] at hi2
  obtain ⟨_, D, hown, hD⟩ := h.mp.some_ i b hi2
  obtain ⟨v, ps, hrun, hv⟩ := hown.look_ok law9 Try.underlying140 (zero3 W) (plainElem_int Try.underlying3 (WalkArith.wf_i64 ⟨by omega, by omega⟩)) hk
  obtain ⟨c, rfl, hc, _⟩ := plainElem_int_inv Try.underlying3 hv
  have hc1 : D.atKey (klit s) (.lit (.int .i64 0)) = .lit (.int .i64 c) := congrArg Prod.fst hc
  have hat0 := hD.2 s
  rw [hrun]
  cases hl : look (nm.getD i []) s with
  | none =>
   have hat : ∀ z, D.atKey (klit s) z = z := fun z => by have := hat0 z; rw [hl] at this; exact this
   rw [has_false_of_atKey hat]
   rw [hat] at hc1
   injection hc1 with hc1
   injection hc1 with _ hc1
   subst hc1
   rfl
  | some u =>
   have hat : ∀ z, D.atKey (klit s) z = .lit (.int .i64 u) := fun z => by have := hat0 z; rw [hl] at this; exact this
   rw [has_true_of_atKey hat]
   rw [hat] at hc1
   injection hc1 with hc1
   injection hc1 with _ hc1
   subst hc1
   rfl
end Go.Proofs.Ytehhhlhedmfdiaa.PFnImportRun
end
section
namespace Go.Proofs.Ytehhhlhedmfdiaa.PFnImportRun
open Go.RowKit Go.Proofs.Yz0.PrintWords Go.Proofs.Yz0.PrintLast Go.Proofs.Yz0.PrintMore
set_option linter.unusedVariables false
set_option linter.unusedSimpArgs false
def MsOk (st : List Int) (mb : List (Option Nat)) : Prop := ∀ i : Nat, st.getD i 0 ≠ 0 → ∃ b : Nat, mb[i]? = some (some b)
def ImR (w0 W : World) (gI : Nat) (vM uf us un : Value) (fa : List Int) (s : IS) : Prop :=
 ∃ ub uw ur mb, ImI w0 W gI vM ub uw uf ur us un s.bg s.wh fa s.re s.st mb s.nm ∧ MsOk s.st mb
theorem ImR.below {w0 W w1 : World} {gI : Nat} {vM uf us un : Value} {fa : List Int} {s : IS} (h : ImR w0 W gI vM uf us un fa s) (hb : Below W.heap.size W w1) : ImR w0 w1 gI vM uf us un fa s := by
 obtain ⟨ub, uw, ur, mb, hI, hV⟩ := h
 exact ⟨ub, uw, ur, mb, hI.below hb, hV⟩
def ImPost (w0 : World) (gI : Nat) (vM uf us un : Value) (fa : List Int) (b : Bool) (s : IS) (e : Ending) (W : World) : Prop := e = .returned (.bool b) ∧ ImR w0 W gI vM uf us un fa s
def ImLoads (M : List S72) (A0 : Option Addr) (c0 : Nat) (w0 : World) (gI : Nat) (uf us un : Value) (fa : List Int) (L : Int → IS → Option (Bool × IS)) : Prop :=
 ∀ (i : Int) (s : IS) (b : Bool) (s' : IS) (W : World), L i s = some (b, s') → ImR w0 W gI (.slice A0 M.length c0) uf us un fa s →
  Calls Try.prog 69 #[.pointer (some ⟨gI, 0, none⟩), .int .i64 i] W (ImPost w0 gI (.slice A0 M.length c0) uf us un fa b s')
def ImSteps (M : List S72) (A0 : Option Addr) (c0 : Nat) (w0 : World) (gI : Nat) (uf us un : Value) (fa : List Int) (F : Int → S74 → IS → Option (Bool × IS)) : Prop :=
 ∀ (i : Int) (x : S74) (s : IS) (b : Bool) (s' : IS) (W : World), F i x s = some (b, s') → ImR w0 W gI (.slice A0 M.length c0) uf us un fa s →
  Calls Try.prog 109 #[.pointer (some ⟨gI, 0, none⟩), .int .i64 i, .agg #[.int .i64 x.f0, .int .i64 x.f1, .string x.f2]] W (ImPost w0 gI (.slice A0 M.length c0) uf us un fa b s')
theorem drop74 {l : List S74} {j : Nat} (h : j < l.length) : l.drop j = rY l (j : Int) :: l.drop (j + 1) := by
 unfold rY
 rw [show ((j : Int)).toNat = j from rfl, List.getD_eq_getElem?_getD, List.getElem?_eq_getElem h, List.drop_eq_getElem_cons h]
 rfl
theorem set_same {α : Type} {l : List α} {i : Nat} {d x : α} (h : l.getD i d = x) : l.set i x = l := by
 by_cases hi : i < l.length
 ·subst h
  rw [List.getD_eq_getElem?_getD, List.getElem?_eq_getElem hi]
  exact List.set_getElem_self hi
 ·exact List.set_eq_of_length_le (by omega)
theorem getD_setI {l : List Int} {i j : Nat} {x : Int} : (l.set i x).getD j 0 ≠ 0 → (i = j ∧ x ≠ 0) ∨ (i ≠ j ∧ l.getD j 0 ≠ 0) := by
 intro h
 by_cases e : i = j
 ·subst e
  refine .inl ⟨rfl, fun e2 => h ?_⟩
  subst e2
  rw [List.getD_eq_getElem?_getD, List.getElem?_set]
  split
  ·split <;> rfl
  ·contradiction
 ·refine .inr ⟨e, ?_⟩
  rw [List.getD_eq_getElem?_getD, List.getElem?_set_ne e, ← List.getD_eq_getElem?_getD] at h
  exact h
section
variable {P : Program} {ops : Array Oper} {rest : List Oper} {o : Oper} {a : Act} {Q : Exit → Act → World → Prop}
theorem map_event {W : World} (hgd : o.guard = none) (hrun : (execOp a.eval o).run P W = .ok (.value (.map (some W.heap.size))) (W.alloc (.map #[] 0)))
  (h : ∀ g, g = W.heap.size → ∀ w1, w1 = W.alloc (.map #[] 0) → wpList P ops Q rest (a.put o.dst (.map (some g))) w1) : wpList P ops Q (o :: rest) a W :=
 Kd.event_run hgd hrun (h _ rfl _ rfl)
end
theorem ImI.fresh {w0 W : World} {gI : Nat} {vM ub uw uf ur us un : Value} {bg wh fa : List Int} {re : List ByteArray} {st : List Int} {mb : List (Option Nat)} {nm : List (List (ByteArray × Int))} (h : ImI w0 W gI vM ub uw uf ur us un bg wh fa re st mb nm) (j : Nat) : mb[j]? ≠ some (some W.heap.size) := by
 intro e
 obtain ⟨_, D, hown, _⟩ := h.mp.some_ j _ e
 exact Nat.lt_irrefl _ hown.lt
variable {M : List S72} {A0 : Option Addr} {c0 : Nat} {w0 : World} {gI : Nat} {uf us un : Value} {fa : List Int}
theorem im_load1 (i : Nat) (s : IS) (W : World) (hi : i < M.length) (hs1 : s.st.length = M.length) (h0 : ¬ rd s.st (i : Int) = 0) (hR : ImR w0 W gI (.slice A0 M.length c0) uf us un fa s) :
  Calls Try.prog 69 #[.pointer (some ⟨gI, 0, none⟩), .int .i64 (i : Int)] W (ImPost w0 gI (.slice A0 M.length c0) uf us un fa true s) := by
 obtain ⟨ub, uw, ur, mb, hI, hV⟩ := hR
 obtain ⟨g, c, rfl, hx, hxf⟩ := hI.stateAt (i := i) (by omega)
 rw [hs1] at hI ⊢
 have HI := Az.mk hI
 have HV := Az.mk hV
 have hi1 : decide ((i : Int) < (M.length : Int)) = true := decide_eq_true (by omega)
 have hi2 : (i < M.length) = True := eq_true (by omega)
 have h1 : (rd s.st (i : Int) != 0) = true := bne_iff_ne.2 h0
 have h2 : (rd s.st (i : Int) = 0) = False := eq_false h0
 obtain ⟨hz0, hz1, hz2, hz3, hz4, hz5, hz6, hzf⟩ := hI.cells
 clear hI hV h0 hs1 hi
 go_enter Try.func69, Try.ntmps69
 go_wp2_with fail
 go_ret
 exact ⟨rfl, _, _, _, _, HI.out, HV.out⟩
theorem im_load (F : Int → S74 → IS → Option (Bool × IS)) (hF : ImSteps M A0 c0 w0 gI uf us un fa F) (hC : Kd.C k72 w0 A0 M.length M) (i : Nat) (s : IS) (W : World) (hi : i < M.length) (hs1 : s.st.length = M.length) (hs2 : s.nm.length = M.length)
  (h0 : rd s.st (i : Int) = 0) (h1 : s.bg.length < IB) (h2 : nms s (i : Int) = []) (b : Bool) (s1 : IS) (hr : runs (F (i : Int)) (rX M (i : Int)).f0 (ldStart (i : Int) s) = some (b, s1)) (h3 : s1.st.length = M.length) (h4 : s1.nm.length = M.length) (h5 : s1.wh.length < IB) (h6 : rd s1.st (i : Int) ≠ 0)
  (hR : ImR w0 W gI (.slice A0 M.length c0) uf us un fa s) :
  Calls Try.prog 69 #[.pointer (some ⟨gI, 0, none⟩), .int .i64 (i : Int)] W (ImPost w0 gI (.slice A0 M.length c0) uf us un fa b (ldEnd b (i : Int) s1)) := by
 obtain ⟨ub, uw, ur, mb, hI, hV⟩ := hR
 obtain ⟨g, c, rfl, hx, hxf⟩ := hI.stateAt (i := i) (by omega)
 rw [h0] at hx
 rw [hs1] at hI hF ⊢
 have hml : mb.length = M.length := hI.mp.len.trans hs2
 obtain ⟨gn, cn, eun, _⟩ := Kd.R_form hI.rn (by omega)
 rw [hml] at eun
 subst eun
 obtain ⟨L, hL⟩ : ∃ L, L = (rX M (i : Int)).f0 := ⟨_, rfl⟩
 obtain ⟨ad, A, cc, rfl, hm, hmc, hmC⟩ := at_T72 hC (i : Int) (by omega) (by omega)
 rw [← hL] at hm hmc hmC hr
 have HF := Az.mk hF
 have HC := Az.mk hmC
 have HM := Az.mk hm
 have HMC := Az.mk hmc
 have HI := Az.mk hI
 have HV := Az.mk hV
 have HR := Az.mk hr
 have H0 := Az.mk h0
 have H1 := Az.mk h1
 have H2 : Az (s.nm.getD i [] = []) := ⟨h2⟩
 have H3 := Az.mk h3
 have H4 := Az.mk h4
 have H5 := Az.mk h5
 have H6 := Az.mk h6
 have HS1 := Az.mk hs1
 have HS2 := Az.mk hs2
 have HIL := Az.mk hi
 have HML := Az.mk hml
 have hi1 : decide ((i : Int) < (M.length : Int)) = true := decide_eq_true (by omega)
 have hi2 : (i < M.length) = True := eq_true (by omega)
 obtain ⟨hz0, hz1, hz2, hz3, hz4, hz5, hz6, hzf⟩ := hI.cells
 clear hF hC hI hV hr h0 h1 h2 h3 h4 h5 h6 hs1 hs2 hi hmC hm hmc hL hml
 go_enter Try.func69, Try.ntmps69
 go_wp2_with (first | ((with_reducible refine gate_store (t := 3) (p := 22) rfl ?_); refine store_event (t := 3) (p := 22) (v := (.const (.int .i64 1))) (w1 := (W.setCell ⟨g, i, none⟩ (.int .i64 1))) ?hg ?ho ?hn ?hr ?_; (case ho => rfl); (case hg => rfl); (case hn => rfl); (case hr => first | (go_simp; done) | (go_simp; rfl)); intro w1 hw_; have n0_ := Az.mk (by rw [hw_]; exact ImI.setStateN HI.out HS1.out HIL.out : ImI w0 w1 gI (.slice (some ad) M.length c0) ub uw uf ur (.slice (some ⟨g, 0, none⟩) M.length c) (.slice (some ⟨gn, 0, none⟩) M.length cn) s.bg s.wh fa s.re (s.st.set i 1) mb s.nm); clear HI hw_ hz0 hz1 hz2 hz3 hz4 hz5 hz6 hzf hx hxf; have HI := n0_; clear n0_; obtain ⟨hz0, hz1, hz2, hz3, hz4, hz5, hz6, hzf⟩ := HI.out.cells) | ((with_reducible refine gate_builtin (b := .append) (xs := #[.tmp 28, .tmp 30]) rfl ?_); at_builtin; refine Kd.R_append (Kd.int .i64) (w0 := w0) w0.heap.size rfl (.tmp 28) (.tmp 30) 35 3 (.int .i64 0) 8 rfl Try.underlying35 info3 rfl (by decide) (by omega) ub s.bg (i : Int) [.int .i64 (i : Int)] (fun k => some k ≠ uw.ownBlock ∧ some k ≠ uf.ownBlock ∧ some k ≠ Value.ownBlock (.slice (some ⟨g, 0, none⟩) M.length c)) (fun _ => False) rfl rfl ?aP (fun _ hk => hk.elim) ?aF ?aO ?aB ?aS ?aL ?_; (case aP => exact rfl); (case aB => exact HI.out.be); (case aF => exact (fun k_ hk => ⟨Kd.fresh' (Kd.R_lt HI.out.rw_) k_ hk, Kd.fresh' (Kd.R_lt HI.out.rf) k_ hk, Kd.fresh' (Kd.R_lt HI.out.rs) k_ hk⟩)); (case aO => exact HI.out.rb); (case aS => exact below_size HI.out.be); (case aL => (first | (have := H1.out; unfold IB at this; omega) | (have := H5.out; unfold IB at this; omega))); intro v1 w2 ho hb hg hat; obtain ⟨A1, c1, e_⟩ := Kd.R_slice ho; simp only [List.length_append, List.length_cons, List.length_nil, Nat.zero_add] at e_; subst e_; obtain ⟨hI_, hy0, hyf⟩ := ImI.putB HI.out ho hb hg hat; have n0_ := Az.mk hI_; clear HI hI_ ho hb hg hat hz0 hz1 hz2 hz3 hz4 hz5 hz6 hzf; have HI := n0_; clear n0_) | ((with_reducible refine gate_store (t := 35) (p := 34) rfl ?_); refine store_event (t := 35) (p := 34) (v := (.tmp 31)) (w1 := (w2.setCell ⟨gI, 2, none⟩ (.slice A1 (s.bg.length + 1) c1))) ?hg ?ho ?hn ?hr ?_; (case ho => rfl); (case hg => rfl); (case hn => rfl); (case hr => first | (go_simp; done) | (go_simp; rfl)); intro w5 hw_; have n0_ := Az.mk (by rw [hw_]; exact HI.out : ImI w0 w5 gI (.slice (some ad) M.length c0) (.slice A1 (s.bg.length + 1) c1) uw uf ur (.slice (some ⟨g, 0, none⟩) M.length c) (.slice (some ⟨gn, 0, none⟩) M.length cn) (s.bg ++ [(i : Int)]) s.wh fa s.re (s.st.set i 1) mb s.nm); clear HI hw_ hy0 hyf; have HI := n0_; clear n0_; obtain ⟨hz0, hz1, hz2, hz3, hz4, hz5, hz6, hzf⟩ := HI.out.cells) | ((with_reducible refine gate_dst (N := 40) rfl ?_); refine map_event ?hg ?hr ?_; (case hg => rfl); (case hr => first | (go_simp; done) | (go_simp; rfl)); intro gB hgB w3 hw3; have HFR := Az.mk (ImI.fresh HI.out); have HGB : Az (w0.heap.size ≤ gB) := ⟨by rw [hgB]; exact below_size HI.out.be⟩; have HOW : Az (w3.ownsMap (H := Unit) Try.prog 9 (plainElem Try.prog 3) gB 0 (.map [])) := ⟨by rw [hw3, hgB]; exact World.ownsMap_made _ _ _ _⟩; clear hz0 hz1 hz2 hz3 hz4 hz5 hz6 hzf; rw [← hgB] at HFR; have n0_ := Az.mk (ImI.alloc HI.out (.map #[] 0)); rw [← hw3] at n0_; clear HI hw3 hgB; have HI := n0_; clear n0_; obtain ⟨hn0, hnf⟩ := HI.out.mapAt HML.out HIL.out) | ((with_reducible refine gate_store (t := 140) (p := 41) rfl ?_); refine store_event (t := 140) (p := 41) (v := (.tmp 40)) (w1 := (w3.setCell ⟨gn, i, none⟩ (.map (some gB)))) ?hg ?ho ?hn ?hr ?_; (case ho => rfl); (case hg => rfl); (case hn => rfl); (case hr => first | (go_simp; done) | (go_simp; rfl)); intro w4 hw_; have n0_ := Az.mk (by have h_ := ImI.setMap (x := some gB) (y := []) HI.out HML.out HIL.out (fun e => by cases e) (fun b e => by injection e with e; subst e; exact ⟨HGB.out, ⟨_, HOW.out, mapIs_nil⟩, fun j hj => absurd hj (HFR.out j)⟩); rw [set_same H2.out] at h_; rw [hw_]; exact h_ : ImI w0 w4 gI (.slice (some ad) M.length c0) (.slice A1 (s.bg.length + 1) c1) uw uf ur (.slice (some ⟨g, 0, none⟩) M.length c) (.slice (some ⟨gn, 0, none⟩) M.length cn) (s.bg ++ [(i : Int)]) s.wh fa s.re (s.st.set i 1) (mb.set i (some gB)) s.nm); clear HI hw_ hn0 hnf; have HI := n0_; clear n0_; obtain ⟨hz0, hz1, hz2, hz3, hz4, hz5, hz6, hzf⟩ := HI.out.cells; have hm : w4.cell? (ad.add i) = some (.slice A L.length cc) := (HI.out.be.cell (World.block_lt_of_cell? w0 _ HM.out)).trans HM.out))
 have HV4 : Az (MsOk (s.st.set i 1) (mb.set i (some gB))) := ⟨fun j hj => by
  rcases getD_setI hj with ⟨rfl, _⟩ | ⟨hne, h⟩
  ·exact ⟨gB, List.getElem?_set_self (by have := HML.out; have := HIL.out; omega)⟩
  ·rw [List.getElem?_set_ne hne]; exact HV.out j h⟩
 go_loopg [51] (L.length + 1) (fun kq v51 w' => ∃ (j : Nat) (t : IS), v51 = .int .i64 (j : Int) ∧ Az (j + kq = L.length + 1 ∧ j ≤ L.length) ∧ Az (runs (F (i : Int)) (L.drop j) t = some (b, s1)) ∧ Az (ImR w0 w' gI (.slice (some ad) M.length c0) uf (.slice (some ⟨g, 0, none⟩) M.length c) (.slice (some ⟨gn, 0, none⟩) M.length cn) fa t))
 case atStart => exact ⟨0, ldStart (i : Int) s, rfl, ⟨by omega, by omega⟩, ⟨by simpa using HR.out⟩, ⟨⟨_, _, _, _, HI.out, HV4.out⟩⟩⟩
 case round =>
  clear HI HR HV HV4 HOW HFR HGB hm hz0 hz1 hz2 hz3 hz4 hz5 hz6 hzf
  obtain ⟨j, t, rfl, HJ, HR, HS⟩ := hrel
  have hLm := Kd.C_max HC.out
  by_cases hj : j < L.length
  ·have hj1 : decide ((j : Int) < (L.length : Int)) = true := decide_eq_true (by omega)
   have hj2 : (j < L.length) = True := eq_true hj
   have HBW : Az (Below w0.heap.size w0 wr) := ⟨by obtain ⟨_, _, _, _, hI, _⟩ := HS.out; exact hI.be⟩
   obtain ⟨ad2, e2, hy0, hy1, hy2⟩ := at_T74 HC.out (j : Int) (by omega) (by omega)
   subst e2
   replace hy0 : wr.cell? (ad2.add (j * 3)) = _ := (HBW.out.cell (World.block_lt_of_cell? w0 _ hy0)).trans hy0
   replace hy1 : wr.cell? ⟨(ad2.add (j * 3)).block, (ad2.add (j * 3)).off + 1, none⟩ = _ := (HBW.out.cell (World.block_lt_of_cell? w0 _ hy1)).trans hy1
   replace hy2 : wr.cell? ⟨(ad2.add (j * 3)).block, (ad2.add (j * 3)).off + 2, none⟩ = _ := (HBW.out.cell (World.block_lt_of_cell? w0 _ hy2)).trans hy2
   have hw := HR.out
   rw [drop74 hj, runs] at hw
   have hwr : wrap64 ((j : Int) + 1) = ((j + 1 : Nat) : Int) := by unfold wrap64; omega
   clear HR
   cases hf : F (i : Int) (rY L (j : Int)) t with
   | none => rw [hf] at hw; cases hw
   | some r =>
    obtain ⟨b2, t2⟩ := r
    rw [hf] at hw
    dsimp only [Option.bind_some] at hw
    have HFF := Az.mk hf
    have HJL := Az.mk hj
    have HWR := Az.mk hwr
    have HLM := Az.mk hLm
    clear hf hj hwr hLm
    cases b2 with
    | true =>
     have HR := Az.mk hw
     clear hw
     go_wp2_with fail
     refine (HF.out (i : Int) _ t true t2 _ HFF.out (ImR.below HS.out (bal (Below.refl _ _) _))).mono ?_
     rintro e w5 ⟨rfl, hR2⟩
     have HS2 := Az.mk hR2
     clear hR2 hy0 hy1 hy2
     go_wp2_with fail
     go_roundg (gk - 1)
     case measure => have := HJ.out; omega
     case rel => exact ⟨j + 1, t2, (by first | rfl | (rw [HWR.out]) | (simp [HWR.out])), ⟨by have := HJ.out; omega, by have := HJL.out; omega⟩, HR, HS2⟩
    | false =>
     have HR := Az.mk hw
     clear hw
     go_wp2_with fail
     refine (HF.out (i : Int) _ t false t2 _ HFF.out (ImR.below HS.out (bal (Below.refl _ _) _))).mono ?_
     rintro e w5 ⟨rfl, hR2⟩
     clear hy0 hy1 hy2 HS
     have eb := Option.some.inj HR.out
     injection eb with eb es
     subst eb es
     clear HR HML
     obtain ⟨ub, uw, ur, mb, hI, hV⟩ := hR2
     have HI := Az.mk hI
     have HV := Az.mk hV
     have HML : Az (mb.length = M.length) := ⟨hI.mp.len.trans H4.out⟩
     obtain ⟨hz0, hz1, hz2, hz3, hz4, hz5, hz6, hzf⟩ := hI.cells
     obtain ⟨hx, hxf⟩ := hI.stateN H3.out HIL.out
     clear hI hV
     go_wp2_with (first | ((with_reducible refine gate_store (t := 3) (p := 66) rfl ?_); refine store_event (t := 3) (p := 66) (v := (.const (.int .i64 0))) (w1 := (w5.setCell ⟨g, i, none⟩ (.int .i64 0))) ?hg ?ho ?hn ?hr ?_; (case ho => rfl); (case hg => rfl); (case hn => rfl); (case hr => first | (go_simp; done) | (go_simp; rfl)); intro w6 hw_; have n0_ := Az.mk (by rw [hw_]; exact ImI.setStateN HI.out H3.out HIL.out : ImI w0 w6 gI (.slice (some ad) M.length c0) ub uw uf ur (.slice (some ⟨g, 0, none⟩) M.length c) (.slice (some ⟨gn, 0, none⟩) M.length cn) t2.bg t2.wh fa t2.re (t2.st.set i 0) mb t2.nm); clear HI hw_ hz0 hz1 hz2 hz3 hz4 hz5 hz6 hzf hx hxf; have HI := n0_; clear n0_; obtain ⟨hz0, hz1, hz2, hz3, hz4, hz5, hz6, hzf⟩ := HI.out.cells; obtain ⟨hn0, hnf⟩ := HI.out.mapAt HML.out HIL.out) | ((with_reducible refine gate_store (t := 140) (p := 72) rfl ?_); refine store_event (t := 140) (p := 72) (v := (.const (.map none))) (w1 := (w6.setCell ⟨gn, i, none⟩ (.map none))) ?hg ?ho ?hn ?hr ?_; (case ho => rfl); (case hg => rfl); (case hn => rfl); (case hr => first | (go_simp; done) | (go_simp; rfl)); intro w7 hw_; have n0_ := Az.mk (by rw [hw_]; exact ImI.setMap (x := none) (y := []) HI.out HML.out HIL.out (fun _ => rfl) (fun b e => by cases e) : ImI w0 w7 gI (.slice (some ad) M.length c0) ub uw uf ur (.slice (some ⟨g, 0, none⟩) M.length c) (.slice (some ⟨gn, 0, none⟩) M.length cn) t2.bg t2.wh fa t2.re (t2.st.set i 0) (mb.set i none) (t2.nm.set i [])); clear HI hw_ hn0 hnf hz0 hz1 hz2 hz3 hz4 hz5 hz6 hzf; have HI := n0_; clear n0_; skip))
     go_ret
     refine ⟨rfl, ub, uw, ur, mb.set i none, HI.out, fun j hj => ?_⟩
     rcases getD_setI hj with ⟨rfl, h⟩ | ⟨hne, h⟩
     ·exact absurd rfl h
     ·rw [List.getElem?_set_ne (show i ≠ j from hne)]; exact HV.out j h
  ·have hj1 : decide ((j : Int) < (L.length : Int)) = false := decide_eq_false (by omega)
   have hj2 : (j < L.length) = False := eq_false hj
   obtain ⟨ub, uw, ur, mb, hI, hV⟩ := HS.out
   obtain ⟨hz0, hz1, hz2, hz3, hz4, hz5, hz6, hzf⟩ := hI.cells
   have hw := HR.out
   rw [List.drop_of_length_le (by omega), runs] at hw
   injection hw with hw
   injection hw with hb hs
   subst hb hs
   obtain ⟨hx, hxf⟩ := hI.stateN H3.out HIL.out
   have HI := Az.mk hI
   have HV := Az.mk hV
   clear hI hV hj hLm HR HS
   go_wp2_with (first | ((with_reducible refine gate_store (t := 3) (p := 80) rfl ?_); refine store_event (t := 3) (p := 80) (v := (.const (.int .i64 2))) (w1 := (wr.setCell ⟨g, i, none⟩ (.int .i64 2))) ?hg ?ho ?hn ?hr ?_; (case ho => rfl); (case hg => rfl); (case hn => rfl); (case hr => first | (go_simp; done) | (go_simp; rfl)); intro w6 hw_; have n0_ := Az.mk (by rw [hw_]; exact ImI.setStateN HI.out H3.out HIL.out : ImI w0 w6 gI (.slice (some ad) M.length c0) ub uw uf ur (.slice (some ⟨g, 0, none⟩) M.length c) (.slice (some ⟨gn, 0, none⟩) M.length cn) t.bg t.wh fa t.re (t.st.set i 2) mb t.nm); clear HI hw_ hz0 hz1 hz2 hz3 hz4 hz5 hz6 hzf hx hxf; have HI := n0_; clear n0_; obtain ⟨hz0, hz1, hz2, hz3, hz4, hz5, hz6, hzf⟩ := HI.out.cells) | ((with_reducible refine gate_builtin (b := .append) (xs := #[.tmp 86, .tmp 88]) rfl ?_); at_builtin; refine Kd.R_append (Kd.int .i64) (w0 := w0) w0.heap.size rfl (.tmp 86) (.tmp 88) 35 3 (.int .i64 0) 8 rfl Try.underlying35 info3 rfl (by decide) (by omega) uw t.wh (i : Int) [.int .i64 (i : Int)] (fun k => some k ≠ ub.ownBlock ∧ some k ≠ uf.ownBlock ∧ some k ≠ Value.ownBlock (.slice (some ⟨g, 0, none⟩) M.length c)) (fun _ => False) rfl rfl ?aP (fun _ hk => hk.elim) ?aF ?aO ?aB ?aS ?aL ?_; (case aP => exact rfl); (case aB => exact HI.out.be); (case aF => exact (fun k_ hk => ⟨Kd.fresh' (Kd.R_lt HI.out.rb) k_ hk, Kd.fresh' (Kd.R_lt HI.out.rf) k_ hk, Kd.fresh' (Kd.R_lt HI.out.rs) k_ hk⟩)); (case aO => exact HI.out.rw_); (case aS => exact below_size HI.out.be); (case aL => (first | (have := H1.out; unfold IB at this; omega) | (have := H5.out; unfold IB at this; omega))); intro v1 w7 ho hb hg hat; obtain ⟨A1, c1, e_⟩ := Kd.R_slice ho; simp only [List.length_append, List.length_cons, List.length_nil, Nat.zero_add] at e_; subst e_; obtain ⟨hI_, hy0, hyf⟩ := ImI.putW HI.out ho hb hg hat; have n0_ := Az.mk hI_; clear HI hI_ ho hb hg hat hz0 hz1 hz2 hz3 hz4 hz5 hz6 hzf; have HI := n0_; clear n0_))
   go_ret
   refine ⟨rfl, _, _, _, _, HI.out, fun j hj => ?_⟩
   rcases getD_setI hj with ⟨rfl, h⟩ | ⟨hne, h⟩
   ·exact HV.out i H6.out
   ·exact HV.out j h
end Go.Proofs.Ytehhhlhedmfdiaa.PFnImportRun
end
section
namespace Go.Proofs.Ytehhhlhedmfdiaa.PFnImportRun
open Go.RowKit Go.Proofs.Yz0.PrintWords Go.Proofs.Yz0.PrintLast Go.Proofs.Yz0.PrintMore
set_option linter.unusedVariables false
set_option linter.unusedSimpArgs false
variable {dec : Int → ByteArray} {M : List S72} {A0 : Option Addr} {c0 : Nat} {w0 : World} {gI : Nat} {uf us un : Value} {fa : List Int}
theorem im_step1 (L : Int → IS → Option (Bool × IS)) (hL : ImLoads M A0 c0 w0 gI uf us un fa L) (i f1 : Int) (f2 : ByteArray) (s : IS) (b : Bool) (s' : IS) (W : World) (h : L f1 s = some (b, s')) (hR : ImR w0 W gI (.slice A0 M.length c0) uf us un fa s) :
  Calls Try.prog 109 #[.pointer (some ⟨gI, 0, none⟩), .int .i64 i, .agg #[.int .i64 1, .int .i64 f1, .string f2]] W (ImPost w0 gI (.slice A0 M.length c0) uf us un fa b s') := by
 have HL := Az.mk hL
 have H := Az.mk h
 have HR := Az.mk hR
 clear hL h hR
 go_enter Try.func109, Try.ntmps109
 go_wp2_with (first | ((with_reducible refine gate_dst (N := 5) rfl ?_); refine box_event ?hg (N := 5) ?hd (cs := #[.int .i64 1, .int .i64 f1, .string f2]) (t := 74) ?hr ?_; (case hd => rfl); (case hg => rfl); (case hr => first | (go_simp; done) | (go_simp; rfl)); intro gb hg w1 hbox hb; have n0_ := Az.mk (HR.out.below hb); have hb0 : w1.cell? ⟨gb, 0, none⟩ = some (.int .i64 1) := (bC hbox 0).trans rfl; have hb1 : w1.cell? ⟨gb, 1, none⟩ = some (.int .i64 f1) := (bC hbox 1).trans rfl; have hb2 : w1.cell? ⟨gb, 2, none⟩ = some (.string f2) := (bC hbox 2).trans rfl; have HBX := Az.mk hbox; clear HR hb hg hbox; have HR := n0_; clear n0_))
 refine (HL.out f1 s b s' _ H.out HR.out).mono ?_
 rintro e w2 ⟨rfl, hR2⟩
 have HR2 := Az.mk hR2
 clear hR2 hb0 hb1 hb2
 go_wp2_with fail
 go_ret
 exact ⟨rfl, HR2.out⟩
theorem im_step2 (L : Int → IS → Option (Bool × IS)) (hL : ImLoads M A0 c0 w0 gI uf us un fa L) (i f1 : Int) (f2 : ByteArray) (s : IS) (b : Bool) (s' : IS) (W : World) (h : L f1 s = some (b, s')) (hR : ImR w0 W gI (.slice A0 M.length c0) uf us un fa s) :
  Calls Try.prog 109 #[.pointer (some ⟨gI, 0, none⟩), .int .i64 i, .agg #[.int .i64 2, .int .i64 f1, .string f2]] W (ImPost w0 gI (.slice A0 M.length c0) uf us un fa true s') := by
 have HL := Az.mk hL
 have H := Az.mk h
 have HR := Az.mk hR
 clear hL h hR
 go_enter Try.func109, Try.ntmps109
 go_wp2_with (first | ((with_reducible refine gate_dst (N := 5) rfl ?_); refine box_event ?hg (N := 5) ?hd (cs := #[.int .i64 2, .int .i64 f1, .string f2]) (t := 74) ?hr ?_; (case hd => rfl); (case hg => rfl); (case hr => first | (go_simp; done) | (go_simp; rfl)); intro gb hg w1 hbox hb; have n0_ := Az.mk (HR.out.below hb); have hb0 : w1.cell? ⟨gb, 0, none⟩ = some (.int .i64 2) := (bC hbox 0).trans rfl; have hb1 : w1.cell? ⟨gb, 1, none⟩ = some (.int .i64 f1) := (bC hbox 1).trans rfl; have hb2 : w1.cell? ⟨gb, 2, none⟩ = some (.string f2) := (bC hbox 2).trans rfl; have HBX := Az.mk hbox; clear HR hb hg hbox; have HR := n0_; clear n0_))
 refine (HL.out f1 s b s' _ H.out HR.out).mono ?_
 rintro e w2 ⟨rfl, hR2⟩
 have HR2 := Az.mk hR2
 clear hR2 hb0 hb1 hb2
 go_wp2_with fail
 go_ret
 exact ⟨rfl, HR2.out⟩
theorem im_step5 (i f1 : Int) (f2 : ByteArray) (s : IS) (W : World) (hR : ImR w0 W gI (.slice A0 M.length c0) uf us un fa s) :
  Calls Try.prog 109 #[.pointer (some ⟨gI, 0, none⟩), .int .i64 i, .agg #[.int .i64 5, .int .i64 f1, .string f2]] W (ImPost w0 gI (.slice A0 M.length c0) uf us un fa false s) := by
 have HR := Az.mk hR
 clear hR
 go_enter Try.func109, Try.ntmps109
 go_wp2_with (first | ((with_reducible refine gate_dst (N := 5) rfl ?_); refine box_event ?hg (N := 5) ?hd (cs := #[.int .i64 5, .int .i64 f1, .string f2]) (t := 74) ?hr ?_; (case hd => rfl); (case hg => rfl); (case hr => first | (go_simp; done) | (go_simp; rfl)); intro gb hg w1 hbox hb; have n0_ := Az.mk (HR.out.below hb); have hb0 : w1.cell? ⟨gb, 0, none⟩ = some (.int .i64 5) := (bC hbox 0).trans rfl; have hb1 : w1.cell? ⟨gb, 1, none⟩ = some (.int .i64 f1) := (bC hbox 1).trans rfl; have hb2 : w1.cell? ⟨gb, 2, none⟩ = some (.string f2) := (bC hbox 2).trans rfl; have HBX := Az.mk hbox; clear HR hb hg hbox; have HR := n0_; clear n0_))
 go_ret
 exact ⟨rfl, HR.out⟩
theorem im_step3 (i : Nat) (f1 : Int) (f2 : ByteArray) (s : IS) (W : World) (hf1 : 0 ≤ f1 ∧ f1 ≤ 1000000) (hsz : f2.size ≤ 1000) (hi : i < M.length) (hn : s.nm.length = M.length) (hst : rd s.st (i : Int) ≠ 0) (hl : (nms s (i : Int)).length < IB) (hR : ImR w0 W gI (.slice A0 M.length c0) uf us un fa s) :
  Calls Try.prog 109 #[.pointer (some ⟨gI, 0, none⟩), .int .i64 (i : Int), .agg #[.int .i64 3, .int .i64 f1, .string f2]] W (ImPost w0 gI (.slice A0 M.length c0) uf us un fa true (ldSet (i : Int) ⟨3, f1, f2⟩ s)) := by
 have HR := Az.mk hR
 have HF1 := Az.mk hf1
 have HSZ := Az.mk hsz
 have HIL := Az.mk hi
 have HN := Az.mk hn
 have HST := Az.mk hst
 have HLN : Az ((s.nm.getD i []).length < 1000000000000) := ⟨hl⟩
 have hi1 : decide ((i : Int) < (M.length : Int)) = true := decide_eq_true (by omega)
 have hi2 : (i < M.length) = True := eq_true (by omega)
 clear hR hf1 hsz hi hn hst hl
 go_enter Try.func109, Try.ntmps109
 go_wp2_with (first | ((with_reducible refine gate_dst (N := 5) rfl ?_); refine box_event ?hg (N := 5) ?hd (cs := #[.int .i64 3, .int .i64 f1, .string f2]) (t := 74) ?hr ?_; (case hd => rfl); (case hg => rfl); (case hr => first | (go_simp; done) | (go_simp; rfl)); intro gb hg w1 hbox hb; have n0_ := Az.mk (HR.out.below hb); have hb0 : w1.cell? ⟨gb, 0, none⟩ = some (.int .i64 3) := (bC hbox 0).trans rfl; have hb1 : w1.cell? ⟨gb, 1, none⟩ = some (.int .i64 f1) := (bC hbox 1).trans rfl; have hb2 : w1.cell? ⟨gb, 2, none⟩ = some (.string f2) := (bC hbox 2).trans rfl; have HBX := Az.mk hbox; clear HR hb hg hbox; have HR := n0_; clear n0_))
 obtain ⟨ub, uw, ur, mb, hI, hV⟩ := HR.out
 have HML : Az (mb.length = M.length) := ⟨hI.mp.len.trans HN.out⟩
 obtain ⟨gn, cn, eun, _⟩ := Kd.R_form hI.rn (by have := HML.out; have := HIL.out; omega)
 rw [HML.out] at eun
 subst eun
 obtain ⟨b, hmb⟩ := hV i HST.out
 have hgd : mb.getD i none = some b := by rw [List.getD_eq_getElem?_getD, hmb]; rfl
 obtain ⟨hx, hxf⟩ := hI.mapAt HML.out HIL.out
 rw [hgd] at hx
 obtain ⟨hz0, hz1, hz2, hz3, hz4, hz5, hz6, hzf⟩ := hI.cells
 have HI := Az.mk hI
 have HV := Az.mk hV
 have HMB := Az.mk hmb
 clear hI hV hmb hgd hb0
 refine start_ (n := 12) (S := fun w' => w'.cell? ⟨gI, 1, none⟩ = some (.slice (some ⟨gn, 0, none⟩) M.length cn) ∧ w'.cell? ⟨gn, i, none⟩ = some (.map (some b)) ∧ w'.cell? ⟨gb, 2, none⟩ = some (.string f2) ∧ w'.cell? ⟨gb, 1, none⟩ = some (.int .i64 f1)) (ds := [11]) #[false, false, false, false, false, false, false, false, false, false, false, false] (by kernel_rfl) rfl rfl ⟨hz1, hx, hb2, hb1⟩ (fun hHeld => ?_)
 have n0_ := Az.mk (HI.out.drew)
 clear HI hz0 hz1 hz2 hz3 hz4 hz5 hz6 hzf hx hxf hb1 hb2
 have HI := n0_
 clear n0_
 generalize World.drew _ = w2 at HI hHeld ⊢
 refine pure_ (i := 0) (N := some 25) (v := ?_) (a' := ?_) #[true, false, false, false, false, false, false, false, false, false, false, false] rfl rfl (by kernel_rfl) (fun _ _ _ h => h) (Or.inl ⟨by rfl, ?_⟩) ?_ ?_
 rotate_left
 ·intro w'
  go_simp
  with_reducible rfl
 rotate_left
 ·simp only [Act.put, List.setIfInBounds_toArray, List.set_cons_zero, List.set_cons_succ, i64_w, i32_w]
  rfl
 refine pure_ (i := 1) (N := some 26) (v := ?_) (a' := ?_) #[true, true, false, false, false, false, false, false, false, false, false, false] rfl rfl (by kernel_rfl) (fun _ _ _ h => h) (Or.inl ⟨by rfl, ?_⟩) ?_ ?_
 rotate_left
 ·intro w'
  go_simp
  with_reducible rfl
 rotate_left
 ·simp only [Act.put, List.setIfInBounds_toArray, List.set_cons_zero, List.set_cons_succ, i64_w, i32_w]
  rfl
 refine pure_ (i := 2) (N := some 27) (v := ?_) (a' := ?_) #[true, true, true, false, false, false, false, false, false, false, false, false] rfl rfl (by kernel_rfl) (fun _ _ _ h => h) (Or.inl ⟨by rfl, ?_⟩) ?_ ?_
 rotate_left
 ·intro w'
  go_simp
  with_reducible rfl
 rotate_left
 ·simp only [Act.put, List.setIfInBounds_toArray, List.set_cons_zero, List.set_cons_succ, i64_w, i32_w]
  rfl
 refine pure_ (i := 4) (N := some 29) (v := ?_) (a' := ?_) #[true, true, true, false, true, false, false, false, false, false, false, false] rfl rfl (by kernel_rfl) (fun _ _ _ h => h) (Or.inl ⟨by rfl, ?_⟩) ?_ ?_
 rotate_left
 ·intro w'
  go_simp
  with_reducible rfl
 rotate_left
 ·simp only [Act.put, List.setIfInBounds_toArray, List.set_cons_zero, List.set_cons_succ, i64_w, i32_w]
  rfl
 refine pure_ (i := 7) (N := some 32) (v := ?_) (a' := ?_) #[true, true, true, false, true, false, false, true, false, false, false, false] rfl rfl (by kernel_rfl) (fun _ _ _ h => h) (Or.inl ⟨by rfl, ?_⟩) ?_ ?_
 rotate_left
 ·intro w'
  go_simp
  with_reducible rfl
 rotate_left
 ·simp only [Act.put, List.setIfInBounds_toArray, List.set_cons_zero, List.set_cons_succ, i64_w, i32_w]
  rfl
 refine pure_ (i := 9) (N := some 34) (v := ?_) (a' := ?_) #[true, true, true, false, true, false, false, true, false, true, false, false] rfl rfl (by kernel_rfl) (fun _ _ _ h => h) (Or.inl ⟨by rfl, ?_⟩) ?_ ?_
 rotate_left
 ·intro w'
  go_simp
  with_reducible rfl
 rotate_left
 ·simp only [Act.put, List.setIfInBounds_toArray, List.set_cons_zero, List.set_cons_succ, i64_w, i32_w]
  rfl
 refine take_ (i := 3) (N := some 28) (v := ?_) (a' := ?_) #[true, true, true, true, true, false, false, true, false, true, false, false] rfl rfl (by kernel_rfl) (fun _ _ _ h => h) (Or.inl ⟨by rfl, ?_⟩) hHeld ?_ ?_
 rotate_left
 ·rintro w' ⟨s0, s1, s2, s3⟩
  go_simp
  with_reducible rfl
 rotate_left
 ·simp only [Act.put, List.setIfInBounds_toArray, List.set_cons_zero, List.set_cons_succ, i64_w, i32_w]
  rfl
 refine pure_ (i := 5) (N := some 30) (v := ?_) (a' := ?_) #[true, true, true, true, true, true, false, true, false, true, false, false] rfl rfl (by kernel_rfl) (fun _ _ _ h => h) (Or.inl ⟨by rfl, ?_⟩) ?_ ?_
 rotate_left
 ·intro w'
  go_simp
  with_reducible rfl
 rotate_left
 ·simp only [Act.put, List.setIfInBounds_toArray, List.set_cons_zero, List.set_cons_succ, i64_w, i32_w]
  rfl
 refine take_ (i := 6) (N := some 31) (v := ?_) (a' := ?_) #[true, true, true, true, true, true, true, true, false, true, false, false] rfl rfl (by kernel_rfl) (fun _ _ _ h => h) (Or.inl ⟨by rfl, ?_⟩) hHeld ?_ ?_
 rotate_left
 ·rintro w' ⟨s0, s1, s2, s3⟩
  go_simp
  with_reducible rfl
 rotate_left
 ·simp only [Act.put, List.setIfInBounds_toArray, List.set_cons_zero, List.set_cons_succ, i64_w, i32_w]
  rfl
 refine take_ (i := 8) (N := some 33) (v := ?_) (a' := ?_) #[true, true, true, true, true, true, true, true, true, true, false, false] rfl rfl (by kernel_rfl) (fun _ _ _ h => h) (Or.inl ⟨by rfl, ?_⟩) hHeld ?_ ?_
 rotate_left
 ·rintro w' ⟨s0, s1, s2, s3⟩
  go_simp
  with_reducible rfl
 rotate_left
 ·simp only [Act.put, List.setIfInBounds_toArray, List.set_cons_zero, List.set_cons_succ, i64_w, i32_w]
  rfl
 refine take_ (i := 10) (N := some 35) (v := ?_) (a' := ?_) #[true, true, true, true, true, true, true, true, true, true, true, false] rfl rfl (by kernel_rfl) (fun _ _ _ h => h) (Or.inl ⟨by rfl, ?_⟩) hHeld ?_ ?_
 rotate_left
 ·rintro w' ⟨s0, s1, s2, s3⟩
  go_simp
  with_reducible rfl
 rotate_left
 ·simp only [Act.put, List.setIfInBounds_toArray, List.set_cons_zero, List.set_cons_succ, i64_w, i32_w]
  rfl
 refine last_ (i := 11) (N := none) #[true, true, true, true, true, true, true, true, true, true, true, true] rfl rfl (by kernel_rfl) (by decide) (fun K hK => ?_)
 obtain ⟨w3, hrun, hI_⟩ := ImI.mapPut (s := f2) (v := f1) HI.out HMB.out HSZ.out HF1.out HLN.out
 refine skip_ (w1 := w3) (by rfl) rfl ?_ ?_
 ·first | (go_simp; done) | (go_simp; rfl)
 have n0_ := Az.mk hI_
 clear HI hI_ hrun hHeld
 have HI := n0_
 clear n0_
 refine hK.out _ _ ?_
 clear hK K
 refine done_ (by kernel_rfl) ?_
 clear hi1 hi2
 go_wp2_with fail
 go_ret
 exact ⟨rfl, _, _, _, _, HI.out, HV.out⟩
theorem im_step4n (i : Int) (q : Nat) (f2 : ByteArray) (s : IS) (W : World) (hsz : f2.size ≤ 1000) (hi : q < M.length) (hn : s.nm.length = M.length) (hlk : look (nms s (q : Int)) f2 = none) (hR : ImR w0 W gI (.slice A0 M.length c0) uf us un fa s) :
  Calls Try.prog 109 #[.pointer (some ⟨gI, 0, none⟩), .int .i64 i, .agg #[.int .i64 4, .int .i64 (q : Int), .string f2]] W (ImPost w0 gI (.slice A0 M.length c0) uf us un fa false s) := by
 have HLK : Az (look (s.nm.getD q []) f2 = none) := ⟨hlk⟩
 clear hlk
 have HR := Az.mk hR
 have HSZ := Az.mk hsz
 have HIL := Az.mk hi
 have HN := Az.mk hn
 have hi1 : decide ((q : Int) < (M.length : Int)) = true := decide_eq_true (by omega)
 have hi2 : (q < M.length) = True := eq_true (by omega)
 clear hR hsz hi hn
 go_enter Try.func109, Try.ntmps109
 go_wp2_with (first | ((with_reducible refine gate_dst (N := 5) rfl ?_); refine box_event ?hg (N := 5) ?hd (cs := #[.int .i64 4, .int .i64 (q : Int), .string f2]) (t := 74) ?hr ?_; (case hd => rfl); (case hg => rfl); (case hr => first | (go_simp; done) | (go_simp; rfl)); intro gb hg w1 hbox hb; have n0_ := Az.mk (HR.out.below hb); have hb0 : w1.cell? ⟨gb, 0, none⟩ = some (.int .i64 4) := (bC hbox 0).trans rfl; have hb1 : w1.cell? ⟨gb, 1, none⟩ = some (.int .i64 (q : Int)) := (bC hbox 1).trans rfl; have hb2 : w1.cell? ⟨gb, 2, none⟩ = some (.string f2) := (bC hbox 2).trans rfl; have HBX := Az.mk hbox; clear HR hb hg hbox; have HR := n0_; clear n0_))
 obtain ⟨ub, uw, ur, mb, hI, hV⟩ := HR.out
 have HML : Az (mb.length = M.length) := ⟨hI.mp.len.trans HN.out⟩
 obtain ⟨gn, cn, eun, _⟩ := Kd.R_form hI.rn (by have := HML.out; have := HIL.out; omega)
 rw [HML.out] at eun
 subst eun
 obtain ⟨hx, hxf⟩ := hI.mapAt HML.out HIL.out
 obtain ⟨mbq, hmbq⟩ : ∃ y, y = mb.getD q none := ⟨_, rfl⟩
 rw [← hmbq] at hx
 have hlook := ImI.lookup hI.drew (i := q) (s := f2) (by have := HML.out; have := HIL.out; omega) HSZ.out
 rw [← hmbq, HLK.out] at hlook
 clear hmbq
 obtain ⟨hz0, hz1, hz2, hz3, hz4, hz5, hz6, hzf⟩ := hI.cells
 have HI := Az.mk hI
 have HV := Az.mk hV
 clear hI hV hb0
 refine start_ (n := 16) (S := fun w' => w'.cell? ⟨gI, 1, none⟩ = some (.slice (some ⟨gn, 0, none⟩) M.length cn) ∧ w'.cell? ⟨gb, 1, none⟩ = some (.int .i64 (q : Int)) ∧ w'.cell? ⟨gn, q, none⟩ = some (.map mbq) ∧ w'.cell? ⟨gb, 2, none⟩ = some (.string f2) ∧ (Instr.lookup 140 (.map mbq) (.string f2) true).run Try.prog w' = .ok (.tuple #[.int .i64 0, .bool false]) w') (ds := []) #[false, false, false, false, false, false, false, false, false, false, false, false, false, false, false, false] (by kernel_rfl) rfl rfl ⟨hz1, hb1, hx, hb2, hlook⟩ (fun hHeld => ?_)
 have n0_ := Az.mk (HI.out.drew)
 clear HI hlook hz0 hz1 hz2 hz3 hz4 hz5 hz6 hzf hx hxf hb1 hb2
 have HI := n0_
 clear n0_
 generalize World.drew _ = w2 at HI hHeld ⊢
 refine pure_ (i := 0) (N := some 39) (v := ?_) (a' := ?_) #[true, false, false, false, false, false, false, false, false, false, false, false, false, false, false, false] rfl rfl (by kernel_rfl) (fun _ _ _ h => h) (Or.inl ⟨by rfl, ?_⟩) ?_ ?_
 rotate_left
 ·intro w'
  go_simp
  with_reducible rfl
 rotate_left
 ·simp only [Act.put, List.setIfInBounds_toArray, List.set_cons_zero, List.set_cons_succ, i64_w, i32_w]
  rfl
 refine pure_ (i := 1) (N := some 40) (v := ?_) (a' := ?_) #[true, true, false, false, false, false, false, false, false, false, false, false, false, false, false, false] rfl rfl (by kernel_rfl) (fun _ _ _ h => h) (Or.inl ⟨by rfl, ?_⟩) ?_ ?_
 rotate_left
 ·intro w'
  go_simp
  with_reducible rfl
 rotate_left
 ·simp only [Act.put, List.setIfInBounds_toArray, List.set_cons_zero, List.set_cons_succ, i64_w, i32_w]
  rfl
 refine pure_ (i := 2) (N := some 41) (v := ?_) (a' := ?_) #[true, true, true, false, false, false, false, false, false, false, false, false, false, false, false, false] rfl rfl (by kernel_rfl) (fun _ _ _ h => h) (Or.inl ⟨by rfl, ?_⟩) ?_ ?_
 rotate_left
 ·intro w'
  go_simp
  with_reducible rfl
 rotate_left
 ·simp only [Act.put, List.setIfInBounds_toArray, List.set_cons_zero, List.set_cons_succ, i64_w, i32_w]
  rfl
 refine pure_ (i := 4) (N := some 43) (v := ?_) (a' := ?_) #[true, true, true, false, true, false, false, false, false, false, false, false, false, false, false, false] rfl rfl (by kernel_rfl) (fun _ _ _ h => h) (Or.inl ⟨by rfl, ?_⟩) ?_ ?_
 rotate_left
 ·intro w'
  go_simp
  with_reducible rfl
 rotate_left
 ·simp only [Act.put, List.setIfInBounds_toArray, List.set_cons_zero, List.set_cons_succ, i64_w, i32_w]
  rfl
 refine pure_ (i := 8) (N := some 47) (v := ?_) (a' := ?_) #[true, true, true, false, true, false, false, false, true, false, false, false, false, false, false, false] rfl rfl (by kernel_rfl) (fun _ _ _ h => h) (Or.inl ⟨by rfl, ?_⟩) ?_ ?_
 rotate_left
 ·intro w'
  go_simp
  with_reducible rfl
 rotate_left
 ·simp only [Act.put, List.setIfInBounds_toArray, List.set_cons_zero, List.set_cons_succ, i64_w, i32_w]
  rfl
 refine take_ (i := 3) (N := some 42) (v := ?_) (a' := ?_) #[true, true, true, true, true, false, false, false, true, false, false, false, false, false, false, false] rfl rfl (by kernel_rfl) (fun _ _ _ h => h) (Or.inl ⟨by rfl, ?_⟩) hHeld ?_ ?_
 rotate_left
 ·rintro w' ⟨s0, s1, s2, s3, s4⟩
  go_simp
  with_reducible rfl
 rotate_left
 ·simp only [Act.put, List.setIfInBounds_toArray, List.set_cons_zero, List.set_cons_succ, i64_w, i32_w]
  rfl
 refine take_ (i := 5) (N := some 44) (v := ?_) (a' := ?_) #[true, true, true, true, true, true, false, false, true, false, false, false, false, false, false, false] rfl rfl (by kernel_rfl) (fun _ _ _ h => h) (Or.inl ⟨by rfl, ?_⟩) hHeld ?_ ?_
 rotate_left
 ·rintro w' ⟨s0, s1, s2, s3, s4⟩
  go_simp
  with_reducible rfl
 rotate_left
 ·simp only [Act.put, List.setIfInBounds_toArray, List.set_cons_zero, List.set_cons_succ, i64_w, i32_w]
  rfl
 refine pure_ (i := 6) (N := some 45) (v := ?_) (a' := ?_) #[true, true, true, true, true, true, true, false, true, false, false, false, false, false, false, false] rfl rfl (by kernel_rfl) (fun _ _ _ h => h) (Or.inl ⟨by rfl, ?_⟩) ?_ ?_
 rotate_left
 ·intro w'
  go_simp
  with_reducible rfl
 rotate_left
 ·simp only [Act.put, List.setIfInBounds_toArray, List.set_cons_zero, List.set_cons_succ, i64_w, i32_w]
  rfl
 refine take_ (i := 7) (N := some 46) (v := ?_) (a' := ?_) #[true, true, true, true, true, true, true, true, true, false, false, false, false, false, false, false] rfl rfl (by kernel_rfl) (fun _ _ _ h => h) (Or.inl ⟨by rfl, ?_⟩) hHeld ?_ ?_
 rotate_left
 ·rintro w' ⟨s0, s1, s2, s3, s4⟩
  go_simp
  with_reducible rfl
 rotate_left
 ·simp only [Act.put, List.setIfInBounds_toArray, List.set_cons_zero, List.set_cons_succ, i64_w, i32_w]
  rfl
 refine take_ (i := 9) (N := some 48) (v := ?_) (a' := ?_) #[true, true, true, true, true, true, true, true, true, true, false, false, false, false, false, false] rfl rfl (by kernel_rfl) (fun _ _ _ h => h) (Or.inl ⟨by rfl, ?_⟩) hHeld ?_ ?_
 rotate_left
 ·rintro w' ⟨s0, s1, s2, s3, s4⟩
  go_simp
  with_reducible rfl
 rotate_left
 ·simp only [Act.put, List.setIfInBounds_toArray, List.set_cons_zero, List.set_cons_succ, i64_w, i32_w]
  rfl
 refine take_ (i := 10) (N := some 49) (v := ?_) (a' := ?_) #[true, true, true, true, true, true, true, true, true, true, true, false, false, false, false, false] rfl rfl (by kernel_rfl) (fun _ _ _ h => h) (Or.inl ⟨by rfl, ?_⟩) hHeld ?_ ?_
 rotate_left
 ·rintro w' ⟨s0, s1, s2, s3, s4⟩
  go_simp
  with_reducible rfl
 rotate_left
 ·simp only [Act.put, List.setIfInBounds_toArray, List.set_cons_zero, List.set_cons_succ, i64_w, i32_w]
  rfl
 refine pure_ (i := 11) (N := some 38) (v := ?_) (a' := ?_) #[true, true, true, true, true, true, true, true, true, true, true, true, false, false, false, false] rfl rfl (by kernel_rfl) (fun _ _ _ h => h) (Or.inl ⟨by rfl, ?_⟩) ?_ ?_
 rotate_left
 ·intro w'
  go_simp
  with_reducible rfl
 rotate_left
 ·simp only [Act.put, List.setIfInBounds_toArray, List.set_cons_zero, List.set_cons_succ, i64_w, i32_w]
  rfl
 refine pure_ (i := 12) (N := some 50) (v := ?_) (a' := ?_) #[true, true, true, true, true, true, true, true, true, true, true, true, true, false, false, false] rfl rfl (by kernel_rfl) (fun _ _ _ h => h) (Or.inl ⟨by rfl, ?_⟩) ?_ ?_
 rotate_left
 ·intro w'
  go_simp
  with_reducible rfl
 rotate_left
 ·simp only [Act.put, List.setIfInBounds_toArray, List.set_cons_zero, List.set_cons_succ, i64_w, i32_w]
  rfl
 refine pure_ (i := 13) (N := some 51) (v := ?_) (a' := ?_) #[true, true, true, true, true, true, true, true, true, true, true, true, true, true, false, false] rfl rfl (by kernel_rfl) (fun _ _ _ h => h) (Or.inl ⟨by rfl, ?_⟩) ?_ ?_
 rotate_left
 ·intro w'
  go_simp
  with_reducible rfl
 rotate_left
 ·simp only [Act.put, List.setIfInBounds_toArray, List.set_cons_zero, List.set_cons_succ, i64_w, i32_w]
  rfl
 refine pure_ (i := 14) (N := some 7) (v := ?_) (a' := ?_) #[true, true, true, true, true, true, true, true, true, true, true, true, true, true, true, false] rfl rfl (by kernel_rfl) (fun _ _ _ h => h) (Or.inl ⟨by rfl, ?_⟩) ?_ ?_
 rotate_left
 ·intro w'
  go_simp
  with_reducible rfl
 rotate_left
 ·simp only [Act.put, List.setIfInBounds_toArray, List.set_cons_zero, List.set_cons_succ, i64_w, i32_w]
  rfl
 refine pure_ (i := 15) (N := some 8) (v := ?_) (a' := ?_) #[true, true, true, true, true, true, true, true, true, true, true, true, true, true, true, true] rfl rfl (by kernel_rfl) (fun _ _ _ h => h) (Or.inl ⟨by rfl, ?_⟩) ?_ ?_
 rotate_left
 ·intro w'
  go_simp
  with_reducible rfl
 rotate_left
 ·simp only [Act.put, List.setIfInBounds_toArray, List.set_cons_zero, List.set_cons_succ, i64_w, i32_w]
  rfl
 refine done_ (by kernel_rfl) ?_
 clear hi1 hi2 hHeld
 go_wp2_with fail
 go_ret
 exact ⟨rfl, _, _, _, _, HI.out, HV.out⟩
theorem im_step4s (i : Int) (q : Nat) (f2 : ByteArray) (s : IS) (W : World) (k : Nat) (v : Int) (hd : impl_decimal.f k v = some (dec v)) (hre : s.re.length < IB) (hsz : f2.size ≤ 1000) (hi : q < M.length) (hn : s.nm.length = M.length) (hlk : look (nms s (q : Int)) f2 = some v) (hR : ImR w0 W gI (.slice A0 M.length c0) uf us un fa s) :
  Calls Try.prog 109 #[.pointer (some ⟨gI, 0, none⟩), .int .i64 i, .agg #[.int .i64 4, .int .i64 (q : Int), .string f2]] W (ImPost w0 gI (.slice A0 M.length c0) uf us un fa true { s with re := s.re ++ [dec v] }) := by
 have HLK : Az (look (s.nm.getD q []) f2 = some v) := ⟨hlk⟩
 have HD := Az.mk hd
 have HRE := Az.mk hre
 clear hlk hd hre
 have HR := Az.mk hR
 have HSZ := Az.mk hsz
 have HIL := Az.mk hi
 have HN := Az.mk hn
 have hi1 : decide ((q : Int) < (M.length : Int)) = true := decide_eq_true (by omega)
 have hi2 : (q < M.length) = True := eq_true (by omega)
 clear hR hsz hi hn
 go_enter Try.func109, Try.ntmps109
 go_wp2_with (first | ((with_reducible refine gate_dst (N := 5) rfl ?_); refine box_event ?hg (N := 5) ?hd (cs := #[.int .i64 4, .int .i64 (q : Int), .string f2]) (t := 74) ?hr ?_; (case hd => rfl); (case hg => rfl); (case hr => first | (go_simp; done) | (go_simp; rfl)); intro gb hg w1 hbox hb; have n0_ := Az.mk (HR.out.below hb); have hb0 : w1.cell? ⟨gb, 0, none⟩ = some (.int .i64 4) := (bC hbox 0).trans rfl; have hb1 : w1.cell? ⟨gb, 1, none⟩ = some (.int .i64 (q : Int)) := (bC hbox 1).trans rfl; have hb2 : w1.cell? ⟨gb, 2, none⟩ = some (.string f2) := (bC hbox 2).trans rfl; have HBX := Az.mk hbox; clear HR hb hg hbox; have HR := n0_; clear n0_))
 obtain ⟨ub, uw, ur, mb, hI, hV⟩ := HR.out
 have HML : Az (mb.length = M.length) := ⟨hI.mp.len.trans HN.out⟩
 obtain ⟨gn, cn, eun, _⟩ := Kd.R_form hI.rn (by have := HML.out; have := HIL.out; omega)
 rw [HML.out] at eun
 subst eun
 obtain ⟨hx, hxf⟩ := hI.mapAt HML.out HIL.out
 obtain ⟨mbq, hmbq⟩ : ∃ y, y = mb.getD q none := ⟨_, rfl⟩
 rw [← hmbq] at hx
 have hlook := ImI.lookup hI.drew (i := q) (s := f2) (by have := HML.out; have := HIL.out; omega) HSZ.out
 rw [← hmbq, HLK.out] at hlook
 clear hmbq
 obtain ⟨hz0, hz1, hz2, hz3, hz4, hz5, hz6, hzf⟩ := hI.cells
 have HI := Az.mk hI
 have HV := Az.mk hV
 clear hI hV hb0
 refine start_ (n := 16) (S := fun w' => w'.cell? ⟨gI, 1, none⟩ = some (.slice (some ⟨gn, 0, none⟩) M.length cn) ∧ w'.cell? ⟨gb, 1, none⟩ = some (.int .i64 (q : Int)) ∧ w'.cell? ⟨gn, q, none⟩ = some (.map mbq) ∧ w'.cell? ⟨gb, 2, none⟩ = some (.string f2) ∧ (Instr.lookup 140 (.map mbq) (.string f2) true).run Try.prog w' = .ok (.tuple #[.int .i64 v, .bool true]) w') (ds := []) #[false, false, false, false, false, false, false, false, false, false, false, false, false, false, false, false] (by kernel_rfl) rfl rfl ⟨hz1, hb1, hx, hb2, hlook⟩ (fun hHeld => ?_)
 have n0_ := Az.mk (HI.out.drew)
 clear HI hlook hz0 hz1 hz2 hz3 hz4 hz5 hz6 hzf hx hxf hb1 hb2
 have HI := n0_
 clear n0_
 generalize World.drew _ = w2 at HI hHeld ⊢
 refine pure_ (i := 0) (N := some 39) (v := ?_) (a' := ?_) #[true, false, false, false, false, false, false, false, false, false, false, false, false, false, false, false] rfl rfl (by kernel_rfl) (fun _ _ _ h => h) (Or.inl ⟨by rfl, ?_⟩) ?_ ?_
 rotate_left
 ·intro w'
  go_simp
  with_reducible rfl
 rotate_left
 ·simp only [Act.put, List.setIfInBounds_toArray, List.set_cons_zero, List.set_cons_succ, i64_w, i32_w]
  rfl
 refine pure_ (i := 1) (N := some 40) (v := ?_) (a' := ?_) #[true, true, false, false, false, false, false, false, false, false, false, false, false, false, false, false] rfl rfl (by kernel_rfl) (fun _ _ _ h => h) (Or.inl ⟨by rfl, ?_⟩) ?_ ?_
 rotate_left
 ·intro w'
  go_simp
  with_reducible rfl
 rotate_left
 ·simp only [Act.put, List.setIfInBounds_toArray, List.set_cons_zero, List.set_cons_succ, i64_w, i32_w]
  rfl
 refine pure_ (i := 2) (N := some 41) (v := ?_) (a' := ?_) #[true, true, true, false, false, false, false, false, false, false, false, false, false, false, false, false] rfl rfl (by kernel_rfl) (fun _ _ _ h => h) (Or.inl ⟨by rfl, ?_⟩) ?_ ?_
 rotate_left
 ·intro w'
  go_simp
  with_reducible rfl
 rotate_left
 ·simp only [Act.put, List.setIfInBounds_toArray, List.set_cons_zero, List.set_cons_succ, i64_w, i32_w]
  rfl
 refine pure_ (i := 4) (N := some 43) (v := ?_) (a' := ?_) #[true, true, true, false, true, false, false, false, false, false, false, false, false, false, false, false] rfl rfl (by kernel_rfl) (fun _ _ _ h => h) (Or.inl ⟨by rfl, ?_⟩) ?_ ?_
 rotate_left
 ·intro w'
  go_simp
  with_reducible rfl
 rotate_left
 ·simp only [Act.put, List.setIfInBounds_toArray, List.set_cons_zero, List.set_cons_succ, i64_w, i32_w]
  rfl
 refine pure_ (i := 8) (N := some 47) (v := ?_) (a' := ?_) #[true, true, true, false, true, false, false, false, true, false, false, false, false, false, false, false] rfl rfl (by kernel_rfl) (fun _ _ _ h => h) (Or.inl ⟨by rfl, ?_⟩) ?_ ?_
 rotate_left
 ·intro w'
  go_simp
  with_reducible rfl
 rotate_left
 ·simp only [Act.put, List.setIfInBounds_toArray, List.set_cons_zero, List.set_cons_succ, i64_w, i32_w]
  rfl
 refine take_ (i := 3) (N := some 42) (v := ?_) (a' := ?_) #[true, true, true, true, true, false, false, false, true, false, false, false, false, false, false, false] rfl rfl (by kernel_rfl) (fun _ _ _ h => h) (Or.inl ⟨by rfl, ?_⟩) hHeld ?_ ?_
 rotate_left
 ·rintro w' ⟨s0, s1, s2, s3, s4⟩
  go_simp
  with_reducible rfl
 rotate_left
 ·simp only [Act.put, List.setIfInBounds_toArray, List.set_cons_zero, List.set_cons_succ, i64_w, i32_w]
  rfl
 refine take_ (i := 5) (N := some 44) (v := ?_) (a' := ?_) #[true, true, true, true, true, true, false, false, true, false, false, false, false, false, false, false] rfl rfl (by kernel_rfl) (fun _ _ _ h => h) (Or.inl ⟨by rfl, ?_⟩) hHeld ?_ ?_
 rotate_left
 ·rintro w' ⟨s0, s1, s2, s3, s4⟩
  go_simp
  with_reducible rfl
 rotate_left
 ·simp only [Act.put, List.setIfInBounds_toArray, List.set_cons_zero, List.set_cons_succ, i64_w, i32_w]
  rfl
 refine pure_ (i := 6) (N := some 45) (v := ?_) (a' := ?_) #[true, true, true, true, true, true, true, false, true, false, false, false, false, false, false, false] rfl rfl (by kernel_rfl) (fun _ _ _ h => h) (Or.inl ⟨by rfl, ?_⟩) ?_ ?_
 rotate_left
 ·intro w'
  go_simp
  with_reducible rfl
 rotate_left
 ·simp only [Act.put, List.setIfInBounds_toArray, List.set_cons_zero, List.set_cons_succ, i64_w, i32_w]
  rfl
 refine take_ (i := 7) (N := some 46) (v := ?_) (a' := ?_) #[true, true, true, true, true, true, true, true, true, false, false, false, false, false, false, false] rfl rfl (by kernel_rfl) (fun _ _ _ h => h) (Or.inl ⟨by rfl, ?_⟩) hHeld ?_ ?_
 rotate_left
 ·rintro w' ⟨s0, s1, s2, s3, s4⟩
  go_simp
  with_reducible rfl
 rotate_left
 ·simp only [Act.put, List.setIfInBounds_toArray, List.set_cons_zero, List.set_cons_succ, i64_w, i32_w]
  rfl
 refine take_ (i := 9) (N := some 48) (v := ?_) (a' := ?_) #[true, true, true, true, true, true, true, true, true, true, false, false, false, false, false, false] rfl rfl (by kernel_rfl) (fun _ _ _ h => h) (Or.inl ⟨by rfl, ?_⟩) hHeld ?_ ?_
 rotate_left
 ·rintro w' ⟨s0, s1, s2, s3, s4⟩
  go_simp
  with_reducible rfl
 rotate_left
 ·simp only [Act.put, List.setIfInBounds_toArray, List.set_cons_zero, List.set_cons_succ, i64_w, i32_w]
  rfl
 refine take_ (i := 10) (N := some 49) (v := ?_) (a' := ?_) #[true, true, true, true, true, true, true, true, true, true, true, false, false, false, false, false] rfl rfl (by kernel_rfl) (fun _ _ _ h => h) (Or.inl ⟨by rfl, ?_⟩) hHeld ?_ ?_
 rotate_left
 ·rintro w' ⟨s0, s1, s2, s3, s4⟩
  go_simp
  with_reducible rfl
 rotate_left
 ·simp only [Act.put, List.setIfInBounds_toArray, List.set_cons_zero, List.set_cons_succ, i64_w, i32_w]
  rfl
 refine pure_ (i := 11) (N := some 38) (v := ?_) (a' := ?_) #[true, true, true, true, true, true, true, true, true, true, true, true, false, false, false, false] rfl rfl (by kernel_rfl) (fun _ _ _ h => h) (Or.inl ⟨by rfl, ?_⟩) ?_ ?_
 rotate_left
 ·intro w'
  go_simp
  with_reducible rfl
 rotate_left
 ·simp only [Act.put, List.setIfInBounds_toArray, List.set_cons_zero, List.set_cons_succ, i64_w, i32_w]
  rfl
 refine pure_ (i := 12) (N := some 50) (v := ?_) (a' := ?_) #[true, true, true, true, true, true, true, true, true, true, true, true, true, false, false, false] rfl rfl (by kernel_rfl) (fun _ _ _ h => h) (Or.inl ⟨by rfl, ?_⟩) ?_ ?_
 rotate_left
 ·intro w'
  go_simp
  with_reducible rfl
 rotate_left
 ·simp only [Act.put, List.setIfInBounds_toArray, List.set_cons_zero, List.set_cons_succ, i64_w, i32_w]
  rfl
 refine pure_ (i := 13) (N := some 51) (v := ?_) (a' := ?_) #[true, true, true, true, true, true, true, true, true, true, true, true, true, true, false, false] rfl rfl (by kernel_rfl) (fun _ _ _ h => h) (Or.inl ⟨by rfl, ?_⟩) ?_ ?_
 rotate_left
 ·intro w'
  go_simp
  with_reducible rfl
 rotate_left
 ·simp only [Act.put, List.setIfInBounds_toArray, List.set_cons_zero, List.set_cons_succ, i64_w, i32_w]
  rfl
 refine pure_ (i := 14) (N := some 7) (v := ?_) (a' := ?_) #[true, true, true, true, true, true, true, true, true, true, true, true, true, true, true, false] rfl rfl (by kernel_rfl) (fun _ _ _ h => h) (Or.inl ⟨by rfl, ?_⟩) ?_ ?_
 rotate_left
 ·intro w'
  go_simp
  with_reducible rfl
 rotate_left
 ·simp only [Act.put, List.setIfInBounds_toArray, List.set_cons_zero, List.set_cons_succ, i64_w, i32_w]
  rfl
 refine pure_ (i := 15) (N := some 8) (v := ?_) (a' := ?_) #[true, true, true, true, true, true, true, true, true, true, true, true, true, true, true, true] rfl rfl (by kernel_rfl) (fun _ _ _ h => h) (Or.inl ⟨by rfl, ?_⟩) ?_ ?_
 rotate_left
 ·intro w'
  go_simp
  with_reducible rfl
 rotate_left
 ·simp only [Act.put, List.setIfInBounds_toArray, List.set_cons_zero, List.set_cons_succ, i64_w, i32_w]
  rfl
 refine done_ (by kernel_rfl) ?_
 have hz5 := HI.out.cells.2.2.2.2.2.1
 clear hHeld
 go_wp2_with fail
 refine start_ (n := 14) (S := fun w' => w'.cell? ⟨gI, 5, none⟩ = some ur) (ds := [9, 13]) #[false, false, false, false, false, false, false, false, false, false, false, false, false, false] (by kernel_rfl) rfl rfl (hz5) (fun hHeld => ?_)
 have n0_ := Az.mk (HI.out.drew)
 clear HI hz5
 have HI := n0_
 clear n0_
 generalize World.drew _ = w4 at HI hHeld ⊢
 refine pure_ (i := 0) (N := some 53) (v := ?_) (a' := ?_) #[true, false, false, false, false, false, false, false, false, false, false, false, false, false] rfl rfl (by kernel_rfl) (fun _ _ _ h => h) (Or.inl ⟨by rfl, ?_⟩) ?_ ?_
 rotate_left
 ·intro w'
  go_simp
  with_reducible rfl
 rotate_left
 ·simp only [Act.put, List.setIfInBounds_toArray, List.set_cons_zero, List.set_cons_succ, i64_w, i32_w]
  rfl
 refine pure_ (i := 1) (N := some 54) (v := ?_) (a' := ?_) #[true, true, false, false, false, false, false, false, false, false, false, false, false, false] rfl rfl (by kernel_rfl) (fun _ _ _ h => h) (Or.inl ⟨by rfl, ?_⟩) ?_ ?_
 rotate_left
 ·intro w'
  go_simp
  with_reducible rfl
 rotate_left
 ·simp only [Act.put, List.setIfInBounds_toArray, List.set_cons_zero, List.set_cons_succ, i64_w, i32_w]
  rfl
 refine pure_ (i := 2) (N := some 55) (v := ?_) (a' := ?_) #[true, true, true, false, false, false, false, false, false, false, false, false, false, false] rfl rfl (by kernel_rfl) (fun _ _ _ h => h) (Or.inl ⟨by rfl, ?_⟩) ?_ ?_
 rotate_left
 ·intro w'
  go_simp
  with_reducible rfl
 rotate_left
 ·simp only [Act.put, List.setIfInBounds_toArray, List.set_cons_zero, List.set_cons_succ, i64_w, i32_w]
  rfl
 refine pure_ (i := 3) (N := some 56) (v := ?_) (a' := ?_) #[true, true, true, true, false, false, false, false, false, false, false, false, false, false] rfl rfl (by kernel_rfl) (fun _ _ _ h => h) (Or.inl ⟨by rfl, ?_⟩) ?_ ?_
 rotate_left
 ·intro w'
  go_simp
  with_reducible rfl
 rotate_left
 ·simp only [Act.put, List.setIfInBounds_toArray, List.set_cons_zero, List.set_cons_succ, i64_w, i32_w]
  rfl
 refine pure_ (i := 4) (N := some 57) (v := ?_) (a' := ?_) #[true, true, true, true, true, false, false, false, false, false, false, false, false, false] rfl rfl (by kernel_rfl) (fun _ _ _ h => h) (Or.inl ⟨by rfl, ?_⟩) ?_ ?_
 rotate_left
 ·intro w'
  go_simp
  with_reducible rfl
 rotate_left
 ·simp only [Act.put, List.setIfInBounds_toArray, List.set_cons_zero, List.set_cons_succ, i64_w, i32_w]
  rfl
 refine pure_ (i := 6) (N := some 59) (v := ?_) (a' := ?_) #[true, true, true, true, true, false, true, false, false, false, false, false, false, false] rfl rfl (by kernel_rfl) (fun _ _ _ h => h) (Or.inl ⟨by rfl, ?_⟩) ?_ ?_
 rotate_left
 ·intro w'
  go_simp
  with_reducible rfl
 rotate_left
 ·simp only [Act.put, List.setIfInBounds_toArray, List.set_cons_zero, List.set_cons_succ, i64_w, i32_w]
  rfl
 refine take_ (i := 5) (N := some 58) (v := ?_) (a' := ?_) #[true, true, true, true, true, true, true, false, false, false, false, false, false, false] rfl rfl (by kernel_rfl) (fun _ _ _ h => h) (Or.inl ⟨by rfl, ?_⟩) hHeld ?_ ?_
 rotate_left
 ·intro w' s0
  go_simp
  with_reducible rfl
 rotate_left
 ·simp only [Act.put, List.setIfInBounds_toArray, List.set_cons_zero, List.set_cons_succ, i64_w, i32_w]
  rfl
 refine one_ (i := 7) (N := some 60) #[true, true, true, true, true, true, true, true, false, false, false, false, false, false] rfl rfl (by kernel_rfl) (by decide) (fun K hK => ?_)
 refine goes_ Try.func130 (by kernel_rfl) rfl #[.int .i64 v] (by rfl) rfl rfl (by simp only [List.map_toArray, List.map_cons, List.map_nil]; rfl) ?_
 with_reducible refine (impl_decimal.calls k v (dec v) _ HD.out).mono ?_
 rintro e w5 ⟨rfl, hb⟩
 refine ⟨_, rfl, ?_⟩
 have n0_ := Az.mk (HI.out.below hb)
 clear HI
 have HI := n0_
 clear n0_
 refine hK.out _ _ (pw_cell_below hb hHeld) (fun hHeld => ?_)
 clear hK K
 refine norm_ (a' := ?_) ?_ ?_
 rotate_left
 ·show Act.put _ (some 60) _ = _
  simp only [Act.put, List.setIfInBounds_toArray, List.set_cons_zero, List.set_cons_succ, i64_w, i32_w]
  rfl
 refine one_ (i := 8) (N := some 61) #[true, true, true, true, true, true, true, true, true, false, false, false, false, false] rfl rfl (by kernel_rfl) (by decide) (fun K hK => ?_)
 refine value_ (w1 := ?_) (v := ?_) (by rfl) rfl ?_ ?_
 rotate_left 2
 ·go_simp
  constructor
  ·rfl
  ·rfl
 refine hK.out _ _ (pw_cell_below (bal (Below.refl _ _) _) hHeld) (fun hHeld => ?_)
 clear hK K
 refine norm_ (a' := ?_) ?_ ?_
 rotate_left
 ·show Act.put _ (some 61) _ = _
  simp only [Act.put, List.setIfInBounds_toArray, List.set_cons_zero, List.set_cons_succ, i64_w, i32_w]
  rfl
 refine last_ (i := 9) (N := some 62) #[true, true, true, true, true, true, true, true, true, true, false, false, false, false] rfl rfl (by kernel_rfl) (by decide) (fun K hK => ?_)
 refine Kd.R_append_step Kd.string (w0 := w0) w0.heap.size (by rfl) (.tmp 58) (.tmp 61) 46 9 (.string ⟨#[]⟩) 16 rfl Try.underlying46 info9 rfl (by decide) (by omega) ur s.re (dec v) [.string (dec v)] (fun _ => True) (fun _ => False) rfl rfl ?aP (fun _ hk => hk.elim) ?aF ?aO ?aB ?aS ?aL ?_
 (case aP => exact rfl)
 (case aB => exact HI.out.be)
 (case aF => exact (fun _ _ => trivial))
 (case aO => exact HI.out.rr)
 (case aS => exact below_size HI.out.be)
 (case aL => have := HRE.out; unfold IB at this; omega)
 intro v1 w6 ho hb hg hat
 obtain ⟨A1, c1, e_⟩ := Kd.R_slice ho
 simp only [List.length_append, List.length_cons, List.length_nil, Nat.zero_add] at e_
 subst e_
 obtain ⟨hI_, hy0, hyf⟩ := ImI.putR HI.out ho hb hg
 have n0_ := Az.mk hI_
 clear HI hI_ ho hb hg hat hHeld
 have HI := n0_
 clear n0_
 refine hK.out _ _ ?_
 clear hK K
 refine norm_ (a' := ?_) ?_ ?_
 rotate_left
 ·show Act.put _ (some 62) _ = _
  simp only [Act.put, List.setIfInBounds_toArray, List.set_cons_zero, List.set_cons_succ, i64_w, i32_w]
  rfl
 refine pure_ (i := 10) (N := some 63) (v := ?_) (a' := ?_) #[true, true, true, true, true, true, true, true, true, true, true, false, false, false] rfl rfl (by kernel_rfl) (fun _ _ _ h => h) (Or.inl ⟨by rfl, ?_⟩) ?_ ?_
 rotate_left
 ·intro w'
  go_simp
  with_reducible rfl
 rotate_left
 ·simp only [Act.put, List.setIfInBounds_toArray, List.set_cons_zero, List.set_cons_succ, i64_w, i32_w]
  rfl
 refine pure_ (i := 11) (N := some 64) (v := ?_) (a' := ?_) #[true, true, true, true, true, true, true, true, true, true, true, true, false, false] rfl rfl (by kernel_rfl) (fun _ _ _ h => h) (Or.inl ⟨by rfl, ?_⟩) ?_ ?_
 rotate_left
 ·intro w'
  go_simp
  with_reducible rfl
 rotate_left
 ·simp only [Act.put, List.setIfInBounds_toArray, List.set_cons_zero, List.set_cons_succ, i64_w, i32_w]
  rfl
 refine pure_ (i := 12) (N := some 65) (v := ?_) (a' := ?_) #[true, true, true, true, true, true, true, true, true, true, true, true, true, false] rfl rfl (by kernel_rfl) (fun _ _ _ h => h) (Or.inl ⟨by rfl, ?_⟩) ?_ ?_
 rotate_left
 ·intro w'
  go_simp
  with_reducible rfl
 rotate_left
 ·simp only [Act.put, List.setIfInBounds_toArray, List.set_cons_zero, List.set_cons_succ, i64_w, i32_w]
  rfl
 refine last_ (i := 13) (N := none) #[true, true, true, true, true, true, true, true, true, true, true, true, true, true] rfl rfl (by kernel_rfl) (by decide) (fun K hK => ?_)
 refine skip_ (w1 := ?_) (by rfl) rfl ?_ ?_
 rotate_left
 ·go_simp
  rfl
 refine hK.out _ _ ?_
 clear hK K
 refine done_ (by kernel_rfl) ?_
 clear hy0 hyf hi1 hi2
 go_wp2_with fail
 go_ret
 exact ⟨rfl, _, _, _, _, HI.out, HV.out⟩
end Go.Proofs.Ytehhhlhedmfdiaa.PFnImportRun
end
section
namespace Go.Proofs.Ytehhhlhedmfdiaa.PFnImportRun
open Go.RowKit Go.Proofs.Yz0.PrintWords Go.Proofs.Yz0.PrintLast Go.Proofs.Yz0.PrintMore
set_option linter.unusedVariables false
set_option linter.unusedSimpArgs false
structure SpI (w0 W : World) (gI : Nat) (vM ub uw uf ur us uv : Value) (bg wh fa : List Int) (re : List ByteArray) (st : List Int) (vs : List (List S177)) : Prop where
 rb : Kd.R (Kd.int .i64) 3 W w0.heap.size (fun k => some k ≠ uw.ownBlock ∧ some k ≠ uf.ownBlock ∧ some k ≠ us.ownBlock) ub bg
 rw_ : Kd.R (Kd.int .i64) 3 W w0.heap.size (fun k => some k ≠ ub.ownBlock ∧ some k ≠ uf.ownBlock ∧ some k ≠ us.ownBlock) uw wh
 rf : Kd.R (Kd.int .i64) 3 W w0.heap.size (fun k => some k ≠ ub.ownBlock ∧ some k ≠ uw.ownBlock ∧ some k ≠ us.ownBlock) uf fa
 rs : Kd.R (Kd.int .i64) 3 W w0.heap.size (fun k => some k ≠ ub.ownBlock ∧ some k ≠ uw.ownBlock ∧ some k ≠ uf.ownBlock) us st
 rr : Kd.R Kd.string 9 W w0.heap.size (fun _ => True) ur re
 rv : Kd.S (Kd.slice 177 k177) 168 W w0.heap.size (fun _ => True) uv vs
 bx : W.heap[gI]? = some (.cells #[vM, ub, uw, uf, ur, us, uv] 145 (0, 0))
 be : Below w0.heap.size w0 W
 hg : w0.heap.size ≤ gI
variable {w0 W w1 : World} {gI : Nat} {vM ub uw uf ur us uv v1 : Value} {bg wh fa : List Int} {re : List ByteArray} {st r' : List Int} {vs : List (List S177)}
theorem SpI.below (h : SpI w0 W gI vM ub uw uf ur us uv bg wh fa re st vs) (hb : Below W.heap.size W w1) : SpI w0 w1 gI vM ub uw uf ur us uv bg wh fa re st vs :=
 ⟨Kd.R_below h.rb hb, Kd.R_below h.rw_ hb, Kd.R_below h.rf hb, Kd.R_below h.rs hb, Kd.R_below h.rr hb, Kd.S_below h.rv hb, blk_below h.bx hb, below_step h.be hb, h.hg⟩
theorem SpI.alloc (h : SpI w0 W gI vM ub uw uf ur us uv bg wh fa re st vs) (o : Obj) : SpI w0 (W.alloc o) gI vM ub uw uf ur us uv bg wh fa re st vs := h.below (bal (Below.refl _ _) o)
theorem SpI.drewN (h : SpI w0 W gI vM ub uw uf ur us uv bg wh fa re st vs) (m : Nat) : SpI w0 (W.drewN m) gI vM ub uw uf ur us uv bg wh fa re st vs := h.below (bdN (Below.refl _ _) m)
theorem SpI.drew (h : SpI w0 W gI vM ub uw uf ur us uv bg wh fa re st vs) : SpI w0 W.drew gI vM ub uw uf ur us uv bg wh fa re st vs := h.below (below_drew (Below.refl _ _))
theorem SpI.cells (h : SpI w0 W gI vM ub uw uf ur us uv bg wh fa re st vs) : W.cell? ⟨gI, 0, none⟩ = some vM ∧ W.cell? ⟨gI, 1, none⟩ = some ub ∧ W.cell? ⟨gI, 2, none⟩ = some uw ∧ W.cell? ⟨gI, 3, none⟩ = some uf ∧ W.cell? ⟨gI, 4, none⟩ = some ur ∧ W.cell? ⟨gI, 5, none⟩ = some us ∧ W.cell? ⟨gI, 6, none⟩ = some uv ∧ ∀ j, W.frozen? ⟨gI, j, none⟩ = false :=
 ⟨(bC h.bx 0).trans rfl, (bC h.bx 1).trans rfl, (bC h.bx 2).trans rfl, (bC h.bx 3).trans rfl, (bC h.bx 4).trans rfl, (bC h.bx 5).trans rfl, (bC h.bx 6).trans rfl, fun j => bF h.bx j⟩
theorem SpI.stateAt (h : SpI w0 W gI vM ub uw uf ur us uv bg wh fa re st vs) {i : Nat} (hi : i < st.length) : ∃ g c, us = .slice (some ⟨g, 0, none⟩) st.length c ∧ W.cell? ⟨g, i, none⟩ = some (.int .i64 (rd st (i : Int))) ∧ W.frozen? ⟨g, i, none⟩ = false := by
 obtain ⟨g, c, rfl, _⟩ := Kd.R_form h.rs (by omega)
 obtain ⟨ce, hcl, hM, hcc, hfr⟩ := Kd.R_elem h.rs 0 (i : Int) (by omega) (by omega)
 have hM2 : ce = [.int .i64 (rd st (i : Int))] := hM
 subst hM2
 have h1 := hcc 0 _ rfl
 have h2 := hfr 0
 have e : (i : Int).toNat * (Kd.int .i64).sz + 0 = i := Nat.mul_one i
 rw [e] at h1 h2
 exact ⟨g, c, rfl, h1, h2⟩
theorem SpI.setState {g c i : Nat} {x : Int} (h : SpI w0 W gI vM ub uw uf ur (.slice (some ⟨g, 0, none⟩) st.length c) uv bg wh fa re st vs) (hi : i < st.length) :
  SpI w0 (W.setCell ⟨g, i, none⟩ (.int .i64 x)) gI vM ub uw uf ur (.slice (some ⟨g, 0, none⟩) st.length c) uv bg wh fa re (st.set i x) vs := by
 obtain ⟨ce, hcl, hM, hcc, hfr⟩ := Kd.R_elem h.rs 0 (i : Int) (by omega) (by omega)
 have hM2 : ce = [.int .i64 (rd st (i : Int))] := hM
 subst hM2
 have HP := Kd.R_seg h.rs (i : Int) (by omega) (by omega) (seg := [.int .i64 x]) (j := 0) (okp := fun k => False) hcl hcc (show 1 ≤ 1 from by decide) (x' := x) (show (Kd.int .i64).M _ _ _ x _ from rfl) (fun _ hk => hk.elim)
 have hw : W.setCells g ((i : Int).toNat * (Kd.int .i64).sz + 0) [.int .i64 x] = W.setCell ⟨g, i, none⟩ (.int .i64 x) := by
  rw [show (i : Int).toNat * (Kd.int .i64).sz + 0 = i from Nat.mul_one i]; rfl
 rw [hw] at HP
 have own : (Value.slice (some ⟨g, 0, none⟩) st.length c).ownBlock = some g := rfl
 obtain ⟨cells, hty⟩ := Kd.R_typed h.rs g own
 obtain ⟨g2, cap, e2, hb2, _⟩ := Kd.R_form h.rs (by omega)
 injection e2 with e3 _ _
 injection e3 with e3
 injection e3 with e3 _ _
 subst e3
 have hg : W.grownBy (W.setCell ⟨g, i, none⟩ (.int .i64 x)) (Value.slice (some ⟨g, 0, none⟩) st.length c).ownBlock := HP.2
 exact ⟨Kd.R_far (p := ⟨g, i, none⟩) h.rb (fun k hk e => hk.2.2 (by rw [own, e])) _, Kd.R_far (p := ⟨g, i, none⟩) h.rw_ (fun k hk e => hk.2.2 (by rw [own, e])) _, Kd.R_far (p := ⟨g, i, none⟩) h.rf (fun k hk e => hk.2.2 (by rw [own, e])) _,
  HP.1, Kd.R_over' h.rr (Kd.R_typed h.rs) (by decide) hg, Kd.S_set h.rv hty (by decide) _ _, blk_far h.bx (blk_ne h.bx hty (by decide)) _, bS h.be hb2, h.hg⟩
theorem SpI.putB (h : SpI w0 W gI vM ub uw uf ur us uv bg wh fa re st vs) (ho : Kd.R (Kd.int .i64) 3 w1 w0.heap.size (fun k => some k ≠ uw.ownBlock ∧ some k ≠ uf.ownBlock ∧ some k ≠ us.ownBlock) v1 r') (hb : Below w0.heap.size w0 w1) (hg : W.grownBy w1 ub.ownBlock)
  (hat : v1.ownBlock = ub.ownBlock ∨ ∃ b, v1.ownBlock = some b ∧ W.heap.size ≤ b) : SpI w0 (w1.setCell ⟨gI, 1, none⟩ v1) gI vM v1 uw uf ur us uv r' wh fa re st vs ∧ w1.cell? ⟨gI, 1, none⟩ = some ub ∧ w1.frozen? ⟨gI, 1, none⟩ = false := by
 have BX := blk_grown h.bx hg (Kd.R_ne h.rb h.bx (by decide))
 have R2 := Kd.R_after (ok := (fun k => some k ≠ uf.ownBlock ∧ some k ≠ us.ownBlock)) (Kd.R_mono h.rw_ (fun _ hk => ⟨hk.2, hk.1⟩)) hg hat
 have R3 := Kd.R_after (ok := (fun k => some k ≠ uw.ownBlock ∧ some k ≠ us.ownBlock)) (Kd.R_mono h.rf (fun _ hk => ⟨hk.2, hk.1⟩)) hg hat
 have R4 := Kd.R_after (ok := (fun k => some k ≠ uw.ownBlock ∧ some k ≠ uf.ownBlock)) (Kd.R_mono h.rs (fun _ hk => ⟨hk.2, hk.1⟩)) hg hat
 have R5 := Kd.R_over' h.rr (Kd.R_typed h.rb) (by decide) hg
 have R6 := Kd.S_over' h.rv (Kd.R_typed h.rb) (by decide) hg
 refine ⟨⟨Kd.R_mono (Kd.R_far (p := ⟨gI, 1, none⟩) (Kd.R_types ho BX (by decide)) (fun _ hk => hk.2) v1) (fun _ hk => hk.1), Kd.R_mono (Kd.R_far (p := ⟨gI, 1, none⟩) (Kd.R_types R2 BX (by decide)) (fun _ hk => hk.2) v1) (fun _ hk => ⟨hk.1.2, hk.1.1⟩),
  Kd.R_mono (Kd.R_far (p := ⟨gI, 1, none⟩) (Kd.R_types R3 BX (by decide)) (fun _ hk => hk.2) v1) (fun _ hk => ⟨hk.1.2, hk.1.1⟩), Kd.R_mono (Kd.R_far (p := ⟨gI, 1, none⟩) (Kd.R_types R4 BX (by decide)) (fun _ hk => hk.2) v1) (fun _ hk => ⟨hk.1.2, hk.1.1⟩),
  Kd.R_mono (Kd.R_far (p := ⟨gI, 1, none⟩) (Kd.R_types R5 BX (by decide)) (fun _ hk => hk.2) v1) (fun _ hk => trivial), Kd.S_set R6 BX (by decide) _ _,
  blk_put (cs := #[vM, ub, uw, uf, ur, us, uv]) BX 1 _ rfl, bS hb h.hg, h.hg⟩, (bC BX 1).trans rfl, bF BX 1⟩
theorem SpI.putW (h : SpI w0 W gI vM ub uw uf ur us uv bg wh fa re st vs) (ho : Kd.R (Kd.int .i64) 3 w1 w0.heap.size (fun k => some k ≠ ub.ownBlock ∧ some k ≠ uf.ownBlock ∧ some k ≠ us.ownBlock) v1 r') (hb : Below w0.heap.size w0 w1) (hg : W.grownBy w1 uw.ownBlock)
  (hat : v1.ownBlock = uw.ownBlock ∨ ∃ b, v1.ownBlock = some b ∧ W.heap.size ≤ b) : SpI w0 (w1.setCell ⟨gI, 2, none⟩ v1) gI vM ub v1 uf ur us uv bg r' fa re st vs ∧ w1.cell? ⟨gI, 2, none⟩ = some uw ∧ w1.frozen? ⟨gI, 2, none⟩ = false := by
 have BX := blk_grown h.bx hg (Kd.R_ne h.rw_ h.bx (by decide))
 have R2 := Kd.R_after (ok := (fun k => some k ≠ uf.ownBlock ∧ some k ≠ us.ownBlock)) (Kd.R_mono h.rb (fun _ hk => ⟨hk.2, hk.1⟩)) hg hat
 have R3 := Kd.R_after (ok := (fun k => some k ≠ ub.ownBlock ∧ some k ≠ us.ownBlock)) (Kd.R_mono h.rf (fun _ hk => ⟨⟨hk.1, hk.2.2⟩, hk.2.1⟩)) hg hat
 have R4 := Kd.R_after (ok := (fun k => some k ≠ ub.ownBlock ∧ some k ≠ uf.ownBlock)) (Kd.R_mono h.rs (fun _ hk => ⟨⟨hk.1, hk.2.2⟩, hk.2.1⟩)) hg hat
 have R5 := Kd.R_over' h.rr (Kd.R_typed h.rw_) (by decide) hg
 have R6 := Kd.S_over' h.rv (Kd.R_typed h.rw_) (by decide) hg
 refine ⟨⟨Kd.R_mono (Kd.R_far (p := ⟨gI, 2, none⟩) (Kd.R_types R2 BX (by decide)) (fun _ hk => hk.2) v1) (fun _ hk => ⟨hk.1.2, hk.1.1⟩), Kd.R_mono (Kd.R_far (p := ⟨gI, 2, none⟩) (Kd.R_types ho BX (by decide)) (fun _ hk => hk.2) v1) (fun _ hk => hk.1),
  Kd.R_mono (Kd.R_far (p := ⟨gI, 2, none⟩) (Kd.R_types R3 BX (by decide)) (fun _ hk => hk.2) v1) (fun _ hk => ⟨hk.1.1.1, hk.1.2, hk.1.1.2⟩), Kd.R_mono (Kd.R_far (p := ⟨gI, 2, none⟩) (Kd.R_types R4 BX (by decide)) (fun _ hk => hk.2) v1) (fun _ hk => ⟨hk.1.1.1, hk.1.2, hk.1.1.2⟩),
  Kd.R_mono (Kd.R_far (p := ⟨gI, 2, none⟩) (Kd.R_types R5 BX (by decide)) (fun _ hk => hk.2) v1) (fun _ hk => trivial), Kd.S_set R6 BX (by decide) _ _,
  blk_put (cs := #[vM, ub, uw, uf, ur, us, uv]) BX 2 _ rfl, bS hb h.hg, h.hg⟩, (bC BX 2).trans rfl, bF BX 2⟩
theorem SpI.putF (h : SpI w0 W gI vM ub uw uf ur us uv bg wh fa re st vs) (ho : Kd.R (Kd.int .i64) 3 w1 w0.heap.size (fun k => some k ≠ ub.ownBlock ∧ some k ≠ uw.ownBlock ∧ some k ≠ us.ownBlock) v1 r') (hb : Below w0.heap.size w0 w1) (hg : W.grownBy w1 uf.ownBlock)
  (hat : v1.ownBlock = uf.ownBlock ∨ ∃ b, v1.ownBlock = some b ∧ W.heap.size ≤ b) : SpI w0 (w1.setCell ⟨gI, 3, none⟩ v1) gI vM ub uw v1 ur us uv bg wh r' re st vs ∧ w1.cell? ⟨gI, 3, none⟩ = some uf ∧ w1.frozen? ⟨gI, 3, none⟩ = false := by
 have BX := blk_grown h.bx hg (Kd.R_ne h.rf h.bx (by decide))
 have R2 := Kd.R_after (ok := (fun k => some k ≠ uw.ownBlock ∧ some k ≠ us.ownBlock)) (Kd.R_mono h.rb (fun _ hk => ⟨⟨hk.1, hk.2.2⟩, hk.2.1⟩)) hg hat
 have R3 := Kd.R_after (ok := (fun k => some k ≠ ub.ownBlock ∧ some k ≠ us.ownBlock)) (Kd.R_mono h.rw_ (fun _ hk => ⟨⟨hk.1, hk.2.2⟩, hk.2.1⟩)) hg hat
 have R4 := Kd.R_after (ok := (fun k => some k ≠ ub.ownBlock ∧ some k ≠ uw.ownBlock)) (Kd.R_mono h.rs (fun _ hk => ⟨⟨hk.1, hk.2.1⟩, hk.2.2⟩)) hg hat
 have R5 := Kd.R_over' h.rr (Kd.R_typed h.rf) (by decide) hg
 have R6 := Kd.S_over' h.rv (Kd.R_typed h.rf) (by decide) hg
 refine ⟨⟨Kd.R_mono (Kd.R_far (p := ⟨gI, 3, none⟩) (Kd.R_types R2 BX (by decide)) (fun _ hk => hk.2) v1) (fun _ hk => ⟨hk.1.1.1, hk.1.2, hk.1.1.2⟩), Kd.R_mono (Kd.R_far (p := ⟨gI, 3, none⟩) (Kd.R_types R3 BX (by decide)) (fun _ hk => hk.2) v1) (fun _ hk => ⟨hk.1.1.1, hk.1.2, hk.1.1.2⟩),
  Kd.R_mono (Kd.R_far (p := ⟨gI, 3, none⟩) (Kd.R_types ho BX (by decide)) (fun _ hk => hk.2) v1) (fun _ hk => hk.1), Kd.R_mono (Kd.R_far (p := ⟨gI, 3, none⟩) (Kd.R_types R4 BX (by decide)) (fun _ hk => hk.2) v1) (fun _ hk => ⟨hk.1.1.1, hk.1.1.2, hk.1.2⟩),
  Kd.R_mono (Kd.R_far (p := ⟨gI, 3, none⟩) (Kd.R_types R5 BX (by decide)) (fun _ hk => hk.2) v1) (fun _ hk => trivial), Kd.S_set R6 BX (by decide) _ _,
  blk_put (cs := #[vM, ub, uw, uf, ur, us, uv]) BX 3 _ rfl, bS hb h.hg, h.hg⟩, (bC BX 3).trans rfl, bF BX 3⟩
theorem SpI.putR {r2 : List ByteArray} (h : SpI w0 W gI vM ub uw uf ur us uv bg wh fa re st vs) (ho : Kd.R Kd.string 9 w1 w0.heap.size (fun _ => True) v1 r2) (hb : Below w0.heap.size w0 w1) (hg : W.grownBy w1 ur.ownBlock) :
  SpI w0 (w1.setCell ⟨gI, 4, none⟩ v1) gI vM ub uw uf v1 us uv bg wh fa r2 st vs ∧ w1.cell? ⟨gI, 4, none⟩ = some ur ∧ w1.frozen? ⟨gI, 4, none⟩ = false := by
 have BX := blk_grown h.bx hg (Kd.R_ne h.rr h.bx (by decide))
 have R1 := Kd.R_over' h.rb (Kd.R_typed h.rr) (by decide) hg
 have R2 := Kd.R_over' h.rw_ (Kd.R_typed h.rr) (by decide) hg
 have R3 := Kd.R_over' h.rf (Kd.R_typed h.rr) (by decide) hg
 have R4 := Kd.R_over' h.rs (Kd.R_typed h.rr) (by decide) hg
 have R6 := Kd.S_over' h.rv (Kd.R_typed h.rr) (by decide) hg
 refine ⟨⟨Kd.R_mono (Kd.R_far (p := ⟨gI, 4, none⟩) (Kd.R_types R1 BX (by decide)) (fun _ hk => hk.2) v1) (fun _ hk => hk.1), Kd.R_mono (Kd.R_far (p := ⟨gI, 4, none⟩) (Kd.R_types R2 BX (by decide)) (fun _ hk => hk.2) v1) (fun _ hk => hk.1),
  Kd.R_mono (Kd.R_far (p := ⟨gI, 4, none⟩) (Kd.R_types R3 BX (by decide)) (fun _ hk => hk.2) v1) (fun _ hk => hk.1), Kd.R_mono (Kd.R_far (p := ⟨gI, 4, none⟩) (Kd.R_types R4 BX (by decide)) (fun _ hk => hk.2) v1) (fun _ hk => hk.1),
  Kd.R_mono (Kd.R_far (p := ⟨gI, 4, none⟩) (Kd.R_types ho BX (by decide)) (fun _ hk => hk.2) v1) (fun _ hk => trivial), Kd.S_set R6 BX (by decide) _ _,
  blk_put (cs := #[vM, ub, uw, uf, ur, us, uv]) BX 4 _ rfl, bS hb h.hg, h.hg⟩, (bC BX 4).trans rfl, bF BX 4⟩
theorem SpI.setNil {g c i : Nat} (h : SpI w0 W gI vM ub uw uf ur us (.slice (some ⟨g, 0, none⟩) vs.length c) bg wh fa re st vs) (hi : i < vs.length) :
  SpI w0 (W.setCell ⟨g, i, none⟩ (.slice none 0 0)) gI vM ub uw uf ur us (.slice (some ⟨g, 0, none⟩) vs.length c) bg wh fa re st (vs.set i []) ∧ (∃ v0, W.cell? ⟨g, i, none⟩ = some v0) ∧ W.frozen? ⟨g, i, none⟩ = false := by
 obtain ⟨oki, ce, hcl, hM, hcc, hfr, hoki, hH⟩ := Kd.S_elem (Kd.S_mono (ok' := fun k => True ∧ ¬ False) h.rv (fun _ _ => ⟨trivial, fun e => e⟩)) ([] : List S177) (i : Int) (by omega) (by omega)
 obtain ⟨v0, rfl, hR⟩ := hM
 have HP := Kd.S_seg (okg := fun _ => False) (ok := fun _ => True) hH (by omega) (by omega) (seg := [.slice none 0 0]) (j := 0) (show 1 ≤ 1 from by decide) (x' := ([] : List S177)) (okp := fun _ => False) (Kd.M_row (Kd.R_nil _ _ _ _ _)) (fun _ hk => hk.elim) (fun _ hk => hk.elim)
 have e1 : (i : Int).toNat * (Kd.slice 177 k177).sz + 0 = i := Nat.mul_one i
 have hw : W.setCells g ((i : Int).toNat * (Kd.slice 177 k177).sz + 0) [.slice none 0 0] = W.setCell ⟨g, i, none⟩ (.slice none 0 0) := by rw [e1]; rfl
 rw [hw] at HP
 have own : (Value.slice (some ⟨g, 0, none⟩) vs.length c).ownBlock = some g := rfl
 obtain ⟨cells, hty⟩ := Kd.S_typed h.rv g own
 have hgb := Kd.S_base h.rv g own
 have hx0 := hcc 0 _ rfl
 have hf0 := hfr 0
 rw [e1] at hx0 hf0
 have far : ∀ {α : Type} {d : Kd α} {e : TypeId} {ok : Nat → Prop} {v : Value} {xs : List α}, d.R e W w0.heap.size ok v xs → (∀ q, q ∈ e :: d.E → q ≠ 168) → d.R e (W.setCell ⟨g, i, none⟩ (.slice none 0 0)) w0.heap.size ok v xs := fun hr ht =>
  Kd.R_mono (Kd.R_far (p := ⟨g, i, none⟩) (Kd.R_types hr hty ht) (fun _ hk => hk.2) _) (fun _ hk => hk.1)
 exact ⟨⟨far h.rb (by decide), far h.rw_ (by decide), far h.rf (by decide), far h.rs (by decide), far h.rr (by decide), HP.1, blk_far h.bx (blk_ne h.bx hty (by decide)) _, bS h.be hgb, h.hg⟩, ⟨v0, hx0⟩, hf0⟩
def SpLent (w0 W : World) (g c i : Nat) (v0 : Value) (vs : List (List S177)) (W1 : World) : Prop :=
 ∃ oki : Nat → Prop, (∀ k, v0.ownBlock = some k → oki k) ∧ Kd.H (Kd.slice 177 k177) 168 W1 w0.heap.size (fun k => True ∧ ¬ W.heap.size ≤ k) (.slice (some ⟨g, 0, none⟩) vs.length c) vs (i : Int) oki [v0]
theorem SpI.lend {i : Nat} (h : SpI w0 W gI vM ub uw uf ur us uv bg wh fa re st vs) (hi : i < vs.length) : ∃ g c v0, uv = .slice (some ⟨g, 0, none⟩) vs.length c ∧ W.cell? ⟨g, i, none⟩ = some v0 ∧ W.frozen? ⟨g, i, none⟩ = false ∧
  Kd.R k177 177 W w0.heap.size (fun k => some k = v0.ownBlock) v0 (vs.getD i []) ∧ SpLent w0 W g c i v0 vs W := by
 obtain ⟨g, c, rfl, _⟩ := Kd.S_form h.rv (by omega)
 obtain ⟨oki, ce, hcl, hM, hcc, hfr, hoki, hH⟩ := Kd.S_elem (Kd.S_mono (ok' := fun k => True ∧ ¬ W.heap.size ≤ k) (Kd.S_bound h.rv) (fun _ hk => ⟨trivial, Nat.not_le.2 hk.2.2.1⟩)) ([] : List S177) (i : Int) (by omega) (by omega)
 obtain ⟨v0, rfl, hR⟩ := hM
 have e1 : (i : Int).toNat * (Kd.slice 177 k177).sz + 0 = i := Nat.mul_one i
 have hx0 := hcc 0 _ rfl
 have hf0 := hfr 0
 rw [e1] at hx0 hf0
 exact ⟨g, c, v0, rfl, hx0, hf0, Kd.R_tight rfl hR, oki, hR.1, hH⟩
theorem SpLent.below {W0 W1 W2 : World} {g c i : Nat} {v0 : Value} (h : SpLent w0 W0 g c i v0 vs W1) (hb : Below W1.heap.size W1 W2) : SpLent w0 W0 g c i v0 vs W2 := by
 obtain ⟨oki, h1, h2⟩ := h
 exact ⟨oki, h1, Kd.H_below h2 hb⟩
theorem SpI.back {W0 : World} {g c i : Nat} {v0 v2 : Value} {x0 r : List S177} (h : SpI w0 W gI vM ub uw uf ur us (.slice (some ⟨g, 0, none⟩) vs.length c) bg wh fa re st vs) (hl : SpLent w0 W0 g c i v0 vs W) (hW : W0.heap.size ≤ W.heap.size) (hg0 : g < W0.heap.size) (hi : i < vs.length)
  (h0 : Kd.R k177 177 W w0.heap.size (fun k => some k = v0.ownBlock) v0 x0) (hk : Kept W w1 (fun k => some k = v0.ownBlock)) (hb : Below w0.heap.size w0 w1) (hr : Kd.R k177 177 w1 w0.heap.size (fun k => some k = v0.ownBlock ∨ W.heap.size ≤ k) v2 r) :
  SpI w0 (w1.setCell ⟨g, i, none⟩ v2) gI vM ub uw uf ur us (.slice (some ⟨g, 0, none⟩) vs.length c) bg wh fa re st (vs.set i r) ∧ (∃ u, w1.cell? ⟨g, i, none⟩ = some u) ∧ w1.frozen? ⟨g, i, none⟩ = false := by
 obtain ⟨oki, ho, hH⟩ := hl
 have hty0 := Kd.R_typed h0
 have own : (Value.slice (some ⟨g, 0, none⟩) vs.length c).ownBlock = some g := rfl
 obtain ⟨cells, hty⟩ := Kd.S_typed h.rv g own
 have hgb := Kd.S_base h.rv g own
 have hgne : ¬ (some g = v0.ownBlock) := fun e => by
  obtain ⟨c2, h2⟩ := hty0 g e.symm
  rw [hty] at h2; injection h2 with h2; injection h2 with _ h2 _; exact absurd h2 (by decide)
 have hty1 := blk_kept hty hk hgne
 have hbx : ¬ (some gI = v0.ownBlock) := fun e => by
  obtain ⟨c2, h2⟩ := hty0 gI e.symm
  rw [h.bx] at h2; injection h2 with h2; injection h2 with _ h2 _; exact absurd h2 (by decide)
 have hbx1 := blk_kept h.bx hk hbx
 have hH1 := Kd.H_kept hH hk (fun k _ hn he => hn (ho k he.symm))
 have e1 : (i : Int).toNat * (Kd.slice 177 k177).sz + 0 = i := Nat.mul_one i
 have HP := Kd.S_seg (okg := fun k => W0.heap.size ≤ k) (ok := fun _ => True) hH1 (by omega) (by omega) (seg := [v2]) (j := 0) (show 1 ≤ 1 from by decide) (x' := r) (okp := fun k => some k = v0.ownBlock ∨ W.heap.size ≤ k) (Kd.M_row hr)
  (fun k hk2 => hk2.elim (fun e => Or.inl (ho k e.symm)) (fun e => Or.inr (Nat.le_trans hW e))) (fun k hk2 => ⟨trivial, fun e => by omega⟩)
 have hw : w1.setCells g ((i : Int).toNat * (Kd.slice 177 k177).sz + 0) [v2] = w1.setCell ⟨g, i, none⟩ v2 := by rw [e1]; rfl
 rw [hw] at HP
 have far : ∀ {α : Type} {d : Kd α} {e : TypeId} {ok : Nat → Prop} {v : Value} {xs : List α}, d.R e W w0.heap.size ok v xs → (∀ q, q ∈ e :: d.E → q ≠ 168) → (∀ q, q ∈ e :: d.E → q ≠ 177) → d.R e (w1.setCell ⟨g, i, none⟩ v2) w0.heap.size ok v xs := fun hr ht ht2 => by
  have h1 := Kd.R_kept (Kd.R_bound hr) hk (fun k hk2 he => by
   obtain ⟨_, _, _, q, hq, c3, h3⟩ := hk2
   obtain ⟨c2, h2⟩ := hty0 k he.symm
   rw [h3] at h2; injection h2 with h2; injection h2 with _ h2 _; exact ht2 q hq h2)
  exact Kd.R_mono (Kd.R_far (p := ⟨g, i, none⟩) (Kd.R_types h1 hty1 ht) (fun _ hk => hk.2) _) (fun _ hk => hk.1.1)
 obtain ⟨_, ce, hcl, hM, hcc, hfr, _, _⟩ := Kd.S_elem h.rv ([] : List S177) (i : Int) (by omega) (by omega)
 obtain ⟨u, rfl, _⟩ := hM
 have hx0 := hcc 0 _ rfl
 rw [e1] at hx0
 refine ⟨⟨far h.rb (by decide) (by decide), far h.rw_ (by decide) (by decide), far h.rf (by decide) (by decide), far h.rs (by decide) (by decide), far h.rr (by decide) (by decide), HP.1, blk_far hbx1 (blk_ne hbx1 hty1 (by decide)) _, bS hb hgb, h.hg⟩, ⟨u, ?_⟩, bF hty1 i⟩
 rw [bC hty1 i, ← bC hty i]; exact hx0
end Go.Proofs.Ytehhhlhedmfdiaa.PFnImportRun
end
section
namespace Go.Proofs.Ytehhhlhedmfdiaa.PFnImportRun
open Go.RowKit Go.Proofs.Yz0.PrintWords Go.Proofs.Yz0.PrintLast Go.Proofs.Yz0.PrintMore
attribute [local go_sem] max2_int min2_int max_two min_two max_three min_three max_four min_four
set_option linter.unusedVariables false
set_option linter.unusedSimpArgs false
def spec_validIndices.l0 : Nat → List Int → Int → Int → Option (Bool)
 | 0, _, _, _ => none
 | k + 1, x0, x1, x5 => if x5 < (x0.length : Int) then (if 0 ≤ x5 then ((spec_inRange.f (rd x0 x5) 0 (wrap64 (x1 - 1))).bind fun t245 => (if t245 = true then (spec_validIndices.l0 k x0 x1 (wrap64 (x5 + 1))) else (some false))) else (none)) else (some (decide ((x0.length : Int) ≤ 60)))
def spec_validIndices.f (k : Nat) (l0 : List Int) (a1 : Int) : Option (Bool) := spec_validIndices.l0 k l0 a1 0
theorem spec_validIndices.calls (k : Nat) (A0 : Option Addr) (c0 : Nat) (l0 : List Int) (a1 : Int) (r : Bool) (w : World) (hr0 : Kd.C (Kd.int .i64) w A0 l0.length l0) (hc0 : l0.length ≤ c0) (h : spec_validIndices.f k l0 a1 = some r) :
  Calls Try.prog 72 #[.slice A0 l0.length c0, .int .i64 a1] w fun e w' => e = .returned (.bool r) ∧ Drawn0 w w' := by
 have HR0 := Az.mk hr0
 have HC0 := Az.mk hc0
 clear hr0 hc0
 have H : (spec_validIndices.l0 k l0 a1 0) = some r := h
 clear h
 have H' := Az.mk H
 clear H
 go_enter Try.func72, Try.ntmps72
 go_wp2
 go_loopg [5] k (fun kq v5 w' => ∃ (x5_1 : Int), v5 = .int .i64 x5_1 ∧ Az (spec_validIndices.l0 kq l0 a1 x5_1 = some r) ∧ Az (kq ≤ k) ∧ Drawn0 w w')
 case atStart => exact ⟨(0), (by first | rfl | (simp; done) | (simp [*]; done)), H', ⟨Nat.le_refl _⟩, by repeat (first | exact Drawn0.refl _ | apply Drawn0.step)⟩
 case round =>
  clear H'
  try clear p2
  obtain ⟨x5_1, rfl, HA, HK1, ⟨m1, rfl⟩⟩ := hrel
  cases gk with
  | zero => exact absurd HA.out (by simp [spec_validIndices.l0])
  | succ k1 =>
   have H := HA.out
   clear HA
   simp only [spec_validIndices.l0] at H
   by_cases c3 : x5_1 < (l0.length : Int)
   ·rw [if_pos c3] at H
    have c3b0 : decide (x5_1 < (l0.length : Int)) = true := decide_eq_true c3
    clear c3
    by_cases c4 : 0 ≤ x5_1
    ·rw [if_pos c4] at H
     have c4b0 : decide (0 ≤ x5_1) = true := decide_eq_true c4
     clear c4
     replace H := Option.bind_eq_some_iff.mp H
     obtain ⟨t245, A50, H⟩ := H
     replace H : (if t245 = true then (spec_validIndices.l0 k1 l0 a1 (wrap64 (x5_1 + 1))) else (some false)) = some r := H
     have A5 := Az.mk A50
     clear A50
     by_cases c6 : t245 = true
     ·subst c6
      have H1 : (spec_validIndices.l0 k1 l0 a1 (wrap64 (x5_1 + 1))) = some r := by rw [if_pos rfl] at H; exact H
      clear H
      have H := H1
      clear H1
      have H' := Az.mk H
      clear H
      have p244 : 0 ≤ (x5_1 : Int) := of_decide_eq_true (by first | (with_reducible assumption) | assumption)
      have q244 : x5_1 < (l0.length : Int) := of_decide_eq_true (by first | (with_reducible assumption) | assumption)
      obtain ⟨ad244, e244, hx244_0⟩ := Kd.at_int HR0.out x5_1 p244 q244
      cases e244
      replace p244 := eq_true p244
      replace q244 := eq_true q244
      go_wp2_with (first | ((with_reducible refine gate_callee (f := 54) rfl ?_); refine goesL_ (some 18) rfl rfl Try.func54 (by kernel_rfl) rfl #[.int .i64 (rd l0 x5_1), .int .i64 0, .int .i64 (wrap64 (a1 - 1))] rfl (by (try simp only [List.map_toArray, List.map_cons, List.map_nil]); first | done | rfl | (simp only [List.length_drop, List.length_take]; rfl)) ?_; (with_reducible refine (spec_inRange.calls (rd l0 x5_1) 0 (wrap64 (a1 - 1)) true _ A5.out).mono ?_); rintro e w' ⟨rfl, ⟨nd, rfl⟩⟩; refine ⟨_, rfl, ?_⟩))
      go_roundg k1
      case measure => have := HK1.out; omega
      case rel => exact ⟨(wrap64 (x5_1 + 1)), (by first | rfl | (simp; done) | (simp [*]; done)), H', ⟨by have := HK1.out; omega⟩, by repeat (first | exact Drawn0.refl _ | apply Drawn0.step)⟩
     ·replace c6 := Bool.eq_false_iff.mpr c6
      subst c6
      have H1 : (some false) = some r := by rw [if_neg (show ¬ (false = true) by decide)] at H; exact H
      clear H
      have H := H1
      clear H1
      obtain rfl := Option.some.inj H
      have p244 : 0 ≤ (x5_1 : Int) := of_decide_eq_true (by first | (with_reducible assumption) | assumption)
      have q244 : x5_1 < (l0.length : Int) := of_decide_eq_true (by first | (with_reducible assumption) | assumption)
      obtain ⟨ad244, e244, hx244_0⟩ := Kd.at_int HR0.out x5_1 p244 q244
      cases e244
      replace p244 := eq_true p244
      replace q244 := eq_true q244
      go_wp2_with (first | ((with_reducible refine gate_callee (f := 54) rfl ?_); refine goesL_ (some 18) rfl rfl Try.func54 (by kernel_rfl) rfl #[.int .i64 (rd l0 x5_1), .int .i64 0, .int .i64 (wrap64 (a1 - 1))] rfl (by (try simp only [List.map_toArray, List.map_cons, List.map_nil]); first | done | rfl | (simp only [List.length_drop, List.length_take]; rfl)) ?_; (with_reducible refine (spec_inRange.calls (rd l0 x5_1) 0 (wrap64 (a1 - 1)) false _ A5.out).mono ?_); rintro e w' ⟨rfl, ⟨nd, rfl⟩⟩; refine ⟨_, rfl, ?_⟩))
      go_ret
      exact ⟨by first | rfl | (simp; done) | (simp [*]; done), by repeat (first | exact Drawn0.refl _ | apply Drawn0.step)⟩
    ·rw [if_neg c4] at H
     exact absurd H (by simp)
   ·rw [if_neg c3] at H
    have c3b0 : decide (x5_1 < (l0.length : Int)) = false := decide_eq_false c3
    clear c3
    obtain rfl := Option.some.inj H
    go_wp2
    go_ret
    exact ⟨by first | rfl | (simp; done) | (simp [*]; done), by repeat (first | exact Drawn0.refl _ | apply Drawn0.step)⟩
def spec_find.l0 : Nat → List (S177) → ByteArray → Int → Option (Int)
 | 0, _, _, _ => none
 | k + 1, x0, x1, x5 => if x5 < (x0.length : Int) then (if 0 ≤ x5 then (if ((rd_T177 x0 x5).f0).toList = x1.toList then (some x5) else (spec_find.l0 k x0 x1 (wrap64 (x5 + 1)))) else (none)) else (some (-1))
def spec_find.f (k : Nat) (l0 : List (S177)) (a1 : ByteArray) : Option (Int) := spec_find.l0 k l0 a1 0
theorem spec_find.calls (k : Nat) (A0 : Option Addr) (c0 : Nat) (l0 : List (S177)) (a1 : ByteArray) (r : Int) (w : World) (hr0 : Kd.C k177 w A0 l0.length l0) (hc0 : l0.length ≤ c0) (h : spec_find.f k l0 a1 = some r) :
  Calls Try.prog 144 #[.slice A0 l0.length c0, .string a1] w fun e w' => e = .returned (.int .i64 r) ∧ Drawn0 w w' := by
 have HR0 := Az.mk hr0
 have HC0 := Az.mk hc0
 clear hr0 hc0
 have H : (spec_find.l0 k l0 a1 0) = some r := h
 clear h
 have H' := Az.mk H
 clear H
 go_enter Try.func144, Try.ntmps144
 go_wp2
 go_loopg [5] k (fun kq v5 w' => ∃ (x5_1 : Int), v5 = .int .i64 x5_1 ∧ Az (spec_find.l0 kq l0 a1 x5_1 = some r) ∧ Az (kq ≤ k) ∧ Drawn0 w w')
 case atStart => exact ⟨(0), (by first | rfl | (simp; done) | (simp [*]; done)), H', ⟨Nat.le_refl _⟩, by repeat (first | exact Drawn0.refl _ | apply Drawn0.step)⟩
 case round =>
  clear H'
  try clear c1
  try clear p2
  obtain ⟨x5_1, rfl, HA, HK1, ⟨m1, rfl⟩⟩ := hrel
  cases gk with
  | zero => exact absurd HA.out (by simp [spec_find.l0])
  | succ k1 =>
   have H := HA.out
   clear HA
   simp only [spec_find.l0] at H
   by_cases c3 : x5_1 < (l0.length : Int)
   ·rw [if_pos c3] at H
    have c3b0 : decide (x5_1 < (l0.length : Int)) = true := decide_eq_true c3
    clear c3
    by_cases c4 : 0 ≤ x5_1
    ·rw [if_pos c4] at H
     have c4b0 : decide (0 ≤ x5_1) = true := decide_eq_true c4
     clear c4
     by_cases c5 : ((rd_T177 l0 x5_1).f0).toList = a1.toList
     ·rw [if_pos c5] at H
      have c5b0 : (((rd_T177 l0 x5_1).f0).toList == a1.toList) = true := beq_iff_eq.mpr c5
      have c5b1 : (((rd_T177 l0 x5_1).f0).toList != a1.toList) = false := bne_eq_false_iff_eq.mpr c5
      clear c5
      obtain rfl := Option.some.inj H
      have p246 : 0 ≤ (x5_1 : Int) := of_decide_eq_true (by first | (with_reducible assumption) | assumption)
      have q246 : x5_1 < (l0.length : Int) := of_decide_eq_true (by first | (with_reducible assumption) | assumption)
      obtain ⟨ad246, e246, hx246_0, hx246_1, hx246_2, hx246_3, hx246_4⟩ := at_T177 HR0.out x5_1 p246 q246
      cases e246
      replace p246 := eq_true p246
      replace q246 := eq_true q246
      go_wp2
      go_ret
      exact ⟨by first | rfl | (simp; done) | (simp [*]; done), by repeat (first | exact Drawn0.refl _ | apply Drawn0.step)⟩
     ·rw [if_neg c5] at H
      have c5b0 : (((rd_T177 l0 x5_1).f0).toList == a1.toList) = false := beq_eq_false_iff_ne.mpr c5
      have c5b1 : (((rd_T177 l0 x5_1).f0).toList != a1.toList) = true := bne_iff_ne.mpr c5
      have H' := Az.mk H
      clear H
      have p246 : 0 ≤ (x5_1 : Int) := of_decide_eq_true (by first | (with_reducible assumption) | assumption)
      have q246 : x5_1 < (l0.length : Int) := of_decide_eq_true (by first | (with_reducible assumption) | assumption)
      obtain ⟨ad246, e246, hx246_0, hx246_1, hx246_2, hx246_3, hx246_4⟩ := at_T177 HR0.out x5_1 p246 q246
      cases e246
      replace p246 := eq_true p246
      replace q246 := eq_true q246
      go_wp2
      go_roundg k1
      case measure => have := HK1.out; omega
      case rel => exact ⟨(wrap64 (x5_1 + 1)), (by first | rfl | (simp; done) | (simp [*]; done)), H', ⟨by have := HK1.out; omega⟩, by repeat (first | exact Drawn0.refl _ | apply Drawn0.step)⟩
    ·rw [if_neg c4] at H
     exact absurd H (by simp)
   ·rw [if_neg c3] at H
    have c3b0 : decide (x5_1 < (l0.length : Int)) = false := decide_eq_false c3
    clear c3
    obtain rfl := Option.some.inj H
    go_wp2
    go_ret
    exact ⟨by first | rfl | (simp; done) | (simp [*]; done), by repeat (first | exact Drawn0.refl _ | apply Drawn0.step)⟩
def spec_put.f (k : Nat) (l0 : List (S177)) (a1 : ByteArray) (a2_0 : Int) (a2_1 : ByteArray) (a2_2 : Int) : Option ((List (S177))) := (spec_find.f k l0 a1).bind fun t248 => (if t248 < 0 then (if l0.length < 2513169434916 then (some (l0 ++ [(⟨a1, (⟨a2_0, a2_1, a2_2⟩ : S31), true⟩ : S177)])) else (none)) else (if 0 ≤ t248 then (if t248 < (l0.length : Int) then ((some (l0.set (t248 : Int).toNat (⟨(rd_T177 l0 t248).f0, (⟨a2_0, a2_1, a2_2⟩ : S31), (rd_T177 l0 t248).f2⟩ : S177) : List (S177))).bind fun y252 => (some (y252.set (t248 : Int).toNat (⟨(rd_T177 y252 t248).f0, (⟨(rd_T177 y252 t248).f1.f0, (rd_T177 y252 t248).f1.f1, (rd_T177 y252 t248).f1.f2⟩ : S31), true⟩ : S177)))) else (none)) else (none)))
theorem spec_put.calls (k : Nat) (P0_ : Nat → Prop) (u9000_ : Value) (l0 : List (S177)) (a1 : ByteArray) (a2_0 : Int) (a2_1 : ByteArray) (a2_2 : Int) (r : List (S177)) (w0 w : World) (hB : Below w0.heap.size w0 w) (ho0 : Kd.R k177 177 w w0.heap.size P0_ u9000_ l0) (h : spec_put.f k l0 a1 a2_0 a2_1 a2_2 = some r) :
  Calls Try.prog 141 #[u9000_, .string a1, .agg #[.int .i64 a2_0, .string a2_1, .int .i64 a2_2]] w fun e w' => ∃ v0_ : Value, e = .returned (v0_) ∧ Kd.R k177 177 w' w0.heap.size (fun k_ => (P0_ k_ ∨ w.heap.size ≤ k_)) v0_ r ∧ Below w0.heap.size w0 w' ∧ Kept w w' (fun k_ => P0_ k_) := by
 have hu31 := Try.underlying31
 have hu177 := Try.underlying177
 have HO0 := Az.mk (show Kd.R k177 177 w w0.heap.size (fun k_ => (P0_ k_ ∨ w.heap.size ≤ k_)) u9000_ l0 from Kd.R_mono ho0 (fun k_ hk => (.inl hk)))
 have HK := Az.mk (Kept.refl w (fun k_ => P0_ k_))
 have HW0 := Az.mk hB.size
 have HB := Az.mk hB
 clear hB
 have H : ((spec_find.f k l0 a1).bind fun t248 => (if t248 < 0 then (if l0.length < 2513169434916 then (some (l0 ++ [(⟨a1, (⟨a2_0, a2_1, a2_2⟩ : S31), true⟩ : S177)])) else (none)) else (if 0 ≤ t248 then (if t248 < (l0.length : Int) then ((some (l0.set (t248 : Int).toNat (⟨(rd_T177 l0 t248).f0, (⟨a2_0, a2_1, a2_2⟩ : S31), (rd_T177 l0 t248).f2⟩ : S177) : List (S177))).bind fun y252 => (some (y252.set (t248 : Int).toNat (⟨(rd_T177 y252 t248).f0, (⟨(rd_T177 y252 t248).f1.f0, (rd_T177 y252 t248).f1.f1, (rd_T177 y252 t248).f1.f2⟩ : S31), true⟩ : S177)))) else (none)) else (none)))) = some r := h
 clear h
 replace H := Option.bind_eq_some_iff.mp H
 obtain ⟨t248, A40, H⟩ := H
 replace H : (if t248 < 0 then (if l0.length < 2513169434916 then (some (l0 ++ [(⟨a1, (⟨a2_0, a2_1, a2_2⟩ : S31), true⟩ : S177)])) else (none)) else (if 0 ≤ t248 then (if t248 < (l0.length : Int) then ((some (l0.set (t248 : Int).toNat (⟨(rd_T177 l0 t248).f0, (⟨a2_0, a2_1, a2_2⟩ : S31), (rd_T177 l0 t248).f2⟩ : S177) : List (S177))).bind fun y252 => (some (y252.set (t248 : Int).toNat (⟨(rd_T177 y252 t248).f0, (⟨(rd_T177 y252 t248).f1.f0, (rd_T177 y252 t248).f1.f1, (rd_T177 y252 t248).f1.f2⟩ : S31), true⟩ : S177)))) else (none)) else (none))) = some r := H
 have A4 := Az.mk A40
 clear A40
 by_cases c5 : t248 < 0
 ·rw [if_pos c5] at H
  have c5b0 : decide (t248 < 0) = true := decide_eq_true c5
  clear c5
  by_cases c6 : l0.length < 2513169434916
  ·rw [if_pos c6] at H
   have LMc6 := Az.mk c6
   clear c6
   obtain ⟨y249, hy249⟩ : ∃ y_ : List (S177), y_ = (l0 ++ [(⟨a1, (⟨a2_0, a2_1, a2_2⟩ : S31), true⟩ : S177)]) := ⟨_, rfl⟩
   replace H : (some y249) = some r := by first | (rw [hy249]; with_reducible exact H) | (have H2_ := (Option.bind_some _ _).symm.trans H; rw [hy249]; with_reducible exact H2_) | (have H2_ := (Option.bind_some _ _).symm.trans H; with_reducible exact H2_) | with_reducible exact H | (rw [hy249]; exact H) | exact H
   have Ny249 := Az.mk hy249
   clear hy249
   obtain rfl := Option.some.inj H
   go_enter Try.func141, Try.ntmps141
   go_wp2_with (first | ((with_reducible refine gate_dst (N := 5) rfl ?_); refine box_event ?hg (N := 5) ?hd (cs := #[.int .i64 a2_0, .string a2_1, .int .i64 a2_2]) (t := 31) ?hr ?_; (case hd => rfl); (case hg => rfl); (case hr => first | (go_simp; done) | (go_simp; rfl)); intro gb247 hg w7 hbox hb; have n0_ := Az.mk (Kd.R_below (by (with_reducible repeat (first | apply Kd.R_alloc | apply Kd.R_drewN | apply Kd.R_drew)); exact HO0.out) hb); have n1_ := Az.mk (Kept.below (S := (fun k_ => P0_ k_)) (by repeat (first | (with_reducible first | exact HK.out | apply Kept.alloc | apply Kept.drewN | apply Kept.drew) | exact HK.out)) hb); have n2_ := Az.mk (below_step (by repeat (first | (with_reducible first | exact HB.out | apply bal | apply bdN | apply bdr) | exact HB.out)) hb); have n3_ := Az.mk (hbox); have n4_ := Az.mk ((by rw [hg]; exact (by first | exact HK.out.1 | exact (show Kept w _ (fun k_ => P0_ k_) from by repeat (first | (with_reducible first | exact HK.out | apply Kept.alloc | apply Kept.drewN | apply Kept.drew) | exact HK.out)).1) : w.heap.size ≤ gb247)); have n5_ := Az.mk ((by rw [hg]; exact (below_size (by repeat (first | (with_reducible first | exact HB.out | apply bal | apply bdN | apply bdr) | exact HB.out))) : w0.heap.size ≤ gb247)); clear HO0; clear HK; clear HB; have HO0 := n0_; have HK := n1_; have HB := n2_; have BK247 := n3_; have GW247 := n4_; have GE247 := n5_; clear n0_ n1_ n2_ n3_ n4_ n5_; clear hb hbox hg; obtain ⟨Ao8, co8, eo8⟩ := Kd.R_slice HO0.out; subst eo8) | ((with_reducible refine gate_callee (f := 144) rfl ?_); refine goesL_ (some 10) rfl rfl Try.func144 (by kernel_rfl) rfl #[.slice Ao8 l0.length co8, .string a1] rfl (by (try simp only [List.map_toArray, List.map_cons, List.map_nil]); first | done | rfl | (simp only [List.length_drop, List.length_take]; rfl)) ?_; (with_reducible refine (spec_find.calls k _ _ l0 a1 t248 _ ?side1 ?side2 A4.out).mono ?_); (case side1 => repeat (first | exact (Kd.R_reads' HO0.out).2.2 | (with_reducible refine Kd.C_alloc ?_ _) | (with_reducible refine Kd.C_drewN ?_ _) | (with_reducible refine Kd.C_drew ?_))); (case side2 => exact (Kd.R_reads' HO0.out).2.1); rintro e w' ⟨rfl, ⟨nd, rfl⟩⟩; refine ⟨_, rfl, ?_⟩; have hcz9_0 : w7.cell? ⟨gb247, 0, none⟩ = some (.int .i64 a2_0) := (bC BK247.out 0).trans rfl; have hcz9_1 : w7.cell? ⟨gb247, 1, none⟩ = some (.string a2_1) := (bC BK247.out 1).trans rfl; have hcz9_2 : w7.cell? ⟨gb247, 2, none⟩ = some (.int .i64 a2_2) := (bC BK247.out 2).trans rfl; have hfz9_0 := bF BK247.out 0; have hfz9_1 := bF BK247.out 1; have hfz9_2 := bF BK247.out 2) | ((with_reducible refine gate_builtin (b := .append) (xs := #[.tmp 13, .tmp 17]) rfl ?_); at_builtin; refine Kd.R_append k177 (w0 := w0) w0.heap.size rfl (.tmp 13) (.tmp 17) 168 177 (.agg #[(.string ⟨#[]⟩), (.int .i64 0), (.string ⟨#[]⟩), (.int .i64 0), (.bool false)]) 56 rfl Try.underlying168 info177 rfl (by decide) (by omega) (.slice Ao8 l0.length co8) l0 (⟨a1, (⟨a2_0, a2_1, a2_2⟩ : S31), true⟩ : S177) [.string a1, .int .i64 a2_0, .string a2_1, .int .i64 a2_2, .bool true] (fun k_ => (P0_ k_ ∨ w.heap.size ≤ k_)) (fun _ => False) rfl rfl ?aP (fun _ hk => hk.elim) ?aF ?aO ?aB ?aS ?aL ?_; (case aP => exact k177_mkM _ _ _ (⟨a1, (⟨a2_0, a2_1, a2_2⟩ : S31), true⟩ : S177)); (case aB => exact (by repeat (first | (with_reducible first | exact HB.out | apply bal | apply bdN | apply bdr | refine bS ?_ GE247.out) | exact HB.out))); (case aF => exact (fun k_ hk => (.inr (Nat.le_trans (by first | exact HK.out.1 | exact (show Kept w _ (fun k_ => P0_ k_) from by repeat (first | (with_reducible first | exact HK.out | apply Kept.alloc | apply Kept.drewN | apply Kept.drew | refine Kept.setCell ?_ (.inr GW247.out) _) | exact HK.out)).1) hk)))); (case aO => exact (by (with_reducible repeat (first | apply Kd.R_alloc | apply Kd.R_drewN | apply Kd.R_drew)); exact HO0.out)); (case aS => exact (below_size (by repeat (first | (with_reducible first | exact HB.out | apply bal | apply bdN | apply bdr | refine bS ?_ GE247.out) | exact HB.out)))); (case aL => have := LMc6.out; omega); intro v250 w10 ho hb hg hat; rw [← Ny249.out] at ho; have n0_ := Az.mk (blk_grown (g := gb247) (o := .cells #[.int .i64 a2_0, .string a2_1, .int .i64 a2_2] 31 (0, 0)) (by (with_reducible repeat (first | refine blk_drewN ?_ _ | refine blk_drew ?_ | refine blk_alloc ?_ _)); exact BK247.out) hg (Kd.R_ne HO0.out BK247.out (by decide))); have n1_ := Az.mk (hb); have n2_ := Az.mk (Kept.of_grown (S := (fun k_ => P0_ k_)) hg (by repeat (first | (with_reducible first | exact HK.out | apply Kept.alloc | apply Kept.drewN | apply Kept.drew | refine Kept.setCell ?_ (.inr GW247.out) _) | exact HK.out)) (fun k_ e_ => (HO0.out.1 k_ e_))); have n3_ := Az.mk (ho); clear BK247; clear HB; clear HK; clear HO0; have BK247 := n0_; have HB := n1_; have HK := n2_; have HO251 := n3_; clear n0_ n1_ n2_ n3_; clear ho hb hg hat))
   go_ret
   exact ⟨_, by first | rfl | (simp [errW_none, errW_some] <;> rfl) | (simp [*, errW_none, errW_some] <;> rfl), by (with_reducible repeat (first | apply Kd.R_alloc | apply Kd.R_drewN | apply Kd.R_drew)); exact HO251.out, by repeat (first | (with_reducible first | exact HB.out | apply bal | apply bdN | apply bdr | refine bS ?_ GE247.out) | exact HB.out), by repeat (first | (with_reducible first | exact HK.out | apply Kept.alloc | apply Kept.drewN | apply Kept.drew | refine Kept.setCell ?_ (.inr GW247.out) _) | exact HK.out)⟩
  ·rw [if_neg c6] at H
   exact absurd H (by simp)
 ·rw [if_neg c5] at H
  have c5b0 : decide (t248 < 0) = false := decide_eq_false c5
  clear c5
  by_cases c11 : 0 ≤ t248
  ·rw [if_pos c11] at H
   have c11b0 : decide (0 ≤ t248) = true := decide_eq_true c11
   clear c11
   by_cases c12 : t248 < (l0.length : Int)
   ·rw [if_pos c12] at H
    have c12b0 : decide (t248 < (l0.length : Int)) = true := decide_eq_true c12
    clear c12
    obtain ⟨y252, hy252⟩ : ∃ y_ : List (S177), y_ = (l0.set (t248 : Int).toNat (⟨(rd_T177 l0 t248).f0, (⟨a2_0, a2_1, a2_2⟩ : S31), (rd_T177 l0 t248).f2⟩ : S177)) := ⟨_, rfl⟩
    replace H : (some (y252.set (t248 : Int).toNat (⟨(rd_T177 y252 t248).f0, (⟨(rd_T177 y252 t248).f1.f0, (rd_T177 y252 t248).f1.f1, (rd_T177 y252 t248).f1.f2⟩ : S31), true⟩ : S177))) = some r := by first | (rw [hy252]; with_reducible exact H) | (have H2_ := (Option.bind_some _ _).symm.trans H; rw [hy252]; with_reducible exact H2_) | (have H2_ := (Option.bind_some _ _).symm.trans H; with_reducible exact H2_) | with_reducible exact H | (rw [hy252]; exact H) | exact H
    have Ny252 := Az.mk hy252
    clear hy252
    obtain ⟨y253, hy253⟩ : ∃ y_ : List (S177), y_ = (y252.set (t248 : Int).toNat (⟨(rd_T177 y252 t248).f0, (⟨(rd_T177 y252 t248).f1.f0, (rd_T177 y252 t248).f1.f1, (rd_T177 y252 t248).f1.f2⟩ : S31), true⟩ : S177)) := ⟨_, rfl⟩
    replace H : (some y253) = some r := by first | (rw [hy253]; with_reducible exact H) | (have H2_ := (Option.bind_some _ _).symm.trans H; rw [hy253]; with_reducible exact H2_) | (have H2_ := (Option.bind_some _ _).symm.trans H; with_reducible exact H2_) | with_reducible exact H | (rw [hy253]; exact H) | exact H
    have Ny253 := Az.mk hy253
    clear hy253
    obtain rfl := Option.some.inj H
    go_enter Try.func141, Try.ntmps141
    go_wp2_with (first | ((with_reducible refine gate_dst (N := 5) rfl ?_); refine box_event ?hg (N := 5) ?hd (cs := #[.int .i64 a2_0, .string a2_1, .int .i64 a2_2]) (t := 31) ?hr ?_; (case hd => rfl); (case hg => rfl); (case hr => first | (go_simp; done) | (go_simp; rfl)); intro gb247 hg w15 hbox hb; have n0_ := Az.mk (Kd.R_below (by (with_reducible repeat (first | apply Kd.R_alloc | apply Kd.R_drewN | apply Kd.R_drew)); exact HO0.out) hb); have n1_ := Az.mk (Kept.below (S := (fun k_ => P0_ k_)) (by repeat (first | (with_reducible first | exact HK.out | apply Kept.alloc | apply Kept.drewN | apply Kept.drew) | exact HK.out)) hb); have n2_ := Az.mk (below_step (by repeat (first | (with_reducible first | exact HB.out | apply bal | apply bdN | apply bdr) | exact HB.out)) hb); have n3_ := Az.mk (hbox); have n4_ := Az.mk ((by rw [hg]; exact (by first | exact HK.out.1 | exact (show Kept w _ (fun k_ => P0_ k_) from by repeat (first | (with_reducible first | exact HK.out | apply Kept.alloc | apply Kept.drewN | apply Kept.drew) | exact HK.out)).1) : w.heap.size ≤ gb247)); have n5_ := Az.mk ((by rw [hg]; exact (below_size (by repeat (first | (with_reducible first | exact HB.out | apply bal | apply bdN | apply bdr) | exact HB.out))) : w0.heap.size ≤ gb247)); clear HO0; clear HK; clear HB; have HO0 := n0_; have HK := n1_; have HB := n2_; have BK247 := n3_; have GW247 := n4_; have GE247 := n5_; clear n0_ n1_ n2_ n3_ n4_ n5_; clear hb hbox hg; obtain ⟨Ao16, co16, eo16⟩ := Kd.R_slice HO0.out; subst eo16) | ((with_reducible refine gate_callee (f := 144) rfl ?_); refine goesL_ (some 10) rfl rfl Try.func144 (by kernel_rfl) rfl #[.slice Ao16 l0.length co16, .string a1] rfl (by (try simp only [List.map_toArray, List.map_cons, List.map_nil]); first | done | rfl | (simp only [List.length_drop, List.length_take]; rfl)) ?_; (with_reducible refine (spec_find.calls k _ _ l0 a1 t248 _ ?side1 ?side2 A4.out).mono ?_); (case side1 => repeat (first | exact (Kd.R_reads' HO0.out).2.2 | (with_reducible refine Kd.C_alloc ?_ _) | (with_reducible refine Kd.C_drewN ?_ _) | (with_reducible refine Kd.C_drew ?_))); (case side2 => exact (Kd.R_reads' HO0.out).2.1); rintro e w' ⟨rfl, ⟨nd, rfl⟩⟩; refine ⟨_, rfl, ?_⟩; (try (rw [drewN_self w15]; generalize hq_ : World.drewN w15 _ = w15; have n0_ : Az (Kd.R k177 177 w15 w0.heap.size (fun k_ => (P0_ k_ ∨ w.heap.size ≤ k_)) (.slice Ao16 l0.length co16) l0) := ⟨by rw [← hq_]; exact (by (with_reducible repeat (first | apply Kd.R_alloc | apply Kd.R_drewN | apply Kd.R_drew)); exact HO0.out)⟩; have n1_ : Az (w15.heap[gb247]? = some (.cells #[.int .i64 a2_0, .string a2_1, .int .i64 a2_2] 31 (0, 0))) := ⟨by rw [← hq_]; exact (by (with_reducible repeat (first | refine blk_drewN ?_ _ | refine blk_drew ?_ | refine blk_alloc ?_ _)); exact BK247.out)⟩; have n2_ : Az (Kept w w15 (fun k_ => P0_ k_)) := ⟨by rw [← hq_]; exact (by repeat (first | (with_reducible first | exact HK.out | apply Kept.alloc | apply Kept.drewN | apply Kept.drew | refine Kept.setCell ?_ (.inr GW247.out) _) | exact HK.out))⟩; have n3_ : Az (Below w0.heap.size w0 w15) := ⟨by rw [← hq_]; exact (by repeat (first | (with_reducible first | exact HB.out | apply bal | apply bdN | apply bdr | refine bS ?_ GE247.out) | exact HB.out))⟩; clear HO0 BK247 HK HB hq_; have HO0 := n0_; have BK247 := n1_; have HK := n2_; have HB := n3_; clear n0_ n1_ n2_ n3_)); have hcz17_0 : w15.cell? ⟨gb247, 0, none⟩ = some (.int .i64 a2_0) := (bC BK247.out 0).trans rfl; have hcz17_1 : w15.cell? ⟨gb247, 1, none⟩ = some (.string a2_1) := (bC BK247.out 1).trans rfl; have hcz17_2 : w15.cell? ⟨gb247, 2, none⟩ = some (.int .i64 a2_2) := (bC BK247.out 2).trans rfl; have hfz17_0 := bF BK247.out 0; have hfz17_1 := bF BK247.out 1; have hfz17_2 := bF BK247.out 2; have p13 : 0 ≤ (t248 : Int) := of_decide_eq_true (by first | (with_reducible assumption) | assumption); have q13 : (t248 : Int) < ((l0.length : Int) : Int) := of_decide_eq_true (by first | (with_reducible assumption) | assumption); obtain ⟨go13, co13, eo13, gb13, gl13, cl13, HG13⟩ := Kd.R_form HO0.out (by omega); (first | cases eo13 | (injection eo13 with ea_ en_ ec_; (first | subst ea_ | (injection ea_ with ea_; subst ea_)); subst ec_; clear en_)); have GB13 := Az.mk gb13; have GG13 := Az.mk HG13; clear gb13 gl13 HG13; have HMgo13 := Az.mk (show (P0_ go13 ∨ w.heap.size ≤ go13) from (HO0.out.1 _ rfl)); obtain ⟨ce13, hcl13, hM13, hcc13, hfr13⟩ := Kd.R_elem HO0.out z177 (t248 : Int) p13 q13; obtain rfl := k177_openM hM13; have hx13_0 : w15.cell? ⟨go13, (t248 : Int).toNat * 5, none⟩ = some (.string ((rd_T177 l0 t248).f0)) := hcc13 0 _ rfl; have hx13_1 : w15.cell? ⟨go13, (t248 : Int).toNat * 5 + 1, none⟩ = some (.int .i64 ((rd_T177 l0 t248).f1.f0)) := hcc13 1 _ rfl; have hx13_2 : w15.cell? ⟨go13, (t248 : Int).toNat * 5 + 2, none⟩ = some (.string ((rd_T177 l0 t248).f1.f1)) := hcc13 2 _ rfl; have hx13_3 : w15.cell? ⟨go13, (t248 : Int).toNat * 5 + 3, none⟩ = some (.int .i64 ((rd_T177 l0 t248).f1.f2)) := hcc13 3 _ rfl; have hx13_4 : w15.cell? ⟨go13, (t248 : Int).toNat * 5 + 4, none⟩ = some (.bool ((rd_T177 l0 t248).f2)) := hcc13 4 _ rfl; have hf13_0 : w15.frozen? ⟨go13, (t248 : Int).toNat * 5, none⟩ = false := hfr13 0; have hf13_1 : w15.frozen? ⟨go13, (t248 : Int).toNat * 5 + 1, none⟩ = false := hfr13 1; have hf13_2 : w15.frozen? ⟨go13, (t248 : Int).toNat * 5 + 2, none⟩ = false := hfr13 2; have hf13_3 : w15.frozen? ⟨go13, (t248 : Int).toNat * 5 + 3, none⟩ = false := hfr13 3; have hf13_4 : w15.frozen? ⟨go13, (t248 : Int).toNat * 5 + 4, none⟩ = false := hfr13 4; clear hcl13 hcc13 hfr13 hM13; replace p13 := eq_true p13; replace q13 := eq_true q13; have HX18 := Az.mk (show Kd.R k177 177 w15 w0.heap.size (fun k_ => (P0_ k_ ∨ w.heap.size ≤ k_)) (.slice (some ⟨go13, 0, none⟩) l0.length co16) l0 from (by (with_reducible repeat (first | apply Kd.R_alloc | apply Kd.R_drewN | apply Kd.R_drew)); exact HO0.out)); obtain ⟨ce18, hcl18, hM18, hcc18, hfr18⟩ := Kd.R_elem HX18.out z177 (t248 : Int) (of_decide_eq_true (by first | (with_reducible assumption) | assumption)) (by have h_ : (t248 : Int) < ((l0.length : Int) : Int) := of_decide_eq_true (by first | (with_reducible assumption) | assumption); first | exact h_ | (have e_ := (Kd.R_reads' HO0.out).1; omega) | simpa using h_); obtain rfl := k177_openM hM18; have HP18 := Kd.R_seg HX18.out (t248 : Int) (of_decide_eq_true (by first | (with_reducible assumption) | assumption)) (by have h_ : (t248 : Int) < ((l0.length : Int) : Int) := of_decide_eq_true (by first | (with_reducible assumption) | assumption); first | exact h_ | (have e_ := (Kd.R_reads' HO0.out).1; omega) | simpa using h_) (seg := [.int .i64 a2_0, .string a2_1, .int .i64 a2_2]) (j := 1) hcl18 hcc18 (show 4 ≤ 5 from by decide) (x' := (⟨(rd_T177 l0 t248).f0, (⟨a2_0, a2_1, a2_2⟩ : S31), (rd_T177 l0 t248).f2⟩ : S177)) (k177_mkM _ _ _ (⟨(rd_T177 l0 t248).f0, (⟨a2_0, a2_1, a2_2⟩ : S31), (rd_T177 l0 t248).f2⟩ : S177) ) (fun _ hk => hk); have hx18_1 := hcc18 1 _ rfl; (try simp only [show (k177).sz = 5 from rfl, Nat.mul_one, Nat.add_zero] at hx18_1); have hf18_1 := hfr18 1; (try simp only [show (k177).sz = 5 from rfl, Nat.mul_one, Nat.add_zero] at hf18_1); have hx18_2 := hcc18 2 _ rfl; (try simp only [show (k177).sz = 5 from rfl, Nat.mul_one, Nat.add_zero] at hx18_2); have hf18_2 := hfr18 2; (try simp only [show (k177).sz = 5 from rfl, Nat.mul_one, Nat.add_zero] at hf18_2); have hx18_3 := hcc18 3 _ rfl; (try simp only [show (k177).sz = 5 from rfl, Nat.mul_one, Nat.add_zero] at hx18_3); have hf18_3 := hfr18 3; (try simp only [show (k177).sz = 5 from rfl, Nat.mul_one, Nat.add_zero] at hf18_3); clear hcl18 hcc18 hfr18 hM18) | ((with_reducible refine gate_store (t := 31) (p := 23) rfl ?_); refine store_event (t := 31) (p := 23) (v := ?vo_w19) (w1 := (((w15.setCell ⟨go13, (t248 : Int).toNat * 5 + 1, none⟩ (.int .i64 a2_0)).setCell ⟨go13, (t248 : Int).toNat * 5 + 2, none⟩ (.string a2_1)).setCell ⟨go13, (t248 : Int).toNat * 5 + 3, none⟩ (.int .i64 a2_2))) ?hg ?ho ?hn ?hr ?_; (case ho => rfl); (case hg => rfl); (case hn => rfl); (case hr => first | (go_simp; done) | (go_simp; rfl)); intro w19 hw; have hg : w15.grownBy w19 (some go13) := (by rw [hw]; exact HP18.2); have hp_ : Kd.R k177 177 w19 w0.heap.size (fun k_ => (P0_ k_ ∨ w.heap.size ≤ k_)) (.slice (some ⟨go13, 0, none⟩) l0.length co16) y252 := (by rw [hw, Ny252.out]; exact HP18.1); clear HP18; have n0_ := Az.mk (hp_); have n1_ := Az.mk (blk_grown (g := gb247) (o := .cells #[.int .i64 a2_0, .string a2_1, .int .i64 a2_2] 31 (0, 0)) (by (with_reducible repeat (first | refine blk_drewN ?_ _ | refine blk_drew ?_ | refine blk_alloc ?_ _)); exact BK247.out) hg (Kd.R_ne HO0.out BK247.out (by decide))); have n2_ := Az.mk ((by rw [hw]; exact bS (bS (bS (HB.out) GB13.out) GB13.out) GB13.out : Below w0.heap.size w0 w19)); have n3_ := Az.mk (Kept.of_grown (S := (fun k_ => P0_ k_)) hg (by repeat (first | (with_reducible first | exact HK.out | apply Kept.alloc | apply Kept.drewN | apply Kept.drew | refine Kept.setCell ?_ (.inr GW247.out) _) | exact HK.out)) (fun k_ e_ => (HO0.out.1 k_ e_))); clear HO0; clear BK247; clear HB; clear HK; have HO0 := n0_; have BK247 := n1_; have HB := n2_; have HK := n3_; clear n0_ n1_ n2_ n3_; clear hg hw hp_; have p14 : 0 ≤ (t248 : Int) := of_decide_eq_true (by first | (with_reducible assumption) | assumption); have q14 : (t248 : Int) < ((l0.length : Int) : Int) := of_decide_eq_true (by first | (with_reducible assumption) | assumption); obtain ⟨ce14, hcl14, hM14, hcc14, hfr14⟩ := Kd.R_elem HO0.out z177 (t248 : Int) p14 q14; obtain rfl := k177_openM hM14; have hx14_0 : w19.cell? ⟨go13, (t248 : Int).toNat * 5, none⟩ = some (.string ((rd_T177 y252 t248).f0)) := hcc14 0 _ rfl; have hx14_1 : w19.cell? ⟨go13, (t248 : Int).toNat * 5 + 1, none⟩ = some (.int .i64 ((rd_T177 y252 t248).f1.f0)) := hcc14 1 _ rfl; have hx14_2 : w19.cell? ⟨go13, (t248 : Int).toNat * 5 + 2, none⟩ = some (.string ((rd_T177 y252 t248).f1.f1)) := hcc14 2 _ rfl; have hx14_3 : w19.cell? ⟨go13, (t248 : Int).toNat * 5 + 3, none⟩ = some (.int .i64 ((rd_T177 y252 t248).f1.f2)) := hcc14 3 _ rfl; have hx14_4 : w19.cell? ⟨go13, (t248 : Int).toNat * 5 + 4, none⟩ = some (.bool ((rd_T177 y252 t248).f2)) := hcc14 4 _ rfl; have hf14_0 : w19.frozen? ⟨go13, (t248 : Int).toNat * 5, none⟩ = false := hfr14 0; have hf14_1 : w19.frozen? ⟨go13, (t248 : Int).toNat * 5 + 1, none⟩ = false := hfr14 1; have hf14_2 : w19.frozen? ⟨go13, (t248 : Int).toNat * 5 + 2, none⟩ = false := hfr14 2; have hf14_3 : w19.frozen? ⟨go13, (t248 : Int).toNat * 5 + 3, none⟩ = false := hfr14 3; have hf14_4 : w19.frozen? ⟨go13, (t248 : Int).toNat * 5 + 4, none⟩ = false := hfr14 4; clear hcl14 hcc14 hfr14 hM14; replace p14 := eq_true p14; replace q14 := eq_true q14; have HX20 := Az.mk (show Kd.R k177 177 w19 w0.heap.size (fun k_ => (P0_ k_ ∨ w.heap.size ≤ k_)) (.slice (some ⟨go13, 0, none⟩) l0.length co16) y252 from (by (with_reducible repeat (first | apply Kd.R_alloc | apply Kd.R_drewN | apply Kd.R_drew)); exact HO0.out)); obtain ⟨ce20, hcl20, hM20, hcc20, hfr20⟩ := Kd.R_elem HX20.out z177 (t248 : Int) (of_decide_eq_true (by first | (with_reducible assumption) | assumption)) (by have h_ : (t248 : Int) < ((l0.length : Int) : Int) := of_decide_eq_true (by first | (with_reducible assumption) | assumption); first | exact h_ | (have e_ := (Kd.R_reads' HO0.out).1; omega) | simpa using h_); obtain rfl := k177_openM hM20; have HP20 := Kd.R_seg HX20.out (t248 : Int) (of_decide_eq_true (by first | (with_reducible assumption) | assumption)) (by have h_ : (t248 : Int) < ((l0.length : Int) : Int) := of_decide_eq_true (by first | (with_reducible assumption) | assumption); first | exact h_ | (have e_ := (Kd.R_reads' HO0.out).1; omega) | simpa using h_) (seg := [.bool true]) (j := 4) hcl20 hcc20 (show 5 ≤ 5 from by decide) (x' := (⟨(rd_T177 y252 t248).f0, (⟨(rd_T177 y252 t248).f1.f0, (rd_T177 y252 t248).f1.f1, (rd_T177 y252 t248).f1.f2⟩ : S31), true⟩ : S177)) (k177_mkM _ _ _ (⟨(rd_T177 y252 t248).f0, (⟨(rd_T177 y252 t248).f1.f0, (rd_T177 y252 t248).f1.f1, (rd_T177 y252 t248).f1.f2⟩ : S31), true⟩ : S177) ) (fun _ hk => hk); have hx20_4 := hcc20 4 _ rfl; (try simp only [show (k177).sz = 5 from rfl, Nat.mul_one, Nat.add_zero] at hx20_4); have hf20_4 := hfr20 4; (try simp only [show (k177).sz = 5 from rfl, Nat.mul_one, Nat.add_zero] at hf20_4); clear hcl20 hcc20 hfr20 hM20) | ((with_reducible refine gate_store (t := 4) (p := 27) rfl ?_); refine store_event (t := 4) (p := 27) (v := ?vo_w21) (w1 := (w19.setCell ⟨go13, (t248 : Int).toNat * 5 + 4, none⟩ (.bool true))) ?hg ?ho ?hn ?hr ?_; (case ho => rfl); (case hg => rfl); (case hn => rfl); (case hr => first | (go_simp; done) | (go_simp; rfl)); intro w21 hw; have hg : w19.grownBy w21 (some go13) := (by rw [hw]; exact HP20.2); have hp_ : Kd.R k177 177 w21 w0.heap.size (fun k_ => (P0_ k_ ∨ w.heap.size ≤ k_)) (.slice (some ⟨go13, 0, none⟩) l0.length co16) y253 := (by rw [hw, Ny253.out]; exact HP20.1); clear HP20; have n0_ := Az.mk (hp_); have n1_ := Az.mk (blk_grown (g := gb247) (o := .cells #[.int .i64 a2_0, .string a2_1, .int .i64 a2_2] 31 (0, 0)) (by (with_reducible repeat (first | refine blk_drewN ?_ _ | refine blk_drew ?_ | refine blk_alloc ?_ _)); exact BK247.out) hg (Kd.R_ne HO0.out BK247.out (by decide))); have n2_ := Az.mk ((by rw [hw]; exact bS (HB.out) GB13.out : Below w0.heap.size w0 w21)); have n3_ := Az.mk (Kept.of_grown (S := (fun k_ => P0_ k_)) hg (by repeat (first | (with_reducible first | exact HK.out | apply Kept.alloc | apply Kept.drewN | apply Kept.drew | refine Kept.setCell ?_ (.inr GW247.out) _) | exact HK.out)) (fun k_ e_ => (HO0.out.1 k_ e_))); clear HO0; clear BK247; clear HB; clear HK; have HO0 := n0_; have BK247 := n1_; have HB := n2_; have HK := n3_; clear n0_ n1_ n2_ n3_; clear hg hw hp_))
    go_ret
    exact ⟨_, by first | rfl | (simp [errW_none, errW_some] <;> rfl) | (simp [*, errW_none, errW_some] <;> rfl), by (with_reducible repeat (first | apply Kd.R_alloc | apply Kd.R_drewN | apply Kd.R_drew)); exact HO0.out, by repeat (first | (with_reducible first | exact HB.out | apply bal | apply bdN | apply bdr | refine bS ?_ GE247.out) | exact HB.out), by repeat (first | (with_reducible first | exact HK.out | apply Kept.alloc | apply Kept.drewN | apply Kept.drew | refine Kept.setCell ?_ (.inr GW247.out) _) | exact HK.out)⟩
   ·rw [if_neg c12] at H
    exact absurd H (by simp)
  ·rw [if_neg c11] at H
   exact absurd H (by simp)
def spec_intVal.f (a0 : ByteArray) : Option (Int × ByteArray × Int) := some (2, a0, 0)
theorem spec_intVal.calls (a0 : ByteArray) (r1 : Int) (r2 : ByteArray) (r3 : Int) (w : World) (h : spec_intVal.f a0 = some (r1, r2, r3)) :
  Calls Try.prog 142 #[.string a0] w fun e w' => e = .returned (.agg #[.int .i64 r1, .string r2, .int .i64 r3]) ∧ Below w.heap.size w w' := by
 have hu31 := Try.underlying31
 have HB := Az.mk (Below.refl w.heap.size w)
 have H : (some (2, a0, 0)) = some (r1, r2, r3) := h
 clear h
 simp only [Option.some.injEq, Prod.mk.injEq] at H
 obtain ⟨rfl, rfl, rfl⟩ := H
 go_enter Try.func142, Try.ntmps142
 go_wp2_with (first | ((with_reducible refine gate_dst (N := 2) rfl ?_); refine box_event ?hg (N := 2) ?hd (cs := #[.int .i64 0, .string (⟨#[]⟩ : ByteArray), .int .i64 0]) (t := 31) ?hr ?_; (case hd => rfl); (case hg => rfl); (case hr => first | (go_simp; done) | (go_simp; rfl)); intro gb254 hg w2 hbox hb; have n0_ := Az.mk (below_step (by repeat (first | (with_reducible first | exact HB.out | apply bal | apply bdN | apply bdr) | exact HB.out)) hb); have n1_ := Az.mk (hbox); have n2_ := Az.mk ((by rw [hg]; exact (below_size (by repeat (first | (with_reducible first | exact HB.out | apply bal | apply bdN | apply bdr) | exact HB.out))) : w.heap.size ≤ gb254)); have n3_ := Az.mk ((by rw [hg]; exact (below_size (by repeat (first | (with_reducible first | exact HB.out | apply bal | apply bdN | apply bdr) | exact HB.out))) : w.heap.size ≤ gb254)); clear HB; have HB := n0_; have BK254 := n1_; have GW254 := n2_; have GE254 := n3_; clear n0_ n1_ n2_ n3_; clear hb hbox hg; have hcz3_0 : w2.cell? ⟨gb254, 0, none⟩ = some (.int .i64 0) := (bC BK254.out 0).trans rfl; have hcz3_1 : w2.cell? ⟨gb254, 1, none⟩ = some (.string (⟨#[]⟩ : ByteArray)) := (bC BK254.out 1).trans rfl; have hcz3_2 : w2.cell? ⟨gb254, 2, none⟩ = some (.int .i64 0) := (bC BK254.out 2).trans rfl; have hfz3_0 := bF BK254.out 0; have hfz3_1 := bF BK254.out 1; have hfz3_2 := bF BK254.out 2))
 refine bodyPost_ret (results_cell_row rfl _ _ gb254 31 #[.int .i64 2, .string a0, .int .i64 0] (0, 0) _ rfl (by (with_reducible repeat (first | refine blk_drewN ?_ _ | refine blk_drew ?_ | refine blk_alloc ?_ _)); refine blk_put (cs := #[.int .i64 2, .string a0, .int .i64 0]) ?_ 2 _ rfl; (with_reducible repeat (first | refine blk_drewN ?_ _ | refine blk_drew ?_ | refine blk_alloc ?_ _)); refine blk_put (cs := #[.int .i64 2, .string (⟨#[]⟩ : ByteArray), .int .i64 0]) ?_ 1 _ rfl; (with_reducible repeat (first | refine blk_drewN ?_ _ | refine blk_drew ?_ | refine blk_alloc ?_ _)); refine blk_put (cs := #[.int .i64 0, .string (⟨#[]⟩ : ByteArray), .int .i64 0]) ?_ 0 _ rfl; (with_reducible repeat (first | refine blk_drewN ?_ _ | refine blk_drew ?_ | refine blk_alloc ?_ _)); exact BK254.out) Try.underlying31 rfl (by kernel_rfl)) rfl ?_
 exact ⟨by first | rfl | (simp [errW_none, errW_some] <;> rfl) | (simp [*, errW_none, errW_some] <;> rfl), by repeat (first | (with_reducible first | exact HB.out | apply bal | apply bdN | apply bdr | refine bS ?_ GE254.out) | exact HB.out)⟩
def spec_positive.l0 : Nat → Int → ByteArray → Option (ByteArray)
 | 0, _, _ => none
 | k + 1, x0, x3 => if (Int.tmod x0 10) < 0 then ((some (([(wrap64 (48 + (wrap64 (-(Int.tmod x0 10))))) % 256] : List Int) : List Int)).bind fun y255 => (if (strOfNums y255).size + x3.size ≤ 9223372036854775807 then (if (wrap64 (Int.tdiv x0 10)) = 0 then (some ((strOfNums y255) ++ x3)) else (spec_positive.l0 k (wrap64 (Int.tdiv x0 10)) ((strOfNums y255) ++ x3))) else (none))) else ((some (([(wrap64 (48 + (Int.tmod x0 10))) % 256] : List Int) : List Int)).bind fun y258 => (if (strOfNums y258).size + x3.size ≤ 9223372036854775807 then (if (wrap64 (Int.tdiv x0 10)) = 0 then (some ((strOfNums y258) ++ x3)) else (spec_positive.l0 k (wrap64 (Int.tdiv x0 10)) ((strOfNums y258) ++ x3))) else (none)))
def spec_positive.f (k : Nat) (a0 : Int) : Option (ByteArray) := spec_positive.l0 k a0 (⟨#[]⟩ : ByteArray)
theorem spec_positive.calls (k : Nat) (a0 : Int) (r : ByteArray) (w : World) (h : spec_positive.f k a0 = some r) :
  Calls Try.prog 148 #[.int .i64 a0] w fun e w' => e = .returned (.string r) ∧ Below w.heap.size w w' := by
 have HB := Az.mk (Below.refl w.heap.size w)
 have H : (spec_positive.l0 k a0 (⟨#[]⟩ : ByteArray)) = some r := h
 clear h
 have H' := Az.mk H
 clear H
 go_enter Try.func148, Try.ntmps148
 go_wp2
 go_loopg [0, 3] k (fun kq v0 v3 w' => ∃ (x0_1 : Int) (x3_1 : ByteArray), v0 = .int .i64 x0_1 ∧ v3 = .string x3_1 ∧ Az (spec_positive.l0 kq x0_1 x3_1 = some r) ∧ Az (kq ≤ k) ∧ Az (Below w.heap.size w w'))
 case atStart => exact ⟨(a0), ((⟨#[]⟩ : ByteArray)), (by first | rfl | (simp; done) | (simp [*]; done)), (by first | rfl | (simp; done) | (simp [*]; done)), H', ⟨Nat.le_refl _⟩, ⟨by repeat (first | (with_reducible first | exact HB.out | apply bal | apply bdN | apply bdr) | exact HB.out)⟩⟩
 case round =>
  clear H'
  try clear c1
  obtain ⟨x0_1, x3_1, rfl, rfl, HA, HK1, HB⟩ := hrel
  cases gk with
  | zero => exact absurd HA.out (by simp [spec_positive.l0])
  | succ k1 =>
   have H := HA.out
   clear HA
   simp only [spec_positive.l0] at H
   by_cases c2 : (Int.tmod x0_1 10) < 0
   ·rw [if_pos c2] at H
    have c2b0 : decide ((Int.tmod x0_1 10) < 0) = true := decide_eq_true c2
    clear c2
    obtain ⟨y255, hy255⟩ : ∃ y_ : List Int, y_ = (([(wrap64 (48 + (wrap64 (-(Int.tmod x0_1 10))))) % 256] : List Int)) := ⟨_, rfl⟩
    replace H : (if (strOfNums y255).size + x3_1.size ≤ 9223372036854775807 then (if (wrap64 (Int.tdiv x0_1 10)) = 0 then (some ((strOfNums y255) ++ x3_1)) else (spec_positive.l0 k1 (wrap64 (Int.tdiv x0_1 10)) ((strOfNums y255) ++ x3_1))) else (none)) = some r := by first | (rw [hy255]; with_reducible exact H) | (have H2_ := (Option.bind_some _ _).symm.trans H; rw [hy255]; with_reducible exact H2_) | (have H2_ := (Option.bind_some _ _).symm.trans H; with_reducible exact H2_) | with_reducible exact H | (rw [hy255]; exact H) | exact H
    have Ny255 := Az.mk hy255
    clear hy255
    by_cases c3 : (strOfNums y255).size + x3_1.size ≤ 9223372036854775807
    ·rw [if_pos c3] at H
     have c3b0 := eq_true c3
     have c3b1 : decide ((strOfNums y255).size + x3_1.size ≤ 9223372036854775807) = true := decide_eq_true c3
     try have c3b2 : (9223372036854775807 < (strOfNums y255).size + x3_1.size) = False := eq_false (Nat.not_lt.2 c3)
     by_cases c4 : (wrap64 (Int.tdiv x0_1 10)) = 0
     ·rw [if_pos c4] at H
      have c4b0 : ((wrap64 (Int.tdiv x0_1 10)) == 0) = true := beq_iff_eq.mpr c4
      have c4b1 : ((wrap64 (Int.tdiv x0_1 10)) != 0) = false := bne_eq_false_iff_eq.mpr c4
      clear c4
      obtain rfl := Option.some.inj H
      go_wp2_with (first | ((with_reducible refine gate_dst (N := 14) rfl ?_); refine Kd.R_lit (Kd.int .u8) _ 5 ?hg (N := 14) ?hd (xs := ([(wrap64 (48 + (wrap64 (-(Int.tmod x0_1 10))))) % 256] : List Int)) (inner := [.int .u8 ((wrap64 (48 + (wrap64 (-(Int.tmod x0_1 10))))) % 256)]) (ok := fun _ => True) (okp := fun _ => True) ?hr ?hp (fun _ hk => hk) trivial (Below.refl _ _) (Nat.le_refl _) (by simp) ?_; (case hd => rfl); (case hg => rfl); (case hr => first | (go_simp; done) | (go_simp; rfl)); (case hp => exact (Reps.one (show Kd.M (Kd.int .u8) _ _ _ ((wrap64 (48 + (wrap64 (-(Int.tmod x0_1 10))))) % 256) [.int .u8 ((wrap64 (48 + (wrap64 (-(Int.tmod x0_1 10))))) % 256)] from rfl) (Reps.none _ _))); intro v256 w5 ho6 hb hg_ hnew_; clear hg_ hnew_; (first | rw [← Ny255.out] at ho6 | (simp only [Int.reduceToNat] at ho6; rw [← Ny255.out] at ho6)); have n0_ := Az.mk (Kd.R_lower ho6 (below_size (by repeat (first | (with_reducible first | exact HB.out | apply bal | apply bdN | apply bdr) | exact HB.out)))); have n1_ := Az.mk (below_step (by repeat (first | (with_reducible first | exact HB.out | apply bal | apply bdN | apply bdr) | exact HB.out)) hb); clear HB; have HO257 := n0_; have HB := n1_; clear n0_ n1_; clear hb ho6; have hcv7 := own_string (P := Try.prog) Try.underlying22 Try.underlying5 Try.underlying9 (Kd.own_of_R HO257.out)))
      go_ret
      exact ⟨by first | rfl | (simp [errW_none, errW_some] <;> rfl) | (simp [*, errW_none, errW_some] <;> rfl), by repeat (first | (with_reducible first | exact HB.out | apply bal | apply bdN | apply bdr) | exact HB.out)⟩
     ·rw [if_neg c4] at H
      have c4b0 : ((wrap64 (Int.tdiv x0_1 10)) == 0) = false := beq_eq_false_iff_ne.mpr c4
      have c4b1 : ((wrap64 (Int.tdiv x0_1 10)) != 0) = true := bne_iff_ne.mpr c4
      have H' := Az.mk H
      clear H
      go_wp2_with (first | ((with_reducible refine gate_dst (N := 14) rfl ?_); refine Kd.R_lit (Kd.int .u8) _ 5 ?hg (N := 14) ?hd (xs := ([(wrap64 (48 + (wrap64 (-(Int.tmod x0_1 10))))) % 256] : List Int)) (inner := [.int .u8 ((wrap64 (48 + (wrap64 (-(Int.tmod x0_1 10))))) % 256)]) (ok := fun _ => True) (okp := fun _ => True) ?hr ?hp (fun _ hk => hk) trivial (Below.refl _ _) (Nat.le_refl _) (by simp) ?_; (case hd => rfl); (case hg => rfl); (case hr => first | (go_simp; done) | (go_simp; rfl)); (case hp => exact (Reps.one (show Kd.M (Kd.int .u8) _ _ _ ((wrap64 (48 + (wrap64 (-(Int.tmod x0_1 10))))) % 256) [.int .u8 ((wrap64 (48 + (wrap64 (-(Int.tmod x0_1 10))))) % 256)] from rfl) (Reps.none _ _))); intro v256 w8 ho9 hb hg_ hnew_; clear hg_ hnew_; (first | rw [← Ny255.out] at ho9 | (simp only [Int.reduceToNat] at ho9; rw [← Ny255.out] at ho9)); have n0_ := Az.mk (Kd.R_lower ho9 (below_size (by repeat (first | (with_reducible first | exact HB.out | apply bal | apply bdN | apply bdr) | exact HB.out)))); have n1_ := Az.mk (below_step (by repeat (first | (with_reducible first | exact HB.out | apply bal | apply bdN | apply bdr) | exact HB.out)) hb); clear HB; have HO257 := n0_; have HB := n1_; clear n0_ n1_; clear hb ho9; have hcv10 := own_string (P := Try.prog) Try.underlying22 Try.underlying5 Try.underlying9 (Kd.own_of_R HO257.out)))
      go_roundg k1
      case measure => have := HK1.out; omega
      case rel => exact ⟨(wrap64 (Int.tdiv x0_1 10)), ((strOfNums y255) ++ x3_1), (by first | rfl | (simp; done) | (simp [*]; done)), (by first | rfl | (simp; done) | (simp [*]; done)), H', ⟨by have := HK1.out; omega⟩, ⟨by repeat (first | (with_reducible first | exact HB.out | apply bal | apply bdN | apply bdr) | exact HB.out)⟩⟩
    ·rw [if_neg c3] at H
     exact absurd H (by simp)
   ·rw [if_neg c2] at H
    have c2b0 : decide ((Int.tmod x0_1 10) < 0) = false := decide_eq_false c2
    clear c2
    obtain ⟨y258, hy258⟩ : ∃ y_ : List Int, y_ = (([(wrap64 (48 + (Int.tmod x0_1 10))) % 256] : List Int)) := ⟨_, rfl⟩
    replace H : (if (strOfNums y258).size + x3_1.size ≤ 9223372036854775807 then (if (wrap64 (Int.tdiv x0_1 10)) = 0 then (some ((strOfNums y258) ++ x3_1)) else (spec_positive.l0 k1 (wrap64 (Int.tdiv x0_1 10)) ((strOfNums y258) ++ x3_1))) else (none)) = some r := by first | (rw [hy258]; with_reducible exact H) | (have H2_ := (Option.bind_some _ _).symm.trans H; rw [hy258]; with_reducible exact H2_) | (have H2_ := (Option.bind_some _ _).symm.trans H; with_reducible exact H2_) | with_reducible exact H | (rw [hy258]; exact H) | exact H
    have Ny258 := Az.mk hy258
    clear hy258
    by_cases c11 : (strOfNums y258).size + x3_1.size ≤ 9223372036854775807
    ·rw [if_pos c11] at H
     have c11b0 := eq_true c11
     have c11b1 : decide ((strOfNums y258).size + x3_1.size ≤ 9223372036854775807) = true := decide_eq_true c11
     try have c11b2 : (9223372036854775807 < (strOfNums y258).size + x3_1.size) = False := eq_false (Nat.not_lt.2 c11)
     by_cases c12 : (wrap64 (Int.tdiv x0_1 10)) = 0
     ·rw [if_pos c12] at H
      have c12b0 : ((wrap64 (Int.tdiv x0_1 10)) == 0) = true := beq_iff_eq.mpr c12
      have c12b1 : ((wrap64 (Int.tdiv x0_1 10)) != 0) = false := bne_eq_false_iff_eq.mpr c12
      clear c12
      obtain rfl := Option.some.inj H
      go_wp2_with (first | ((with_reducible refine gate_dst (N := 14) rfl ?_); refine Kd.R_lit (Kd.int .u8) _ 5 ?hg (N := 14) ?hd (xs := ([(wrap64 (48 + (Int.tmod x0_1 10))) % 256] : List Int)) (inner := [.int .u8 ((wrap64 (48 + (Int.tmod x0_1 10))) % 256)]) (ok := fun _ => True) (okp := fun _ => True) ?hr ?hp (fun _ hk => hk) trivial (Below.refl _ _) (Nat.le_refl _) (by simp) ?_; (case hd => rfl); (case hg => rfl); (case hr => first | (go_simp; done) | (go_simp; rfl)); (case hp => exact (Reps.one (show Kd.M (Kd.int .u8) _ _ _ ((wrap64 (48 + (Int.tmod x0_1 10))) % 256) [.int .u8 ((wrap64 (48 + (Int.tmod x0_1 10))) % 256)] from rfl) (Reps.none _ _))); intro v259 w13 ho14 hb hg_ hnew_; clear hg_ hnew_; (first | rw [← Ny258.out] at ho14 | (simp only [Int.reduceToNat] at ho14; rw [← Ny258.out] at ho14)); have n0_ := Az.mk (Kd.R_lower ho14 (below_size (by repeat (first | (with_reducible first | exact HB.out | apply bal | apply bdN | apply bdr) | exact HB.out)))); have n1_ := Az.mk (below_step (by repeat (first | (with_reducible first | exact HB.out | apply bal | apply bdN | apply bdr) | exact HB.out)) hb); clear HB; have HO260 := n0_; have HB := n1_; clear n0_ n1_; clear hb ho14; have hcv15 := own_string (P := Try.prog) Try.underlying22 Try.underlying5 Try.underlying9 (Kd.own_of_R HO260.out)))
      go_ret
      exact ⟨by first | rfl | (simp [errW_none, errW_some] <;> rfl) | (simp [*, errW_none, errW_some] <;> rfl), by repeat (first | (with_reducible first | exact HB.out | apply bal | apply bdN | apply bdr) | exact HB.out)⟩
     ·rw [if_neg c12] at H
      have c12b0 : ((wrap64 (Int.tdiv x0_1 10)) == 0) = false := beq_eq_false_iff_ne.mpr c12
      have c12b1 : ((wrap64 (Int.tdiv x0_1 10)) != 0) = true := bne_iff_ne.mpr c12
      have H' := Az.mk H
      clear H
      go_wp2_with (first | ((with_reducible refine gate_dst (N := 14) rfl ?_); refine Kd.R_lit (Kd.int .u8) _ 5 ?hg (N := 14) ?hd (xs := ([(wrap64 (48 + (Int.tmod x0_1 10))) % 256] : List Int)) (inner := [.int .u8 ((wrap64 (48 + (Int.tmod x0_1 10))) % 256)]) (ok := fun _ => True) (okp := fun _ => True) ?hr ?hp (fun _ hk => hk) trivial (Below.refl _ _) (Nat.le_refl _) (by simp) ?_; (case hd => rfl); (case hg => rfl); (case hr => first | (go_simp; done) | (go_simp; rfl)); (case hp => exact (Reps.one (show Kd.M (Kd.int .u8) _ _ _ ((wrap64 (48 + (Int.tmod x0_1 10))) % 256) [.int .u8 ((wrap64 (48 + (Int.tmod x0_1 10))) % 256)] from rfl) (Reps.none _ _))); intro v259 w16 ho17 hb hg_ hnew_; clear hg_ hnew_; (first | rw [← Ny258.out] at ho17 | (simp only [Int.reduceToNat] at ho17; rw [← Ny258.out] at ho17)); have n0_ := Az.mk (Kd.R_lower ho17 (below_size (by repeat (first | (with_reducible first | exact HB.out | apply bal | apply bdN | apply bdr) | exact HB.out)))); have n1_ := Az.mk (below_step (by repeat (first | (with_reducible first | exact HB.out | apply bal | apply bdN | apply bdr) | exact HB.out)) hb); clear HB; have HO260 := n0_; have HB := n1_; clear n0_ n1_; clear hb ho17; have hcv18 := own_string (P := Try.prog) Try.underlying22 Try.underlying5 Try.underlying9 (Kd.own_of_R HO260.out)))
      go_roundg k1
      case measure => have := HK1.out; omega
      case rel => exact ⟨(wrap64 (Int.tdiv x0_1 10)), ((strOfNums y258) ++ x3_1), (by first | rfl | (simp; done) | (simp [*]; done)), (by first | rfl | (simp; done) | (simp [*]; done)), H', ⟨by have := HK1.out; omega⟩, ⟨by repeat (first | (with_reducible first | exact HB.out | apply bal | apply bdN | apply bdr) | exact HB.out)⟩⟩
    ·rw [if_neg c11] at H
     exact absurd H (by simp)
def spec_decimal.f (k : Nat) (a0 : Int) : Option (ByteArray) := if a0 < 0 then ((spec_positive.f k a0).bind fun t261 => (if 1 + t261.size ≤ 9223372036854775807 then (some ((⟨#[45]⟩ : ByteArray) ++ t261)) else (none))) else ((spec_positive.f k a0).bind fun t262 => (some t262))
theorem spec_decimal.calls (k : Nat) (a0 : Int) (r : ByteArray) (w : World) (h : spec_decimal.f k a0 = some r) :
  Calls Try.prog 143 #[.int .i64 a0] w fun e w' => e = .returned (.string r) ∧ Below w.heap.size w w' := by
 have HB := Az.mk (Below.refl w.heap.size w)
 have H : (if a0 < 0 then ((spec_positive.f k a0).bind fun t261 => (if 1 + t261.size ≤ 9223372036854775807 then (some ((⟨#[45]⟩ : ByteArray) ++ t261)) else (none))) else ((spec_positive.f k a0).bind fun t262 => (some t262))) = some r := h
 clear h
 by_cases c2 : a0 < 0
 ·rw [if_pos c2] at H
  have c2b0 : decide (a0 < 0) = true := decide_eq_true c2
  clear c2
  replace H := Option.bind_eq_some_iff.mp H
  obtain ⟨t261, A30, H⟩ := H
  replace H : (if 1 + t261.size ≤ 9223372036854775807 then (some ((⟨#[45]⟩ : ByteArray) ++ t261)) else (none)) = some r := H
  have A3 := Az.mk A30
  clear A30
  by_cases c4 : 1 + t261.size ≤ 9223372036854775807
  ·rw [if_pos c4] at H
   have c4b0 := eq_true c4
   have c4b1 : decide (1 + t261.size ≤ 9223372036854775807) = true := decide_eq_true c4
   try have c4b2 : (9223372036854775807 < 1 + t261.size) = False := eq_false (Nat.not_lt.2 c4)
   obtain rfl := Option.some.inj H
   go_enter Try.func143, Try.ntmps143
   go_wp2_with (first | ((with_reducible refine gate_callee (f := 148) rfl ?_); refine goesL_ (some 6) rfl rfl Try.func148 (by kernel_rfl) rfl #[.int .i64 a0] rfl (by (try simp only [List.map_toArray, List.map_cons, List.map_nil]); first | done | rfl | (simp only [List.length_drop, List.length_take]; rfl)) ?_; (with_reducible refine (spec_positive.calls k a0 t261 _ A3.out).mono ?_); rintro e w5 ⟨rfl, hb⟩; refine ⟨_, rfl, ?_⟩; have n0_ := Az.mk (below_step (by repeat (first | (with_reducible first | exact HB.out | apply bal | apply bdN | apply bdr) | exact HB.out)) hb); clear HB; have HB := n0_; clear n0_; (try clear hb); (try clear hb2); (try clear hk); (try clear hi)))
   go_ret
   exact ⟨by first | rfl | (simp [errW_none, errW_some] <;> rfl) | (simp [*, errW_none, errW_some] <;> rfl), by repeat (first | (with_reducible first | exact HB.out | apply bal | apply bdN | apply bdr) | exact HB.out)⟩
  ·rw [if_neg c4] at H
   exact absurd H (by simp)
 ·rw [if_neg c2] at H
  have c2b0 : decide (a0 < 0) = false := decide_eq_false c2
  clear c2
  replace H := Option.bind_eq_some_iff.mp H
  obtain ⟨t262, A60, H⟩ := H
  replace H : (some t262) = some r := H
  have A6 := Az.mk A60
  clear A60
  obtain rfl := Option.some.inj H
  go_enter Try.func143, Try.ntmps143
  go_wp2_with (first | ((with_reducible refine gate_callee (f := 148) rfl ?_); refine goesL_ (some 9) rfl rfl Try.func148 (by kernel_rfl) rfl #[.int .i64 a0] rfl (by (try simp only [List.map_toArray, List.map_cons, List.map_nil]); first | done | rfl | (simp only [List.length_drop, List.length_take]; rfl)) ?_; (with_reducible refine (spec_positive.calls k a0 t262 _ A6.out).mono ?_); rintro e w7 ⟨rfl, hb⟩; refine ⟨_, rfl, ?_⟩; have n0_ := Az.mk (below_step (by repeat (first | (with_reducible first | exact HB.out | apply bal | apply bdN | apply bdr) | exact HB.out)) hb); clear HB; have HB := n0_; clear n0_; (try clear hb); (try clear hb2); (try clear hk); (try clear hi)))
  go_ret
  exact ⟨by first | rfl | (simp [errW_none, errW_some] <;> rfl) | (simp [*, errW_none, errW_some] <;> rfl), by repeat (first | (with_reducible first | exact HB.out | apply bal | apply bdN | apply bdr) | exact HB.out)⟩
def spec_inList.l0 : Nat → List Int → Int → Int → Option (Bool)
 | 0, _, _, _ => none
 | k + 1, x0, x1, x5 => if x5 < (x0.length : Int) then (if 0 ≤ x5 then (if (rd x0 x5) = x1 then (some true) else (spec_inList.l0 k x0 x1 (wrap64 (x5 + 1)))) else (none)) else (some false)
def spec_inList.f (k : Nat) (l0 : List Int) (a1 : Int) : Option (Bool) := spec_inList.l0 k l0 a1 0
theorem spec_inList.calls (k : Nat) (A0 : Option Addr) (c0 : Nat) (l0 : List Int) (a1 : Int) (r : Bool) (w : World) (hr0 : Kd.C (Kd.int .i64) w A0 l0.length l0) (hc0 : l0.length ≤ c0) (h : spec_inList.f k l0 a1 = some r) :
  Calls Try.prog 86 #[.slice A0 l0.length c0, .int .i64 a1] w fun e w' => e = .returned (.bool r) ∧ Drawn0 w w' := by
 have HR0 := Az.mk hr0
 have HC0 := Az.mk hc0
 clear hr0 hc0
 have H : (spec_inList.l0 k l0 a1 0) = some r := h
 clear h
 have H' := Az.mk H
 clear H
 go_enter Try.func86, Try.ntmps86
 go_wp2
 go_loopg [5] k (fun kq v5 w' => ∃ (x5_1 : Int), v5 = .int .i64 x5_1 ∧ Az (spec_inList.l0 kq l0 a1 x5_1 = some r) ∧ Az (kq ≤ k) ∧ Drawn0 w w')
 case atStart => exact ⟨(0), (by first | rfl | (simp; done) | (simp [*]; done)), H', ⟨Nat.le_refl _⟩, by repeat (first | exact Drawn0.refl _ | apply Drawn0.step)⟩
 case round =>
  clear H'
  try clear p2
  obtain ⟨x5_1, rfl, HA, HK1, ⟨m1, rfl⟩⟩ := hrel
  cases gk with
  | zero => exact absurd HA.out (by simp [spec_inList.l0])
  | succ k1 =>
   have H := HA.out
   clear HA
   simp only [spec_inList.l0] at H
   by_cases c3 : x5_1 < (l0.length : Int)
   ·rw [if_pos c3] at H
    have c3b0 : decide (x5_1 < (l0.length : Int)) = true := decide_eq_true c3
    clear c3
    by_cases c4 : 0 ≤ x5_1
    ·rw [if_pos c4] at H
     have c4b0 : decide (0 ≤ x5_1) = true := decide_eq_true c4
     clear c4
     by_cases c5 : (rd l0 x5_1) = a1
     ·rw [if_pos c5] at H
      have c5b0 : ((rd l0 x5_1) == a1) = true := beq_iff_eq.mpr c5
      have c5b1 : ((rd l0 x5_1) != a1) = false := bne_eq_false_iff_eq.mpr c5
      clear c5
      obtain rfl := Option.some.inj H
      have p263 : 0 ≤ (x5_1 : Int) := of_decide_eq_true (by first | (with_reducible assumption) | assumption)
      have q263 : x5_1 < (l0.length : Int) := of_decide_eq_true (by first | (with_reducible assumption) | assumption)
      obtain ⟨ad263, e263, hx263_0⟩ := Kd.at_int HR0.out x5_1 p263 q263
      cases e263
      replace p263 := eq_true p263
      replace q263 := eq_true q263
      go_wp2
      go_ret
      exact ⟨by first | rfl | (simp; done) | (simp [*]; done), by repeat (first | exact Drawn0.refl _ | apply Drawn0.step)⟩
     ·rw [if_neg c5] at H
      have c5b0 : ((rd l0 x5_1) == a1) = false := beq_eq_false_iff_ne.mpr c5
      have c5b1 : ((rd l0 x5_1) != a1) = true := bne_iff_ne.mpr c5
      have H' := Az.mk H
      clear H
      have p263 : 0 ≤ (x5_1 : Int) := of_decide_eq_true (by first | (with_reducible assumption) | assumption)
      have q263 : x5_1 < (l0.length : Int) := of_decide_eq_true (by first | (with_reducible assumption) | assumption)
      obtain ⟨ad263, e263, hx263_0⟩ := Kd.at_int HR0.out x5_1 p263 q263
      cases e263
      replace p263 := eq_true p263
      replace q263 := eq_true q263
      go_wp2
      go_roundg k1
      case measure => have := HK1.out; omega
      case rel => exact ⟨(wrap64 (x5_1 + 1)), (by first | rfl | (simp; done) | (simp [*]; done)), H', ⟨by have := HK1.out; omega⟩, by repeat (first | exact Drawn0.refl _ | apply Drawn0.step)⟩
    ·rw [if_neg c4] at H
     exact absurd H (by simp)
   ·rw [if_neg c3] at H
    have c3b0 : decide (x5_1 < (l0.length : Int)) = false := decide_eq_false c3
    clear c3
    obtain rfl := Option.some.inj H
    go_wp2
    go_ret
    exact ⟨by first | rfl | (simp; done) | (simp [*]; done), by repeat (first | exact Drawn0.refl _ | apply Drawn0.step)⟩
def spec_HasInt.f (k : Nat) (l0 : List Int) (a1 : Int) : Option (Bool) := (spec_inList.f k l0 a1).bind fun t264 => (some t264)
theorem spec_HasInt.calls (k : Nat) (A0 : Option Addr) (c0 : Nat) (l0 : List Int) (a1 : Int) (r : Bool) (w : World) (hr0 : Kd.C (Kd.int .i64) w A0 l0.length l0) (hc0 : l0.length ≤ c0) (h : spec_HasInt.f k l0 a1 = some r) :
  Calls Try.prog 42 #[.slice A0 l0.length c0, .int .i64 a1] w fun e w' => e = .returned (.bool r) ∧ Drawn0 w w' := by
 have HR0 := Az.mk hr0
 have HC0 := Az.mk hc0
 clear hr0 hc0
 have H : ((spec_inList.f k l0 a1).bind fun t264 => (some t264)) = some r := h
 clear h
 replace H := Option.bind_eq_some_iff.mp H
 obtain ⟨t264, A30, H⟩ := H
 replace H : (some t264) = some r := H
 have A3 := Az.mk A30
 clear A30
 obtain rfl := Option.some.inj H
 go_enter Try.func42, Try.ntmps42
 go_wp2_with (first | ((with_reducible refine gate_callee (f := 86) rfl ?_); refine goesL_ (some 7) rfl rfl Try.func86 (by kernel_rfl) rfl #[.slice A0 l0.length c0, .int .i64 a1] rfl (by (try simp only [List.map_toArray, List.map_cons, List.map_nil]); first | done | rfl | (simp only [List.length_drop, List.length_take]; rfl)) ?_; (with_reducible refine (spec_inList.calls k _ _ l0 a1 t264 _ ?side1 ?side2 A3.out).mono ?_); (case side1 => repeat (first | exact HR0.out | (with_reducible refine Kd.C_alloc ?_ _) | (with_reducible refine Kd.C_drewN ?_ _) | (with_reducible refine Kd.C_drew ?_))); (case side2 => exact HC0.out); rintro e w' ⟨rfl, ⟨nd, rfl⟩⟩; refine ⟨_, rfl, ?_⟩))
 go_ret
 exact ⟨by first | rfl | (simp; done) | (simp [*]; done), by repeat (first | exact Drawn0.refl _ | apply Drawn0.step)⟩
end Go.Proofs.Ytehhhlhedmfdiaa.PFnImportRun
end
section
namespace Go.Proofs.Ytehhhlhedmfdiaa.PFnImportRun
open Go.RowKit Go.Proofs.Yz0.PrintWords Go.Proofs.Yz0.PrintLast Go.Proofs.Yz0.PrintMore
set_option linter.unusedVariables false
set_option linter.unusedSimpArgs false
def fidx (s : ByteArray) : List S177 → Nat → Option Nat
 | [], _ => none
 | x :: l, i => if x.f0 = s then some i else fidx s l (i + 1)
theorem fidx_bd {s : ByteArray} : ∀ {l : List S177} {i j : Nat}, fidx s l i = some j → i ≤ j ∧ j < i + l.length ∧ (rd_T177 l ((j - i : Nat) : Int)).f0 = s := by
 intro l
 induction l with
 | nil => intro i j h; simp [fidx] at h
 | cons x l ih =>
  intro i j h
  unfold fidx at h
  split at h
  ·injection h with h; subst h; exact ⟨by omega, by simp, by simpa [rd_T177] using ‹x.f0 = s›⟩
  ·obtain ⟨h1, h2, h3⟩ := ih h
   refine ⟨by omega, by simp; omega, ?_⟩
   have e : j - i = (j - (i + 1)) + 1 := by omega
   rw [e]
   have : rd_T177 (x :: l) ((j - (i + 1) + 1 : Nat) : Int) = rd_T177 l ((j - (i + 1) : Nat) : Int) := by
    unfold rd_T177
    rw [show (((j - (i + 1) + 1 : Nat) : Int)).toNat = (j - (i + 1)) + 1 from rfl, show (((j - (i + 1) : Nat) : Int)).toNat = j - (i + 1) from rfl, List.getD_cons_succ]
   rw [this]; exact h3
def fval : Option Nat → Int
 | none => -1
 | some j => (j : Int)
theorem bytes_eq {a b : ByteArray} : a.toList = b.toList ↔ a = b := by
 constructor
 ·intro h
  rw [Lib.toList_data, Lib.toList_data] at h
  exact ByteArray.ext (Array.toList_inj.mp h)
 ·intro h; rw [h]
theorem rd177_cons (x : S177) (l : List S177) (n : Nat) : rd_T177 (x :: l) ((n + 1 : Nat) : Int) = rd_T177 l (n : Int) := by
 unfold rd_T177
 rw [show ((n + 1 : Nat) : Int).toNat = n + 1 from rfl, show ((n : Nat) : Int).toNat = n from rfl, List.getD_cons_succ]
theorem find_l0 (l : List S177) (s : ByteArray) : ∀ (d k i : Nat), i + d = l.length → d < k → l.length ≤ 9000000000000000000 → spec_find.l0 k l s (i : Int) = some (fval (fidx s (l.drop i) i)) := by
 intro d
 induction d with
 | zero =>
  intro k i hi hk _
  obtain ⟨k, rfl⟩ : ∃ m, k = m + 1 := ⟨k - 1, by omega⟩
  simp only [spec_find.l0]
  rw [if_neg (by omega), List.drop_of_length_le (by omega)]
  rfl
 | succ d ih =>
  intro k i hi hk hm
  obtain ⟨k, rfl⟩ : ∃ m, k = m + 1 := ⟨k - 1, by omega⟩
  simp only [spec_find.l0]
  rw [if_pos (by omega), if_pos (by omega)]
  have hlt : i < l.length := by omega
  have hd := List.drop_eq_getElem_cons hlt
  have hr : rd_T177 l (i : Int) = l[i] := by
   unfold rd_T177
   rw [show ((i : Nat) : Int).toNat = i from rfl, List.getD_eq_getElem?_getD, List.getElem?_eq_getElem hlt]; rfl
  rw [hd, hr]
  unfold fidx
  by_cases h : l[i].f0 = s
  ·rw [if_pos h, if_pos (by rw [h])]; rfl
  ·rw [if_neg h, if_neg (fun e => h (bytes_eq.1 e))]
   have hw : wrap64 ((i : Int) + 1) = ((i + 1 : Nat) : Int) := by unfold wrap64; omega
   rw [hw]
   exact ih k (i + 1) (by omega) (by omega) hm
theorem find_f {l : List S177} {s : ByteArray} (hm : l.length ≤ 9000000000000000000) : spec_find.f (l.length + 1) l s = some (fval (fidx s l 0)) := by
 unfold spec_find.f
 exact find_l0 l s l.length _ 0 (by omega) (by omega) hm
def putVs (l : List S177) (s : ByteArray) (v : S31) : List S177 :=
 match fidx s l 0 with
 | none => l ++ [⟨s, v, true⟩]
 | some j => l.set j ⟨(rd_T177 l (j : Int)).f0, v, true⟩
theorem rd177_set {l : List S177} {j : Nat} {y : S177} (h : j < l.length) : rd_T177 (l.set j y) (j : Int) = y := by
 unfold rd_T177
 rw [show ((j : Nat) : Int).toNat = j from rfl, List.getD_eq_getElem?_getD, List.getElem?_set_self h]; rfl
theorem rd177_set_ne {l : List S177} {i j : Nat} {y : S177} (h : i ≠ j) : rd_T177 (l.set i y) (j : Int) = rd_T177 l (j : Int) := by
 unfold rd_T177
 rw [show ((j : Nat) : Int).toNat = j from rfl, List.getD_eq_getElem?_getD, List.getD_eq_getElem?_getD, List.getElem?_set_ne h]
theorem put_f {l : List S177} {s b : ByteArray} {a c : Int} (hm : l.length < 1000000000000) : spec_put.f (l.length + 1) l s a b c = some (putVs l s ⟨a, b, c⟩) := by
 unfold spec_put.f putVs
 rw [find_f (by omega)]
 simp only [Option.bind_some]
 cases h : fidx s l 0 with
 | none =>
  rw [show fval none = -1 from rfl, if_pos (by omega), if_pos (by omega)]
 | some j =>
  obtain ⟨_, h2, _⟩ := fidx_bd h
  have h2 : j < l.length := by omega
  rw [show fval (some j) = (j : Int) from rfl, if_neg (by omega), if_pos (by omega), if_pos (by omega), show ((j : Nat) : Int).toNat = j from rfl, rd177_set h2, List.set_set]
theorem fidx_append {s : ByteArray} {y : S177} : ∀ {l : List S177} {i : Nat}, fidx s (l ++ [y]) i = match fidx s l i with | some j => some j | none => if y.f0 = s then some (i + l.length) else none := by
 intro l
 induction l with
 | nil => intro i; simp [fidx]
 | cons x l ih =>
  intro i
  simp only [List.cons_append, fidx]
  split
  ·rfl
  ·rw [ih]
   have : i + 1 + l.length = i + (x :: l).length := by simp; omega
   rw [this]
theorem fidx_set {s : ByteArray} {y : S177} : ∀ {l : List S177} {i j : Nat}, j < l.length → y.f0 = (rd_T177 l (j : Int)).f0 → fidx s (l.set j y) i = fidx s l i := by
 intro l
 induction l with
 | nil => intro i j h; simp at h
 | cons x l ih =>
  intro i j hj hy
  cases j with
  | zero =>
   have : (rd_T177 (x :: l) ((0 : Nat) : Int)) = x := rfl
   rw [this] at hy
   simp only [List.set_cons_zero, fidx, hy]
  | succ j =>
   rw [rd177_cons] at hy
   simp only [List.set_cons_succ, fidx]
   rw [ih (by simpa using hj) hy]
def VsIs (dec : Int → ByteArray) (vs : List S177) (nm : List (ByteArray × Int)) : Prop :=
 vs.length ≤ nm.length ∧ ∀ s, match look nm s with
  | none => fidx s vs 0 = none
  | some v => ∃ j, fidx s vs 0 = some j ∧ (rd_T177 vs (j : Int)).f1.f1 = dec v
def VsAll (dec : Int → ByteArray) (vs : List (List S177)) (nm : List (List (ByteArray × Int))) : Prop := vs.length = nm.length ∧ ∀ j, VsIs dec (vs.getD j []) (nm.getD j [])
theorem vsIs_nil (dec : Int → ByteArray) : VsIs dec [] [] := ⟨Nat.le_refl _, fun s => rfl⟩
theorem vsIs_put {dec : Int → ByteArray} {l : List S177} {nm : List (ByteArray × Int)} (h : VsIs dec l nm) (s : ByteArray) (v a c : Int) : VsIs dec (putVs l s ⟨a, dec v, c⟩) ((s, v) :: nm) := by
 obtain ⟨h1, h2⟩ := h
 unfold putVs
 cases hf : fidx s l 0 with
 | none =>
  dsimp only
  refine ⟨by simp; omega, fun t => ?_⟩
  have ht := h2 t
  simp only [look]
  by_cases e : s = t
  ·subst e
   rw [if_pos rfl]
   dsimp only
   refine ⟨l.length, ?_, ?_⟩
   ·rw [fidx_append, hf]; simp
   ·unfold rd_T177
    rw [show ((l.length : Nat) : Int).toNat = l.length from rfl, List.getD_eq_getElem?_getD, List.getElem?_append_right (Nat.le_refl _)]
    simp
  ·rw [if_neg e]
   revert ht
   cases hl : look nm t with
   | none => dsimp only; intro ht; rw [fidx_append, ht]; simp [e]
   | some u =>
    dsimp only
    rintro ⟨j, hj, hd⟩
    refine ⟨j, by rw [fidx_append, hj], ?_⟩
    obtain ⟨_, hb, _⟩ := fidx_bd hj
    rw [← hd]
    unfold rd_T177
    rw [show ((j : Nat) : Int).toNat = j from rfl, List.getD_eq_getElem?_getD, List.getD_eq_getElem?_getD, List.getElem?_append_left (by omega)]
 | some i =>
  dsimp only
  obtain ⟨_, hb, hs0⟩ := fidx_bd hf
  have hb : i < l.length := by omega
  have hset : ∀ t, fidx t (l.set i ⟨(rd_T177 l (i : Int)).f0, ⟨a, dec v, c⟩, true⟩) 0 = fidx t l 0 := fun t => fidx_set hb rfl
  refine ⟨by simp; omega, fun t => ?_⟩
  have ht := h2 t
  simp only [look]
  by_cases e : s = t
  ·subst e
   rw [if_pos rfl]
   dsimp only
   exact ⟨i, by rw [hset, hf], by rw [rd177_set hb]⟩
  ·rw [if_neg e]
   revert ht
   cases hl : look nm t with
   | none => dsimp only; intro ht; rw [hset, ht]
   | some u =>
    dsimp only
    rintro ⟨j, hj, hd⟩
    refine ⟨j, by rw [hset, hj], ?_⟩
    have hne : i ≠ j := by
     rintro rfl
     obtain ⟨_, _, hs1⟩ := fidx_bd hj
     exact e (hs0.symm.trans hs1)
    rw [rd177_set_ne hne]; exact hd
theorem getD_set {α : Type} {l : List α} {i j : Nat} {x d : α} (hi : i < l.length) : (l.set i x).getD j d = if i = j then x else l.getD j d := by
 rw [List.getD_eq_getElem?_getD, List.getD_eq_getElem?_getD]
 by_cases h : i = j
 ·subst h; rw [if_pos rfl, List.getElem?_set_self hi]; rfl
 ·rw [if_neg h, List.getElem?_set_ne h]
theorem vsAll_set {dec : Int → ByteArray} {vs : List (List S177)} {nm : List (List (ByteArray × Int))} (h : VsAll dec vs nm) {i : Nat} (hi : i < nm.length) {x : List S177} {y : List (ByteArray × Int)} (hx : VsIs dec x y) : VsAll dec (vs.set i x) (nm.set i y) := by
 obtain ⟨h1, h2⟩ := h
 refine ⟨by simpa using h1, fun j => ?_⟩
 rw [getD_set (by omega), getD_set hi]
 split
 ·exact hx
 ·exact h2 j
def SpR (dec : Int → ByteArray) (w0 W : World) (gI : Nat) (vM uf us uv : Value) (fa : List Int) (s : IS) : Prop :=
 ∃ ub uw ur vs, SpI w0 W gI vM ub uw uf ur us uv s.bg s.wh fa s.re s.st vs ∧ VsAll dec vs s.nm
def SpPost (dec : Int → ByteArray) (w0 : World) (gI : Nat) (vM uf us uv : Value) (fa : List Int) (b : Bool) (s : IS) (e : Ending) (W : World) : Prop := e = .returned (.bool b) ∧ SpR dec w0 W gI vM uf us uv fa s
end Go.Proofs.Ytehhhlhedmfdiaa.PFnImportRun
end
section
namespace Go.Proofs.Ytehhhlhedmfdiaa.PFnImportRun
open Go.RowKit Go.Proofs.Yz0.PrintWords Go.Proofs.Yz0.PrintLast Go.Proofs.Yz0.PrintMore
set_option linter.unusedVariables false
set_option linter.unusedSimpArgs false
def SpLoads (dec : Int → ByteArray) (M : List S72) (A0 : Option Addr) (c0 : Nat) (w0 : World) (gI : Nat) (uf us uv : Value) (fa : List Int) (L : Int → IS → Option (Bool × IS)) : Prop :=
 ∀ (i : Int) (s : IS) (b : Bool) (s' : IS) (W : World), L i s = some (b, s') → SpR dec w0 W gI (.slice A0 M.length c0) uf us uv fa s →
  Calls Try.prog 110 #[.pointer (some ⟨gI, 0, none⟩), .int .i64 i] W (SpPost dec w0 gI (.slice A0 M.length c0) uf us uv fa b s')
def SpSteps (dec : Int → ByteArray) (M : List S72) (A0 : Option Addr) (c0 : Nat) (w0 : World) (gI : Nat) (uf us uv : Value) (fa : List Int) (F : Int → S74 → IS → Option (Bool × IS)) : Prop :=
 ∀ (i : Int) (x : S74) (s : IS) (b : Bool) (s' : IS) (W : World), F i x s = some (b, s') → SpR dec w0 W gI (.slice A0 M.length c0) uf us uv fa s →
  Calls Try.prog 131 #[.pointer (some ⟨gI, 0, none⟩), .int .i64 i, .agg #[.int .i64 x.f0, .int .i64 x.f1, .string x.f2]] W (SpPost dec w0 gI (.slice A0 M.length c0) uf us uv fa b s')
theorem drop72 {l : List S74} {j : Nat} (h : j < l.length) : l.drop j = rY l (j : Int) :: l.drop (j + 1) := by
 unfold rY
 rw [show ((j : Int)).toNat = j from rfl, List.getD_eq_getElem?_getD, List.getElem?_eq_getElem h, List.drop_eq_getElem_cons h]
 rfl
variable {dec : Int → ByteArray} {M : List S72} {A0 : Option Addr} {c0 : Nat} {w0 : World} {gI : Nat} {uf us uv : Value} {fa : List Int}
theorem SpI.setStateN {W : World} {vM ub uw ur : Value} {bg wh : List Int} {re : List ByteArray} {st : List Int} {vs : List (List S177)} {n g c i : Nat} {x : Int} (h : SpI w0 W gI vM ub uw uf ur (.slice (some ⟨g, 0, none⟩) n c) uv bg wh fa re st vs) (hn : st.length = n) (hi : i < n) :
  SpI w0 (W.setCell ⟨g, i, none⟩ (.int .i64 x)) gI vM ub uw uf ur (.slice (some ⟨g, 0, none⟩) n c) uv bg wh fa re (st.set i x) vs := by
 subst hn
 exact h.setState hi
theorem SpI.stateN {W : World} {vM ub uw ur : Value} {bg wh : List Int} {re : List ByteArray} {st : List Int} {vs : List (List S177)} {n g c i : Nat} (h : SpI w0 W gI vM ub uw uf ur (.slice (some ⟨g, 0, none⟩) n c) uv bg wh fa re st vs) (hn : st.length = n) (hi : i < n) :
  W.cell? ⟨g, i, none⟩ = some (.int .i64 (rd st (i : Int))) ∧ W.frozen? ⟨g, i, none⟩ = false := by
 obtain ⟨g2, c2, e, h1, h2⟩ := h.stateAt (i := i) (by omega)
 injection e with e _ _
 injection e with e
 injection e with e _ _
 subst e
 exact ⟨h1, h2⟩
theorem SpI.setNilN {W : World} {vM ub uw ur : Value} {bg wh : List Int} {re : List ByteArray} {st : List Int} {vs : List (List S177)} {n g c i : Nat} (h : SpI w0 W gI vM ub uw uf ur us (.slice (some ⟨g, 0, none⟩) n c) bg wh fa re st vs) (hn : vs.length = n) (hi : i < n) :
  SpI w0 (W.setCell ⟨g, i, none⟩ (.slice none 0 0)) gI vM ub uw uf ur us (.slice (some ⟨g, 0, none⟩) n c) bg wh fa re st (vs.set i []) ∧ (∃ v0, W.cell? ⟨g, i, none⟩ = some v0) ∧ W.frozen? ⟨g, i, none⟩ = false := by
 subst hn
 exact h.setNil hi
theorem sp_load (F : Int → S74 → IS → Option (Bool × IS)) (hF : SpSteps dec M A0 c0 w0 gI uf us uv fa F) (hC : Kd.C k72 w0 A0 M.length M) (i : Nat) (s : IS) (W : World) (hi : i < M.length) (hs1 : s.st.length = M.length) (hs2 : s.nm.length = M.length)
  (h0 : rd s.st (i : Int) = 0) (h1 : s.bg.length < IB) (h2 : nms s (i : Int) = []) (b : Bool) (s1 : IS) (hr : runs (F (i : Int)) (rX M (i : Int)).f0 (ldStart (i : Int) s) = some (b, s1)) (h3 : s1.st.length = M.length) (h4 : s1.nm.length = M.length) (h5 : s1.wh.length < IB)
  (hR : SpR dec w0 W gI (.slice A0 M.length c0) uf us uv fa s) :
  Calls Try.prog 110 #[.pointer (some ⟨gI, 0, none⟩), .int .i64 (i : Int)] W (SpPost dec w0 gI (.slice A0 M.length c0) uf us uv fa b (ldEnd b (i : Int) s1)) := by
 obtain ⟨ub, uw, ur, vs, hI, hV⟩ := hR
 obtain ⟨g, c, rfl, hx, hxf⟩ := hI.stateAt (i := i) (by omega)
 rw [h0] at hx
 rw [hs1] at hI hF ⊢
 obtain ⟨gv, cv, euv, _⟩ := Kd.S_form hI.rv (by have := hV.1; omega)
 rw [hV.1, hs2] at euv
 subst euv
 obtain ⟨L, hL⟩ : ∃ L, L = (rX M (i : Int)).f0 := ⟨_, rfl⟩
 obtain ⟨ad, A, cc, rfl, hm, hmc, hmC⟩ := at_T72 hC (i : Int) (by omega) (by omega)
 rw [← hL] at hm hmc hmC hr
 have HF := Az.mk hF
 have HC := Az.mk hmC
 have HM := Az.mk hm
 have HMC := Az.mk hmc
 have HI := Az.mk hI
 have HV := Az.mk hV
 have HR := Az.mk hr
 have H0 := Az.mk h0
 have H1 := Az.mk h1
 have H2 := Az.mk h2
 have H3 := Az.mk h3
 have H4 := Az.mk h4
 have H5 := Az.mk h5
 have HS1 := Az.mk hs1
 have HS2 := Az.mk hs2
 have HIL := Az.mk hi
 have hi1 : decide ((i : Int) < (M.length : Int)) = true := decide_eq_true (by omega)
 have hi2 : (i < M.length) = True := eq_true (by omega)
 obtain ⟨hz0, hz1, hz2, hz3, hz4, hz5, hz6, hzf⟩ := hI.cells
 clear hF hC hI hV hr h0 h1 h2 h3 h4 h5 hs1 hs2 hi hmC hm hmc hL
 go_enter Try.func110, Try.ntmps110
 go_wp2_with (first | ((with_reducible refine gate_store (t := 3) (p := 21) rfl ?_); refine store_event (t := 3) (p := 21) (v := (.const (.int .i64 1))) (w1 := (W.setCell ⟨g, i, none⟩ (.int .i64 1))) ?hg ?ho ?hn ?hr ?_; (case ho => rfl); (case hg => rfl); (case hn => rfl); (case hr => first | (go_simp; done) | (go_simp; rfl)); intro w1 hw_; have n0_ := Az.mk (by rw [hw_]; exact SpI.setStateN HI.out HS1.out HIL.out : SpI w0 w1 gI (.slice (some ad) M.length c0) ub uw uf ur (.slice (some ⟨g, 0, none⟩) M.length c) (.slice (some ⟨gv, 0, none⟩) M.length cv) s.bg s.wh fa s.re (s.st.set i 1) vs); clear HI hw_ hz0 hz1 hz2 hz3 hz4 hz5 hz6 hzf hx hxf; have HI := n0_; clear n0_; obtain ⟨hz0, hz1, hz2, hz3, hz4, hz5, hz6, hzf⟩ := HI.out.cells) | ((with_reducible refine gate_builtin (b := .append) (xs := #[.tmp 27, .tmp 29]) rfl ?_); at_builtin; refine Kd.R_append (Kd.int .i64) (w0 := w0) w0.heap.size rfl (.tmp 27) (.tmp 29) 35 3 (.int .i64 0) 8 rfl Try.underlying35 info3 rfl (by decide) (by omega) ub s.bg (i : Int) [.int .i64 (i : Int)] (fun k => some k ≠ uw.ownBlock ∧ some k ≠ uf.ownBlock ∧ some k ≠ Value.ownBlock (.slice (some ⟨g, 0, none⟩) M.length c)) (fun _ => False) rfl rfl ?aP (fun _ hk => hk.elim) ?aF ?aO ?aB ?aS ?aL ?_; (case aP => exact rfl); (case aB => exact HI.out.be); (case aF => exact (fun k_ hk => ⟨Kd.fresh' (Kd.R_lt HI.out.rw_) k_ hk, Kd.fresh' (Kd.R_lt HI.out.rf) k_ hk, Kd.fresh' (Kd.R_lt HI.out.rs) k_ hk⟩)); (case aO => exact HI.out.rb); (case aS => exact below_size HI.out.be); (case aL => (first | (have := H1.out; unfold IB at this; omega) | (have := H5.out; unfold IB at this; omega))); intro v1 w2 ho hb hg hat; obtain ⟨A1, c1, e_⟩ := Kd.R_slice ho; simp only [List.length_append, List.length_cons, List.length_nil, Nat.zero_add] at e_; subst e_; obtain ⟨hI_, hy0, hyf⟩ := SpI.putB HI.out ho hb hg hat; have n0_ := Az.mk hI_; clear HI hI_ ho hb hg hat hz0 hz1 hz2 hz3 hz4 hz5 hz6 hzf; have HI := n0_; clear n0_))
 clear hy0 hyf
 go_loopg [5] (L.length + 1) (fun kq v5 w' => ∃ (j : Nat) (t : IS), v5 = .int .i64 (j : Int) ∧ Az (j + kq = L.length + 1 ∧ j ≤ L.length) ∧ Az (runs (F (i : Int)) (L.drop j) t = some (b, s1)) ∧ Az (SpR dec w0 w' gI (.slice (some ad) M.length c0) uf (.slice (some ⟨g, 0, none⟩) M.length c) (.slice (some ⟨gv, 0, none⟩) M.length cv) fa t))
 case atStart => exact ⟨0, ldStart (i : Int) s, rfl, ⟨by omega, by omega⟩, ⟨by simpa using HR.out⟩, ⟨⟨_, _, _, _, HI.out, HV.out⟩⟩⟩
 case round =>
  clear HI HR HV
  obtain ⟨j, t, rfl, HJ, HR, HS⟩ := hrel
  have hLm := Kd.C_max HC.out
  by_cases hj : j < L.length
  ·have hj1 : decide ((j : Int) < (L.length : Int)) = true := decide_eq_true (by omega)
   have hj2 : (j < L.length) = True := eq_true hj
   obtain ⟨ub, uw, ur, vs, hI, hV⟩ := HS.out
   obtain ⟨ad2, e2, hy0, hy1, hy2⟩ := at_T74 HC.out (j : Int) (by omega) (by omega)
   subst e2
   obtain ⟨hz0, hz1, hz2, hz3, hz4, hz5, hz6, hzf⟩ := hI.cells
   have hm : wr.cell? (ad.add i) = some (.slice (some ad2) L.length cc) := (hI.be.cell (World.block_lt_of_cell? w0 _ HM.out)).trans HM.out
   replace hy0 : wr.cell? (ad2.add (j * 3)) = _ := (hI.be.cell (World.block_lt_of_cell? w0 _ hy0)).trans hy0
   replace hy1 : wr.cell? ⟨(ad2.add (j * 3)).block, (ad2.add (j * 3)).off + 1, none⟩ = _ := (hI.be.cell (World.block_lt_of_cell? w0 _ hy1)).trans hy1
   replace hy2 : wr.cell? ⟨(ad2.add (j * 3)).block, (ad2.add (j * 3)).off + 2, none⟩ = _ := (hI.be.cell (World.block_lt_of_cell? w0 _ hy2)).trans hy2
   have hw := HR.out
   rw [drop72 hj, runs] at hw
   have hwr : wrap64 ((j : Int) + 1) = ((j + 1 : Nat) : Int) := by unfold wrap64; omega
   clear hI hV HR
   cases hf : F (i : Int) (rY L (j : Int)) t with
   | none => rw [hf] at hw; cases hw
   | some r =>
    obtain ⟨b2, t2⟩ := r
    rw [hf] at hw
    dsimp only [Option.bind_some] at hw
    have HFF := Az.mk hf
    have HJL := Az.mk hj
    have HWR := Az.mk hwr
    have HLM := Az.mk hLm
    clear hf hj hwr hLm
    cases b2 with
    | true =>
     have HR := Az.mk hw
     clear hw
     go_wp2_with fail
     refine (HF.out (i : Int) _ t true t2 _ HFF.out HS.out).mono ?_
     rintro e w3 ⟨rfl, hR2⟩
     have HS2 := Az.mk hR2
     clear hR2 hz0 hz1 hz2 hz3 hz4 hz5 hz6 hzf hm hy0 hy1 hy2
     go_wp2_with fail
     go_roundg (gk - 1)
     case measure => have := HJ.out; omega
     case rel => exact ⟨j + 1, t2, (by first | rfl | (rw [HWR.out]) | (simp [HWR.out])), ⟨by have := HJ.out; omega, by have := HJL.out; omega⟩, HR, HS2⟩
    | false =>
     have HR := Az.mk hw
     clear hw
     go_wp2_with fail
     refine (HF.out (i : Int) _ t false t2 _ HFF.out HS.out).mono ?_
     rintro e w3 ⟨rfl, hR2⟩
     clear hz0 hz1 hz2 hz3 hz4 hz5 hz6 hzf hm hy0 hy1 hy2 HS
     have eb := Option.some.inj HR.out
     injection eb with eb es
     subst eb es
     clear HR
     obtain ⟨ub, uw, ur, vs, hI, hV⟩ := hR2
     have HI := Az.mk hI
     have HV := Az.mk hV
     have HVL : Az (vs.length = M.length) := ⟨hV.1.trans H4.out⟩
     obtain ⟨hz0, hz1, hz2, hz3, hz4, hz5, hz6, hzf⟩ := hI.cells
     obtain ⟨hx, hxf⟩ := hI.stateN H3.out HIL.out
     clear hI hV
     go_wp2_with (first | ((with_reducible refine gate_store (t := 3) (p := 68) rfl ?_); refine store_event (t := 3) (p := 68) (v := (.const (.int .i64 0))) (w1 := (w3.setCell ⟨g, i, none⟩ (.int .i64 0))) ?hg ?ho ?hn ?hr ?_; (case ho => rfl); (case hg => rfl); (case hn => rfl); (case hr => first | (go_simp; done) | (go_simp; rfl)); intro w4 hw_; have n0_ := Az.mk (by rw [hw_]; exact SpI.setStateN HI.out H3.out HIL.out : SpI w0 w4 gI (.slice (some ad) M.length c0) ub uw uf ur (.slice (some ⟨g, 0, none⟩) M.length c) (.slice (some ⟨gv, 0, none⟩) M.length cv) t2.bg t2.wh fa t2.re (t2.st.set i 0) vs); clear HI hw_ hz0 hz1 hz2 hz3 hz4 hz5 hz6 hzf hx hxf; have HI := n0_; clear n0_; obtain ⟨hz0, hz1, hz2, hz3, hz4, hz5, hz6, hzf⟩ := HI.out.cells; obtain ⟨_, ⟨vn, hn⟩, hnf⟩ := SpI.setNilN HI.out HVL.out HIL.out) | ((with_reducible refine gate_store (t := 168) (p := 74) rfl ?_); refine store_event (t := 168) (p := 74) (v := (.const (.slice none 0 0))) (w1 := (w4.setCell ⟨gv, i, none⟩ (.slice none 0 0))) ?hg ?ho ?hn ?hr ?_; (case ho => rfl); (case hg => rfl); (case hn => rfl); (case hr => first | (go_simp; done) | (go_simp; rfl)); intro w5 hw_; have n0_ := Az.mk (by rw [hw_]; exact (SpI.setNilN HI.out HVL.out HIL.out).1 : SpI w0 w5 gI (.slice (some ad) M.length c0) ub uw uf ur (.slice (some ⟨g, 0, none⟩) M.length c) (.slice (some ⟨gv, 0, none⟩) M.length cv) t2.bg t2.wh fa t2.re (t2.st.set i 0) (vs.set i [])); clear HI hw_ hz0 hz1 hz2 hz3 hz4 hz5 hz6 hzf hn hnf; have HI := n0_; clear n0_; skip))
     go_ret
     exact ⟨rfl, ub, uw, ur, vs.set i [], HI.out, vsAll_set HV.out (by have := H4.out; have := HIL.out; omega) (vsIs_nil dec)⟩
  ·have hj1 : decide ((j : Int) < (L.length : Int)) = false := decide_eq_false (by omega)
   have hj2 : (j < L.length) = False := eq_false hj
   obtain ⟨ub, uw, ur, vs, hI, hV⟩ := HS.out
   obtain ⟨hz0, hz1, hz2, hz3, hz4, hz5, hz6, hzf⟩ := hI.cells
   have hm : wr.cell? (ad.add i) = some (.slice A L.length cc) := (hI.be.cell (World.block_lt_of_cell? w0 _ HM.out)).trans HM.out
   have hw := HR.out
   rw [List.drop_of_length_le (by omega), runs] at hw
   injection hw with hw
   injection hw with hb hs
   subst hb hs
   obtain ⟨hx, hxf⟩ := hI.stateN H3.out HIL.out
   have HI := Az.mk hI
   have HV := Az.mk hV
   clear hI hV hj hLm HR HS
   go_wp2_with (first | ((with_reducible refine gate_store (t := 3) (p := 81) rfl ?_); refine store_event (t := 3) (p := 81) (v := (.const (.int .i64 2))) (w1 := (wr.setCell ⟨g, i, none⟩ (.int .i64 2))) ?hg ?ho ?hn ?hr ?_; (case ho => rfl); (case hg => rfl); (case hn => rfl); (case hr => first | (go_simp; done) | (go_simp; rfl)); intro w4 hw_; have n0_ := Az.mk (by rw [hw_]; exact SpI.setStateN HI.out H3.out HIL.out : SpI w0 w4 gI (.slice (some ad) M.length c0) ub uw uf ur (.slice (some ⟨g, 0, none⟩) M.length c) (.slice (some ⟨gv, 0, none⟩) M.length cv) t.bg t.wh fa t.re (t.st.set i 2) vs); clear HI hw_ hz0 hz1 hz2 hz3 hz4 hz5 hz6 hzf hx hxf; have HI := n0_; clear n0_; obtain ⟨hz0, hz1, hz2, hz3, hz4, hz5, hz6, hzf⟩ := HI.out.cells) | ((with_reducible refine gate_builtin (b := .append) (xs := #[.tmp 87, .tmp 89]) rfl ?_); at_builtin; refine Kd.R_append (Kd.int .i64) (w0 := w0) w0.heap.size rfl (.tmp 87) (.tmp 89) 35 3 (.int .i64 0) 8 rfl Try.underlying35 info3 rfl (by decide) (by omega) uw t.wh (i : Int) [.int .i64 (i : Int)] (fun k => some k ≠ ub.ownBlock ∧ some k ≠ uf.ownBlock ∧ some k ≠ Value.ownBlock (.slice (some ⟨g, 0, none⟩) M.length c)) (fun _ => False) rfl rfl ?aP (fun _ hk => hk.elim) ?aF ?aO ?aB ?aS ?aL ?_; (case aP => exact rfl); (case aB => exact HI.out.be); (case aF => exact (fun k_ hk => ⟨Kd.fresh' (Kd.R_lt HI.out.rb) k_ hk, Kd.fresh' (Kd.R_lt HI.out.rf) k_ hk, Kd.fresh' (Kd.R_lt HI.out.rs) k_ hk⟩)); (case aO => exact HI.out.rw_); (case aS => exact below_size HI.out.be); (case aL => (first | (have := H1.out; unfold IB at this; omega) | (have := H5.out; unfold IB at this; omega))); intro v1 w2 ho hb hg hat; obtain ⟨A1, c1, e_⟩ := Kd.R_slice ho; simp only [List.length_append, List.length_cons, List.length_nil, Nat.zero_add] at e_; subst e_; obtain ⟨hI_, hy0, hyf⟩ := SpI.putW HI.out ho hb hg hat; have n0_ := Az.mk hI_; clear HI hI_ ho hb hg hat hz0 hz1 hz2 hz3 hz4 hz5 hz6 hzf; have HI := n0_; clear n0_))
   go_ret
   exact ⟨rfl, _, _, _, _, HI.out, HV.out⟩
theorem sp_load1 (i : Nat) (s : IS) (W : World) (hi : i < M.length) (hs1 : s.st.length = M.length) (h0 : ¬ rd s.st (i : Int) = 0) (hR : SpR dec w0 W gI (.slice A0 M.length c0) uf us uv fa s) :
  Calls Try.prog 110 #[.pointer (some ⟨gI, 0, none⟩), .int .i64 (i : Int)] W (SpPost dec w0 gI (.slice A0 M.length c0) uf us uv fa true s) := by
 obtain ⟨ub, uw, ur, vs, hI, hV⟩ := hR
 obtain ⟨g, c, rfl, hx, hxf⟩ := hI.stateAt (i := i) (by omega)
 rw [hs1] at hI ⊢
 have HI := Az.mk hI
 have HV := Az.mk hV
 have hi1 : decide ((i : Int) < (M.length : Int)) = true := decide_eq_true (by omega)
 have hi2 : (i < M.length) = True := eq_true (by omega)
 have h1 : (rd s.st (i : Int) != 0) = true := bne_iff_ne.2 h0
 have h2 : (rd s.st (i : Int) = 0) = False := eq_false h0
 obtain ⟨hz0, hz1, hz2, hz3, hz4, hz5, hz6, hzf⟩ := hI.cells
 clear hI hV h0 hs1 hi
 go_enter Try.func110, Try.ntmps110
 go_wp2_with fail
 go_ret
 exact ⟨rfl, _, _, _, _, HI.out, HV.out⟩
end Go.Proofs.Ytehhhlhedmfdiaa.PFnImportRun
end
section
namespace Go.Proofs.Ytehhhlhedmfdiaa.PFnImportRun
open Go.RowKit Go.Proofs.Yz0.PrintWords Go.Proofs.Yz0.PrintLast Go.Proofs.Yz0.PrintMore
set_option linter.unusedVariables false
set_option linter.unusedSimpArgs false
theorem vsAt {dec : Int → ByteArray} {vs : List (List S177)} {nm : List (List (ByteArray × Int))} (h : VsAll dec vs nm) (j : Nat) : VsIs dec (vs.getD j []) (nm.getD j []) := h.2 j
theorem SpR.below {dec : Int → ByteArray} {w0 W w1 : World} {gI : Nat} {vM uf us uv : Value} {fa : List Int} {s : IS} (h : SpR dec w0 W gI vM uf us uv fa s) (hb : Below W.heap.size W w1) : SpR dec w0 w1 gI vM uf us uv fa s := by
 obtain ⟨ub, uw, ur, vs, hI, hV⟩ := h
 exact ⟨ub, uw, ur, vs, hI.below hb, hV⟩
theorem kept_cell {W w1 : World} {g t base j : Nat} {cs : Array Value} {v0 u : Value} {x0 : List S177} {ok : Nat → Prop} (h : W.heap[g]? = some (.cells cs t (0, 0))) (h0 : Kd.R k177 177 W base ok v0 x0) (ht : 177 ≠ t) (hk : Kept W w1 (fun k => some k = v0.ownBlock)) (hc : W.cell? ⟨g, j, none⟩ = some u) : w1.cell? ⟨g, j, none⟩ = some u := by
 have hne : ¬ (some g = v0.ownBlock) := fun e => by
  obtain ⟨c2, h2⟩ := Kd.R_typed h0 g e.symm
  rw [h] at h2; injection h2 with h2; injection h2 with _ h2 _; exact ht h2.symm
 rw [bC (blk_kept h hk hne) j, ← bC h j]; exact hc
theorem SpI.backN {w0 W w1 W0 : World} {gI g c i n : Nat} {vM ub uw uf ur us : Value} {bg wh fa : List Int} {re : List ByteArray} {st : List Int} {vs : List (List S177)} {v0 v2 : Value} {x0 r : List S177} (h : SpI w0 W gI vM ub uw uf ur us (.slice (some ⟨g, 0, none⟩) n c) bg wh fa re st vs) (hl : SpLent w0 W0 g c i v0 vs W) (hW : W0.heap.size ≤ W.heap.size) (hg0 : g < W0.heap.size) (hn : vs.length = n) (hi : i < n)
  (h0 : Kd.R k177 177 W w0.heap.size (fun k => some k = v0.ownBlock) v0 x0) (hk : Kept W w1 (fun k => some k = v0.ownBlock)) (hb : Below w0.heap.size w0 w1) (hr : Kd.R k177 177 w1 w0.heap.size (fun k => some k = v0.ownBlock ∨ W.heap.size ≤ k) v2 r) :
  SpI w0 (w1.setCell ⟨g, i, none⟩ v2) gI vM ub uw uf ur us (.slice (some ⟨g, 0, none⟩) n c) bg wh fa re st (vs.set i r) ∧ (∃ u, w1.cell? ⟨g, i, none⟩ = some u) ∧ w1.frozen? ⟨g, i, none⟩ = false := by
 subst hn
 exact h.back hl hW hg0 hi h0 hk hb hr
variable {dec : Int → ByteArray} {M : List S72} {A0 : Option Addr} {c0 : Nat} {w0 : World} {gI : Nat} {uf us uv : Value} {fa : List Int}
theorem sp_step1 (L : Int → IS → Option (Bool × IS)) (hL : SpLoads dec M A0 c0 w0 gI uf us uv fa L) (i f1 : Int) (f2 : ByteArray) (s : IS) (b : Bool) (s' : IS) (W : World) (h : L f1 s = some (b, s')) (hR : SpR dec w0 W gI (.slice A0 M.length c0) uf us uv fa s) :
  Calls Try.prog 131 #[.pointer (some ⟨gI, 0, none⟩), .int .i64 i, .agg #[.int .i64 1, .int .i64 f1, .string f2]] W (SpPost dec w0 gI (.slice A0 M.length c0) uf us uv fa b s') := by
 have HL := Az.mk hL
 have H := Az.mk h
 have HR := Az.mk hR
 clear hL h hR
 go_enter Try.func131, Try.ntmps131
 go_wp2_with (first | ((with_reducible refine gate_dst (N := 5) rfl ?_); refine box_event ?hg (N := 5) ?hd (cs := #[.int .i64 1, .int .i64 f1, .string f2]) (t := 74) ?hr ?_; (case hd => rfl); (case hg => rfl); (case hr => first | (go_simp; done) | (go_simp; rfl)); intro gb hg w1 hbox hb; have n0_ := Az.mk (HR.out.below hb); have hb0 : w1.cell? ⟨gb, 0, none⟩ = some (.int .i64 1) := (bC hbox 0).trans rfl; have hb1 : w1.cell? ⟨gb, 1, none⟩ = some (.int .i64 f1) := (bC hbox 1).trans rfl; have hb2 : w1.cell? ⟨gb, 2, none⟩ = some (.string f2) := (bC hbox 2).trans rfl; have HBX := Az.mk hbox; clear HR hb hg hbox; have HR := n0_; clear n0_))
 refine (HL.out f1 s b s' _ H.out HR.out).mono ?_
 rintro e w2 ⟨rfl, hR2⟩
 have HR2 := Az.mk hR2
 clear hR2 hb0 hb1 hb2
 go_wp2_with fail
 go_ret
 exact ⟨rfl, HR2.out⟩
theorem sp_step2 (L : Int → IS → Option (Bool × IS)) (hL : SpLoads dec M A0 c0 w0 gI uf us uv fa L) (i f1 : Int) (f2 : ByteArray) (s : IS) (b : Bool) (s' : IS) (W : World) (h : L f1 s = some (b, s')) (hR : SpR dec w0 W gI (.slice A0 M.length c0) uf us uv fa s) :
  Calls Try.prog 131 #[.pointer (some ⟨gI, 0, none⟩), .int .i64 i, .agg #[.int .i64 2, .int .i64 f1, .string f2]] W (SpPost dec w0 gI (.slice A0 M.length c0) uf us uv fa true s') := by
 have HL := Az.mk hL
 have H := Az.mk h
 have HR := Az.mk hR
 clear hL h hR
 go_enter Try.func131, Try.ntmps131
 go_wp2_with (first | ((with_reducible refine gate_dst (N := 5) rfl ?_); refine box_event ?hg (N := 5) ?hd (cs := #[.int .i64 2, .int .i64 f1, .string f2]) (t := 74) ?hr ?_; (case hd => rfl); (case hg => rfl); (case hr => first | (go_simp; done) | (go_simp; rfl)); intro gb hg w1 hbox hb; have n0_ := Az.mk (HR.out.below hb); have hb0 : w1.cell? ⟨gb, 0, none⟩ = some (.int .i64 2) := (bC hbox 0).trans rfl; have hb1 : w1.cell? ⟨gb, 1, none⟩ = some (.int .i64 f1) := (bC hbox 1).trans rfl; have hb2 : w1.cell? ⟨gb, 2, none⟩ = some (.string f2) := (bC hbox 2).trans rfl; have HBX := Az.mk hbox; clear HR hb hg hbox; have HR := n0_; clear n0_))
 refine (HL.out f1 s b s' _ H.out HR.out).mono ?_
 rintro e w2 ⟨rfl, hR2⟩
 have HR2 := Az.mk hR2
 clear hR2 hb0 hb1 hb2
 go_wp2_with fail
 go_ret
 exact ⟨rfl, HR2.out⟩
theorem sp_step5 (i f1 : Int) (f2 : ByteArray) (s : IS) (W : World) (hR : SpR dec w0 W gI (.slice A0 M.length c0) uf us uv fa s) :
  Calls Try.prog 131 #[.pointer (some ⟨gI, 0, none⟩), .int .i64 i, .agg #[.int .i64 5, .int .i64 f1, .string f2]] W (SpPost dec w0 gI (.slice A0 M.length c0) uf us uv fa false s) := by
 have HR := Az.mk hR
 clear hR
 go_enter Try.func131, Try.ntmps131
 go_wp2_with (first | ((with_reducible refine gate_dst (N := 5) rfl ?_); refine box_event ?hg (N := 5) ?hd (cs := #[.int .i64 5, .int .i64 f1, .string f2]) (t := 74) ?hr ?_; (case hd => rfl); (case hg => rfl); (case hr => first | (go_simp; done) | (go_simp; rfl)); intro gb hg w1 hbox hb; have n0_ := Az.mk (HR.out.below hb); have hb0 : w1.cell? ⟨gb, 0, none⟩ = some (.int .i64 5) := (bC hbox 0).trans rfl; have hb1 : w1.cell? ⟨gb, 1, none⟩ = some (.int .i64 f1) := (bC hbox 1).trans rfl; have hb2 : w1.cell? ⟨gb, 2, none⟩ = some (.string f2) := (bC hbox 2).trans rfl; have HBX := Az.mk hbox; clear HR hb hg hbox; have HR := n0_; clear n0_))
 go_ret
 exact ⟨rfl, HR.out⟩
theorem sp_step3 (i : Nat) (f1 : Int) (f2 : ByteArray) (s : IS) (W : World) (k : Nat) (hd : spec_decimal.f k f1 = some (dec f1)) (hi : i < M.length) (hn : s.nm.length = M.length) (hl : (nms s (i : Int)).length < IB) (hR : SpR dec w0 W gI (.slice A0 M.length c0) uf us uv fa s) :
  Calls Try.prog 131 #[.pointer (some ⟨gI, 0, none⟩), .int .i64 (i : Int), .agg #[.int .i64 3, .int .i64 f1, .string f2]] W (SpPost dec w0 gI (.slice A0 M.length c0) uf us uv fa true (ldSet (i : Int) ⟨3, f1, f2⟩ s)) := by
 have HR := Az.mk hR
 have HD := Az.mk hd
 have HIL := Az.mk hi
 have HN := Az.mk hn
 have HLN := Az.mk hl
 have hi1 : decide ((i : Int) < (M.length : Int)) = true := decide_eq_true (by omega)
 have hi2 : (i < M.length) = True := eq_true (by omega)
 clear hR hd hi hn hl
 go_enter Try.func131, Try.ntmps131
 go_wp2_with (first | ((with_reducible refine gate_dst (N := 5) rfl ?_); refine box_event ?hg (N := 5) ?hd (cs := #[.int .i64 3, .int .i64 f1, .string f2]) (t := 74) ?hr ?_; (case hd => rfl); (case hg => rfl); (case hr => first | (go_simp; done) | (go_simp; rfl)); intro gb hg w1 hbox hb; have n0_ := Az.mk (HR.out.below hb); have hb0 : w1.cell? ⟨gb, 0, none⟩ = some (.int .i64 3) := (bC hbox 0).trans rfl; have hb1 : w1.cell? ⟨gb, 1, none⟩ = some (.int .i64 f1) := (bC hbox 1).trans rfl; have hb2 : w1.cell? ⟨gb, 2, none⟩ = some (.string f2) := (bC hbox 2).trans rfl; have HBX := Az.mk hbox; clear HR hb hg hbox; have HR := n0_; clear n0_))
 obtain ⟨ub, uw, ur, vs, hI, hV⟩ := HR.out
 have HVL : Az (vs.length = M.length) := ⟨hV.1.trans HN.out⟩
 obtain ⟨gv, cv, v0, euv, hx, hxf, hRv, hLent⟩ := hI.lend (i := i) (by rw [HVL.out]; exact HIL.out)
 rw [HVL.out] at euv
 subst euv
 obtain ⟨Av, cl, rfl⟩ := Kd.R_slice hRv
 obtain ⟨hz0, hz1, hz2, hz3, hz4, hz5, hz6, hzf⟩ := hI.cells
 have HI := Az.mk hI
 have HV := Az.mk hV
 have HRV := Az.mk hRv
 have HLE := Az.mk hLent
 have HGV : Az (gv < w1.heap.size) := ⟨World.block_lt_of_cell? _ _ hx⟩
 have HS0 : Az (w1.heap.size ≤ w1.heap.size) := ⟨Nat.le_refl _⟩
 have HLV : Az ((vs.getD i []).length < 1000000000000) := ⟨by
  obtain ⟨_, h2⟩ := hV
  obtain ⟨h3, _⟩ := h2 i
  have := HLN.out
  unfold IB nms at this
  exact Nat.lt_of_le_of_lt h3 this⟩
 clear hI hV hRv hLent hb0
 refine start_ (n := 21) (S := fun w' => w'.cell? ⟨gI, 6, none⟩ = some (.slice (some ⟨gv, 0, none⟩) M.length cv) ∧ w'.cell? ⟨gv, i, none⟩ = some (.slice Av (vs.getD i []).length cl) ∧ w'.cell? ⟨gb, 2, none⟩ = some (.string f2) ∧ w'.cell? ⟨gb, 1, none⟩ = some (.int .i64 f1)) (ds := [20]) #[false, false, false, false, false, false, false, false, false, false, false, false, false, false, false, false, false, false, false, false, false] (by kernel_rfl) rfl rfl ⟨hz6, hx, hb2, hb1⟩ (fun hHeld => ?_)
 have n0_ := Az.mk (HI.out.drew)
 have n1_ := Az.mk (Kd.R_drew HRV.out)
 have n2_ := Az.mk (HLE.out.below (below_drew (Below.refl _ _)))
 have n3_ : Az (w1.heap.size ≤ w1.drew.heap.size) := HS0
 have n4_ := Az.mk (blk_below HBX.out (below_drew (Below.refl _ _)))
 clear HI HRV HLE HS0 HBX hz0 hz1 hz2 hz3 hz4 hz5 hz6 hzf hx hxf hb1 hb2
 have HI := n0_
 have HRV := n1_
 have HLE := n2_
 have HS0 := n3_
 have HBX := n4_
 clear n0_ n1_ n2_ n3_ n4_
 generalize World.drew _ = w2 at HI HRV HLE HS0 HBX hHeld ⊢
 refine pure_ (i := 0) (N := some 24) (v := ?_) (a' := ?_) #[true, false, false, false, false, false, false, false, false, false, false, false, false, false, false, false, false, false, false, false, false] rfl rfl (by kernel_rfl) (fun _ _ _ h => h) (Or.inl ⟨by rfl, ?_⟩) ?_ ?_
 rotate_left
 ·intro w'
  go_simp
  with_reducible rfl
 rotate_left
 ·simp only [Act.put, List.setIfInBounds_toArray, List.set_cons_zero, List.set_cons_succ, i64_w, i32_w]
  rfl
 refine pure_ (i := 1) (N := some 25) (v := ?_) (a' := ?_) #[true, true, false, false, false, false, false, false, false, false, false, false, false, false, false, false, false, false, false, false, false] rfl rfl (by kernel_rfl) (fun _ _ _ h => h) (Or.inl ⟨by rfl, ?_⟩) ?_ ?_
 rotate_left
 ·intro w'
  go_simp
  with_reducible rfl
 rotate_left
 ·simp only [Act.put, List.setIfInBounds_toArray, List.set_cons_zero, List.set_cons_succ, i64_w, i32_w]
  rfl
 refine pure_ (i := 2) (N := some 26) (v := ?_) (a' := ?_) #[true, true, true, false, false, false, false, false, false, false, false, false, false, false, false, false, false, false, false, false, false] rfl rfl (by kernel_rfl) (fun _ _ _ h => h) (Or.inl ⟨by rfl, ?_⟩) ?_ ?_
 rotate_left
 ·intro w'
  go_simp
  with_reducible rfl
 rotate_left
 ·simp only [Act.put, List.setIfInBounds_toArray, List.set_cons_zero, List.set_cons_succ, i64_w, i32_w]
  rfl
 refine pure_ (i := 4) (N := some 28) (v := ?_) (a' := ?_) #[true, true, true, false, true, false, false, false, false, false, false, false, false, false, false, false, false, false, false, false, false] rfl rfl (by kernel_rfl) (fun _ _ _ h => h) (Or.inl ⟨by rfl, ?_⟩) ?_ ?_
 rotate_left
 ·intro w'
  go_simp
  with_reducible rfl
 rotate_left
 ·simp only [Act.put, List.setIfInBounds_toArray, List.set_cons_zero, List.set_cons_succ, i64_w, i32_w]
  rfl
 refine pure_ (i := 5) (N := some 29) (v := ?_) (a' := ?_) #[true, true, true, false, true, true, false, false, false, false, false, false, false, false, false, false, false, false, false, false, false] rfl rfl (by kernel_rfl) (fun _ _ _ h => h) (Or.inl ⟨by rfl, ?_⟩) ?_ ?_
 rotate_left
 ·intro w'
  go_simp
  with_reducible rfl
 rotate_left
 ·simp only [Act.put, List.setIfInBounds_toArray, List.set_cons_zero, List.set_cons_succ, i64_w, i32_w]
  rfl
 refine pure_ (i := 6) (N := some 30) (v := ?_) (a' := ?_) #[true, true, true, false, true, true, true, false, false, false, false, false, false, false, false, false, false, false, false, false, false] rfl rfl (by kernel_rfl) (fun _ _ _ h => h) (Or.inl ⟨by rfl, ?_⟩) ?_ ?_
 rotate_left
 ·intro w'
  go_simp
  with_reducible rfl
 rotate_left
 ·simp only [Act.put, List.setIfInBounds_toArray, List.set_cons_zero, List.set_cons_succ, i64_w, i32_w]
  rfl
 refine pure_ (i := 7) (N := some 31) (v := ?_) (a' := ?_) #[true, true, true, false, true, true, true, true, false, false, false, false, false, false, false, false, false, false, false, false, false] rfl rfl (by kernel_rfl) (fun _ _ _ h => h) (Or.inl ⟨by rfl, ?_⟩) ?_ ?_
 rotate_left
 ·intro w'
  go_simp
  with_reducible rfl
 rotate_left
 ·simp only [Act.put, List.setIfInBounds_toArray, List.set_cons_zero, List.set_cons_succ, i64_w, i32_w]
  rfl
 refine pure_ (i := 9) (N := some 33) (v := ?_) (a' := ?_) #[true, true, true, false, true, true, true, true, false, true, false, false, false, false, false, false, false, false, false, false, false] rfl rfl (by kernel_rfl) (fun _ _ _ h => h) (Or.inl ⟨by rfl, ?_⟩) ?_ ?_
 rotate_left
 ·intro w'
  go_simp
  with_reducible rfl
 rotate_left
 ·simp only [Act.put, List.setIfInBounds_toArray, List.set_cons_zero, List.set_cons_succ, i64_w, i32_w]
  rfl
 refine pure_ (i := 12) (N := some 36) (v := ?_) (a' := ?_) #[true, true, true, false, true, true, true, true, false, true, false, false, true, false, false, false, false, false, false, false, false] rfl rfl (by kernel_rfl) (fun _ _ _ h => h) (Or.inl ⟨by rfl, ?_⟩) ?_ ?_
 rotate_left
 ·intro w'
  go_simp
  with_reducible rfl
 rotate_left
 ·simp only [Act.put, List.setIfInBounds_toArray, List.set_cons_zero, List.set_cons_succ, i64_w, i32_w]
  rfl
 refine pure_ (i := 14) (N := some 38) (v := ?_) (a' := ?_) #[true, true, true, false, true, true, true, true, false, true, false, false, true, false, true, false, false, false, false, false, false] rfl rfl (by kernel_rfl) (fun _ _ _ h => h) (Or.inl ⟨by rfl, ?_⟩) ?_ ?_
 rotate_left
 ·intro w'
  go_simp
  with_reducible rfl
 rotate_left
 ·simp only [Act.put, List.setIfInBounds_toArray, List.set_cons_zero, List.set_cons_succ, i64_w, i32_w]
  rfl
 refine take_ (i := 3) (N := some 27) (v := ?_) (a' := ?_) #[true, true, true, true, true, true, true, true, false, true, false, false, true, false, true, false, false, false, false, false, false] rfl rfl (by kernel_rfl) (fun _ _ _ h => h) (Or.inl ⟨by rfl, ?_⟩) hHeld ?_ ?_
 rotate_left
 ·rintro w' ⟨s0, s1, s2, s3⟩
  go_simp
  with_reducible rfl
 rotate_left
 ·simp only [Act.put, List.setIfInBounds_toArray, List.set_cons_zero, List.set_cons_succ, i64_w, i32_w]
  rfl
 refine take_ (i := 8) (N := some 32) (v := ?_) (a' := ?_) #[true, true, true, true, true, true, true, true, true, true, false, false, true, false, true, false, false, false, false, false, false] rfl rfl (by kernel_rfl) (fun _ _ _ h => h) (Or.inl ⟨by rfl, ?_⟩) hHeld ?_ ?_
 rotate_left
 ·rintro w' ⟨s0, s1, s2, s3⟩
  go_simp
  with_reducible rfl
 rotate_left
 ·simp only [Act.put, List.setIfInBounds_toArray, List.set_cons_zero, List.set_cons_succ, i64_w, i32_w]
  rfl
 refine pure_ (i := 10) (N := some 34) (v := ?_) (a' := ?_) #[true, true, true, true, true, true, true, true, true, true, true, false, true, false, true, false, false, false, false, false, false] rfl rfl (by kernel_rfl) (fun _ _ _ h => h) (Or.inl ⟨by rfl, ?_⟩) ?_ ?_
 rotate_left
 ·intro w'
  go_simp
  with_reducible rfl
 rotate_left
 ·simp only [Act.put, List.setIfInBounds_toArray, List.set_cons_zero, List.set_cons_succ, i64_w, i32_w]
  rfl
 refine take_ (i := 11) (N := some 35) (v := ?_) (a' := ?_) #[true, true, true, true, true, true, true, true, true, true, true, true, true, false, true, false, false, false, false, false, false] rfl rfl (by kernel_rfl) (fun _ _ _ h => h) (Or.inl ⟨by rfl, ?_⟩) hHeld ?_ ?_
 rotate_left
 ·rintro w' ⟨s0, s1, s2, s3⟩
  go_simp
  with_reducible rfl
 rotate_left
 ·simp only [Act.put, List.setIfInBounds_toArray, List.set_cons_zero, List.set_cons_succ, i64_w, i32_w]
  rfl
 refine take_ (i := 13) (N := some 37) (v := ?_) (a' := ?_) #[true, true, true, true, true, true, true, true, true, true, true, true, true, true, true, false, false, false, false, false, false] rfl rfl (by kernel_rfl) (fun _ _ _ h => h) (Or.inl ⟨by rfl, ?_⟩) hHeld ?_ ?_
 rotate_left
 ·rintro w' ⟨s0, s1, s2, s3⟩
  go_simp
  with_reducible rfl
 rotate_left
 ·simp only [Act.put, List.setIfInBounds_toArray, List.set_cons_zero, List.set_cons_succ, i64_w, i32_w]
  rfl
 refine take_ (i := 15) (N := some 39) (v := ?_) (a' := ?_) #[true, true, true, true, true, true, true, true, true, true, true, true, true, true, true, true, false, false, false, false, false] rfl rfl (by kernel_rfl) (fun _ _ _ h => h) (Or.inl ⟨by rfl, ?_⟩) hHeld ?_ ?_
 rotate_left
 ·rintro w' ⟨s0, s1, s2, s3⟩
  go_simp
  with_reducible rfl
 rotate_left
 ·simp only [Act.put, List.setIfInBounds_toArray, List.set_cons_zero, List.set_cons_succ, i64_w, i32_w]
  rfl
 refine one_ (i := 16) (N := some 40) #[true, true, true, true, true, true, true, true, true, true, true, true, true, true, true, true, true, false, false, false, false] rfl rfl (by kernel_rfl) (by decide) (fun K hK => ?_)
 refine goes_ Try.func143 (by kernel_rfl) rfl #[.int .i64 f1] (by rfl) rfl rfl (by simp only [List.map_toArray, List.map_cons, List.map_nil]; rfl) ?_
 with_reducible refine (spec_decimal.calls k f1 (dec f1) _ HD.out).mono ?_
 rintro e w3 ⟨rfl, hb⟩
 refine ⟨_, rfl, ?_⟩
 have n0_ := Az.mk (HI.out.below hb)
 have n1_ := Az.mk (Kd.R_below HRV.out hb)
 have n2_ := Az.mk (HLE.out.below hb)
 have n3_ := Az.mk (Nat.le_trans HS0.out (Below.size hb))
 have n4_ := Az.mk (blk_below HBX.out hb)
 clear HI HRV HLE HS0 HBX
 have HI := n0_
 have HRV := n1_
 have HLE := n2_
 have HS0 := n3_
 have HBX := n4_
 clear n0_ n1_ n2_ n3_ n4_
 refine hK.out _ _ ⟨pw_cell_below hb hHeld.1, pw_cell_below hb hHeld.2.1, pw_cell_below hb hHeld.2.2.1, pw_cell_below hb hHeld.2.2.2⟩ (fun hHeld => ?_)
 clear hK K
 refine norm_ (a' := ?_) ?_ ?_
 rotate_left
 ·show Act.put _ (some 40) _ = _
  simp only [Act.put, List.setIfInBounds_toArray, List.set_cons_zero, List.set_cons_succ, i64_w, i32_w]
  rfl
 refine one_ (i := 17) (N := some 41) #[true, true, true, true, true, true, true, true, true, true, true, true, true, true, true, true, true, true, false, false, false] rfl rfl (by kernel_rfl) (by decide) (fun K hK => ?_)
 refine goes_ Try.func142 (by kernel_rfl) rfl #[.string (dec f1)] (by rfl) rfl rfl (by simp only [List.map_toArray, List.map_cons, List.map_nil]; rfl) ?_
 with_reducible refine (spec_intVal.calls (dec f1) 2 (dec f1) 0 _ rfl).mono ?_
 rintro e w4 ⟨rfl, hb⟩
 refine ⟨_, rfl, ?_⟩
 have n0_ := Az.mk (HI.out.below hb)
 have n1_ := Az.mk (Kd.R_below HRV.out hb)
 have n2_ := Az.mk (HLE.out.below hb)
 have n3_ := Az.mk (Nat.le_trans HS0.out (Below.size hb))
 have n4_ := Az.mk (blk_below HBX.out hb)
 clear HI HRV HLE HS0 HBX
 have HI := n0_
 have HRV := n1_
 have HLE := n2_
 have HS0 := n3_
 have HBX := n4_
 clear n0_ n1_ n2_ n3_ n4_
 refine hK.out _ _ ⟨pw_cell_below hb hHeld.1, pw_cell_below hb hHeld.2.1, pw_cell_below hb hHeld.2.2.1, pw_cell_below hb hHeld.2.2.2⟩ (fun hHeld => ?_)
 clear hK K
 refine norm_ (a' := ?_) ?_ ?_
 rotate_left
 ·show Act.put _ (some 41) _ = _
  simp only [Act.put, List.setIfInBounds_toArray, List.set_cons_zero, List.set_cons_succ, i64_w, i32_w]
  rfl
 refine one_ (i := 18) (N := some 42) #[true, true, true, true, true, true, true, true, true, true, true, true, true, true, true, true, true, true, true, false, false] rfl rfl (by kernel_rfl) (by decide) (fun K hK => ?_)
 refine goes_ Try.func141 (by kernel_rfl) rfl #[.slice Av (vs.getD i []).length cl, .string f2, .agg #[.int .i64 2, .string (dec f1), .int .i64 0]] (by rfl) rfl rfl (by simp only [List.map_toArray, List.map_cons, List.map_nil]; rfl) ?_
 with_reducible refine (spec_put.calls ((vs.getD i []).length + 1) (fun k_ => some k_ = Value.ownBlock (.slice Av (vs.getD i []).length cl)) _ (vs.getD i []) f2 2 (dec f1) 0 (putVs (vs.getD i []) f2 ⟨2, dec f1, 0⟩) w0 _ HI.out.be HRV.out (put_f HLV.out)).mono ?_
 rintro e w5 ⟨v2, rfl, ho, hb, hk⟩
 refine ⟨_, rfl, ?_⟩
 obtain ⟨A2, c2, e_⟩ := Kd.R_slice ho
 subst e_
 obtain ⟨hI_, ⟨uu, hy0⟩, hyf⟩ := SpI.backN HI.out HLE.out HS0.out HGV.out HVL.out HIL.out HRV.out hk hb ho
 have n0_ := Az.mk hI_
 have k0_ := kept_cell HI.out.bx HRV.out (by decide) hk (j := 6) hHeld.1
 obtain ⟨cx_, tx_⟩ := Kd.S_typed HI.out.rv gv rfl
 have k1_ := kept_cell tx_ HRV.out (by decide) hk hHeld.2.1
 have k2_ := kept_cell HBX.out HRV.out (by decide) hk (j := 2) hHeld.2.2.1
 have k3_ := kept_cell HBX.out HRV.out (by decide) hk (j := 1) hHeld.2.2.2
 clear HI hI_ HRV HLE HS0 ho hb hk hHeld tx_ HBX
 have HI := n0_
 clear n0_
 refine hK.out _ _ ⟨k0_, k1_, k2_, k3_⟩ (fun hHeld => ?_)
 clear hK K
 refine norm_ (a' := ?_) ?_ ?_
 rotate_left
 ·show Act.put _ (some 42) _ = _
  simp only [Act.put, List.setIfInBounds_toArray, List.set_cons_zero, List.set_cons_succ, i64_w, i32_w]
  rfl
 refine pure_ (i := 19) (N := some 43) (v := ?_) (a' := ?_) #[true, true, true, true, true, true, true, true, true, true, true, true, true, true, true, true, true, true, true, true, false] rfl rfl (by kernel_rfl) (fun _ _ _ h => h) (Or.inl ⟨by rfl, ?_⟩) ?_ ?_
 rotate_left
 ·intro w'
  go_simp
  with_reducible rfl
 rotate_left
 ·simp only [Act.put, List.setIfInBounds_toArray, List.set_cons_zero, List.set_cons_succ, i64_w, i32_w]
  rfl
 refine last_ (i := 20) (N := none) #[true, true, true, true, true, true, true, true, true, true, true, true, true, true, true, true, true, true, true, true, true] rfl rfl (by kernel_rfl) (by decide) (fun K hK => ?_)
 refine skip_ (w1 := ?_) (by rfl) rfl ?_ ?_
 rotate_left
 ·go_simp
  rfl
 refine hK.out _ _ ?_
 clear hK K
 refine done_ (by kernel_rfl) ?_
 clear hy0 hyf hi1 hi2
 go_wp2_with fail
 go_ret
 exact ⟨rfl, _, _, _, _, HI.out, vsAll_set HV.out (by have := HN.out; have := HIL.out; omega) (vsIs_put (vsAt HV.out i) f2 f1 2 0)⟩
theorem sp_step4n (i : Int) (q : Nat) (f2 : ByteArray) (s : IS) (W : World) (hi : q < M.length) (hn : s.nm.length = M.length) (hl : (nms s (q : Int)).length < IB) (hlk : look (nms s (q : Int)) f2 = none) (hR : SpR dec w0 W gI (.slice A0 M.length c0) uf us uv fa s) :
  Calls Try.prog 131 #[.pointer (some ⟨gI, 0, none⟩), .int .i64 i, .agg #[.int .i64 4, .int .i64 (q : Int), .string f2]] W (SpPost dec w0 gI (.slice A0 M.length c0) uf us uv fa false s) := by
 have HR := Az.mk hR
 have HIL := Az.mk hi
 have HN := Az.mk hn
 have HLN := Az.mk hl
 have HLK := Az.mk hlk
 have hi1 : decide ((q : Int) < (M.length : Int)) = true := decide_eq_true (by omega)
 have hi2 : (q < M.length) = True := eq_true (by omega)
 clear hR hi hn hl hlk
 go_enter Try.func131, Try.ntmps131
 go_wp2_with (first | ((with_reducible refine gate_dst (N := 5) rfl ?_); refine box_event ?hg (N := 5) ?hd (cs := #[.int .i64 4, .int .i64 (q : Int), .string f2]) (t := 74) ?hr ?_; (case hd => rfl); (case hg => rfl); (case hr => first | (go_simp; done) | (go_simp; rfl)); intro gb hg w1 hbox hb; have n0_ := Az.mk (HR.out.below hb); have hb0 : w1.cell? ⟨gb, 0, none⟩ = some (.int .i64 4) := (bC hbox 0).trans rfl; have hb1 : w1.cell? ⟨gb, 1, none⟩ = some (.int .i64 (q : Int)) := (bC hbox 1).trans rfl; have hb2 : w1.cell? ⟨gb, 2, none⟩ = some (.string f2) := (bC hbox 2).trans rfl; have HBX := Az.mk hbox; clear HR hb hg hbox; have HR := n0_; clear n0_))
 obtain ⟨ub, uw, ur, vs, hI, hV⟩ := HR.out
 have HVL : Az (vs.length = M.length) := ⟨hV.1.trans HN.out⟩
 obtain ⟨gv, cv, v0, euv, hx, hxf, hRv, _⟩ := hI.lend (i := q) (by rw [HVL.out]; exact HIL.out)
 rw [HVL.out] at euv
 subst euv
 have HVQ : Az (VsIs dec (vs.getD q []) (nms s (q : Int))) := ⟨vsAt hV q⟩
 generalize vs.getD q [] = lq at hRv HVQ
 have HLV : Az (lq.length < 1000000000000) := ⟨by
  obtain ⟨h3, _⟩ := HVQ.out
  have := HLN.out
  unfold IB at this
  omega⟩
 have HFX : Az (spec_find.f (lq.length + 1) lq f2 = some (-1)) := ⟨by
  rw [find_f (by have := HLV.out; omega)]
  obtain ⟨_, h4⟩ := HVQ.out
  have h5 := h4 f2
  rw [HLK.out] at h5
  dsimp only at h5
  rw [h5]
  rfl⟩
 obtain ⟨Av, cl, rfl⟩ := Kd.R_slice hRv
 obtain ⟨hz0, hz1, hz2, hz3, hz4, hz5, hz6, hzf⟩ := hI.cells
 have HI := Az.mk hI
 have HV := Az.mk hV
 have HRV := Az.mk hRv
 clear hI hV hRv hb0
 refine start_ (n := 12) (S := fun w' => w'.cell? ⟨gI, 6, none⟩ = some (.slice (some ⟨gv, 0, none⟩) M.length cv) ∧ w'.cell? ⟨gb, 1, none⟩ = some (.int .i64 (q : Int)) ∧ w'.cell? ⟨gv, q, none⟩ = some (.slice Av lq.length cl) ∧ w'.cell? ⟨gb, 2, none⟩ = some (.string f2)) (ds := []) #[false, false, false, false, false, false, false, false, false, false, false, false] (by kernel_rfl) rfl rfl ⟨hz6, hb1, hx, hb2⟩ (fun hHeld => ?_)
 have n0_ := Az.mk (HI.out.drew)
 have n1_ := Az.mk (Kd.R_drew HRV.out)
 clear HI HRV hz0 hz1 hz2 hz3 hz4 hz5 hz6 hzf hx hxf hb1 hb2
 have HI := n0_
 have HRV := n1_
 clear n0_ n1_
 generalize World.drew _ = w2 at HI HRV hHeld ⊢
 refine pure_ (i := 0) (N := some 46) (v := ?_) (a' := ?_) #[true, false, false, false, false, false, false, false, false, false, false, false] rfl rfl (by kernel_rfl) (fun _ _ _ h => h) (Or.inl ⟨by rfl, ?_⟩) ?_ ?_
 rotate_left
 ·intro w'
  go_simp
  with_reducible rfl
 rotate_left
 ·simp only [Act.put, List.setIfInBounds_toArray, List.set_cons_zero, List.set_cons_succ, i64_w, i32_w]
  rfl
 refine pure_ (i := 1) (N := some 47) (v := ?_) (a' := ?_) #[true, true, false, false, false, false, false, false, false, false, false, false] rfl rfl (by kernel_rfl) (fun _ _ _ h => h) (Or.inl ⟨by rfl, ?_⟩) ?_ ?_
 rotate_left
 ·intro w'
  go_simp
  with_reducible rfl
 rotate_left
 ·simp only [Act.put, List.setIfInBounds_toArray, List.set_cons_zero, List.set_cons_succ, i64_w, i32_w]
  rfl
 refine pure_ (i := 2) (N := some 48) (v := ?_) (a' := ?_) #[true, true, true, false, false, false, false, false, false, false, false, false] rfl rfl (by kernel_rfl) (fun _ _ _ h => h) (Or.inl ⟨by rfl, ?_⟩) ?_ ?_
 rotate_left
 ·intro w'
  go_simp
  with_reducible rfl
 rotate_left
 ·simp only [Act.put, List.setIfInBounds_toArray, List.set_cons_zero, List.set_cons_succ, i64_w, i32_w]
  rfl
 refine pure_ (i := 4) (N := some 50) (v := ?_) (a' := ?_) #[true, true, true, false, true, false, false, false, false, false, false, false] rfl rfl (by kernel_rfl) (fun _ _ _ h => h) (Or.inl ⟨by rfl, ?_⟩) ?_ ?_
 rotate_left
 ·intro w'
  go_simp
  with_reducible rfl
 rotate_left
 ·simp only [Act.put, List.setIfInBounds_toArray, List.set_cons_zero, List.set_cons_succ, i64_w, i32_w]
  rfl
 refine pure_ (i := 8) (N := some 54) (v := ?_) (a' := ?_) #[true, true, true, false, true, false, false, false, true, false, false, false] rfl rfl (by kernel_rfl) (fun _ _ _ h => h) (Or.inl ⟨by rfl, ?_⟩) ?_ ?_
 rotate_left
 ·intro w'
  go_simp
  with_reducible rfl
 rotate_left
 ·simp only [Act.put, List.setIfInBounds_toArray, List.set_cons_zero, List.set_cons_succ, i64_w, i32_w]
  rfl
 refine take_ (i := 3) (N := some 49) (v := ?_) (a' := ?_) #[true, true, true, true, true, false, false, false, true, false, false, false] rfl rfl (by kernel_rfl) (fun _ _ _ h => h) (Or.inl ⟨by rfl, ?_⟩) hHeld ?_ ?_
 rotate_left
 ·rintro w' ⟨s0, s1, s2, s3⟩
  go_simp
  with_reducible rfl
 rotate_left
 ·simp only [Act.put, List.setIfInBounds_toArray, List.set_cons_zero, List.set_cons_succ, i64_w, i32_w]
  rfl
 refine take_ (i := 5) (N := some 51) (v := ?_) (a' := ?_) #[true, true, true, true, true, true, false, false, true, false, false, false] rfl rfl (by kernel_rfl) (fun _ _ _ h => h) (Or.inl ⟨by rfl, ?_⟩) hHeld ?_ ?_
 rotate_left
 ·rintro w' ⟨s0, s1, s2, s3⟩
  go_simp
  with_reducible rfl
 rotate_left
 ·simp only [Act.put, List.setIfInBounds_toArray, List.set_cons_zero, List.set_cons_succ, i64_w, i32_w]
  rfl
 refine pure_ (i := 6) (N := some 52) (v := ?_) (a' := ?_) #[true, true, true, true, true, true, true, false, true, false, false, false] rfl rfl (by kernel_rfl) (fun _ _ _ h => h) (Or.inl ⟨by rfl, ?_⟩) ?_ ?_
 rotate_left
 ·intro w'
  go_simp
  with_reducible rfl
 rotate_left
 ·simp only [Act.put, List.setIfInBounds_toArray, List.set_cons_zero, List.set_cons_succ, i64_w, i32_w]
  rfl
 refine take_ (i := 7) (N := some 53) (v := ?_) (a' := ?_) #[true, true, true, true, true, true, true, true, true, false, false, false] rfl rfl (by kernel_rfl) (fun _ _ _ h => h) (Or.inl ⟨by rfl, ?_⟩) hHeld ?_ ?_
 rotate_left
 ·rintro w' ⟨s0, s1, s2, s3⟩
  go_simp
  with_reducible rfl
 rotate_left
 ·simp only [Act.put, List.setIfInBounds_toArray, List.set_cons_zero, List.set_cons_succ, i64_w, i32_w]
  rfl
 refine take_ (i := 9) (N := some 55) (v := ?_) (a' := ?_) #[true, true, true, true, true, true, true, true, true, true, false, false] rfl rfl (by kernel_rfl) (fun _ _ _ h => h) (Or.inl ⟨by rfl, ?_⟩) hHeld ?_ ?_
 rotate_left
 ·rintro w' ⟨s0, s1, s2, s3⟩
  go_simp
  with_reducible rfl
 rotate_left
 ·simp only [Act.put, List.setIfInBounds_toArray, List.set_cons_zero, List.set_cons_succ, i64_w, i32_w]
  rfl
 refine one_ (i := 10) (N := some 56) #[true, true, true, true, true, true, true, true, true, true, true, false] rfl rfl (by kernel_rfl) (by decide) (fun K hK => ?_)
 refine goes_ Try.func144 (by kernel_rfl) rfl #[.slice Av lq.length cl, .string f2] (by rfl) rfl rfl (by simp only [List.map_toArray, List.map_cons, List.map_nil]; rfl) ?_
 with_reducible refine (spec_find.calls (lq.length + 1) (Av) cl lq f2 (-1) _ (Kd.R_reads' HRV.out).2.2 (Kd.R_reads' HRV.out).2.1 HFX.out).mono ?_
 rintro e w3 ⟨rfl, hd⟩
 refine ⟨_, rfl, ?_⟩
 have hb := hd.below
 clear hd
 have n0_ := Az.mk (HI.out.below hb)
 have n1_ := Az.mk (Kd.R_below HRV.out hb)
 clear HI HRV
 have HI := n0_
 have HRV := n1_
 clear n0_ n1_
 refine hK.out _ _ ⟨pw_cell_below hb hHeld.1, pw_cell_below hb hHeld.2.1, pw_cell_below hb hHeld.2.2.1, pw_cell_below hb hHeld.2.2.2⟩ (fun hHeld => ?_)
 clear hK K
 refine norm_ (a' := ?_) ?_ ?_
 rotate_left
 ·show Act.put _ (some 56) _ = _
  simp only [Act.put, List.setIfInBounds_toArray, List.set_cons_zero, List.set_cons_succ, i64_w, i32_w]
  rfl
 refine pure_ (i := 11) (N := some 7) (v := ?_) (a' := ?_) #[true, true, true, true, true, true, true, true, true, true, true, true] rfl rfl (by kernel_rfl) (fun _ _ _ h => h) (Or.inl ⟨by rfl, ?_⟩) ?_ ?_
 rotate_left
 ·intro w'
  go_simp
  with_reducible rfl
 rotate_left
 ·simp only [Act.put, List.setIfInBounds_toArray, List.set_cons_zero, List.set_cons_succ, i64_w, i32_w]
  rfl
 refine done_ (by kernel_rfl) ?_
 clear hi1 hi2 hHeld
 go_wp2_with fail
 go_ret
 exact ⟨rfl, _, _, _, _, HI.out, HV.out⟩
theorem sp_step4s (i : Int) (q : Nat) (f2 : ByteArray) (s : IS) (W : World) (hi : q < M.length) (hn : s.nm.length = M.length) (hl : (nms s (q : Int)).length < IB) (v : Int) (hlk : look (nms s (q : Int)) f2 = some v) (hre : s.re.length < IB) (hR : SpR dec w0 W gI (.slice A0 M.length c0) uf us uv fa s) :
  Calls Try.prog 131 #[.pointer (some ⟨gI, 0, none⟩), .int .i64 i, .agg #[.int .i64 4, .int .i64 (q : Int), .string f2]] W (SpPost dec w0 gI (.slice A0 M.length c0) uf us uv fa true { s with re := s.re ++ [dec v] }) := by
 have HR := Az.mk hR
 have HIL := Az.mk hi
 have HN := Az.mk hn
 have HLN := Az.mk hl
 have HLK := Az.mk hlk
 have HRE := Az.mk hre
 have hi1 : decide ((q : Int) < (M.length : Int)) = true := decide_eq_true (by omega)
 have hi2 : (q < M.length) = True := eq_true (by omega)
 clear hR hi hn hl hlk hre
 go_enter Try.func131, Try.ntmps131
 go_wp2_with (first | ((with_reducible refine gate_dst (N := 5) rfl ?_); refine box_event ?hg (N := 5) ?hd (cs := #[.int .i64 4, .int .i64 (q : Int), .string f2]) (t := 74) ?hr ?_; (case hd => rfl); (case hg => rfl); (case hr => first | (go_simp; done) | (go_simp; rfl)); intro gb hg w1 hbox hb; have n0_ := Az.mk (HR.out.below hb); have hb0 : w1.cell? ⟨gb, 0, none⟩ = some (.int .i64 4) := (bC hbox 0).trans rfl; have hb1 : w1.cell? ⟨gb, 1, none⟩ = some (.int .i64 (q : Int)) := (bC hbox 1).trans rfl; have hb2 : w1.cell? ⟨gb, 2, none⟩ = some (.string f2) := (bC hbox 2).trans rfl; have HBX := Az.mk hbox; clear HR hb hg hbox; have HR := n0_; clear n0_))
 obtain ⟨ub, uw, ur, vs, hI, hV⟩ := HR.out
 have HVL : Az (vs.length = M.length) := ⟨hV.1.trans HN.out⟩
 obtain ⟨gv, cv, v0, euv, hx, hxf, hRv, _⟩ := hI.lend (i := q) (by rw [HVL.out]; exact HIL.out)
 rw [HVL.out] at euv
 subst euv
 have HVQ : Az (VsIs dec (vs.getD q []) (nms s (q : Int))) := ⟨vsAt hV q⟩
 generalize vs.getD q [] = lq at hRv HVQ
 have HLV : Az (lq.length < 1000000000000) := ⟨by
  obtain ⟨h3, _⟩ := HVQ.out
  have := HLN.out
  unfold IB at this
  omega⟩
 obtain ⟨j, HJ⟩ : ∃ j : Nat, Az (fidx f2 lq 0 = some j ∧ (rd_T177 lq (j : Int)).f1.f1 = dec v) := by
  obtain ⟨_, h4⟩ := HVQ.out
  have h5 := h4 f2
  rw [HLK.out] at h5
  dsimp only at h5
  obtain ⟨j, h6, h7⟩ := h5
  exact ⟨j, ⟨h6, h7⟩⟩
 have HJL : Az (j < lq.length) := ⟨by obtain ⟨_, h, _⟩ := fidx_bd HJ.out.1; omega⟩
 have HFX : Az (spec_find.f (lq.length + 1) lq f2 = some (j : Int)) := ⟨by
  rw [find_f (by have := HLV.out; omega), HJ.out.1]; rfl⟩
 obtain ⟨ga, cl, rfl, _⟩ := Kd.R_form hRv (by have := HJL.out; omega)
 obtain ⟨hz0, hz1, hz2, hz3, hz4, hz5, hz6, hzf⟩ := hI.cells
 have HI := Az.mk hI
 have HV := Az.mk hV
 have HRV := Az.mk hRv
 clear hI hV hRv hb0
 refine start_ (n := 12) (S := fun w' => w'.cell? ⟨gI, 6, none⟩ = some (.slice (some ⟨gv, 0, none⟩) M.length cv) ∧ w'.cell? ⟨gb, 1, none⟩ = some (.int .i64 (q : Int)) ∧ w'.cell? ⟨gv, q, none⟩ = some (.slice (some ⟨ga, 0, none⟩) lq.length cl) ∧ w'.cell? ⟨gb, 2, none⟩ = some (.string f2)) (ds := []) #[false, false, false, false, false, false, false, false, false, false, false, false] (by kernel_rfl) rfl rfl ⟨hz6, hb1, hx, hb2⟩ (fun hHeld => ?_)
 have n0_ := Az.mk (HI.out.drew)
 have n1_ := Az.mk (Kd.R_drew HRV.out)
 clear HI HRV hz0 hz1 hz2 hz3 hz4 hz5 hz6 hzf hx hxf hb1 hb2
 have HI := n0_
 have HRV := n1_
 clear n0_ n1_
 generalize World.drew _ = w2 at HI HRV hHeld ⊢
 refine pure_ (i := 0) (N := some 46) (v := ?_) (a' := ?_) #[true, false, false, false, false, false, false, false, false, false, false, false] rfl rfl (by kernel_rfl) (fun _ _ _ h => h) (Or.inl ⟨by rfl, ?_⟩) ?_ ?_
 rotate_left
 ·intro w'
  go_simp
  with_reducible rfl
 rotate_left
 ·simp only [Act.put, List.setIfInBounds_toArray, List.set_cons_zero, List.set_cons_succ, i64_w, i32_w]
  rfl
 refine pure_ (i := 1) (N := some 47) (v := ?_) (a' := ?_) #[true, true, false, false, false, false, false, false, false, false, false, false] rfl rfl (by kernel_rfl) (fun _ _ _ h => h) (Or.inl ⟨by rfl, ?_⟩) ?_ ?_
 rotate_left
 ·intro w'
  go_simp
  with_reducible rfl
 rotate_left
 ·simp only [Act.put, List.setIfInBounds_toArray, List.set_cons_zero, List.set_cons_succ, i64_w, i32_w]
  rfl
 refine pure_ (i := 2) (N := some 48) (v := ?_) (a' := ?_) #[true, true, true, false, false, false, false, false, false, false, false, false] rfl rfl (by kernel_rfl) (fun _ _ _ h => h) (Or.inl ⟨by rfl, ?_⟩) ?_ ?_
 rotate_left
 ·intro w'
  go_simp
  with_reducible rfl
 rotate_left
 ·simp only [Act.put, List.setIfInBounds_toArray, List.set_cons_zero, List.set_cons_succ, i64_w, i32_w]
  rfl
 refine pure_ (i := 4) (N := some 50) (v := ?_) (a' := ?_) #[true, true, true, false, true, false, false, false, false, false, false, false] rfl rfl (by kernel_rfl) (fun _ _ _ h => h) (Or.inl ⟨by rfl, ?_⟩) ?_ ?_
 rotate_left
 ·intro w'
  go_simp
  with_reducible rfl
 rotate_left
 ·simp only [Act.put, List.setIfInBounds_toArray, List.set_cons_zero, List.set_cons_succ, i64_w, i32_w]
  rfl
 refine pure_ (i := 8) (N := some 54) (v := ?_) (a' := ?_) #[true, true, true, false, true, false, false, false, true, false, false, false] rfl rfl (by kernel_rfl) (fun _ _ _ h => h) (Or.inl ⟨by rfl, ?_⟩) ?_ ?_
 rotate_left
 ·intro w'
  go_simp
  with_reducible rfl
 rotate_left
 ·simp only [Act.put, List.setIfInBounds_toArray, List.set_cons_zero, List.set_cons_succ, i64_w, i32_w]
  rfl
 refine take_ (i := 3) (N := some 49) (v := ?_) (a' := ?_) #[true, true, true, true, true, false, false, false, true, false, false, false] rfl rfl (by kernel_rfl) (fun _ _ _ h => h) (Or.inl ⟨by rfl, ?_⟩) hHeld ?_ ?_
 rotate_left
 ·rintro w' ⟨s0, s1, s2, s3⟩
  go_simp
  with_reducible rfl
 rotate_left
 ·simp only [Act.put, List.setIfInBounds_toArray, List.set_cons_zero, List.set_cons_succ, i64_w, i32_w]
  rfl
 refine take_ (i := 5) (N := some 51) (v := ?_) (a' := ?_) #[true, true, true, true, true, true, false, false, true, false, false, false] rfl rfl (by kernel_rfl) (fun _ _ _ h => h) (Or.inl ⟨by rfl, ?_⟩) hHeld ?_ ?_
 rotate_left
 ·rintro w' ⟨s0, s1, s2, s3⟩
  go_simp
  with_reducible rfl
 rotate_left
 ·simp only [Act.put, List.setIfInBounds_toArray, List.set_cons_zero, List.set_cons_succ, i64_w, i32_w]
  rfl
 refine pure_ (i := 6) (N := some 52) (v := ?_) (a' := ?_) #[true, true, true, true, true, true, true, false, true, false, false, false] rfl rfl (by kernel_rfl) (fun _ _ _ h => h) (Or.inl ⟨by rfl, ?_⟩) ?_ ?_
 rotate_left
 ·intro w'
  go_simp
  with_reducible rfl
 rotate_left
 ·simp only [Act.put, List.setIfInBounds_toArray, List.set_cons_zero, List.set_cons_succ, i64_w, i32_w]
  rfl
 refine take_ (i := 7) (N := some 53) (v := ?_) (a' := ?_) #[true, true, true, true, true, true, true, true, true, false, false, false] rfl rfl (by kernel_rfl) (fun _ _ _ h => h) (Or.inl ⟨by rfl, ?_⟩) hHeld ?_ ?_
 rotate_left
 ·rintro w' ⟨s0, s1, s2, s3⟩
  go_simp
  with_reducible rfl
 rotate_left
 ·simp only [Act.put, List.setIfInBounds_toArray, List.set_cons_zero, List.set_cons_succ, i64_w, i32_w]
  rfl
 refine take_ (i := 9) (N := some 55) (v := ?_) (a' := ?_) #[true, true, true, true, true, true, true, true, true, true, false, false] rfl rfl (by kernel_rfl) (fun _ _ _ h => h) (Or.inl ⟨by rfl, ?_⟩) hHeld ?_ ?_
 rotate_left
 ·rintro w' ⟨s0, s1, s2, s3⟩
  go_simp
  with_reducible rfl
 rotate_left
 ·simp only [Act.put, List.setIfInBounds_toArray, List.set_cons_zero, List.set_cons_succ, i64_w, i32_w]
  rfl
 refine one_ (i := 10) (N := some 56) #[true, true, true, true, true, true, true, true, true, true, true, false] rfl rfl (by kernel_rfl) (by decide) (fun K hK => ?_)
 refine goes_ Try.func144 (by kernel_rfl) rfl #[.slice (some ⟨ga, 0, none⟩) lq.length cl, .string f2] (by rfl) rfl rfl (by simp only [List.map_toArray, List.map_cons, List.map_nil]; rfl) ?_
 with_reducible refine (spec_find.calls (lq.length + 1) (some ⟨ga, 0, none⟩) cl lq f2 ((j : Int)) _ (Kd.R_reads' HRV.out).2.2 (Kd.R_reads' HRV.out).2.1 HFX.out).mono ?_
 rintro e w3 ⟨rfl, hd⟩
 refine ⟨_, rfl, ?_⟩
 have hb := hd.below
 clear hd
 have n0_ := Az.mk (HI.out.below hb)
 have n1_ := Az.mk (Kd.R_below HRV.out hb)
 clear HI HRV
 have HI := n0_
 have HRV := n1_
 clear n0_ n1_
 refine hK.out _ _ ⟨pw_cell_below hb hHeld.1, pw_cell_below hb hHeld.2.1, pw_cell_below hb hHeld.2.2.1, pw_cell_below hb hHeld.2.2.2⟩ (fun hHeld => ?_)
 clear hK K
 refine norm_ (a' := ?_) ?_ ?_
 rotate_left
 ·show Act.put _ (some 56) _ = _
  simp only [Act.put, List.setIfInBounds_toArray, List.set_cons_zero, List.set_cons_succ, i64_w, i32_w]
  rfl
 refine pure_ (i := 11) (N := some 7) (v := ?_) (a' := ?_) #[true, true, true, true, true, true, true, true, true, true, true, true] rfl rfl (by kernel_rfl) (fun _ _ _ h => h) (Or.inl ⟨by rfl, ?_⟩) ?_ ?_
 rotate_left
 ·intro w'
  go_simp
  with_reducible rfl
 rotate_left
 ·simp only [Act.put, List.setIfInBounds_toArray, List.set_cons_zero, List.set_cons_succ, i64_w, i32_w]
  rfl
 refine done_ (by kernel_rfl) ?_
 have hb1 := hHeld.2.1
 have hx := hHeld.2.2.1
 have hz6 := hHeld.1
 have hz4 := HI.out.cells.2.2.2.2.1
 obtain ⟨ce, hcl, hM, hcc, hfr⟩ := Kd.R_elem HRV.out z177 (j : Int) (by omega) (by have := HJL.out; omega)
 obtain rfl := k177_openM hM
 have ht : w3.cell? ⟨ga, j * 5 + 2, none⟩ = some (.string (rd_T177 lq (j : Int)).f1.f1) := hcc 2 _ rfl
 rw [HJ.out.2] at ht
 have hj0 : decide ((j : Int) < 0) = false := decide_eq_false (by omega)
 have hj1 : decide ((j : Int) < (lq.length : Int)) = true := decide_eq_true (by have := HJL.out; omega)
 have hj2 : (j < lq.length) = True := eq_true HJL.out
 clear hcl hM hcc hfr hHeld
 go_wp2_with fail
 refine start_ (n := 25) (S := fun w' => w'.cell? ⟨gI, 4, none⟩ = some ur ∧ w'.cell? ⟨gI, 6, none⟩ = some (.slice (some ⟨gv, 0, none⟩) M.length cv) ∧ w'.cell? ⟨gb, 1, none⟩ = some (.int .i64 (q : Int)) ∧ w'.cell? ⟨gv, q, none⟩ = some (.slice (some ⟨ga, 0, none⟩) lq.length cl) ∧ w'.cell? ⟨ga, j * 5 + 2, none⟩ = some (.string (dec v))) (ds := [20, 24]) #[false, false, false, false, false, false, false, false, false, false, false, false, false, false, false, false, false, false, false, false, false, false, false, false, false] (by kernel_rfl) rfl rfl ⟨hz4, hz6, hb1, hx, ht⟩ (fun hHeld => ?_)
 have n0_ := Az.mk (HI.out.drew)
 clear HI hz4 hz6 hx hb1 ht
 have HI := n0_
 clear n0_
 generalize World.drew _ = w4 at HI hHeld ⊢
 refine pure_ (i := 0) (N := some 59) (v := ?_) (a' := ?_) #[true, false, false, false, false, false, false, false, false, false, false, false, false, false, false, false, false, false, false, false, false, false, false, false, false] rfl rfl (by kernel_rfl) (fun _ _ _ h => h) (Or.inl ⟨by rfl, ?_⟩) ?_ ?_
 rotate_left
 ·intro w'
  go_simp
  with_reducible rfl
 rotate_left
 ·simp only [Act.put, List.setIfInBounds_toArray, List.set_cons_zero, List.set_cons_succ, i64_w, i32_w]
  rfl
 refine pure_ (i := 1) (N := some 60) (v := ?_) (a' := ?_) #[true, true, false, false, false, false, false, false, false, false, false, false, false, false, false, false, false, false, false, false, false, false, false, false, false] rfl rfl (by kernel_rfl) (fun _ _ _ h => h) (Or.inl ⟨by rfl, ?_⟩) ?_ ?_
 rotate_left
 ·intro w'
  go_simp
  with_reducible rfl
 rotate_left
 ·simp only [Act.put, List.setIfInBounds_toArray, List.set_cons_zero, List.set_cons_succ, i64_w, i32_w]
  rfl
 refine pure_ (i := 2) (N := some 61) (v := ?_) (a' := ?_) #[true, true, true, false, false, false, false, false, false, false, false, false, false, false, false, false, false, false, false, false, false, false, false, false, false] rfl rfl (by kernel_rfl) (fun _ _ _ h => h) (Or.inl ⟨by rfl, ?_⟩) ?_ ?_
 rotate_left
 ·intro w'
  go_simp
  with_reducible rfl
 rotate_left
 ·simp only [Act.put, List.setIfInBounds_toArray, List.set_cons_zero, List.set_cons_succ, i64_w, i32_w]
  rfl
 refine pure_ (i := 3) (N := some 62) (v := ?_) (a' := ?_) #[true, true, true, true, false, false, false, false, false, false, false, false, false, false, false, false, false, false, false, false, false, false, false, false, false] rfl rfl (by kernel_rfl) (fun _ _ _ h => h) (Or.inl ⟨by rfl, ?_⟩) ?_ ?_
 rotate_left
 ·intro w'
  go_simp
  with_reducible rfl
 rotate_left
 ·simp only [Act.put, List.setIfInBounds_toArray, List.set_cons_zero, List.set_cons_succ, i64_w, i32_w]
  rfl
 refine pure_ (i := 4) (N := some 63) (v := ?_) (a' := ?_) #[true, true, true, true, true, false, false, false, false, false, false, false, false, false, false, false, false, false, false, false, false, false, false, false, false] rfl rfl (by kernel_rfl) (fun _ _ _ h => h) (Or.inl ⟨by rfl, ?_⟩) ?_ ?_
 rotate_left
 ·intro w'
  go_simp
  with_reducible rfl
 rotate_left
 ·simp only [Act.put, List.setIfInBounds_toArray, List.set_cons_zero, List.set_cons_succ, i64_w, i32_w]
  rfl
 refine pure_ (i := 6) (N := some 65) (v := ?_) (a' := ?_) #[true, true, true, true, true, false, true, false, false, false, false, false, false, false, false, false, false, false, false, false, false, false, false, false, false] rfl rfl (by kernel_rfl) (fun _ _ _ h => h) (Or.inl ⟨by rfl, ?_⟩) ?_ ?_
 rotate_left
 ·intro w'
  go_simp
  with_reducible rfl
 rotate_left
 ·simp only [Act.put, List.setIfInBounds_toArray, List.set_cons_zero, List.set_cons_succ, i64_w, i32_w]
  rfl
 refine pure_ (i := 7) (N := some 66) (v := ?_) (a' := ?_) #[true, true, true, true, true, false, true, true, false, false, false, false, false, false, false, false, false, false, false, false, false, false, false, false, false] rfl rfl (by kernel_rfl) (fun _ _ _ h => h) (Or.inl ⟨by rfl, ?_⟩) ?_ ?_
 rotate_left
 ·intro w'
  go_simp
  with_reducible rfl
 rotate_left
 ·simp only [Act.put, List.setIfInBounds_toArray, List.set_cons_zero, List.set_cons_succ, i64_w, i32_w]
  rfl
 refine pure_ (i := 8) (N := some 67) (v := ?_) (a' := ?_) #[true, true, true, true, true, false, true, true, true, false, false, false, false, false, false, false, false, false, false, false, false, false, false, false, false] rfl rfl (by kernel_rfl) (fun _ _ _ h => h) (Or.inl ⟨by rfl, ?_⟩) ?_ ?_
 rotate_left
 ·intro w'
  go_simp
  with_reducible rfl
 rotate_left
 ·simp only [Act.put, List.setIfInBounds_toArray, List.set_cons_zero, List.set_cons_succ, i64_w, i32_w]
  rfl
 refine pure_ (i := 10) (N := some 69) (v := ?_) (a' := ?_) #[true, true, true, true, true, false, true, true, true, false, true, false, false, false, false, false, false, false, false, false, false, false, false, false, false] rfl rfl (by kernel_rfl) (fun _ _ _ h => h) (Or.inl ⟨by rfl, ?_⟩) ?_ ?_
 rotate_left
 ·intro w'
  go_simp
  with_reducible rfl
 rotate_left
 ·simp only [Act.put, List.setIfInBounds_toArray, List.set_cons_zero, List.set_cons_succ, i64_w, i32_w]
  rfl
 refine pure_ (i := 14) (N := some 73) (v := ?_) (a' := ?_) #[true, true, true, true, true, false, true, true, true, false, true, false, false, false, true, false, false, false, false, false, false, false, false, false, false] rfl rfl (by kernel_rfl) (fun _ _ _ h => h) (Or.inl ⟨by rfl, ?_⟩) ?_ ?_
 rotate_left
 ·intro w'
  go_simp
  with_reducible rfl
 rotate_left
 ·simp only [Act.put, List.setIfInBounds_toArray, List.set_cons_zero, List.set_cons_succ, i64_w, i32_w]
  rfl
 refine take_ (i := 5) (N := some 64) (v := ?_) (a' := ?_) #[true, true, true, true, true, true, true, true, true, false, true, false, false, false, true, false, false, false, false, false, false, false, false, false, false] rfl rfl (by kernel_rfl) (fun _ _ _ h => h) (Or.inl ⟨by rfl, ?_⟩) hHeld ?_ ?_
 rotate_left
 ·rintro w' ⟨s0, s1, s2, s3, s4⟩
  go_simp
  with_reducible rfl
 rotate_left
 ·simp only [Act.put, List.setIfInBounds_toArray, List.set_cons_zero, List.set_cons_succ, i64_w, i32_w]
  rfl
 refine take_ (i := 9) (N := some 68) (v := ?_) (a' := ?_) #[true, true, true, true, true, true, true, true, true, true, true, false, false, false, true, false, false, false, false, false, false, false, false, false, false] rfl rfl (by kernel_rfl) (fun _ _ _ h => h) (Or.inl ⟨by rfl, ?_⟩) hHeld ?_ ?_
 rotate_left
 ·rintro w' ⟨s0, s1, s2, s3, s4⟩
  go_simp
  with_reducible rfl
 rotate_left
 ·simp only [Act.put, List.setIfInBounds_toArray, List.set_cons_zero, List.set_cons_succ, i64_w, i32_w]
  rfl
 refine take_ (i := 11) (N := some 70) (v := ?_) (a' := ?_) #[true, true, true, true, true, true, true, true, true, true, true, true, false, false, true, false, false, false, false, false, false, false, false, false, false] rfl rfl (by kernel_rfl) (fun _ _ _ h => h) (Or.inl ⟨by rfl, ?_⟩) hHeld ?_ ?_
 rotate_left
 ·rintro w' ⟨s0, s1, s2, s3, s4⟩
  go_simp
  with_reducible rfl
 rotate_left
 ·simp only [Act.put, List.setIfInBounds_toArray, List.set_cons_zero, List.set_cons_succ, i64_w, i32_w]
  rfl
 refine pure_ (i := 12) (N := some 71) (v := ?_) (a' := ?_) #[true, true, true, true, true, true, true, true, true, true, true, true, true, false, true, false, false, false, false, false, false, false, false, false, false] rfl rfl (by kernel_rfl) (fun _ _ _ h => h) (Or.inl ⟨by rfl, ?_⟩) ?_ ?_
 rotate_left
 ·intro w'
  go_simp
  with_reducible rfl
 rotate_left
 ·simp only [Act.put, List.setIfInBounds_toArray, List.set_cons_zero, List.set_cons_succ, i64_w, i32_w]
  rfl
 refine take_ (i := 13) (N := some 72) (v := ?_) (a' := ?_) #[true, true, true, true, true, true, true, true, true, true, true, true, true, true, true, false, false, false, false, false, false, false, false, false, false] rfl rfl (by kernel_rfl) (fun _ _ _ h => h) (Or.inl ⟨by rfl, ?_⟩) hHeld ?_ ?_
 rotate_left
 ·rintro w' ⟨s0, s1, s2, s3, s4⟩
  go_simp
  with_reducible rfl
 rotate_left
 ·simp only [Act.put, List.setIfInBounds_toArray, List.set_cons_zero, List.set_cons_succ, i64_w, i32_w]
  rfl
 refine pure_ (i := 15) (N := some 74) (v := ?_) (a' := ?_) #[true, true, true, true, true, true, true, true, true, true, true, true, true, true, true, true, false, false, false, false, false, false, false, false, false] rfl rfl (by kernel_rfl) (fun _ _ _ h => h) (Or.inl ⟨by rfl, ?_⟩) ?_ ?_
 rotate_left
 ·intro w'
  go_simp
  with_reducible rfl
 rotate_left
 ·simp only [Act.put, List.setIfInBounds_toArray, List.set_cons_zero, List.set_cons_succ, i64_w, i32_w]
  rfl
 refine pure_ (i := 16) (N := some 75) (v := ?_) (a' := ?_) #[true, true, true, true, true, true, true, true, true, true, true, true, true, true, true, true, true, false, false, false, false, false, false, false, false] rfl rfl (by kernel_rfl) (fun _ _ _ h => h) (Or.inl ⟨by rfl, ?_⟩) ?_ ?_
 rotate_left
 ·intro w'
  go_simp
  with_reducible rfl
 rotate_left
 ·simp only [Act.put, List.setIfInBounds_toArray, List.set_cons_zero, List.set_cons_succ, i64_w, i32_w]
  rfl
 refine pure_ (i := 17) (N := some 76) (v := ?_) (a' := ?_) #[true, true, true, true, true, true, true, true, true, true, true, true, true, true, true, true, true, true, false, false, false, false, false, false, false] rfl rfl (by kernel_rfl) (fun _ _ _ h => h) (Or.inl ⟨by rfl, ?_⟩) ?_ ?_
 rotate_left
 ·intro w'
  go_simp
  with_reducible rfl
 rotate_left
 ·simp only [Act.put, List.setIfInBounds_toArray, List.set_cons_zero, List.set_cons_succ, i64_w, i32_w]
  rfl
 refine take_ (i := 18) (N := some 77) (v := ?_) (a' := ?_) #[true, true, true, true, true, true, true, true, true, true, true, true, true, true, true, true, true, true, true, false, false, false, false, false, false] rfl rfl (by kernel_rfl) (fun _ _ _ h => h) (Or.inl ⟨by rfl, ?_⟩) hHeld ?_ ?_
 rotate_left
 ·rintro w' ⟨s0, s1, s2, s3, s4⟩
  go_simp
  with_reducible rfl
 rotate_left
 ·simp only [Act.put, List.setIfInBounds_toArray, List.set_cons_zero, List.set_cons_succ, i64_w, i32_w]
  rfl
 refine one_ (i := 19) (N := some 78) #[true, true, true, true, true, true, true, true, true, true, true, true, true, true, true, true, true, true, true, true, false, false, false, false, false] rfl rfl (by kernel_rfl) (by decide) (fun K hK => ?_)
 refine value_ (w1 := ?_) (v := ?_) (by rfl) rfl ?_ ?_
 rotate_left 2
 ·go_simp
  constructor
  ·rfl
  ·rfl
 refine hK.out _ _ ⟨(World.cell?_alloc_past _ _ _ (World.block_lt_of_cell? _ _ hHeld.1)).trans hHeld.1, (World.cell?_alloc_past _ _ _ (World.block_lt_of_cell? _ _ hHeld.2.1)).trans hHeld.2.1, (World.cell?_alloc_past _ _ _ (World.block_lt_of_cell? _ _ hHeld.2.2.1)).trans hHeld.2.2.1, (World.cell?_alloc_past _ _ _ (World.block_lt_of_cell? _ _ hHeld.2.2.2.1)).trans hHeld.2.2.2.1, (World.cell?_alloc_past _ _ _ (World.block_lt_of_cell? _ _ hHeld.2.2.2.2)).trans hHeld.2.2.2.2⟩ (fun hHeld => ?_)
 clear hK K
 refine norm_ (a' := ?_) ?_ ?_
 rotate_left
 ·show Act.put _ (some 78) _ = _
  simp only [Act.put, List.setIfInBounds_toArray, List.set_cons_zero, List.set_cons_succ, i64_w, i32_w]
  rfl
 refine last_ (i := 20) (N := some 79) #[true, true, true, true, true, true, true, true, true, true, true, true, true, true, true, true, true, true, true, true, true, false, false, false, false] rfl rfl (by kernel_rfl) (by decide) (fun K hK => ?_)
 refine Kd.R_append_step Kd.string (w0 := w0) w0.heap.size (by rfl) (.tmp 64) (.tmp 78) 46 9 (.string ⟨#[]⟩) 16 rfl Try.underlying46 info9 rfl (by decide) (by omega) ur s.re (dec v) [.string (dec v)] (fun _ => True) (fun _ => False) rfl rfl ?aP (fun _ hk => hk.elim) ?aF ?aO ?aB ?aS ?aL ?_
 (case aP => exact rfl)
 (case aB => exact HI.out.be)
 (case aF => exact (fun _ _ => trivial))
 (case aO => exact HI.out.rr)
 (case aS => exact below_size HI.out.be)
 (case aL => have := HRE.out; unfold IB at this; omega)
 intro v1 w5 ho hb hg hat
 obtain ⟨A1, c1, e_⟩ := Kd.R_slice ho
 simp only [List.length_append, List.length_cons, List.length_nil, Nat.zero_add] at e_
 subst e_
 obtain ⟨hI_, hy0, hyf⟩ := SpI.putR HI.out ho hb hg
 have n0_ := Az.mk hI_
 clear HI hI_ HRV ho hb hg hat hHeld
 have HI := n0_
 clear n0_
 refine hK.out _ _ ?_
 clear hK K
 refine norm_ (a' := ?_) ?_ ?_
 rotate_left
 ·show Act.put _ (some 79) _ = _
  simp only [Act.put, List.setIfInBounds_toArray, List.set_cons_zero, List.set_cons_succ, i64_w, i32_w]
  rfl
 refine pure_ (i := 21) (N := some 80) (v := ?_) (a' := ?_) #[true, true, true, true, true, true, true, true, true, true, true, true, true, true, true, true, true, true, true, true, true, true, false, false, false] rfl rfl (by kernel_rfl) (fun _ _ _ h => h) (Or.inl ⟨by rfl, ?_⟩) ?_ ?_
 rotate_left
 ·intro w'
  go_simp
  with_reducible rfl
 rotate_left
 ·simp only [Act.put, List.setIfInBounds_toArray, List.set_cons_zero, List.set_cons_succ, i64_w, i32_w]
  rfl
 refine pure_ (i := 22) (N := some 81) (v := ?_) (a' := ?_) #[true, true, true, true, true, true, true, true, true, true, true, true, true, true, true, true, true, true, true, true, true, true, true, false, false] rfl rfl (by kernel_rfl) (fun _ _ _ h => h) (Or.inl ⟨by rfl, ?_⟩) ?_ ?_
 rotate_left
 ·intro w'
  go_simp
  with_reducible rfl
 rotate_left
 ·simp only [Act.put, List.setIfInBounds_toArray, List.set_cons_zero, List.set_cons_succ, i64_w, i32_w]
  rfl
 refine pure_ (i := 23) (N := some 82) (v := ?_) (a' := ?_) #[true, true, true, true, true, true, true, true, true, true, true, true, true, true, true, true, true, true, true, true, true, true, true, true, false] rfl rfl (by kernel_rfl) (fun _ _ _ h => h) (Or.inl ⟨by rfl, ?_⟩) ?_ ?_
 rotate_left
 ·intro w'
  go_simp
  with_reducible rfl
 rotate_left
 ·simp only [Act.put, List.setIfInBounds_toArray, List.set_cons_zero, List.set_cons_succ, i64_w, i32_w]
  rfl
 refine last_ (i := 24) (N := none) #[true, true, true, true, true, true, true, true, true, true, true, true, true, true, true, true, true, true, true, true, true, true, true, true, true] rfl rfl (by kernel_rfl) (by decide) (fun K hK => ?_)
 refine skip_ (w1 := ?_) (by rfl) rfl ?_ ?_
 rotate_left
 ·go_simp
  rfl
 refine hK.out _ _ ?_
 clear hK K
 refine done_ (by kernel_rfl) ?_
 clear hy0 hyf hi1 hi2 hj0 hj1 hj2
 go_wp2_with fail
 go_ret
 exact ⟨rfl, _, _, _, _, HI.out, HV.out⟩
end Go.Proofs.Ytehhhlhedmfdiaa.PFnImportRun
end
