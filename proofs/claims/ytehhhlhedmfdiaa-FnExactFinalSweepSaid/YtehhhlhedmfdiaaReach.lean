/- Plain graphs: what is reached from some nodes; two marked lists that both tell it are one list. No program in sight. -/
namespace Go.Proofs.Ytehhhlhedmfdiaa.Plain

/-- The nodes that each node refers to. -/
def outs (refs : List (List Int)) (v : Int) : List Int := refs.getD v.toNat []
/-- v lies in every set that holds the roots and what its members refer to. -/
def Reach (refs : List (List Int)) (roots : List Int) (v : Int) : Prop :=
  ∀ S : Int → Prop, (∀ r ∈ roots, S r) → (∀ a b, S a → b ∈ outs refs a → S b) → S v
theorem Reach.root {refs : List (List Int)} {roots : List Int} {v : Int} (h : v ∈ roots) : Reach refs roots v := fun _ hr _ => hr v h
theorem Reach.step {refs : List (List Int)} {roots : List Int} {v w : Int} (h : Reach refs roots v) (hw : w ∈ outs refs v) : Reach refs roots w :=
  fun S hr hs => hs v w (h S hr hs) hw

def InR (n : Nat) (v : Int) : Prop := 0 ≤ v ∧ v < n
/-- A graph of n nodes. -/
def Graph (refs : List (List Int)) : Prop := ∀ l ∈ refs, ∀ v ∈ l, InR refs.length v
def AllIn (n : Nat) (l : List Int) : Prop := ∀ v ∈ l, InR n v
theorem outs_in {refs : List (List Int)} (hg : Graph refs) {a b : Int} (h : b ∈ outs refs a) : InR refs.length b := by
  unfold outs at h
  rw [List.getD_eq_getElem?_getD] at h
  cases he : refs[a.toNat]? with
  | none => rw [he] at h; simp at h
  | some l => rw [he] at h; exact hg l (List.mem_of_getElem? he) b (by simpa using h)

def mkd (seen : List Bool) (v : Int) : Bool := seen.getD v.toNat false
theorem mkd_set {seen : List Bool} {u v : Int} (hu : InR seen.length u) (hv : 0 ≤ v) : mkd (seen.set u.toNat true) v = (if v = u then true else mkd seen v) := by
  unfold mkd InR at *
  rw [List.getD_eq_getElem?_getD, List.getD_eq_getElem?_getD, List.getElem?_set]
  by_cases h : v = u
  · subst h
    rw [if_pos rfl, if_pos (by omega), if_pos rfl]; rfl
  · rw [if_neg (by omega), if_neg h]

/-- What holds while a work list is worked off: what is marked or waits is reached; what a marked node refers to is marked or waits. -/
structure Work (refs : List (List Int)) (roots : List Int) (seen : List Bool) (todo : List Int) : Prop where
  len : seen.length = refs.length
  ok : AllIn refs.length todo
  sound : ∀ v, mkd seen v = true → 0 ≤ v → Reach refs roots v
  waits : ∀ v ∈ todo, Reach refs roots v
  root : ∀ r ∈ roots, mkd seen r = true ∨ r ∈ todo
  closed : ∀ v, 0 ≤ v → mkd seen v = true → ∀ w ∈ outs refs v, mkd seen w = true ∨ w ∈ todo

theorem mkd_nil (n : Nat) (v : Int) : mkd (List.replicate n false) v = false := by
  unfold mkd
  rw [List.getD_eq_getElem?_getD, List.getElem?_replicate]
  split <;> rfl
theorem Work.start {refs : List (List Int)} {roots : List Int} (hr : AllIn refs.length roots) : Work refs roots (List.replicate refs.length false) roots :=
  ⟨by simp, hr, (fun v h => absurd h (by rw [mkd_nil]; decide)), (fun v h => Reach.root h), (fun r h => .inr h), (fun v _ h => absurd h (by rw [mkd_nil]; decide))⟩
/-- A node that waits and is marked already is dropped. -/
theorem Work.drop {refs : List (List Int)} {roots : List Int} {seen : List Bool} {todo todo' : List Int} {v : Int} (h : Work refs roots seen todo) (hm : mkd seen v = true)
    (h1 : ∀ x ∈ todo', x ∈ todo) (h2 : ∀ x ∈ todo, x = v ∨ x ∈ todo') : Work refs roots seen todo' :=
  ⟨h.len, fun x hx => h.ok x (h1 x hx), h.sound, fun x hx => h.waits x (h1 x hx),
   fun r hr => (h.root r hr).elim .inl (fun hx => (h2 r hx).elim (fun e => .inl (by rw [e]; exact hm)) .inr),
   fun a ha hma w hw => (h.closed a ha hma w hw).elim .inl (fun hx => (h2 w hx).elim (fun e => .inl (by rw [e]; exact hm)) .inr)⟩
/-- A node that waits is marked, and what it refers to waits. -/
theorem Work.take {refs : List (List Int)} {roots : List Int} {seen : List Bool} {todo todo' : List Int} {v : Int} (hg : Graph refs) (h : Work refs roots seen todo) (hv : v ∈ todo)
    (h1 : ∀ x ∈ todo', x ∈ todo ∨ x ∈ outs refs v) (h2 : ∀ x ∈ todo, x = v ∨ x ∈ todo') (h3 : ∀ x ∈ outs refs v, x ∈ todo') : Work refs roots (seen.set v.toNat true) todo' := by
  have hi : InR seen.length v := by rw [h.len]; exact h.ok v hv
  have hmv : mkd (seen.set v.toNat true) v = true := by rw [mkd_set hi hi.1, if_pos rfl]
  have up : ∀ w, 0 ≤ w → mkd seen w = true → mkd (seen.set v.toNat true) w = true := fun w hw hm => by
    rw [mkd_set hi hw]; split
    · rfl
    · exact hm
  have nn : ∀ w ∈ todo, 0 ≤ w := fun w hw => (h.ok w hw).1
  refine ⟨by rw [List.length_set]; exact h.len, fun x hx => (h1 x hx).elim (h.ok x) (fun ho => outs_in hg ho), fun w hm hw => ?_, fun x hx => (h1 x hx).elim (h.waits x) (fun ho => (h.waits v hv).step ho), fun r hr => ?_, fun a ha hma w hw => ?_⟩
  · rw [mkd_set hi hw] at hm
    by_cases e : w = v
    · rw [e]; exact h.waits v hv
    · rw [if_neg e] at hm; exact h.sound w hm hw
  · by_cases e : r = v
    · rw [e]; exact .inl hmv
    · rcases h.root r hr with hm | hx
      · by_cases h0 : 0 ≤ r
        · exact .inl (up r h0 hm)
        · refine .inl ?_
          have : r.toNat = 0 := by omega
          unfold mkd at hm ⊢
          rw [this] at hm ⊢
          rw [List.getD_eq_getElem?_getD] at hm ⊢
          rw [List.getElem?_set]
          split
          · split
            · rfl
            · rename_i h5 h6; rw [List.getElem?_eq_none (by omega)] at hm; exact hm
          · exact hm
      · exact .inr ((h2 r hx).resolve_left e)
  · have hw0 : 0 ≤ w := (outs_in hg hw).1
    rw [mkd_set hi ha] at hma
    by_cases e : a = v
    · subst e; exact .inr (h3 w hw)
    · rw [if_neg e] at hma
      rcases h.closed a ha hma w hw with hm | hx
      · exact .inl (up w hw0 hm)
      · rcases h2 w hx with e2 | hx2
        · rw [e2]; exact .inl hmv
        · exact .inr hx2
/-- When none waits, the marks tell what is reached. -/
theorem Work.done {refs : List (List Int)} {roots : List Int} {seen : List Bool} (hr : AllIn refs.length roots) (hg : Graph refs) (h : Work refs roots seen []) (v : Int) (hv : 0 ≤ v) : mkd seen v = true ↔ Reach refs roots v := by
  refine ⟨fun hm => h.sound v hm hv, fun hR => ?_⟩
  have := hR (fun x => 0 ≤ x ∧ mkd seen x = true) (fun r hr' => ⟨(hr r hr').1, (h.root r hr').elim id (fun hx => by cases hx)⟩)
    (fun a b ha hb => ⟨(outs_in hg hb).1, (h.closed a ha.1 ha.2 b hb).elim id (fun hx => by cases hx)⟩)
  exact this.2
theorem same_marks {s t : List Bool} (hl : s.length = t.length) (h : ∀ v : Int, 0 ≤ v → (mkd s v = true ↔ mkd t v = true)) : s = t := by
  apply List.ext_getElem hl
  intro i h1 h2
  have := h (i : Int) (by omega)
  unfold mkd at this
  rw [List.getD_eq_getElem?_getD, List.getD_eq_getElem?_getD] at this
  simp only [Int.toNat_natCast] at this
  rw [List.getElem?_eq_getElem h1, List.getElem?_eq_getElem h2] at this
  simp only [Option.getD_some] at this
  exact Bool.eq_iff_iff.2 this
theorem done_same {refs : List (List Int)} {roots : List Int} {s t : List Bool} (hr : AllIn refs.length roots) (hg : Graph refs) (h : Work refs roots s []) (k : Work refs roots t []) : s = t :=
  same_marks (h.len.trans k.len.symm) (fun v hv => (h.done hr hg v hv).trans (k.done hr hg v hv).symm)

/-- How many nodes are not marked yet. -/
def nblank (seen : List Bool) : Nat := (seen.filter (fun b => !b)).length
theorem blank_set {seen : List Bool} {i : Nat} (hi : i < seen.length) (hm : seen.getD i false = false) : nblank (seen.set i true) + 1 = nblank seen := by
  unfold nblank
  induction seen generalizing i with
  | nil => simp at hi
  | cons b l ih =>
    cases i with
    | zero => simp at hm; subst hm; simp
    | succ i =>
      have := ih (i := i) (by simpa using hi) (by simpa using hm)
      simp only [List.set_cons_succ, List.filter_cons]
      cases b
      · simp only [Bool.not_false, if_true, List.length_cons]; omega
      · simpa using this
theorem blank_nil (n : Nat) : nblank (List.replicate n false) = n := by
  unfold nblank; simp
theorem blank_le (seen : List Bool) : nblank seen ≤ seen.length := List.length_filter_le _ _
end Go.Proofs.Ytehhhlhedmfdiaa.Plain
