/- FnExactImportNeeds: for every list of modules and every number the law returns true, and its arguments read as before. -/
import Derived.Test.YtehhhlhedmfdiaaRows
import Derived.Test.YtehhhlhedmfdiaaOpen
import Derived.Test.YtehhhlhedmfdiaaPFnExactImportNeedsxModLaw
import Derived.WalkKit
import Derived.ProofKit
import Derived.OpenShut
import Derived.ShutString
import Derived.ChangeOld
import Derived.Below
import Derived.SizedLaws
namespace Go.Proofs.Ytehhhlhedmfdiaa.fnExactImportNeeds
open Go.ChangeShapes Go.WideShapes Go.ChangeAt Go.RowKit Go.Proofs.YtehhhlhedmfdiaaW.PrintWords
open Go.Proofs.Ytehhhlhedmfdiaa.PFnExactImportNeeds (S87 S164 k87 k164 law_small law_whole law_facts Ends)
set_option linter.unusedVariables false
theorem own : ownKnob Try.prog.godebug = none := by kernel_rfl
theorem laidOut : laidOutB Try.prog = true := by kernel_rfl

section
variable {H : Type} {enc : TypeId × Value → H} {w : World} {base : Nat} {spare : Nat → Bool} {held : Bool}
theorem tells164 : Open.Tells enc Try.prog w base spare held 164 k164 (fun s => s.f2.size ≤ maxLen) := by
  intro fuel cs y h
  obtain ⟨hl, hf⟩ := Open.struct_cells Try.underlying164 (by kernel_rfl) (by kernel_rfl) h
  obtain ⟨v0, n0, z0, c0, t0⟩ := hf 0 _ rfl
  obtain ⟨v1, n1, z1, c1, t1⟩ := hf 1 _ rfl
  obtain ⟨v2, n2, z2, c2, t2⟩ := hf 2 _ rfl
  obtain ⟨a, ea, _⟩ := DataW.trod_int Try.underlying3 t0
  obtain ⟨b, eb, _⟩ := DataW.trod_int Try.underlying3 t1
  obtain ⟨s, es, _, hs⟩ := DataW.trod_string Try.underlying9 t2
  injection ea with ea; injection eb with eb; injection es with es
  subst ea; subst eb; subst es
  rw [Open.list3 hl c0 c1 c2]
  exact ⟨⟨a, b, s⟩, Go.Proofs.Ytehhhlhedmfdiaa.PFnExactImportNeeds.k164_mk w ⟨a, b, s⟩, hs⟩
theorem tells87 : Open.Tells enc Try.prog w base spare held 87 k87 (fun x => (∀ s ∈ x.f0, s.f2.size ≤ maxLen) ∧ x.f0.length ≤ maxLen) := by
  intro fuel cs y h
  obtain ⟨hl, hf⟩ := Open.struct_cells Try.underlying87 (by kernel_rfl) (by kernel_rfl) h
  obtain ⟨v0, n0, z0, c0, t0⟩ := hf 0 _ rfl
  obtain ⟨A, c, xs, e, hlc, hC, hg, hm⟩ := Open.tells_slice_at (kd := k164) Try.underlying85 (show Try.prog.cellsOf 164 = 3 from by kernel_rfl) tells164 t0
  injection e with e
  subst e
  rw [Open.list1 hl c0]
  exact ⟨⟨xs⟩, Go.Proofs.Ytehhhlhedmfdiaa.PFnExactImportNeeds.k87_mk w ⟨xs⟩ hlc hC, hg, hm⟩
end

theorem walk (A : Option Addr) (c : Nat) (l : List S87) (a : Int) (w : World) (hr : Kd.C k87 w A l.length l) (hc : l.length ≤ c) (hl : l.length ≤ maxLen) (hg : ∀ x ∈ l, (∀ s ∈ x.f0, s.f2.size ≤ maxLen) ∧ x.f0.length ≤ maxLen) :
    Calls Try.prog 4 #[.slice A l.length c, .int .i64 a] w fun e w' => e = .returned (.bool true) ∧ Below w.heap.size w w' := by
  unfold maxLen at hl hg
  rcases law_facts l a hl (fun x hx => ⟨(hg x hx).2, (hg x hx).1⟩) with ⟨k, t, h1, h2⟩ | ⟨k, t, m, s, s2, kk, mm, h1, h2, h3, h4, h5, h6, h7, h8, h9, h10, h11, h12⟩
  · exact (law_small k A c l a t w hr hc h1 h2).mono fun e w' h => h
  · exact (law_whole k A c l a t m s s2 kk mm w hr hc h1 h2 h3 h4 h5 h6 h7 h8 h9 h10 h11 h12).mono fun e w' h => h

set_option maxRecDepth 100000 in
theorem lifted (os : Os) (started : os.Started) (H : Type) (enc : TypeId × Value → H) :
    ReturnsInHanded {} Try.checked os 4 .any (Rows.fnExactImportNeedsSpec.pre6 enc Try.prog Try.f4 Rows.fnExactImportNeedsRow.domain false) (Rows.fnExactImportNeedsSpec.post enc Try.prog Try.f4 false true false false) := by
  refine returnsInHanded_of_change_sized (C := Try.checked) own started (by kernel_rfl) Try.func4
    (ChangeSpec.witness6 (enc := enc) (C := Try.checked) false ⟨#[], #[.slice none 0 0, .int .i64 0], []⟩ 8 (by kernel_rfl) (by kernel_rfl) (by kernel_rfl) (by kernel_rfl)) ?_
  intro W base args ds gs before hval0 hW hcnd hsz0 _
  have hval : ∀ (j : Nat) t v, Try.f4.params[j]? = some t → args[j]? = some v → Value.okWide Try.prog W .any base t v := hval0
  have hW' := hW
  obtain ⟨p, q, hA0, hV, rfl, hfz, hnd⟩ := hW
  have hA : DataW.TrodAll enc Try.prog W 0 (fun _ => true) true Try.f4.params.toList args.toList ds p := hA0
  rw [Try.params4] at hA hval
  obtain ⟨v0, vs0, d0, ds0, p0, q0, hargs, rfl, rfl, h0, r0⟩ := trodAll_cons hA
  obtain ⟨v1, vs1, d1, ds1, p1, q1, rfl, rfl, rfl, h1, r1⟩ := trodAll_cons r0
  obtain ⟨rfl, rfl, rfl⟩ := trodAll_nil r1
  obtain rfl : args = #[v0, v1] := by cases args; simp_all
  obtain ⟨rfl, rfl⟩ := trodVars_none hV
  obtain ⟨a0, len0, cap0, rfl⟩ := okWide_slice Try.underlying33 (hval 0 33 v0 rfl rfl)
  have k0 := h0
  have lt0 : ∀ x ∈ p0, x.block < W.heap.size := by obtain ⟨m, hm⟩ := k0; exact DataW.trod_lt m _ _ _ hm
  obtain ⟨l, hc, hC, hg, hl, e0⟩ : ∃ l : List S87, l.length ≤ cap0 ∧ Kd.C k87 W a0 l.length l ∧ (∀ x ∈ l, (∀ s ∈ x.f0, s.f2.size ≤ maxLen) ∧ x.f0.length ≤ maxLen) ∧ l.length ≤ maxLen ∧ len0 = l.length := by
    obtain ⟨fuel, hf⟩ := h0
    obtain ⟨A, c, xs, e, hlc, hC, hg, hm⟩ := Open.tells_slice_at (kd := k87) Try.underlying33 (show Try.prog.cellsOf 87 = 1 from by kernel_rfl) tells87 hf
    simp [Value.cells] at e
    obtain ⟨rfl, rfl, rfl⟩ := e
    exact ⟨xs, hlc, hC, hg, hm, rfl⟩
  subst e0
  obtain ⟨a1, rfl, rfl, rfl, w1⟩ := open_int Try.underlying3 (hval 1 3 v1 rfl rfl) h1
  clear hA0 hval0 hsz0
  refine (walk a0 cap0 l a1 W hC hc hl hg).mono fun e W' ⟨he, bel⟩ => ?_
  subst he
  exact ⟨_, rfl, _, _, _, [], _, [], hW', trodAll_mk1 (shut_bool Try.underlying4 _), trodAll_cons_mk (Below.trod laidOut (by kernel_rfl) (of_decide_eq_true (by kernel_rfl)) k0 bel lt0) (trodAll_cons_mk (shut_int Try.underlying3 w1) trodAll_mk0), rfl, bel.frame _, fun h => by cases h⟩
theorem over : Rows.fnExactImportNeedsRow.holds Try.pinned (OpenSpec.ofChange Rows.fnExactImportNeedsSpec) :=
  OpenClaim.holds_of_wide 4 Try.f4 rfl rfl rfl rfl rfl rfl rfl ⟨rfl, rfl, rfl, rfl, rfl⟩ rfl rfl rfl rfl rfl (by kernel_rfl) Try.func4 (by kernel_rfl)
    (of_decide_eq_true (by kernel_rfl)) (by unfold Func.isWrapper; first | (rw [if_pos (by decide +kernel)]; kernel_rfl) | (rw [if_neg (by decide +kernel)]; exact ⟨rfl, rfl⟩))
    (fun os started H enc _ => lifted os started H enc)
theorem proved : Rows.FnExactImportNeedsSaid := over
#print axioms proved
end Go.Proofs.Ytehhhlhedmfdiaa.fnExactImportNeeds
namespace Go.Proofs.Ytehhhlhedmfdiaa
/-- The row, under a short name, for the claim. -/
theorem fnExactImportNeeds_holds : Rows.FnExactImportNeedsSaid := fnExactImportNeeds.proved
end Go.Proofs.Ytehhhlhedmfdiaa
