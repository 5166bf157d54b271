/- FnExactFinalSweep: for every graph, every roots and every finalizers the law returns true, and its arguments read as before. -/
import Derived.Test.YtehhhlhedmfdiaaRows
import Derived.Test.YtehhhlhedmfdiaaOpen
import Derived.Test.YtehhhlhedmfdiaaPFnExactFinalSweepxSwLaw
import Derived.WalkKit
import Derived.ProofKit
import Derived.OpenShut
import Derived.ShutString
import Derived.ChangeOld
import Derived.Below
import Derived.SizedLaws
namespace Go.Proofs.Ytehhhlhedmfdiaa.fnExactFinalSweep
open Go.ChangeShapes Go.WideShapes Go.ChangeAt Go.RowKit Go.Proofs.YtehhhlhedmfdiaaW.PrintWords
open Go.Proofs.Ytehhhlhedmfdiaa.PFnExactFinalSweep (S112 k112 law_all Ends)
set_option linter.unusedVariables false
theorem own : ownKnob Try.prog.godebug = none := by kernel_rfl
theorem laidOut : laidOutB Try.prog = true := by kernel_rfl
section
variable {H : Type} {enc : TypeId × Value → H} {w : World} {base : Nat} {spare : Nat → Bool} {held : Bool}
theorem tells112 : Open.Tells enc Try.prog w base spare held 112 k112 (fun _ => True) := by
  intro fuel cs y h
  obtain ⟨hl, hf⟩ := Open.struct_cells Try.underlying112 (by kernel_rfl) (by kernel_rfl) h
  obtain ⟨v0, n0, z0, c0, t0⟩ := hf 0 _ rfl
  obtain ⟨v1, n1, z1, c1, t1⟩ := hf 1 _ rfl
  obtain ⟨v2, n2, z2, c2, t2⟩ := hf 2 _ rfl
  obtain ⟨a, ea, _⟩ := DataW.trod_int Try.underlying3 t0
  obtain ⟨b, eb, _⟩ := DataW.trod_int Try.underlying3 t1
  obtain ⟨s, es, _⟩ := DataW.trod_bool Try.underlying4 t2
  injection ea with ea; injection eb with eb; injection es with es
  subst ea; subst eb; subst es
  rw [Open.list3 hl c0 c1 c2]
  exact ⟨⟨a, b, s⟩, Go.Proofs.Ytehhhlhedmfdiaa.PFnExactFinalSweep.k112_mk w ⟨a, b, s⟩, trivial⟩
theorem tells35 : Open.Tells enc Try.prog w base spare held 35 (Kd.slice 3 (Kd.int .i64)) (fun l => l.length ≤ maxLen) := by
  intro fuel cs y h
  obtain ⟨A, c, xs, e, hlc, hC, hg, hm⟩ := Open.tells_slice_at (kd := Kd.int .i64) Try.underlying35 (show Try.prog.cellsOf 3 = 1 from by kernel_rfl) (Open.tells_int Try.underlying3) h
  exact ⟨xs, ⟨A, c, e, hlc, hC⟩, hm⟩
end
set_option maxRecDepth 100000 in
theorem lifted (os : Os) (started : os.Started) (H : Type) (enc : TypeId × Value → H) :
    ReturnsInHanded {} Try.checked os 6 .any (Rows.fnExactFinalSweepSpec.pre6 enc Try.prog Try.f6 Rows.fnExactFinalSweepRow.domain false) (Rows.fnExactFinalSweepSpec.post enc Try.prog Try.f6 false true false false) := by
  refine returnsInHanded_of_change_sized (C := Try.checked) own started (by kernel_rfl) Try.func6
    (ChangeSpec.witness6 (enc := enc) (C := Try.checked) false ⟨#[], #[.slice none 0 0, .slice none 0 0, .slice none 0 0], []⟩ 8 (by kernel_rfl) (by kernel_rfl) (by kernel_rfl) (by kernel_rfl)) ?_
  intro W base args ds gs before hval0 hW hcnd hsz0 _
  have hval : ∀ (j : Nat) t v, Try.f6.params[j]? = some t → args[j]? = some v → Value.okWide Try.prog W .any base t v := hval0
  have hW' := hW
  obtain ⟨p, q, hA0, hV, rfl, hfz, hnd⟩ := hW
  have hA : DataW.TrodAll enc Try.prog W 0 (fun _ => true) true Try.f6.params.toList args.toList ds p := hA0
  rw [Try.params6] at hA hval
  obtain ⟨v0, vs0, d0, ds0, p0, q0, hargs, rfl, rfl, h0, r0⟩ := trodAll_cons hA
  obtain ⟨v1, vs1, d1, ds1, p1, q1, rfl, rfl, rfl, h1, r1⟩ := trodAll_cons r0
  obtain ⟨v2, vs2, d2, ds2, p2, q2, rfl, rfl, rfl, h2, r2⟩ := trodAll_cons r1
  obtain ⟨rfl, rfl, rfl⟩ := trodAll_nil r2
  obtain rfl : args = #[v0, v1, v2] := by cases args; simp_all
  obtain ⟨rfl, rfl⟩ := trodVars_none hV
  obtain ⟨a0, len0, cap0, rfl⟩ := okWide_slice Try.underlying51 (hval 0 51 v0 rfl rfl)
  obtain ⟨a1, len1, cap1, rfl⟩ := okWide_slice Try.underlying35 (hval 1 35 v1 rfl rfl)
  obtain ⟨a2, len2, cap2, rfl⟩ := okWide_slice Try.underlying52 (hval 2 52 v2 rfl rfl)
  have k0 := h0
  have lt0 : ∀ x ∈ p0, x.block < W.heap.size := by obtain ⟨m, hm⟩ := k0; exact DataW.trod_lt m _ _ _ hm
  have k1 := h1
  have lt1 : ∀ x ∈ p1, x.block < W.heap.size := by obtain ⟨m, hm⟩ := k1; exact DataW.trod_lt m _ _ _ hm
  have k2 := h2
  have lt2 : ∀ x ∈ p2, x.block < W.heap.size := by obtain ⟨m, hm⟩ := k2; exact DataW.trod_lt m _ _ _ hm
  obtain ⟨l0, hc0, hC0, hg0, hl0, e0⟩ : ∃ l : List (List Int), l.length ≤ cap0 ∧ Kd.C (Kd.slice 3 (Kd.int .i64)) W a0 l.length l ∧ (∀ x ∈ l, x.length ≤ maxLen) ∧ l.length ≤ maxLen ∧ len0 = l.length := by
    obtain ⟨fuel, hf⟩ := h0
    obtain ⟨A, c, xs, e, hlc, hC, hg, hm⟩ := Open.tells_slice_at (kd := Kd.slice 3 (Kd.int .i64)) Try.underlying51 (show Try.prog.cellsOf 35 = 1 from by kernel_rfl) tells35 hf
    simp [Value.cells] at e
    obtain ⟨rfl, rfl, rfl⟩ := e
    exact ⟨xs, hlc, hC, hg, hm, rfl⟩
  subst e0
  obtain ⟨l1, hc1, hC1, hl1, e1⟩ : ∃ l : List Int, l.length ≤ cap1 ∧ Kd.C (Kd.int .i64) W a1 l.length l ∧ l.length ≤ maxLen ∧ len1 = l.length := by
    obtain ⟨fuel, hf⟩ := h1
    obtain ⟨A, c, xs, e, hlc, hC, hg, hm⟩ := Open.tells_slice_at (kd := Kd.int .i64) Try.underlying35 (show Try.prog.cellsOf 3 = 1 from by kernel_rfl) (Open.tells_int Try.underlying3) hf
    simp [Value.cells] at e
    obtain ⟨rfl, rfl, rfl⟩ := e
    exact ⟨xs, hlc, hC, hm, rfl⟩
  subst e1
  obtain ⟨l2, hc2, hC2, hl2, e2⟩ : ∃ l : List S112, l.length ≤ cap2 ∧ Kd.C k112 W a2 l.length l ∧ l.length ≤ maxLen ∧ len2 = l.length := by
    obtain ⟨fuel, hf⟩ := h2
    obtain ⟨A, c, xs, e, hlc, hC, hg, hm⟩ := Open.tells_slice_at (kd := k112) Try.underlying52 (show Try.prog.cellsOf 112 = 3 from by kernel_rfl) tells112 hf
    simp [Value.cells] at e
    obtain ⟨rfl, rfl, rfl⟩ := e
    exact ⟨xs, hlc, hC, hm, rfl⟩
  subst e2
  clear hA0 hval0 hsz0
  unfold maxLen at hl0 hg0 hl1 hl2
  refine (law_all l0 l1 l2 hl0 hg0 hl1 hl2 a0 cap0 a1 cap1 a2 cap2 W hC0 hc0 hC1 hc1 hC2 hc2).mono fun e W' ⟨he, bel⟩ => ?_
  subst he
  exact ⟨_, rfl, _, _, _, [], _, [], hW', trodAll_mk1 (shut_bool Try.underlying4 _), trodAll_cons_mk (Below.trod laidOut (by kernel_rfl) (of_decide_eq_true (by kernel_rfl)) k0 bel lt0) (trodAll_cons_mk (Below.trod laidOut (by kernel_rfl) (of_decide_eq_true (by kernel_rfl)) k1 bel lt1) (trodAll_cons_mk (Below.trod laidOut (by kernel_rfl) (of_decide_eq_true (by kernel_rfl)) k2 bel lt2) trodAll_mk0)), rfl, bel.frame _, fun h => by cases h⟩
theorem over : Rows.fnExactFinalSweepRow.holds Try.pinned (OpenSpec.ofChange Rows.fnExactFinalSweepSpec) :=
  OpenClaim.holds_of_wide 6 Try.f6 rfl rfl rfl rfl rfl rfl rfl ⟨rfl, rfl, rfl, rfl, rfl⟩ rfl rfl rfl rfl rfl (by kernel_rfl) Try.func6 (by kernel_rfl)
    (of_decide_eq_true (by kernel_rfl)) (by unfold Func.isWrapper; first | (rw [if_pos (by decide +kernel)]; kernel_rfl) | (rw [if_neg (by decide +kernel)]; exact ⟨rfl, rfl⟩))
    (fun os started H enc _ => lifted os started H enc)
theorem proved : Rows.FnExactFinalSweepSaid := over
end Go.Proofs.Ytehhhlhedmfdiaa.fnExactFinalSweep
namespace Go.Proofs.Ytehhhlhedmfdiaa
/-- The row, under a short name, for the claim. -/
theorem fnExactFinalSweep_holds : Rows.FnExactFinalSweepSaid := fnExactFinalSweep.proved
end Go.Proofs.Ytehhhlhedmfdiaa
