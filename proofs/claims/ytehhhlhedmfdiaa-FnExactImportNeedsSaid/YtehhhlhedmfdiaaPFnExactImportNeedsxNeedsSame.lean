/- ImportNeeds: the reference and the program list the same modules. -/
import Derived.Test.YtehhhlhedmfdiaaPFnExactImportNeedsxEdges
import Derived.Test.YtehhhlhedmfdiaaPFnExactImportNeedsxMarks
import Derived.Test.YtehhhlhedmfdiaaPFnExactImportNeedsxIdx
import Derived.Test.YtehhhlhedmfdiaaPFnExactImportNeedsx3
import Derived.Test.YtehhhlhedmfdiaaPFnExactImportNeedsx9
namespace Go.Proofs.Ytehhhlhedmfdiaa.PFnExactImportNeeds
open Go.RowKit Go.Proofs.YtehhhlhedmfdiaaW.PrintWords Go.Proofs.YtehhhlhedmfdiaaW.PrintLast Go.Proofs.YtehhhlhedmfdiaaW.PrintMore Go.Proofs.Ytehhhlhedmfdiaa.Plain
set_option linter.unusedVariables false
theorem edges_graph {m : List S72} (h : ModsP m) : Graph (edges m) := by
  intro l hl v hv
  unfold edges at hl ⊢
  obtain ⟨x, hx, rfl⟩ := List.mem_map.1 hl
  rw [List.length_map]
  unfold sel at hv
  obtain ⟨s, hs, rfl⟩ := List.mem_map.1 hv
  rw [List.mem_filter] at hs
  have hk : s.f0 = 1 ∨ s.f0 = 2 := by simpa using hs.2
  have := ((h.1 x hx).1 s hs.1).2.1
  unfold top at this
  rw [if_neg (by omega)] at this
  unfold InR; omega
theorem edges_outs {m : List S72} (h : ModsP m) (v : Int) : (outs (edges m) v).length ≤ 8 := by
  unfold outs
  rw [List.getD_eq_getElem?_getD]
  cases he : (edges m)[v.toNat]? with
  | none => simp
  | some l =>
    unfold edges at he
    rw [List.getElem?_map] at he
    obtain ⟨x, hx, rfl⟩ := Option.map_eq_some_iff.1 he
    exact Nat.le_trans (sel_len _) (h.1 x (List.mem_of_getElem? hx)).2
theorem edges_len (m : List S72) : (edges m).length = m.length := by unfold edges; rw [List.length_map]

/-- At valid modules and a module of theirs: one list of marks; and so one list of modules. -/
theorem needs_inside (m : List S72) (h : ModsP m) (a : Int) (h0 : 0 ≤ a) (h1 : a < m.length) :
    ∃ (r : List Int) (seen : List Bool), Ev (fun k => (spec_needsOf.f k m).bind fun t175 => ((spec_marked.f k t175 (([a] : List Int))).bind fun t181 => ((spec_indices.f k t181 true).bind fun t184 => (some t184)))) r ∧
      Ev (fun k => (impl_importsOf.f k m).bind fun t272 => ((impl_reached.f k t272 (([a] : List Int))).bind fun t278 => ((impl_marked.f k t278 true).bind fun t281 => (some t281)))) r ∧ r.length ≤ 6 ∧
      Ev (fun k => spec_marked.f k (edges m) [a]) seen ∧ Ev (fun k => spec_indices.f k seen true) r ∧ Work (edges m) [a] seen [] := by
  have h8 : ∀ x ∈ m, x.f0.length ≤ 8 := fun x hx => (h.1 x hx).2
  have hm := h.2.2
  obtain ⟨seen, e1, e2, hw⟩ := marks_same (edges_graph h) (roots := [a]) (fun v hv => by rw [List.mem_singleton.1 hv, edges_len]; exact ⟨h0, h1⟩) 8 (edges_outs h) (by rw [edges_len]; simp; omega) (by rw [edges_len]; omega)
  have hsl : seen.length = m.length := hw.len.trans (edges_len m)
  obtain ⟨r, i1, i2, hr⟩ := idx_same seen true (by omega)
  refine ⟨r, seen, ?_, ?_, by omega, e1, i1, hw⟩
  · exact Ev.bind (f := fun k t175 => ((spec_marked.f k t175 (([a] : List Int))).bind fun t181 => ((spec_indices.f k t181 true).bind fun t184 => (some t184)))) (needsOf_ev m hm h8)
      (Ev.bind (f := fun k t181 => ((spec_indices.f k t181 true).bind fun t184 => (some t184))) e1 (Ev.congr (fun k => by rw [bindSome]) i1))
  · exact Ev.bind (f := fun k t272 => ((impl_reached.f k t272 (([a] : List Int))).bind fun t278 => ((impl_marked.f k t278 true).bind fun t281 => (some t281)))) (importsOf_ev m hm h8)
      (Ev.bind (f := fun k t278 => ((impl_marked.f k t278 true).bind fun t281 => (some t281))) e2 (Ev.congr (fun k => by rw [bindSome]) i2))
theorem needs_same (m : List S72) (hm : Small m) (a : Int) : ∃ r : List Int, Ev (fun k => spec_ImportNeeds.f k m a) r ∧ Ev (fun k => impl_ImportNeeds.f k m a) r ∧ r.length ≤ 6 := by
  obtain ⟨b, v1, v2, hb⟩ := (validMods_tells m hm).same (modsOk_tells m hm)
  have hlw : wrap64 ((m.length : Int) - 1) = (m.length : Int) - 1 := by have := hm.1; unfold wrap64; omega
  have sno : Ev (fun k => spec_ImportNeeds.j0 k m a true) ([] : List Int) := Ev.step (f := fun _ => some []) (fun k => by simp only [spec_ImportNeeds.j0]; exact if_pos trivial) (Ev.now _)
  have ino : Ev (fun k => impl_ImportNeeds.j0 k m a true) ([] : List Int) := Ev.step (f := fun _ => some []) (fun k => by simp only [impl_ImportNeeds.j0]; exact if_pos trivial) (Ev.now _)
  cases b with
  | false =>
    refine ⟨[], ?_, ?_, by simp⟩
    · exact Ev.bind (f := fun k t173 => (if t173 = true then ((spec_inRange.f a 0 (wrap64 ((m.length : Int) - 1))).bind fun t174 => (spec_ImportNeeds.j0 k m a (!t174))) else (spec_ImportNeeds.j0 k m a true))) v1 (Ev.congr (fun k => by rw [if_neg (by decide)]) sno)
    · exact Ev.bind (f := fun k t271 => (if t271 = true then (if a < 0 then (impl_ImportNeeds.j0 k m a true) else (impl_ImportNeeds.j0 k m a (decide (a ≥ (m.length : Int))))) else (impl_ImportNeeds.j0 k m a true))) v2 (Ev.congr (fun k => by rw [if_neg (by decide)]) ino)
  | true =>
    have hP := hb.1 rfl
    have hlen := hP.2.1
    by_cases hin : 0 ≤ a ∧ a < m.length
    · obtain ⟨r, seen, e1, e2, hr, _⟩ := needs_inside m hP a hin.1 hin.2
      have syes : Ev (fun k => spec_ImportNeeds.j0 k m a false) r := Ev.step (fun k => by simp only [spec_ImportNeeds.j0]; exact if_neg (by decide)) e1
      have iyes : Ev (fun k => impl_ImportNeeds.j0 k m a false) r := Ev.step (fun k => by simp only [impl_ImportNeeds.j0]; exact if_neg (by decide)) e2
      refine ⟨r, ?_, ?_, hr⟩
      · refine Ev.bind (f := fun k t173 => (if t173 = true then ((spec_inRange.f a 0 (wrap64 ((m.length : Int) - 1))).bind fun t174 => (spec_ImportNeeds.j0 k m a (!t174))) else (spec_ImportNeeds.j0 k m a true))) v1 (Ev.congr (fun k => ?_) syes)
        rw [if_pos rfl, hlw]
        unfold spec_inRange.f
        rw [if_pos hin.1]
        simp only [Option.bind_some]
        rw [decide_eq_true (by omega)]; rfl
      · refine Ev.bind (f := fun k t271 => (if t271 = true then (if a < 0 then (impl_ImportNeeds.j0 k m a true) else (impl_ImportNeeds.j0 k m a (decide (a ≥ (m.length : Int))))) else (impl_ImportNeeds.j0 k m a true))) v2 (Ev.congr (fun k => ?_) iyes)
        rw [if_pos rfl, if_neg (by omega), decide_eq_false (by omega)]
    · refine ⟨[], ?_, ?_, by simp⟩
      · refine Ev.bind (f := fun k t173 => (if t173 = true then ((spec_inRange.f a 0 (wrap64 ((m.length : Int) - 1))).bind fun t174 => (spec_ImportNeeds.j0 k m a (!t174))) else (spec_ImportNeeds.j0 k m a true))) v1 (Ev.congr (fun k => ?_) sno)
        rw [if_pos rfl, hlw]
        unfold spec_inRange.f
        by_cases h0 : a ≥ 0
        · rw [if_pos h0]
          simp only [Option.bind_some]
          rw [decide_eq_false (by omega)]; rfl
        · rw [if_neg h0]; rfl
      · refine Ev.bind (f := fun k t271 => (if t271 = true then (if a < 0 then (impl_ImportNeeds.j0 k m a true) else (impl_ImportNeeds.j0 k m a (decide (a ≥ (m.length : Int))))) else (impl_ImportNeeds.j0 k m a true))) v2 (Ev.congr (fun k => ?_) ino)
        rw [if_pos rfl]
        by_cases h0 : a < 0
        · rw [if_pos h0]
        · rw [if_neg h0, decide_eq_true (by omega)]
end Go.Proofs.Ytehhhlhedmfdiaa.PFnExactImportNeeds
