/- slices.Clone at []Final: it gives back a new slice with the same elements, for every slice that is not too long. -/
import Derived.Test.YtehhhlhedmfdiaaPFnExactFinalSweepx0
import Derived.Lib.SliceRun
namespace Go.Proofs.Ytehhhlhedmfdiaa.PFnExactFinalSweep
open Go.RowKit Go.Proofs.YtehhhlhedmfdiaaW.PrintWords Go.Proofs.YtehhhlhedmfdiaaW.PrintLast Go.Proofs.YtehhhlhedmfdiaaW.PrintMore
set_option linter.unusedVariables false
set_option linter.unusedSimpArgs false

def impl_Final_83.f (l0 : List S110) : Option (List S110) := if l0.length < 5864062014805 then some l0 else none
set_option maxHeartbeats 8000000 in
set_option maxRecDepth 100000 in
theorem impl_Final_83.calls (A0 : Option Addr) (c0 : Nat) (l0 : List S110) (r : List S110) (w : World) (hr0 : Kd.C k110 w A0 l0.length l0) (hc0 : l0.length ≤ c0) (h : impl_Final_83.f l0 = some r) :
    Calls Try.prog 83 #[.slice A0 l0.length c0] w fun e w' => ∃ v0_ : Value, e = .returned (v0_) ∧ Kd.R k110 110 w' w.heap.size (fun _ => True) v0_ r ∧ Below w.heap.size w w' := by
  unfold impl_Final_83.f at h
  split at h
  case isFalse => cases h
  case isTrue LM =>
  obtain rfl := Option.some.inj h
  clear h
  have HR0 := Aside0.mk hr0
  have HC0 := Aside0.mk hc0
  clear hr0 hc0
  have HB := Aside0.mk (Below.refl w.heap.size w)
  have LMc := Aside0.mk LM
  clear LM
  cases A0 with
  | none =>
    have hn : l0 = [] := by
      have := HR0.out.2.2
      rcases Nat.eq_zero_or_pos l0.length with h0 | h0
      · exact List.length_eq_zero_iff.1 h0
      · obtain ⟨ad, e, _⟩ := this h0; cases e
    subst hn
    have hq := fun (w : World) (n c : Nat) => Lib.run_eql_slice_nil (P := Try.prog) w 55 110 none n c 0 0 Try.underlying55
    go_enter Try.func83, Try.ntmps83
    go_wp2
    go_ret
    exact ⟨_, rfl, Kd.R_nil _ _ _ _ _, HB.out⟩
  | some ad =>
    have hq := fun (w : World) (n c : Nat) => Lib.run_eql_slice_nil (P := Try.prog) w 55 110 (some ad) n c 0 0 Try.underlying55
    go_enter Try.func83, Try.ntmps83
    go_wp2_with (first | ((with_reducible refine gate_dst (N := 5) rfl ?_); refine Kd.R_lit k110 _ 110 ?hg (N := 5) ?hd (xs := ([] : List S110)) (inner := []) (ok := fun _ => True) (okp := fun _ => True) ?hr ?hp (fun _ hk => hk) trivial (Below.refl _ _) (Nat.le_refl _) (by simp) ?_; (case hd => rfl); (case hg => rfl); (case hr => first | (go_simp; done) | (go_simp; rfl)); (case hp => exact (Reps.none _ _)); intro v140 w8 ho9 hb hg_ hnew_; clear hg_ hnew_; have n1_ := Aside0.mk (Kd.R_lower ho9 (below_size HB.out)); have n2_ := Aside0.mk (below_step HB.out hb); clear HB; have HO141 := n1_; have HB := n2_; clear n1_ n2_; clear hb ho9) | ((with_reducible refine gate_builtin (b := .append) (xs := #[.tmp 5, .tmp 6]) rfl ?_); at_builtin; refine Kd.R_append_rows k110 (Rr := k110.K w8) (w0 := w) w.heap.size rfl (.tmp 5) (.tmp 6) 55 110 (.agg #[(.int .i64 0), (.int .i64 0), (.bool false)]) 24 rfl Try.underlying55 info110 rfl (by decide) (by omega) v140 [] l0 _ _ _ (fun _ => True) (fun _ => False) rfl rfl ?aO ?aR (fun x cs h => by rw [k110_open h]; exact k110_mkM _ _ _ _) (fun _ h => h.elim) ?aF ?aB ?aS ?aL ?_; (case aR => exact (Kd.C_below HR0.out HB.out)); (case aB => exact HB.out); (case aF => exact (fun _ _ => trivial)); (case aO => exact HO141.out); (case aS => exact (below_size HB.out)); (case aL => have := LMc.out; simp only [List.length_nil]; omega); intro v143 w10 ho hb hg hat; have n1_ := Aside0.mk (hb); have n2_ := Aside0.mk (ho); clear HB; clear HO141; have HB := n1_; have HO144 := n2_; clear n1_ n2_; clear ho hb hg hat))
    go_ret
    exact ⟨_, rfl, HO144.out, HB.out⟩
end Go.Proofs.Ytehhhlhedmfdiaa.PFnExactFinalSweep
