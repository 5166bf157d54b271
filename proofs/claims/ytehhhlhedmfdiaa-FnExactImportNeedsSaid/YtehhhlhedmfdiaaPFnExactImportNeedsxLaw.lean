/- The law's own walk: where the size is too great it says true at once; else it goes its one way to the end and says true. -/
import Derived.Test.YtehhhlhedmfdiaaPFnExactImportNeedsxMark
namespace Go.Proofs.Ytehhhlhedmfdiaa.PFnExactImportNeeds
open Go.RowKit Go.Proofs.YtehhhlhedmfdiaaW.PrintWords Go.Proofs.YtehhhlhedmfdiaaW.PrintLast Go.Proofs.YtehhhlhedmfdiaaW.PrintMore
set_option linter.unusedVariables false
set_option linter.unusedSimpArgs false

def Ends (w : World) (e : Ending) (w' : World) : Prop := e = .returned (.bool true) ∧ Below w.heap.size w w'
set_option maxHeartbeats 4000000 in
set_option maxRecDepth 100000 in
theorem law_small (k : Nat) (A0 : Option Addr) (c0 : Nat) (l0 : List S87) (a1 : Int) (t : Int) (w : World) (hr0 : Kd.C k87 w A0 l0.length l0) (hc0 : l0.length ≤ c0)
    (hsz : laws_szModS.f k l0 1048576 = some t) (ht : t < 0) : Calls Try.prog 4 #[.slice A0 l0.length c0, .int .i64 a1] w (Ends w) := by
  have HR0 := Aside0.mk hr0
  have HC0 := Aside0.mk hc0
  have HS := Aside0.mk hsz
  have c4b0 : decide (t < 0) = true := decide_eq_true ht
  clear hr0 hc0 hsz ht
  go_enter Try.func4, Try.ntmps4
  go_wp2_with fail
  refine (laws_szModS.calls k A0 c0 l0 1048576 t _ HR0.out HC0.out HS.out).mono ?_
  rintro e w1 ⟨rfl, hb⟩
  have HB := Aside0.mk hb
  clear hb
  go_wp2_with fail
  go_ret
  exact ⟨rfl, HB.out⟩

set_option maxHeartbeats 8000000 in
set_option maxRecDepth 100000 in
theorem law_whole (k : Nat) (A0 : Option Addr) (c0 : Nat) (l0 : List S87) (a1 : Int) (t : Int) (m : List S72) (s s2 : List Int) (kk mm : Int) (w : World) (hr0 : Kd.C k87 w A0 l0.length l0) (hc0 : l0.length ≤ c0)
    (hsz : laws_szModS.f k l0 1048576 = some t) (ht : ¬ t < 0) (hto : laws_toModS.f k l0 = some m) (hsp : spec_ImportNeeds.f k m a1 = some s) (him : impl_ImportNeeds.f k m a1 = some s)
    (heq : laws_eqIntS.f k s s = some true) (heqm : laws_eqModS.f k m m = some true) (hmk : laws_markModS.f k m 1 = some kk) (hkk : ¬ kk < 0) (hmi : laws_markIntS.f k s 1 = some (mm, s2))
    (hh : laws_heldIntS.f k s2 1 = some mm) (hmm : ¬ mm < 0) : Calls Try.prog 4 #[.slice A0 l0.length c0, .int .i64 a1] w (Ends w) := by
  have HR0 := Aside0.mk hr0
  have HC0 := Aside0.mk hc0
  have HS := Aside0.mk hsz
  have HT := Aside0.mk hto
  have HSP := Aside0.mk hsp
  have HIM := Aside0.mk him
  have HEQ := Aside0.mk heq
  have HEM := Aside0.mk heqm
  have HMK := Aside0.mk hmk
  have HMI := Aside0.mk hmi
  have HH := Aside0.mk hh
  have c4b0 : decide (t < 0) = false := decide_eq_false ht
  have c5b0 : decide (kk < 0) = false := decide_eq_false hkk
  have c6b0 : decide (mm < 0) = false := decide_eq_false hmm
  clear hr0 hc0 hsz ht hto hsp him heq heqm hmk hkk hmi hh hmm
  go_enter Try.func4, Try.ntmps4
  go_wp2_with fail
  refine (laws_szModS.calls k A0 c0 l0 1048576 t _ HR0.out HC0.out HS.out).mono ?_
  rintro e w1 ⟨rfl, hb⟩
  have HB := Aside0.mk hb
  clear hb HS
  go_wp2_with fail
  refine (laws_toModS.calls k A0 c0 l0 m _ (Kd.C_below HR0.out HB.out) HC0.out HT.out).mono ?_
  rintro e w2 ⟨v1, rfl, ho, hb⟩
  obtain ⟨A1, c1, rfl, hl1, hC1⟩ := Kd.S_reads ho
  have HO1 := Aside0.mk hC1
  have HL1 := Aside0.mk hl1
  have n1 := Aside0.mk (below_step HB.out hb)
  clear HB ho hb hC1 hl1
  have HB := n1
  clear n1
  go_wp2_with fail
  refine (spec_ImportNeeds.calls k A1 c1 m a1 s _ HO1.out HL1.out HSP.out).mono ?_
  rintro e w3 ⟨v2, rfl, ho, hb⟩
  obtain ⟨A2, c2, rfl, hl2, _⟩ := Kd.R_reads ho
  have HO2 := Aside0.mk ho
  have HL2 := Aside0.mk hl2
  have n1 := Aside0.mk (below_step HB.out hb)
  clear HB HO1 HL1 ho hb hl2 HSP
  have HB := n1
  clear n1
  go_wp2_with fail
  refine (laws_toModS.calls k A0 c0 l0 m _ (Kd.C_below HR0.out HB.out) HC0.out HT.out).mono ?_
  rintro e w4 ⟨v3, rfl, ho, hb⟩
  obtain ⟨A3, c3, rfl, hl3, hC3⟩ := Kd.S_reads ho
  have HX := Aside0.mk ho
  have HL3 := Aside0.mk hl3
  have HW3 := HB
  have n1 := Aside0.mk (below_step HB.out hb)
  have HB3 := Aside0.mk hb
  have HL34 := Aside0.mk hb.size
  clear HB ho hb hl3 hC3
  have HB := n1
  clear n1
  go_wp2_with fail
  refine (impl_ImportNeeds.calls k A3 c3 m a1 s _ (Kd.S_reads' HX.out).2.2 HL3.out HIM.out).mono ?_
  rintro e w5 ⟨v4, rfl, ho, hb⟩
  obtain ⟨A4, c4, rfl, hl4, _⟩ := Kd.R_reads ho
  have HG := Aside0.mk ho
  have HL4 := Aside0.mk hl4
  have n1 := Aside0.mk (below_step HB.out hb)
  have n2 := Aside0.mk (below_step HB3.out hb)
  have n3 : Aside0 (Kd.S k72 72 w5 w3.heap.size (fun k => True ∧ k < w4.heap.size) (.slice A3 m.length c3) m) := ⟨Kd.S_old HX.out hb⟩
  clear HB HB3 HX ho hb hl4
  have HB := n1
  have HB3 := n2
  have HX := n3
  clear n1 n2 n3
  go_wp2_with fail
  refine (laws_eqIntS.calls k A4 c4 s A2 c2 s true _ (Kd.R_reads' HG.out).2.2 HL4.out (Kd.R_reads' (Kd.R_below HO2.out HB3.out)).2.2 HL2.out HEQ.out).mono ?_
  rintro e w6 ⟨rfl, hd⟩
  have n1 := Aside0.mk (below_step HB.out hd.below)
  have n2 := Aside0.mk (below_step HB3.out hd.below)
  have n3 := Aside0.mk (Kd.S_below HX.out hd.below)
  have n4 := Aside0.mk (Kd.R_below HG.out hd.below)
  clear HB HB3 HX HG hd
  have HB := n1
  have HB3 := n2
  have HX := n3
  have HG := n4
  clear n1 n2 n3 n4
  go_wp2_with fail
  refine (laws_toModS.calls k A0 c0 l0 m _ (Kd.C_below HR0.out HB.out) HC0.out HT.out).mono ?_
  rintro e w7 ⟨v5, rfl, ho, hb⟩
  obtain ⟨A5, c5, rfl, hl5, hC5⟩ := Kd.S_reads ho
  have HO5 := Aside0.mk hC5
  have HL5 := Aside0.mk hl5
  have n1 := Aside0.mk (below_step HB.out hb)
  have n2 := Aside0.mk (below_step HB3.out hb)
  have n3 := Aside0.mk (Kd.S_below HX.out hb)
  have n4 := Aside0.mk (Kd.R_below HG.out hb)
  clear HB HB3 HX HG ho hb hl5 hC5
  have HB := n1
  have HB3 := n2
  have HX := n3
  have HG := n4
  clear n1 n2 n3 n4
  go_wp2_with fail
  refine (laws_eqModS.calls k A3 c3 m A5 c5 m true _ (Kd.S_reads' HX.out).2.2 HL3.out HO5.out HL5.out HEM.out).mono ?_
  rintro e w8 ⟨rfl, hb⟩
  have n1 := Aside0.mk (below_step HB.out hb)
  have n2 := Aside0.mk (below_step HB3.out hb)
  have n3 := Aside0.mk (Kd.S_below HX.out hb)
  have n4 := Aside0.mk (Kd.R_below HG.out hb)
  clear HB HB3 HX HG hb HO5 HL5 HEM
  have HB := n1
  have HB3 := n2
  have HX := n3
  have HG := n4
  clear n1 n2 n3 n4
  go_wp2_with fail
  refine (laws_markModS.calls k _ _ m 1 kk w3 _ HB3.out HX.out HMK.out).mono ?_
  rintro e w9 ⟨rfl, hb3, hk⟩
  have n1 := Aside0.mk (below_step HW3.out hb3)
  have n2 := Aside0.mk hb3
  have n4 := Aside0.mk (Kd.R_kept (Kd.R_bound HG.out) hk (fun k h h2 => absurd h2.2 (Nat.not_lt.2 h.2.1)))
  clear HB HB3 HX HG hb3 hk HMK HL3
  have HB := n1
  have HB3 := n2
  have HG : Aside0 (Kd.R (Kd.int .i64) 3 w9 w3.heap.size (fun _ => True) (.slice A4 s.length c4) s) := ⟨Kd.R_mono (Kd.R_lower n4.out HL34.out) (fun _ _ => trivial)⟩
  clear n1 n2 n4 HL34
  go_wp2_with fail
  refine (laws_eqIntS.calls k A4 c4 s A2 c2 s true _ (Kd.R_reads' HG.out).2.2 HL4.out (Kd.R_reads' (Kd.R_below HO2.out HB3.out)).2.2 HL2.out HEQ.out).mono ?_
  rintro e w10 ⟨rfl, hd⟩
  have n1 := Aside0.mk (below_step HB.out hd.below)
  have n2 := Aside0.mk (below_step HB3.out hd.below)
  have n4 := Aside0.mk (Kd.R_below HG.out hd.below)
  clear HB HB3 HG hd
  have HB := n1
  have HB3 := n2
  have HG := n4
  clear n1 n2 n4
  go_wp2_with fail
  refine (laws_markIntS.calls k _ (.slice A4 s.length c4) s 1 mm s2 w3 _ HB3.out HG.out HMI.out).mono ?_
  rintro e w11 ⟨rfl, hr, hb3, hk⟩
  have n1 := Aside0.mk (below_step HW3.out hb3)
  have n2 := Aside0.mk hb3
  have n4 := Aside0.mk hr
  have HLL := Aside0.mk (Kd.R_reads' hr).1
  clear HB HB3 HG hb3 hk HMI hr
  have HB := n1
  have HB3 := n2
  have HG := n4
  clear n1 n2 n4
  go_wp2_with fail
  have HL4b : Aside0 (s2.length ≤ c4) := ⟨by rw [← HLL.out]; exact HL4.out⟩
  rw [HLL.out]
  refine (laws_heldIntS.calls k A4 c4 s2 1 mm _ (Kd.R_reads' HG.out).2.2 HL4b.out HH.out).mono ?_
  rintro e w12 ⟨rfl, hd⟩
  rw [← HLL.out]
  have n1 := Aside0.mk (below_step HB.out hd.below)
  have n2 := Aside0.mk (below_step HB3.out hd.below)
  have n4 := Aside0.mk (Kd.R_below HG.out hd.below)
  clear HB HB3 HG hd HL4b
  have HB := n1
  have HB3 := n2
  have HG := n4
  clear n1 n2 n4
  go_wp2_with fail
  refine (laws_toModS.calls k A0 c0 l0 m _ (Kd.C_below HR0.out HB.out) HC0.out HT.out).mono ?_
  rintro e w13 ⟨v6, rfl, ho, hb⟩
  obtain ⟨A6, c6, rfl, hl6, hC6⟩ := Kd.S_reads ho
  have HO6 := Aside0.mk hC6
  have HL6 := Aside0.mk hl6
  have n1 := Aside0.mk (below_step HB.out hb)
  have n2 := Aside0.mk (below_step HB3.out hb)
  have n4 := Aside0.mk (Kd.R_below HG.out hb)
  clear HB HB3 HG ho hb hl6 hC6
  have HB := n1
  have HB3 := n2
  have HG := n4
  clear n1 n2 n4
  go_wp2_with fail
  refine (impl_ImportNeeds.calls k A6 c6 m a1 s _ HO6.out HL6.out HIM.out).mono ?_
  rintro e w14 ⟨v7, rfl, ho, hb⟩
  obtain ⟨A7, c7, rfl, hl7, hC7⟩ := Kd.R_reads ho
  have HO7 := Aside0.mk hC7
  have HL7 := Aside0.mk hl7
  have n1 := Aside0.mk (below_step HB.out hb)
  have n2 := Aside0.mk (below_step HB3.out hb)
  have n4 := Aside0.mk (Kd.R_below HG.out hb)
  clear HB HB3 HG ho hb hl7 hC7 HO6 HL6
  have HB := n1
  have HB3 := n2
  have HG := n4
  clear n1 n2 n4
  go_wp2_with fail
  refine (laws_eqIntS.calls k A7 c7 s A2 c2 s true _ HO7.out HL7.out (Kd.R_reads' (Kd.R_below HO2.out HB3.out)).2.2 HL2.out HEQ.out).mono ?_
  rintro e w15 ⟨rfl, hd⟩
  have n1 := Aside0.mk (below_step HB.out hd.below)
  have n2 := Aside0.mk (below_step HB3.out hd.below)
  have n4 := Aside0.mk (Kd.R_below HG.out hd.below)
  clear HB HB3 HG hd HO7 HL7
  have HB := n1
  have HB3 := n2
  have HG := n4
  clear n1 n2 n4
  go_wp2_with fail
  have HL4b : Aside0 (s2.length ≤ c4) := ⟨by rw [← HLL.out]; exact HL4.out⟩
  rw [HLL.out]
  refine (laws_heldIntS.calls k A4 c4 s2 1 mm _ (Kd.R_reads' HG.out).2.2 HL4b.out HH.out).mono ?_
  rintro e w16 ⟨rfl, hd⟩
  rw [← HLL.out]
  have n1 := Aside0.mk (below_step HB.out hd.below)
  have n2 := Aside0.mk (below_step HB3.out hd.below)
  have n4 := Aside0.mk (Kd.R_below HG.out hd.below)
  clear HB HB3 HG hd HL4b
  have HB := n1
  have HB3 := n2
  have HG := n4
  clear n1 n2 n4
  go_wp2_with fail
  go_ret
  exact ⟨rfl, HB.out⟩
end Go.Proofs.Ytehhhlhedmfdiaa.PFnExactImportNeeds
