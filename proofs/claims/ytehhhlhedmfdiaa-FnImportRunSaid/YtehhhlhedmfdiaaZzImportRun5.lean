/- FnImportRun holds of every input: what is whole has begun, and every listed module is whole or failed; no condition. -/
import Derived.Test.YtehhhlhedmfdiaaZzImportRun4
import Derived.OpenShut
import Derived.Laws.BitsLemmas
import Derived.SizedLaws
import Derived.ChangeSlices
import Derived.Test.YtehhhlhedmfdiaaRows
import Derived.WalkKit
import Derived.ProofKit
import Derived.ShutString
import Derived.ChangeOld
import Derived.Below
set_option maxHeartbeats 8000000
set_option maxRecDepth 100000
section
namespace Go.Proofs.Ytehhhlhedmfdiaa.PFnImportRun
open Go.RowKit Go.Proofs.Yz0.PrintWords Go.Proofs.Yz0.PrintLast Go.Proofs.Yz0.PrintMore
set_option linter.unusedVariables false
set_option linter.unusedSimpArgs false
theorem info168 : (Try.prog.info? 168).map (fun i => (i.zero, i.size, i.bytes)) = some (some (.slice none 0 0), 1, 24) := by kernel_rfl
section
variable {dec : Int → ByteArray} {M : List S72} {A0 : Option Addr} {c0 : Nat} {w0 : World} {gI : Nat} {uf us uv : Value} {fa : List Int}
theorem sp_steps (hdec : ∀ v, 0 ≤ v → v ≤ 1000000 → ∃ k, spec_decimal.f k v = some (dec v)) (L : Int → IS → Option (Bool × IS)) (hL : SpLoads dec M A0 c0 w0 gI uf us uv fa L) : SpSteps dec M A0 c0 w0 gI uf us uv fa (stp dec L M.length) := by
 intro i x s b s' W h hR
 obtain ⟨f0, f1, f2⟩ := x
 unfold stp at h
 dsimp only at h ⊢
 split at h
 ·rename_i e; subst e
  split at h
  ·exact sp_step1 L hL i f1 f2 s b s' W h hR
  ·cases h
 split at h
 ·rename_i e; subst e
  split at h
  ·cases hf : L f1 s with
   | none => rw [hf] at h; cases h
   | some r =>
    obtain ⟨b2, t⟩ := r
    rw [hf] at h
    injection h with h
    injection h with h1 h2
    subst h1 h2
    exact sp_step2 L hL i f1 f2 s b2 t W hf hR
  ·cases h
 split at h
 ·rename_i e; subst e
  split at h
  ·rename_i hg
   obtain ⟨⟨g1, g2, g3⟩, g4, ⟨g5, g6⟩, ⟨g7, g8⟩, g9⟩ := hg
   injection h with h
   injection h with h1 h2
   subst h1 h2
   obtain ⟨n, rfl⟩ := Int.eq_ofNat_of_zero_le g7
   obtain ⟨k, hk⟩ := hdec f1 g1 g2
   exact sp_step3 n f1 f2 s W k hk (by omega) g5 g4 hR
  ·cases h
 split at h
 ·rename_i e; subst e
  split at h
  ·rename_i hg
   obtain ⟨⟨g1, g2, g3⟩, g4, g5⟩ := hg
   obtain ⟨q, rfl⟩ := Int.eq_ofNat_of_zero_le g1
   cases hlk : look (nms s (q : Int)) f2 with
   | none =>
    rw [hlk] at h
    injection h with h
    injection h with h1 h2
    subst h1 h2
    exact sp_step4n i q f2 _ W (by omega) g4 g5 hlk hR
   | some v =>
    rw [hlk] at h
    dsimp only at h
    split at h
    ·rename_i hg2
     injection h with h
     injection h with h1 h2
     subst h1 h2
     exact sp_step4s i q f2 _ W (by omega) g4 g5 v hlk hg2.2 hR
    ·cases h
  ·cases h
 split at h
 ·rename_i e; subst e
  injection h with h
  injection h with h1 h2
  subst h1 h2
  exact sp_step5 i f1 f2 _ W hR
 ·cases h
theorem sp_all (hdec : ∀ v, 0 ≤ v → v ≤ 1000000 → ∃ k, spec_decimal.f k v = some (dec v)) (hC : Kd.C k72 w0 A0 M.length M) : ∀ k, SpLoads dec M A0 c0 w0 gI uf us uv fa (ld dec M k) := by
 intro k
 induction k with
 | zero => intro i s b s' W h; cases h
 | succ k ih =>
  intro i s b s' W h hR
  simp only [ld] at h
  split at h
  ·rename_i hg
   obtain ⟨⟨g1, g2⟩, g3, g4⟩ := hg
   obtain ⟨n, rfl⟩ := Int.eq_ofNat_of_zero_le g1
   split at h
   ·rename_i h0
    split at h
    ·rename_i hg2
     cases hr : runs (stp dec (ld dec M k) M.length (n : Int)) (rX M (n : Int)).f0 (ldStart (n : Int) s) with
     | none => rw [hr] at h; cases h
     | some r =>
      obtain ⟨b2, t⟩ := r
      rw [hr] at h
      dsimp only [Option.bind_some] at h
      split at h
      ·rename_i hg3
       injection h with h
       injection h with h1 h2
       subst h1 h2
       exact sp_load (stp dec (ld dec M k) M.length) (sp_steps hdec _ ih) hC n s W (by omega) g3 g4 h0 hg2.1 hg2.2 b2 t hr hg3.1.1 hg3.1.2 hg3.2.1 hR
      ·cases h
    ·cases h
   ·rename_i h0
    injection h with h
    injection h with h1 h2
    subst h1 h2
    exact sp_load1 n s W (by omega) g3 h0 hR
  ·cases h
theorem put5 {W : World} {g : Nat} {a b c d f x0 x1 x2 x3 x4 : Value} (h : W.heap[g]? = some (.cells #[x0, x1, x2, x3, x4] 48 (0, 0))) :
  (((((W.setCell ⟨g, 0, none⟩ a).setCell ⟨g, 1, none⟩ b).setCell ⟨g, 2, none⟩ c).setCell ⟨g, 3, none⟩ d).setCell ⟨g, 4, none⟩ f).heap[g]? = some (.cells #[a, b, c, d, f] 48 (0, 0)) :=
 blk_put (cs := #[a, b, c, d, x4]) (blk_put (cs := #[a, b, c, x3, x4]) (blk_put (cs := #[a, b, x2, x3, x4]) (blk_put (cs := #[a, x1, x2, x3, x4]) (blk_put (cs := #[x0, x1, x2, x3, x4]) h 0 _ rfl) 1 _ rfl) 2 _ rfl) 3 _ rfl) 4 _ rfl
theorem farG {α : Type} {d : Kd α} {W : World} {g : Nat} {cs : Array Value} {e : TypeId} {base base' : Nat} {ok : Nat → Prop} {v : Value} {xs : List α} (hG : W.heap[g]? = some (.cells cs 48 (0, 0))) (hr : d.R e W base ok v xs) (hb : base' ≤ base) (ht : ∀ q, q ∈ e :: d.E → q ≠ 48) {x0 x1 x2 x3 x4 : Value} :
  d.R e (((((W.setCell ⟨g, 0, none⟩ x0).setCell ⟨g, 1, none⟩ x1).setCell ⟨g, 2, none⟩ x2).setCell ⟨g, 3, none⟩ x3).setCell ⟨g, 4, none⟩ x4) base' ok v xs := by
 have h1 := Kd.R_lower (Kd.R_types hr hG ht) hb
 exact Kd.R_mono (Kd.R_far (p := ⟨g, 4, none⟩) (Kd.R_far (p := ⟨g, 3, none⟩) (Kd.R_far (p := ⟨g, 2, none⟩) (Kd.R_far (p := ⟨g, 1, none⟩) (Kd.R_far (p := ⟨g, 0, none⟩) h1 (fun _ hk => hk.2) x0) (fun _ hk => hk.2) x1) (fun _ hk => hk.2) x2) (fun _ hk => hk.2) x3) (fun _ hk => hk.2) x4) (fun _ hk => hk.1)
def Five (w : World) (r1 r2 r3 : List Int) (r4 : List ByteArray) (r5 : List Int) (e : Ending) (w' : World) : Prop := ∃ v0 v1 v2 v3 v4 : Value, e = .returned (.agg #[v0, v1, v2, v3, v4]) ∧
 Kd.R (Kd.int .i64) 3 w' w.heap.size (fun k => some k ≠ v1.ownBlock ∧ some k ≠ v2.ownBlock ∧ some k ≠ v4.ownBlock) v0 r1 ∧ Kd.R (Kd.int .i64) 3 w' w.heap.size (fun k => some k ≠ v0.ownBlock ∧ some k ≠ v2.ownBlock ∧ some k ≠ v4.ownBlock) v1 r2 ∧
 Kd.R (Kd.int .i64) 3 w' w.heap.size (fun k => some k ≠ v0.ownBlock ∧ some k ≠ v1.ownBlock ∧ some k ≠ v4.ownBlock) v2 r3 ∧ Kd.R Kd.string 9 w' w.heap.size (fun _ => True) v3 r4 ∧
 Kd.R (Kd.int .i64) 3 w' w.heap.size (fun k => some k ≠ v0.ownBlock ∧ some k ≠ v1.ownBlock ∧ some k ≠ v2.ownBlock) v4 r5 ∧ Below w.heap.size w w'
theorem rdI_drop {l : List Int} {j : Nat} (h : j < l.length) : l.drop j = rd l (j : Int) :: l.drop (j + 1) := by
 unfold rd
 rw [show ((j : Int)).toNat = j from rfl, List.getD_eq_getElem?_getD, List.getElem?_eq_getElem h, List.drop_eq_getElem_cons h]
 rfl
end
theorem vsAll0 (dec : Int → ByteArray) (n : Nat) : VsAll dec (List.replicate n []) (List.replicate n []) := by
 refine ⟨by simp, fun j => ?_⟩
 have h1 : ∀ {α : Type}, (List.replicate n ([] : List α)).getD j [] = [] := by
  intro α
  rw [List.getD_eq_getElem?_getD, List.getElem?_replicate]
  split <;> rfl
 rw [h1, h1]
 exact vsIs_nil dec
theorem sp_imported (dec : Int → ByteArray) (hdec : ∀ v, 0 ≤ v → v ≤ 1000000 → ∃ k, spec_decimal.f k v = some (dec v)) (k : Nat) (A0 : Option Addr) (c0 : Nat) (M : List S72) (A1 : Option Addr) (c1 : Nat) (l1 : List Int) (r1 r2 r3 : List Int) (r4 : List ByteArray) (r5 : List Int) (w : World)
  (hr0 : Kd.C k72 w A0 M.length M) (hr1 : Kd.C (Kd.int .i64) w A1 l1.length l1) (hm : M.length ≤ 1000) (h : impAll dec M k l1 = some (r1, r2, r3, r4, r5)) :
  Calls Try.prog 73 #[.slice A0 M.length c0, .slice A1 l1.length c1] w (Five w r1 r2 r3 r4 r5) := by
 obtain ⟨⟨s1, fa1⟩, hall, heq⟩ := Option.map_eq_some_iff.1 h
 injection heq with e1 e2
 injection e2 with e2 e3
 injection e3 with e3 e4
 injection e4 with e4 e5
 subst e1 e2 e3 e4 e5
 dsimp only
 have HD := Az.mk hdec
 have HR0 := Az.mk hr0
 have HR1 := Az.mk hr1
 have HML := Az.mk hm
 have HALL := Az.mk hall
 have hu48 := Try.underlying48
 have hu145 := Try.underlying145
 have hm0 : decide ((0 : Int) ≤ (M.length : Int)) = true := decide_eq_true (by omega)
 clear hdec hr0 hr1 hm hall h
 go_enter Try.func73, Try.ntmps73
 go_wp2_with (first | ((with_reducible refine gate_dst (N := 4) rfl ?_); refine box_event ?hg (N := 4) ?hd (cs := #[.slice none 0 0, .slice none 0 0, .slice none 0 0, .slice none 0 0, .slice none 0 0]) (t := 48) ?hr ?_; (case hd => rfl); (case hg => rfl); (case hr => first | (go_simp; done) | (go_simp; rfl)); intro gR hg wA hbox hb; have HBR := Az.mk hbox; have HB := Az.mk hb; have HGR : Az (gR = w.heap.size) := ⟨hg⟩; clear hbox hb hg) | ((with_reducible refine gate_dst (N := 10) rfl ?_); refine Kd.S_make (Kd.slice 177 k177) (w0 := wA) wA.heap.size 168 rfl (N := 10) rfl 143 _ _ rfl (M.length : Int) rfl rfl Try.underlying143 (.slice none 0 0) 24 info168 rfl (by decide) (by omega) [] (ok := fun _ => True) (okp := fun _ => True) ⟨_, rfl, Kd.R_nil _ _ _ _ _⟩ (fun _ hk => hk) trivial (of_decide_eq_true hm0) ?bd (Below.refl _ _) (Nat.le_refl _) ?_; (case bd => have := HML.out; omega); intro uv w1 ho hb hg_ hnew_; clear hg_ hnew_; have HV : Az (Kd.S (Kd.slice 177 k177) 168 w1 wA.heap.size (fun _ => True) uv (List.replicate M.length ([] : List S177))) := ⟨ho⟩; have HBA := Az.mk hb; clear ho hb; obtain ⟨gv, cv, ev⟩ := Kd.S_slice HV.out; simp only [List.length_replicate] at ev; subst ev) | ((with_reducible refine gate_dst (N := 12) rfl ?_); refine box_event ?hg (N := 12) ?hd (cs := #[.slice A0 M.length c0, .slice none 0 0, .slice none 0 0, .slice none 0 0, .slice none 0 0, .slice none 0 0, .slice gv M.length cv]) (t := 145) ?hr ?_; (case hd => rfl); (case hg => rfl); (case hr => first | (go_simp; done) | (go_simp; rfl)); intro gI hg w2 hbox hb; have HBI := Az.mk hbox; have HGI : Az (gI = w1.heap.size) := ⟨hg⟩; have HGS : Az (wA.heap.size ≤ w1.heap.size) := ⟨HBA.out.size⟩; have n0_ := Az.mk (below_step HBA.out hb); have n1_ := Az.mk (Kd.S_below HV.out hb); clear HBA HV hbox hb hg; have HBA := n0_; have HV := n1_; clear n0_ n1_) | ((with_reducible refine gate_dst (N := 16) rfl ?_); refine Kd.R_make (Kd.int .i64) (w0 := wA) wA.heap.size 3 rfl (N := 16) rfl 35 _ _ rfl (M.length : Int) rfl rfl Try.underlying35 (.int .i64 0) 8 info3 rfl (by decide) (by omega) (0 : Int) (ok := fun _ => True) (okp := fun _ => True) rfl (fun _ hk => hk) trivial (of_decide_eq_true hm0) ?bd HBA.out (below_size HBA.out) ?_; (case bd => have := HML.out; omega); intro us w3 ho hb hg_ hnew_; have HS : Az (Kd.R (Kd.int .i64) 3 w3 wA.heap.size (fun _ => True) us (List.replicate M.length (0 : Int))) := ⟨ho⟩; obtain ⟨gs, cs, es⟩ := Kd.R_slice HS.out; simp only [List.length_replicate] at es; subst es; have n0_ := Az.mk hb; have n1_ := Az.mk (Kd.S_grown HV.out hg_ (by simp)); have n2_ := Az.mk (blk_grown HBI.out hg_ (by simp)); clear HBA HV HBI ho hb hg_ hnew_; have HBA := n0_; have HV := n1_; have HBI := n2_; clear n0_ n1_ n2_; have hq5 : w3.cell? ⟨gI, 5, none⟩ = some (.slice none 0 0) := (bC HBI.out 5).trans rfl; have hqf := bF HBI.out 5))
 have HI : Az (SpI wA (w3.setCell ⟨gI, 5, none⟩ (.slice gs M.length cs)) gI (.slice A0 M.length c0) (.slice none 0 0) (.slice none 0 0) (.slice none 0 0) (.slice none 0 0) (.slice gs M.length cs) (.slice gv M.length cv) [] [] [] [] (List.replicate M.length 0) (List.replicate M.length [])) :=
  ⟨⟨Kd.R_nil _ _ _ _ _, Kd.R_nil _ _ _ _ _, Kd.R_nil _ _ _ _ _, Kd.R_mono (Kd.R_far (p := ⟨gI, 5, none⟩) (Kd.R_types HS.out HBI.out (by decide)) (fun _ hk => hk.2) _) (fun _ _ => by simp [Value.ownBlock]), Kd.R_nil _ _ _ _ _, Kd.S_set HV.out HBI.out (by decide) _ _,
   blk_put (cs := #[.slice A0 M.length c0, .slice none 0 0, .slice none 0 0, .slice none 0 0, .slice none 0 0, .slice none 0 0, .slice gv M.length cv]) HBI.out 5 _ rfl, bS HBA.out (by have := HGI.out; have := HGS.out; omega), by have := HGI.out; have := HGS.out; omega⟩⟩
 clear hq5 hqf
 generalize World.setCell _ _ _ = w4 at HI ⊢
 have HR1A := Az.mk (Kd.C_below HR1.out HB.out)
 have HR0A := Az.mk (Kd.C_below HR0.out HB.out)
 have HLM := Az.mk (Kd.C_max HR1.out)
 clear HR0 HR1 HS HV HBI HBA
 go_loopg [6] (l1.length + 1) (fun kq v6 w' => ∃ (j : Nat) (t : IS) (fa : List Int) (uf : Value), v6 = .int .i64 (j : Int) ∧ Az (j + kq = l1.length + 1 ∧ j ≤ l1.length) ∧ Az (ldAll dec M k (l1.drop j) t fa = some (s1, fa1)) ∧ Az (SpR dec wA w' gI (.slice A0 M.length c0) uf (.slice gs M.length cs) (.slice gv M.length cv) fa t))
 case atStart => exact ⟨0, is0 M.length, [], _, rfl, ⟨by omega, by omega⟩, ⟨by simpa using HALL.out⟩, ⟨⟨_, _, _, _, HI.out, vsAll0 dec M.length⟩⟩⟩
 case round =>
  clear HI HALL
  obtain ⟨j, t, fa, uf, rfl, HJ, HA, HS⟩ := hrel
  by_cases hj : j < l1.length
  ·have hj1 : decide ((j : Int) < (l1.length : Int)) = true := decide_eq_true (by omega)
   have hj2 : (j < l1.length) = True := eq_true hj
   obtain ⟨ad1, e1, hx⟩ := Kd.at_int HR1A.out (j : Int) (by omega) (by omega)
   subst e1
   have HBW : Az (Below wA.heap.size wA wr) := ⟨by obtain ⟨_, _, _, _, hI, _⟩ := HS.out; exact hI.be⟩
   have HX := Az.mk hx
   replace hx : wr.cell? (ad1.add j) = some (.int .i64 (rd l1 (j : Int))) := (HBW.out.cell (World.block_lt_of_cell? wA _ hx)).trans hx
   have hw := HA.out
   rw [rdI_drop hj, ldAll] at hw
   have hwr : wrap64 ((j : Int) + 1) = ((j + 1 : Nat) : Int) := by have := HLM.out; unfold wrap64; omega
   clear HA
   cases hf : ld dec M k (rd l1 (j : Int)) t with
   | none => rw [hf] at hw; cases hw
   | some r =>
    obtain ⟨b2, t2⟩ := r
    rw [hf] at hw
    dsimp only [Option.bind_some] at hw
    have HFF := Az.mk hf
    have HJL := Az.mk hj
    have HWR := Az.mk hwr
    clear hf hj hwr
    cases b2 with
    | true =>
     have HR := Az.mk hw
     clear hw
     go_wp2_with fail
     refine (sp_all HD.out HR0A.out k _ t true t2 _ HFF.out HS.out).mono ?_
     rintro e w5 ⟨rfl, hR2⟩
     have HS2 := Az.mk hR2
     clear hR2 hx
     go_wp2_with fail
     go_roundg (gk - 1)
     case measure => have := HJ.out; omega
     case rel => exact ⟨j + 1, t2, fa, uf, (by first | rfl | (rw [HWR.out]) | (simp [HWR.out])), ⟨by have := HJ.out; omega, by have := HJL.out; omega⟩, HR, HS2⟩
    | false =>
     rw [if_neg (by decide)] at hw
     split at hw
     ·rename_i hfl
      have HR := Az.mk hw
      have HFL := Az.mk hfl
      clear hw hfl
      go_wp2_with fail
      refine (sp_all HD.out HR0A.out k _ t false t2 _ HFF.out HS.out).mono ?_
      rintro e w5 ⟨rfl, hR2⟩
      obtain ⟨ub, uw, ur, vs, hI, hV⟩ := hR2
      have hx5 : w5.cell? (ad1.add j) = some (.int .i64 (rd l1 (j : Int))) := (hI.be.cell (World.block_lt_of_cell? wA _ HX.out)).trans HX.out
      have HI := Az.mk hI
      have HV := Az.mk hV
      obtain ⟨hz0, hz1, hz2, hz3, hz4, hz5, hz6, hzf⟩ := hI.cells
      clear hI hV hx HS
      go_wp2_with fail
      refine start_ (n := 16) (S := fun w' => w'.cell? ⟨gI, 3, none⟩ = some uf ∧ w'.cell? (ad1.add j) = some (.int .i64 (rd l1 (j : Int)))) (ds := [11, 15]) #[false, false, false, false, false, false, false, false, false, false, false, false, false, false, false, false] (by kernel_rfl) rfl rfl ⟨hz3, hx5⟩ (fun hHeld => ?_)
      have n0_ := Az.mk (HI.out.drew)
      clear HI hz0 hz1 hz2 hz3 hz4 hz5 hz6 hzf hx5
      have HI := n0_
      clear n0_
      generalize World.drew _ = w7 at HI hHeld ⊢
      refine pure_ (i := 0) (N := some 33) (v := ?_) (a' := ?_) #[true, false, false, false, false, false, false, false, false, false, false, false, false, false, false, false] rfl rfl (by kernel_rfl) (fun _ _ _ h => h) (Or.inl ⟨by rfl, ?_⟩) ?_ ?_
      rotate_left
      ·intro w'
       go_simp
       with_reducible rfl
      rotate_left
      ·simp only [Act.put, List.setIfInBounds_toArray, List.set_cons_zero, List.set_cons_succ, i64_w, i32_w]
       rfl
      refine pure_ (i := 1) (N := some 34) (v := ?_) (a' := ?_) #[true, true, false, false, false, false, false, false, false, false, false, false, false, false, false, false] rfl rfl (by kernel_rfl) (fun _ _ _ h => h) (Or.inl ⟨by rfl, ?_⟩) ?_ ?_
      rotate_left
      ·intro w'
       go_simp
       with_reducible rfl
      rotate_left
      ·simp only [Act.put, List.setIfInBounds_toArray, List.set_cons_zero, List.set_cons_succ, i64_w, i32_w]
       rfl
      refine pure_ (i := 2) (N := some 35) (v := ?_) (a' := ?_) #[true, true, true, false, false, false, false, false, false, false, false, false, false, false, false, false] rfl rfl (by kernel_rfl) (fun _ _ _ h => h) (Or.inl ⟨by rfl, ?_⟩) ?_ ?_
      rotate_left
      ·intro w'
       go_simp
       with_reducible rfl
      rotate_left
      ·simp only [Act.put, List.setIfInBounds_toArray, List.set_cons_zero, List.set_cons_succ, i64_w, i32_w]
       rfl
      refine pure_ (i := 3) (N := some 36) (v := ?_) (a' := ?_) #[true, true, true, true, false, false, false, false, false, false, false, false, false, false, false, false] rfl rfl (by kernel_rfl) (fun _ _ _ h => h) (Or.inl ⟨by rfl, ?_⟩) ?_ ?_
      rotate_left
      ·intro w'
       go_simp
       with_reducible rfl
      rotate_left
      ·simp only [Act.put, List.setIfInBounds_toArray, List.set_cons_zero, List.set_cons_succ, i64_w, i32_w]
       rfl
      refine pure_ (i := 4) (N := some 37) (v := ?_) (a' := ?_) #[true, true, true, true, true, false, false, false, false, false, false, false, false, false, false, false] rfl rfl (by kernel_rfl) (fun _ _ _ h => h) (Or.inl ⟨by rfl, ?_⟩) ?_ ?_
      rotate_left
      ·intro w'
       go_simp
       with_reducible rfl
      rotate_left
      ·simp only [Act.put, List.setIfInBounds_toArray, List.set_cons_zero, List.set_cons_succ, i64_w, i32_w]
       rfl
      refine pure_ (i := 6) (N := some 39) (v := ?_) (a' := ?_) #[true, true, true, true, true, false, true, false, false, false, false, false, false, false, false, false] rfl rfl (by kernel_rfl) (fun _ _ _ h => h) (Or.inl ⟨by rfl, ?_⟩) ?_ ?_
      rotate_left
      ·intro w'
       go_simp
       with_reducible rfl
      rotate_left
      ·simp only [Act.put, List.setIfInBounds_toArray, List.set_cons_zero, List.set_cons_succ, i64_w, i32_w]
       rfl
      refine pure_ (i := 7) (N := some 40) (v := ?_) (a' := ?_) #[true, true, true, true, true, false, true, true, false, false, false, false, false, false, false, false] rfl rfl (by kernel_rfl) (fun _ _ _ h => h) (Or.inl ⟨by rfl, ?_⟩) ?_ ?_
      rotate_left
      ·intro w'
       go_simp
       with_reducible rfl
      rotate_left
      ·simp only [Act.put, List.setIfInBounds_toArray, List.set_cons_zero, List.set_cons_succ, i64_w, i32_w]
       rfl
      refine pure_ (i := 8) (N := some 41) (v := ?_) (a' := ?_) #[true, true, true, true, true, false, true, true, true, false, false, false, false, false, false, false] rfl rfl (by kernel_rfl) (fun _ _ _ h => h) (Or.inl ⟨by rfl, ?_⟩) ?_ ?_
      rotate_left
      ·intro w'
       go_simp
       with_reducible rfl
      rotate_left
      ·simp only [Act.put, List.setIfInBounds_toArray, List.set_cons_zero, List.set_cons_succ, i64_w, i32_w]
       rfl
      refine take_ (i := 5) (N := some 38) (v := ?_) (a' := ?_) #[true, true, true, true, true, true, true, true, true, false, false, false, false, false, false, false] rfl rfl (by kernel_rfl) (fun _ _ _ h => h) (Or.inl ⟨by rfl, ?_⟩) hHeld ?_ ?_
      rotate_left
      ·rintro w' ⟨s0, s1⟩
       go_simp
       with_reducible rfl
      rotate_left
      ·simp only [Act.put, List.setIfInBounds_toArray, List.set_cons_zero, List.set_cons_succ, i64_w, i32_w]
       rfl
      refine take_ (i := 9) (N := some 42) (v := ?_) (a' := ?_) #[true, true, true, true, true, true, true, true, true, true, false, false, false, false, false, false] rfl rfl (by kernel_rfl) (fun _ _ _ h => h) (Or.inl ⟨by rfl, ?_⟩) hHeld ?_ ?_
      rotate_left
      ·rintro w' ⟨s0, s1⟩
       go_simp
       with_reducible rfl
      rotate_left
      ·simp only [Act.put, List.setIfInBounds_toArray, List.set_cons_zero, List.set_cons_succ, i64_w, i32_w]
       rfl
      refine one_ (i := 10) (N := some 43) #[true, true, true, true, true, true, true, true, true, true, true, false, false, false, false, false] rfl rfl (by kernel_rfl) (by decide) (fun K hK => ?_)
      refine value_ (w1 := ?_) (v := ?_) (by rfl) rfl ?_ ?_
      rotate_left 2
      ·go_simp
       constructor
       ·rfl
       ·rfl
      refine hK.out _ _ ⟨pw_cell_below (bal (Below.refl _ _) _) hHeld.1, pw_cell_below (bal (Below.refl _ _) _) hHeld.2⟩ (fun hHeld => ?_)
      clear hK K
      refine norm_ (a' := ?_) ?_ ?_
      rotate_left
      ·show Act.put _ (some 43) _ = _
       simp only [Act.put, List.setIfInBounds_toArray, List.set_cons_zero, List.set_cons_succ, i64_w, i32_w]
       rfl
      refine last_ (i := 11) (N := some 44) #[true, true, true, true, true, true, true, true, true, true, true, true, false, false, false, false] rfl rfl (by kernel_rfl) (by decide) (fun K hK => ?_)
      refine Kd.R_append_step (Kd.int .i64) (w0 := wA) wA.heap.size (by rfl) (.tmp 38) (.tmp 43) 35 3 (.int .i64 0) 8 rfl Try.underlying35 info3 rfl (by decide) (by omega) uf fa (rd l1 (j : Int)) [.int .i64 (rd l1 (j : Int))] (fun k => some k ≠ ub.ownBlock ∧ some k ≠ uw.ownBlock ∧ some k ≠ Value.ownBlock (.slice gs M.length cs)) (fun _ => False) rfl rfl ?aP (fun _ hk => hk.elim) ?aF ?aO ?aB ?aS ?aL ?_
      (case aP => exact rfl)
      (case aB => exact HI.out.be)
      (case aF => exact (fun k_ hk => ⟨Kd.fresh' (Kd.R_lt HI.out.rb) k_ hk, Kd.fresh' (Kd.R_lt HI.out.rw_) k_ hk, Kd.fresh' (Kd.R_lt HI.out.rs) k_ hk⟩))
      (case aO => exact HI.out.rf)
      (case aS => exact below_size HI.out.be)
      (case aL => have := HFL.out; unfold IB at this; omega)
      intro v1 w6 ho hb hg hat
      obtain ⟨A1_, c1_, e_⟩ := Kd.R_slice ho
      simp only [List.length_append, List.length_cons, List.length_nil, Nat.zero_add] at e_
      subst e_
      obtain ⟨hI_, hy0, hyf⟩ := SpI.putF HI.out ho hb hg hat
      have n0_ := Az.mk hI_
      clear HI hI_ ho hb hg hat hHeld
      have HI := n0_
      clear n0_
      refine hK.out _ _ ?_
      clear hK K
      refine norm_ (a' := ?_) ?_ ?_
      rotate_left
      ·show Act.put _ (some 44) _ = _
       simp only [Act.put, List.setIfInBounds_toArray, List.set_cons_zero, List.set_cons_succ, i64_w, i32_w]
       rfl
      refine pure_ (i := 12) (N := some 45) (v := ?_) (a' := ?_) #[true, true, true, true, true, true, true, true, true, true, true, true, true, false, false, false] rfl rfl (by kernel_rfl) (fun _ _ _ h => h) (Or.inl ⟨by rfl, ?_⟩) ?_ ?_
      rotate_left
      ·intro w'
       go_simp
       with_reducible rfl
      rotate_left
      ·simp only [Act.put, List.setIfInBounds_toArray, List.set_cons_zero, List.set_cons_succ, i64_w, i32_w]
       rfl
      refine pure_ (i := 13) (N := some 46) (v := ?_) (a' := ?_) #[true, true, true, true, true, true, true, true, true, true, true, true, true, true, false, false] rfl rfl (by kernel_rfl) (fun _ _ _ h => h) (Or.inl ⟨by rfl, ?_⟩) ?_ ?_
      rotate_left
      ·intro w'
       go_simp
       with_reducible rfl
      rotate_left
      ·simp only [Act.put, List.setIfInBounds_toArray, List.set_cons_zero, List.set_cons_succ, i64_w, i32_w]
       rfl
      refine pure_ (i := 14) (N := some 47) (v := ?_) (a' := ?_) #[true, true, true, true, true, true, true, true, true, true, true, true, true, true, true, false] rfl rfl (by kernel_rfl) (fun _ _ _ h => h) (Or.inl ⟨by rfl, ?_⟩) ?_ ?_
      rotate_left
      ·intro w'
       go_simp
       with_reducible rfl
      rotate_left
      ·simp only [Act.put, List.setIfInBounds_toArray, List.set_cons_zero, List.set_cons_succ, i64_w, i32_w]
       rfl
      refine last_ (i := 15) (N := none) #[true, true, true, true, true, true, true, true, true, true, true, true, true, true, true, true] rfl rfl (by kernel_rfl) (by decide) (fun K hK => ?_)
      refine skip_ (w1 := ?_) (by rfl) rfl ?_ ?_
      rotate_left
      ·go_simp
       rfl
      refine hK.out _ _ ?_
      clear hK K
      refine done_ (by kernel_rfl) ?_
      clear hy0 hyf
      go_wp2_with fail
      go_roundg (gk - 1)
      case measure => have := HJ.out; omega
      case rel => exact ⟨j + 1, t2, fa ++ [rd l1 (j : Int)], _, (by first | rfl | (rw [HWR.out]) | (simp [HWR.out])), ⟨by have := HJ.out; omega, by have := HJL.out; omega⟩, HR, ⟨_, _, _, _, HI.out, HV.out⟩⟩
     ·cases hw
  ·have hj1 : decide ((j : Int) < (l1.length : Int)) = false := decide_eq_false (by omega)
   have hj2 : (j < l1.length) = False := eq_false hj
   have hw := HA.out
   rw [List.drop_of_length_le (by omega), ldAll] at hw
   injection hw with hw
   injection hw with ha hs
   subst ha hs
   obtain ⟨ub, uw, ur, vs, hI, hV⟩ := HS.out
   obtain ⟨Xb, Yb, eb⟩ := Kd.R_slice hI.rb
   subst eb
   obtain ⟨Xw, Yw, ew⟩ := Kd.R_slice hI.rw_
   subst ew
   obtain ⟨Xf, Yf, ef⟩ := Kd.R_slice hI.rf
   subst ef
   obtain ⟨Xr, Yr, er⟩ := Kd.R_slice hI.rr
   subst er
   obtain ⟨hz0, hz1, hz2, hz3, hz4, hz5, hz6, hzf⟩ := hI.cells
   have HI := Az.mk hI
   have HBR2 := Az.mk ((hI.be.block gR (blk_lt HBR.out)).trans HBR.out)
   have hq0 : wr.cell? ⟨gR, 0, none⟩ = some (.slice none 0 0) := (bC HBR2.out 0).trans rfl
   have hq1 : wr.cell? ⟨gR, 1, none⟩ = some (.slice none 0 0) := (bC HBR2.out 1).trans rfl
   have hq2 : wr.cell? ⟨gR, 2, none⟩ = some (.slice none 0 0) := (bC HBR2.out 2).trans rfl
   have hq3 : wr.cell? ⟨gR, 3, none⟩ = some (.slice none 0 0) := (bC HBR2.out 3).trans rfl
   have hq4 : wr.cell? ⟨gR, 4, none⟩ = some (.slice none 0 0) := (bC HBR2.out 4).trans rfl
   have hqf : ∀ j, wr.frozen? ⟨gR, j, none⟩ = false := fun j => bF HBR2.out j
   clear hI hV HS HA
   go_wp2_with fail
   refine bodyPost_ret (results_cell_row rfl _ _ gR 48 #[.slice Xb t.bg.length Yb, .slice Xw t.wh.length Yw, .slice Xf fa.length Yf, .slice Xr t.re.length Yr, .slice gs M.length cs] (0, 0) _ rfl (put5 HBR2.out) Try.underlying48 rfl (by kernel_rfl)) rfl ?_
   have hle : w.heap.size ≤ wA.heap.size := HB.out.size
   have hbw := below_step HB.out HI.out.be
   have hge : w.heap.size ≤ gR := by have := HGR.out; omega
   exact ⟨_, _, _, _, _, rfl, farG HBR2.out HI.out.rb hle (by decide), farG HBR2.out HI.out.rw_ hle (by decide), farG HBR2.out HI.out.rf hle (by decide), farG HBR2.out HI.out.rr hle (by decide), farG HBR2.out HI.out.rs hle (by decide),
    bS (bS (bS (bS (bS hbw hge) hge) hge) hge) hge⟩
end Go.Proofs.Ytehhhlhedmfdiaa.PFnImportRun
end
section
namespace Go.Proofs.Ytehhhlhedmfdiaa.PFnImportRun
open Go.RowKit Go.Proofs.Yz0.PrintWords Go.Proofs.Yz0.PrintLast Go.Proofs.Yz0.PrintMore
set_option linter.unusedVariables false
set_option linter.unusedSimpArgs false
def dg (d : Nat) : ByteArray := strOfNums [(wrap64 (48 + (d : Int))) % 256]
def digs : Nat → Nat → ByteArray
 | 0, _ => ⟨#[]⟩
 | f + 1, n => if n < 10 then dg n else digs f (n / 10) ++ dg (n % 10)
def decT (v : Int) : ByteArray := digs 7 v.toNat
theorem dg_size (d : Nat) : (dg d).size = 1 := by
 unfold dg strOfNums; rfl
theorem digs_size : ∀ f n, (digs f n).size ≤ f
 | 0, _ => Nat.le_refl _
 | f + 1, n => by
  simp only [digs]
  split
  ·rw [dg_size]; omega
  ·rw [ByteArray.size_append, dg_size]; have := digs_size f (n / 10); omega
theorem impl_dec : ∀ (f k n : Nat), f + 1 < k → n < 10 ^ (f + 1) → n < 1000000000000000000 → f ≤ 100 → impl_decimal.f k (n : Int) = some (digs (f + 1) n) := by
 have one : ∀ (k n : Nat), n < 10 → impl_decimal.f (k + 1) (n : Int) = some (dg n) := by
  intro k n h
  simp only [impl_decimal.f]
  rw [if_neg (by omega), if_pos (by omega)]
  rfl
 intro f
 induction f with
 | zero =>
  intro k n hk h _ _
  obtain ⟨k, rfl⟩ : ∃ m, k = m + 1 := ⟨k - 1, by omega⟩
  have h : n < 10 := by simpa using h
  rw [one k n h, digs, if_pos h]
 | succ f ih =>
  intro k n hk h h18 hf
  obtain ⟨k, rfl⟩ : ∃ m, k = m + 1 := ⟨k - 1, by omega⟩
  by_cases hn : n < 10
  ·rw [one k n hn, digs, if_pos hn]
  ·simp only [impl_decimal.f]
   rw [if_neg (by omega), if_neg (by omega)]
   have e1 : wrap64 (Int.tdiv (n : Int) 10) = ((n / 10 : Nat) : Int) := by
    rw [show Int.tdiv (n : Int) 10 = ((n / 10 : Nat) : Int) from rfl]; unfold wrap64; omega
   have e2 : Int.tmod (n : Int) 10 = ((n % 10 : Nat) : Int) := rfl
   rw [e1, e2]
   have h3 : n / 10 < 10 ^ (f + 1) := by
    rw [Nat.pow_succ] at h
    omega
   have i1 := ih k (n / 10) (by omega) h3 (by omega) (by omega)
   have i2 : impl_decimal.f k ((n % 10 : Nat) : Int) = some (dg (n % 10)) := by
    obtain ⟨j, rfl⟩ : ∃ m, k = m + 1 := ⟨k - 1, by omega⟩
    exact one j (n % 10) (by omega)
   rw [i1, i2]
   simp only [Option.bind_some]
   have h4 := digs_size (f + 1) (n / 10)
   have h5 := dg_size (n % 10)
   rw [if_pos (by omega)]
   conv => rhs; rw [digs, if_neg hn]
theorem spec_pos : ∀ (f k n : Nat) (acc : ByteArray), f + 1 < k → n < 10 ^ (f + 1) → n < 1000000000000000000 → f ≤ 100 → acc.size ≤ 1000 - 2 * f → spec_positive.l0 k (n : Int) acc = some (digs (f + 1) n ++ acc) := by
 intro f
 induction f with
 | zero =>
  intro k n acc hk h _ _ ha
  obtain ⟨k, rfl⟩ : ∃ m, k = m + 1 := ⟨k - 1, by omega⟩
  have h : n < 10 := by simpa using h
  simp only [spec_positive.l0]
  have e1 : wrap64 (Int.tdiv (n : Int) 10) = 0 := by
   rw [show Int.tdiv (n : Int) 10 = ((n / 10 : Nat) : Int) from rfl]; unfold wrap64; omega
  have e2 : Int.tmod (n : Int) 10 = (n : Int) := by
   rw [show Int.tmod (n : Int) 10 = ((n % 10 : Nat) : Int) from rfl]; omega
  rw [e1, e2, if_neg (by omega)]
  simp only [Option.bind_some]
  have h5 := dg_size n
  unfold dg at h5
  rw [if_pos (by omega), if_pos trivial, digs, if_pos h]
  rfl
 | succ f ih =>
  intro k n acc hk h h18 hf ha
  obtain ⟨k, rfl⟩ : ∃ m, k = m + 1 := ⟨k - 1, by omega⟩
  simp only [spec_positive.l0]
  have e1 : wrap64 (Int.tdiv (n : Int) 10) = ((n / 10 : Nat) : Int) := by
   rw [show Int.tdiv (n : Int) 10 = ((n / 10 : Nat) : Int) from rfl]; unfold wrap64; omega
  have e2 : Int.tmod (n : Int) 10 = ((n % 10 : Nat) : Int) := rfl
  rw [e1, e2, if_neg (by omega)]
  simp only [Option.bind_some]
  have h5 := dg_size (n % 10)
  unfold dg at h5
  rw [if_pos (by omega)]
  by_cases hn : n < 10
  ·rw [if_pos (by omega), digs, if_pos hn, show n % 10 = n from by omega]
   rfl
  ·rw [if_neg (by omega)]
   have h3 : n / 10 < 10 ^ (f + 1) := by
    rw [Nat.pow_succ] at h
    omega
   have i1 := ih k (n / 10) (strOfNums [(wrap64 (48 + ((n % 10 : Nat) : Int))) % 256] ++ acc) (by omega) h3 (by omega) (by omega) (by rw [ByteArray.size_append]; omega)
   rw [i1]
   conv => rhs; rw [digs, if_neg hn]
   rw [ByteArray.append_assoc]
   rfl
theorem dec_impl (v : Int) (h0 : 0 ≤ v) (h1 : v ≤ 1000000) : ∃ k, impl_decimal.f k v = some (decT v) := by
 obtain ⟨n, rfl⟩ := Int.eq_ofNat_of_zero_le h0
 exact ⟨8, impl_dec 6 8 n (by omega) (by omega) (by omega) (by omega)⟩
theorem dec_spec (v : Int) (h0 : 0 ≤ v) (h1 : v ≤ 1000000) : ∃ k, spec_decimal.f k v = some (decT v) := by
 obtain ⟨n, rfl⟩ := Int.eq_ofNat_of_zero_le h0
 refine ⟨8, ?_⟩
 unfold spec_decimal.f spec_positive.f
 rw [if_neg (by omega), spec_pos 6 8 n _ (by omega) (by omega) (by omega) (by omega) (by decide)]
 simp only [Option.bind_some]
 unfold decT
 rw [show ((n : Int)).toNat = n from rfl]
 congr 1
 exact ByteArray.append_empty
end Go.Proofs.Ytehhhlhedmfdiaa.PFnImportRun
end
section
namespace Go.Proofs.Ytehhhlhedmfdiaa.PFnImportRun
open Go.RowKit Go.Proofs.Yz0.PrintWords Go.Proofs.Yz0.PrintLast Go.Proofs.Yz0.PrintMore
set_option linter.unusedVariables false
set_option linter.unusedSimpArgs false
theorem runs_mono {f g : S74 → IS → Option (Bool × IS)} (h : ∀ x s, LeO (f x s) (g x s)) : ∀ xs s, LeO (runs f xs s) (runs g xs s)
 | [], s => LeO.refl _
 | x :: xs, s => by
  simp only [runs]
  exact LeO.bind (h x s) (fun r => LeO.ite (runs_mono h xs r.2) (LeO.refl _))
theorem stp_mono {dec : Int → ByteArray} {L L' : Int → IS → Option (Bool × IS)} (h : ∀ i s, LeO (L i s) (L' i s)) (n : Nat) (i : Int) (x : S74) (s : IS) : LeO (stp dec L n i x s) (stp dec L' n i x s) := by
 unfold stp
 exact LeO.ite (LeO.ite (h _ _) (LeO.refl _)) (LeO.ite (LeO.ite (LeO.bind (h _ _) (fun _ => LeO.refl _)) (LeO.refl _)) (LeO.refl _))
theorem ld_mono (dec : Int → ByteArray) (M : List S72) : ∀ k i s, LeO (ld dec M k i s) (ld dec M (k + 1) i s)
 | 0, i, s => fun r h => by cases h
 | k + 1, i, s => by
  have ih := ld_mono dec M k
  rw [ld, ld]
  exact LeO.ite (LeO.ite (LeO.ite (LeO.bind (runs_mono (fun x t => stp_mono ih _ _ x t) _ _) (fun _ => LeO.refl _)) (LeO.refl _)) (LeO.refl _)) (LeO.refl _)
theorem ldAll_mono (dec : Int → ByteArray) (M : List S72) (k : Nat) : ∀ l s fa, LeO (ldAll dec M k l s fa) (ldAll dec M (k + 1) l s fa)
 | [], s, fa => LeO.refl _
 | i :: l, s, fa => by
  simp only [ldAll]
  exact LeO.bind (ld_mono dec M k i s) (fun r => LeO.ite (ldAll_mono dec M k l _ _) (LeO.ite (ldAll_mono dec M k l _ _) (LeO.refl _)))
theorem impAll_mono (dec : Int → ByteArray) (M : List S72) (k : Nat) (l : List Int) : LeO (impAll dec M k l) (impAll dec M (k + 1) l) := LeO.map _ (ldAll_mono dec M k l _ _)
def spec_ImportRun.f (k : Nat) (M : List S72) (l : List Int) : Option (List Int × List Int × List Int × List ByteArray × List Int) :=
 (spec_validMods.f k M).bind fun t => if t = true then ((spec_validIndices.f k l (M.length : Int)).bind fun u => if u = true then (if M.length ≤ 1000 then impAll decT M k l else none) else some ([], [], [], [], [])) else some ([], [], [], [], [])
theorem five_nil {W w : World} {gR : Nat} (hb : Below w.heap.size w W) (hg : w.heap.size ≤ gR) :
  Five w [] [] [] [] [] (.returned (.agg #[.slice none 0 0, .slice none 0 0, .slice none 0 0, .slice none 0 0, .slice none 0 0])) (((((W.setCell ⟨gR, 0, none⟩ (.slice none 0 0)).setCell ⟨gR, 1, none⟩ (.slice none 0 0)).setCell ⟨gR, 2, none⟩ (.slice none 0 0)).setCell ⟨gR, 3, none⟩ (.slice none 0 0)).setCell ⟨gR, 4, none⟩ (.slice none 0 0)) :=
 ⟨_, _, _, _, _, rfl, Kd.R_nil _ _ _ _ _, Kd.R_nil _ _ _ _ _, Kd.R_nil _ _ _ _ _, Kd.R_nil _ _ _ _ _, Kd.R_nil _ _ _ _ _, bS (bS (bS (bS (bS hb hg) hg) hg) hg) hg⟩
theorem spec_ImportRun.five (k : Nat) (A0 : Option Addr) (c0 : Nat) (l0 : List S72) (A1 : Option Addr) (c1 : Nat) (l1 : List Int) (r1 r2 r3 : List Int) (r4 : List ByteArray) (r5 : List Int) (w : World) (hr0 : Kd.C k72 w A0 l0.length l0) (hc0 : l0.length ≤ c0) (hr1 : Kd.C (Kd.int .i64) w A1 l1.length l1) (hc1 : l1.length ≤ c1) (h : spec_ImportRun.f k l0 l1 = some (r1, r2, r3, r4, r5)) :
  Calls Try.prog 26 #[.slice A0 l0.length c0, .slice A1 l1.length c1] w (Five w r1 r2 r3 r4 r5) := by
 unfold spec_ImportRun.f at h
 cases hv : spec_validMods.f k l0 with
 | none => rw [hv] at h; cases h
 | some t =>
 rw [hv] at h
 dsimp only [Option.bind_some] at h
 have HV := Az.mk hv
 have HR0 := Az.mk hr0
 have HC0 := Az.mk hc0
 have HR1 := Az.mk hr1
 have HC1 := Az.mk hc1
 have hu48 := Try.underlying48
 clear hv hr0 hc0 hr1 hc1
 cases t with
 | false =>
  rw [if_neg (by decide)] at h
  injection h with h
  injection h with e1 e2
  injection e2 with e2 e3
  injection e3 with e3 e4
  injection e4 with e4 e5
  subst e1 e2 e3 e4 e5
  go_enter Try.func26, Try.ntmps26
  go_wp2_with (first | ((with_reducible refine gate_dst (N := 4) rfl ?_); refine box_event ?hg (N := 4) ?hd (cs := #[.slice none 0 0, .slice none 0 0, .slice none 0 0, .slice none 0 0, .slice none 0 0]) (t := 48) ?hr ?_; (case hd => rfl); (case hg => rfl); (case hr => first | (go_simp; done) | (go_simp; rfl)); intro gR hg wA hbox hb; have HBR := Az.mk hbox; have HB := Az.mk hb; have HGR : Az (gR = w.heap.size) := ⟨hg⟩; clear hbox hb hg))
  refine (spec_validMods.calls k A0 c0 l0 false _ (Kd.C_below HR0.out HB.out) HC0.out HV.out).mono ?_
  rintro e w1 ⟨rfl, hb⟩
  have HB1 := Az.mk (below_step HB.out hb)
  have HBR1 := Az.mk (blk_below HBR.out hb)
  clear hb HB HBR
  have hq0 : w1.cell? ⟨gR, 0, none⟩ = some (.slice none 0 0) := (bC HBR1.out 0).trans rfl
  have hq1 : w1.cell? ⟨gR, 1, none⟩ = some (.slice none 0 0) := (bC HBR1.out 1).trans rfl
  have hq2 : w1.cell? ⟨gR, 2, none⟩ = some (.slice none 0 0) := (bC HBR1.out 2).trans rfl
  have hq3 : w1.cell? ⟨gR, 3, none⟩ = some (.slice none 0 0) := (bC HBR1.out 3).trans rfl
  have hq4 : w1.cell? ⟨gR, 4, none⟩ = some (.slice none 0 0) := (bC HBR1.out 4).trans rfl
  have hqf : ∀ j, w1.frozen? ⟨gR, j, none⟩ = false := fun j => bF HBR1.out j
  go_wp2_with fail
  refine bodyPost_ret (results_cell_row rfl _ _ gR 48 #[.slice none 0 0, .slice none 0 0, .slice none 0 0, .slice none 0 0, .slice none 0 0] (0, 0) _ rfl (put5 HBR1.out) Try.underlying48 rfl (by kernel_rfl)) rfl ?_
  exact five_nil HB1.out (by have := HGR.out; omega)
 | true =>
 rw [if_pos rfl] at h
 cases hi : spec_validIndices.f k l1 (l0.length : Int) with
 | none => rw [hi] at h; cases h
 | some u =>
 rw [hi] at h
 dsimp only [Option.bind_some] at h
 have HVI := Az.mk hi
 clear hi
 cases u with
 | false =>
  rw [if_neg (by decide)] at h
  injection h with h
  injection h with e1 e2
  injection e2 with e2 e3
  injection e3 with e3 e4
  injection e4 with e4 e5
  subst e1 e2 e3 e4 e5
  go_enter Try.func26, Try.ntmps26
  go_wp2_with (first | ((with_reducible refine gate_dst (N := 4) rfl ?_); refine box_event ?hg (N := 4) ?hd (cs := #[.slice none 0 0, .slice none 0 0, .slice none 0 0, .slice none 0 0, .slice none 0 0]) (t := 48) ?hr ?_; (case hd => rfl); (case hg => rfl); (case hr => first | (go_simp; done) | (go_simp; rfl)); intro gR hg wA hbox hb; have HBR := Az.mk hbox; have HB := Az.mk hb; have HGR : Az (gR = w.heap.size) := ⟨hg⟩; clear hbox hb hg))
  refine (spec_validMods.calls k A0 c0 l0 true _ (Kd.C_below HR0.out HB.out) HC0.out HV.out).mono ?_
  rintro e w1 ⟨rfl, hb⟩
  have HB1 := Az.mk (below_step HB.out hb)
  have HBR1 := Az.mk (blk_below HBR.out hb)
  clear hb HB HBR
  go_wp2_with fail
  refine (spec_validIndices.calls k A1 c1 l1 _ false _ (Kd.C_below HR1.out HB1.out) HC1.out HVI.out).mono ?_
  rintro e w2 ⟨rfl, hd⟩
  have n0_ := Az.mk (below_step HB1.out hd.below)
  have n1_ := Az.mk (blk_below HBR1.out hd.below)
  clear hd HB1 HBR1
  have HB1 := n0_
  have HBR1 := n1_
  clear n0_ n1_
  have hq0 : w2.cell? ⟨gR, 0, none⟩ = some (.slice none 0 0) := (bC HBR1.out 0).trans rfl
  have hq1 : w2.cell? ⟨gR, 1, none⟩ = some (.slice none 0 0) := (bC HBR1.out 1).trans rfl
  have hq2 : w2.cell? ⟨gR, 2, none⟩ = some (.slice none 0 0) := (bC HBR1.out 2).trans rfl
  have hq3 : w2.cell? ⟨gR, 3, none⟩ = some (.slice none 0 0) := (bC HBR1.out 3).trans rfl
  have hq4 : w2.cell? ⟨gR, 4, none⟩ = some (.slice none 0 0) := (bC HBR1.out 4).trans rfl
  have hqf : ∀ j, w2.frozen? ⟨gR, j, none⟩ = false := fun j => bF HBR1.out j
  go_wp2_with fail
  refine bodyPost_ret (results_cell_row rfl _ _ gR 48 #[.slice none 0 0, .slice none 0 0, .slice none 0 0, .slice none 0 0, .slice none 0 0] (0, 0) _ rfl (put5 HBR1.out) Try.underlying48 rfl (by kernel_rfl)) rfl ?_
  exact five_nil HB1.out (by have := HGR.out; omega)
 | true =>
 rw [if_pos rfl] at h
 split at h
 ·rename_i hm
  have HM := Az.mk hm
  have H := Az.mk h
  clear hm h
  go_enter Try.func26, Try.ntmps26
  go_wp2_with (first | ((with_reducible refine gate_dst (N := 4) rfl ?_); refine box_event ?hg (N := 4) ?hd (cs := #[.slice none 0 0, .slice none 0 0, .slice none 0 0, .slice none 0 0, .slice none 0 0]) (t := 48) ?hr ?_; (case hd => rfl); (case hg => rfl); (case hr => first | (go_simp; done) | (go_simp; rfl)); intro gR hg wA hbox hb; have HBR := Az.mk hbox; have HB := Az.mk hb; have HGR : Az (gR = w.heap.size) := ⟨hg⟩; clear hbox hb hg))
  refine (spec_validMods.calls k A0 c0 l0 true _ (Kd.C_below HR0.out HB.out) HC0.out HV.out).mono ?_
  rintro e w1 ⟨rfl, hb⟩
  have HB1 := Az.mk (below_step HB.out hb)
  have HBR1 := Az.mk (blk_below HBR.out hb)
  clear hb HB HBR
  go_wp2_with fail
  refine (spec_validIndices.calls k A1 c1 l1 _ true _ (Kd.C_below HR1.out HB1.out) HC1.out HVI.out).mono ?_
  rintro e w2 ⟨rfl, hd⟩
  have n0_ := Az.mk (below_step HB1.out hd.below)
  have n1_ := Az.mk (blk_below HBR1.out hd.below)
  clear hd HB1 HBR1
  have HB1 := n0_
  have HBR1 := n1_
  clear n0_ n1_
  go_wp2_with fail
  refine (sp_imported decT dec_spec k A0 c0 l0 A1 c1 l1 r1 r2 r3 r4 r5 _ (Kd.C_below HR0.out HB1.out) (Kd.C_below HR1.out HB1.out) HM.out H.out).mono ?_
  rintro e w3 ⟨v0, v1, v2, v3, v4, rfl, h0, h1, h2, h3, h4, hb⟩
  obtain ⟨X0, Y0, e0⟩ := Kd.R_slice h0
  subst e0
  obtain ⟨X1, Y1, e1⟩ := Kd.R_slice h1
  subst e1
  obtain ⟨X2, Y2, e2⟩ := Kd.R_slice h2
  subst e2
  obtain ⟨X3, Y3, e3⟩ := Kd.R_slice h3
  subst e3
  obtain ⟨X4, Y4, e4⟩ := Kd.R_slice h4
  subst e4
  have H0 := Az.mk h0
  have H1 := Az.mk h1
  have H2 := Az.mk h2
  have H3 := Az.mk h3
  have H4 := Az.mk h4
  have HLE := Az.mk HB1.out.size
  have n0_ := Az.mk (below_step HB1.out hb)
  have n1_ := Az.mk (blk_below HBR1.out hb)
  clear hb HB1 HBR1 h0 h1 h2 h3 h4
  have HB1 := n0_
  have HBR1 := n1_
  clear n0_ n1_
  have hq0 : w3.cell? ⟨gR, 0, none⟩ = some (.slice none 0 0) := (bC HBR1.out 0).trans rfl
  have hq1 : w3.cell? ⟨gR, 1, none⟩ = some (.slice none 0 0) := (bC HBR1.out 1).trans rfl
  have hq2 : w3.cell? ⟨gR, 2, none⟩ = some (.slice none 0 0) := (bC HBR1.out 2).trans rfl
  have hq3 : w3.cell? ⟨gR, 3, none⟩ = some (.slice none 0 0) := (bC HBR1.out 3).trans rfl
  have hq4 : w3.cell? ⟨gR, 4, none⟩ = some (.slice none 0 0) := (bC HBR1.out 4).trans rfl
  have hqf : ∀ j, w3.frozen? ⟨gR, j, none⟩ = false := fun j => bF HBR1.out j
  go_wp2_with fail
  refine bodyPost_ret (results_cell_row rfl _ _ gR 48 #[.slice X0 r1.length Y0, .slice X1 r2.length Y1, .slice X2 r3.length Y2, .slice X3 r4.length Y3, .slice X4 r5.length Y4] (0, 0) _ rfl (put5 HBR1.out) Try.underlying48 rfl (by kernel_rfl)) rfl ?_
  have hge : w.heap.size ≤ gR := by have := HGR.out; omega
  exact ⟨_, _, _, _, _, rfl, farG HBR1.out H0.out HLE.out (by decide), farG HBR1.out H1.out HLE.out (by decide), farG HBR1.out H2.out HLE.out (by decide), farG HBR1.out H3.out HLE.out (by decide), farG HBR1.out H4.out HLE.out (by decide),
   bS (bS (bS (bS (bS HB1.out hge) hge) hge) hge) hge⟩
 ·cases h
end Go.Proofs.Ytehhhlhedmfdiaa.PFnImportRun
end
section
namespace Go.Proofs.Ytehhhlhedmfdiaa.PFnImportRun
open Go.RowKit Go.Proofs.Yz0.PrintWords Go.Proofs.Yz0.PrintLast Go.Proofs.Yz0.PrintMore
set_option linter.unusedVariables false
set_option linter.unusedSimpArgs false
theorem info140 : (Try.prog.info? 140).map (fun i => (i.zero, i.size, i.bytes)) = some (some (.map none), 1, 8) := by kernel_rfl
section
variable {dec : Int → ByteArray} {M : List S72} {A0 : Option Addr} {c0 : Nat} {w0 : World} {gI : Nat} {uf us un : Value} {fa : List Int}
theorem im_steps (hdec : ∀ v, 0 ≤ v → v ≤ 1000000 → ∃ k, impl_decimal.f k v = some (dec v)) (L : Int → IS → Option (Bool × IS)) (hL : ImLoads M A0 c0 w0 gI uf us un fa L) : ImSteps M A0 c0 w0 gI uf us un fa (stp dec L M.length) := by
 intro i x s b s' W h hR
 obtain ⟨f0, f1, f2⟩ := x
 unfold stp at h
 dsimp only at h ⊢
 split at h
 ·rename_i e; subst e
  split at h
  ·exact im_step1 L hL i f1 f2 s b s' W h hR
  ·cases h
 split at h
 ·rename_i e; subst e
  split at h
  ·cases hf : L f1 s with
   | none => rw [hf] at h; cases h
   | some r =>
    obtain ⟨b2, t⟩ := r
    rw [hf] at h
    injection h with h
    injection h with h1 h2
    subst h1 h2
    exact im_step2 L hL i f1 f2 s b2 t W hf hR
  ·cases h
 split at h
 ·rename_i e; subst e
  split at h
  ·rename_i hg
   obtain ⟨⟨g1, g2, g3⟩, g4, ⟨g5, g6⟩, ⟨g7, g8⟩, g9⟩ := hg
   injection h with h
   injection h with h1 h2
   subst h1 h2
   obtain ⟨n, rfl⟩ := Int.eq_ofNat_of_zero_le g7
   exact im_step3 n f1 f2 s W ⟨g1, g2⟩ g3 (by omega) g5 g9 g4 hR
  ·cases h
 split at h
 ·rename_i e; subst e
  split at h
  ·rename_i hg
   obtain ⟨⟨g1, g2, g3⟩, g4, g5⟩ := hg
   obtain ⟨q, rfl⟩ := Int.eq_ofNat_of_zero_le g1
   cases hlk : look (nms s (q : Int)) f2 with
   | none =>
    rw [hlk] at h
    injection h with h
    injection h with h1 h2
    subst h1 h2
    exact im_step4n i q f2 _ W g3 (by omega) g4 hlk hR
   | some v =>
    rw [hlk] at h
    dsimp only at h
    split at h
    ·rename_i hg2
     injection h with h
     injection h with h1 h2
     subst h1 h2
     obtain ⟨k, hk⟩ := hdec v hg2.1.1 hg2.1.2
     exact im_step4s i q f2 s W k v hk hg2.2 g3 (by omega) g4 hlk hR
    ·cases h
  ·cases h
 split at h
 ·rename_i e; subst e
  injection h with h
  injection h with h1 h2
  subst h1 h2
  exact im_step5 i f1 f2 _ W hR
 ·cases h
theorem im_all (hdec : ∀ v, 0 ≤ v → v ≤ 1000000 → ∃ k, impl_decimal.f k v = some (dec v)) (hC : Kd.C k72 w0 A0 M.length M) : ∀ k, ImLoads M A0 c0 w0 gI uf us un fa (ld dec M k) := by
 intro k
 induction k with
 | zero => intro i s b s' W h; cases h
 | succ k ih =>
  intro i s b s' W h hR
  simp only [ld] at h
  split at h
  ·rename_i hg
   obtain ⟨⟨g1, g2⟩, g3, g4⟩ := hg
   obtain ⟨n, rfl⟩ := Int.eq_ofNat_of_zero_le g1
   split at h
   ·rename_i h0
    split at h
    ·rename_i hg2
     cases hr : runs (stp dec (ld dec M k) M.length (n : Int)) (rX M (n : Int)).f0 (ldStart (n : Int) s) with
     | none => rw [hr] at h; cases h
     | some r =>
      obtain ⟨b2, t⟩ := r
      rw [hr] at h
      dsimp only [Option.bind_some] at h
      split at h
      ·rename_i hg3
       injection h with h
       injection h with h1 h2
       subst h1 h2
       exact im_load (stp dec (ld dec M k) M.length) (im_steps hdec _ ih) hC n s W (by omega) g3 g4 h0 hg2.1 hg2.2 b2 t hr hg3.1.1 hg3.1.2 hg3.2.1 hg3.2.2 hR
      ·cases h
    ·cases h
   ·rename_i h0
    injection h with h
    injection h with h1 h2
    subst h1 h2
    exact im_load1 n s W (by omega) g3 h0 hR
  ·cases h
end
theorem mapsI0 (base : Nat) (W : World) (n : Nat) : MapsI base W (List.replicate n none) (List.replicate n []) := by
 refine ⟨by simp, fun i b h => ?_, fun i h => ?_, fun i j b h => ?_⟩
 ·rw [List.getElem?_replicate] at h
  split at h <;> cases h
 ·rw [List.getD_eq_getElem?_getD, List.getElem?_replicate]
  split <;> rfl
 ·rw [List.getElem?_replicate] at h
  split at h <;> cases h
theorem msOk0 (n : Nat) : MsOk (List.replicate n 0) (List.replicate n none) := by
 intro i h
 exact absurd (by rw [List.getD_eq_getElem?_getD, List.getElem?_replicate]; split <;> rfl) h
def impl_ImportRun.f (k : Nat) (M : List S72) (l : List Int) : Option (List Int × List Int × List Int × List ByteArray × List Int) :=
 (impl_ModsOk.f k M).bind fun t => if t = true then (if l.length > 60 then some ([], [], [], [], []) else (impl_indicesOk.f k l (M.length : Int)).bind fun u => if u = true then (if M.length ≤ 1000 then impAll decT M k l else none) else some ([], [], [], [], [])) else some ([], [], [], [], [])
theorem impl_ImportRun.good (k : Nat) (A0 : Option Addr) (c0 : Nat) (M : List S72) (A1 : Option Addr) (c1 : Nat) (l1 : List Int) (r1 r2 r3 : List Int) (r4 : List ByteArray) (r5 : List Int) (w : World)
  (hr0 : Kd.C k72 w A0 M.length M) (hc0 : M.length ≤ c0) (hr1 : Kd.C (Kd.int .i64) w A1 l1.length l1) (hc1 : l1.length ≤ c1) (hv : impl_ModsOk.f k M = some true) (h60 : ¬ l1.length > 60) (hix : impl_indicesOk.f k l1 (M.length : Int) = some true)
  (hm : M.length ≤ 1000) (h : impAll decT M k l1 = some (r1, r2, r3, r4, r5)) :
  Calls Try.prog 24 #[.slice A0 M.length c0, .slice A1 l1.length c1] w (Five w r1 r2 r3 r4 r5) := by
 obtain ⟨⟨s1, fa1⟩, hall, heq⟩ := Option.map_eq_some_iff.1 h
 injection heq with e1 e2
 injection e2 with e2 e3
 injection e3 with e3 e4
 injection e4 with e4 e5
 subst e1 e2 e3 e4 e5
 dsimp only
 have HR0 := Az.mk hr0
 have HC0 := Az.mk hc0
 have HR1 := Az.mk hr1
 have HC1 := Az.mk hc1
 have HML := Az.mk hm
 have HALL := Az.mk hall
 have HV := Az.mk hv
 have HIX := Az.mk hix
 have hu48 := Try.underlying48
 have hu104 := Try.underlying104
 have hm0 : decide ((0 : Int) ≤ (M.length : Int)) = true := decide_eq_true (by omega)
 have h61 : decide ((60 : Int) < (l1.length : Int)) = false := decide_eq_false (by omega)
 have h62 : (60 < l1.length) = False := eq_false (by omega)
 have h63 : (l1.length ≤ 60) = True := eq_true (by omega)
 clear hr0 hc0 hr1 hc1 hm hall h hv hix h60
 go_enter Try.func24, Try.ntmps24
 go_wp2_with (first | ((with_reducible refine gate_dst (N := 4) rfl ?_); refine box_event ?hg (N := 4) ?hd (cs := #[.slice none 0 0, .slice none 0 0, .slice none 0 0, .slice none 0 0, .slice none 0 0]) (t := 48) ?hr ?_; (case hd => rfl); (case hg => rfl); (case hr => first | (go_simp; done) | (go_simp; rfl)); intro gR hg wA hbox hb; have HBR := Az.mk hbox; have HB := Az.mk hb; have HGR : Az (gR = w.heap.size) := ⟨hg⟩; clear hbox hb hg))
 refine (impl_ModsOk.calls k A0 c0 M true _ (Kd.C_below HR0.out HB.out) HC0.out HV.out).mono ?_
 rintro e w1 ⟨rfl, hb⟩
 have HB1 := Az.mk (below_step HB.out hb)
 have HBR1 := Az.mk (blk_below HBR.out hb)
 clear hb HB HBR
 go_wp2_with fail
 refine (impl_indicesOk.calls k A1 c1 l1 _ true _ (Kd.C_below HR1.out HB1.out) HC1.out HIX.out).mono ?_
 rintro e wB ⟨rfl, hd⟩
 have n0_ := Az.mk (below_step HB1.out hd.below)
 have n1_ := Az.mk (blk_below HBR1.out hd.below)
 clear hd HB1 HBR1
 have HB := n0_
 have HBR := n1_
 clear n0_ n1_
 go_wp2_with fail
 refine start_ (n := 11) (S := fun w' => True) (ds := []) #[false, false, false, false, false, false, false, false, false, false, false] (by kernel_rfl) rfl rfl trivial (fun hHeld => ?_)
 have HBA := Az.mk (below_drew (Below.refl wB.heap.size wB))
 clear hHeld
 have hHeld : True := trivial
 generalize World.drew _ = w4 at HBA ⊢
 refine pure_ (i := 0) (N := some 24) (v := ?_) (a' := ?_) #[true, false, false, false, false, false, false, false, false, false, false] rfl rfl (by kernel_rfl) (fun _ _ _ h => h) (Or.inl ⟨by rfl, ?_⟩) ?_ ?_
 rotate_left
 ·intro w'
  go_simp
  with_reducible rfl
 rotate_left
 ·simp only [Act.put, List.setIfInBounds_toArray, List.set_cons_zero, List.set_cons_succ, i64_w, i32_w]
  rfl
 refine pure_ (i := 1) (N := some 25) (v := ?_) (a' := ?_) #[true, true, false, false, false, false, false, false, false, false, false] rfl rfl (by kernel_rfl) (fun _ _ _ h => h) (Or.inl ⟨by rfl, ?_⟩) ?_ ?_
 rotate_left
 ·intro w'
  go_simp
  with_reducible rfl
 rotate_left
 ·simp only [Act.put, List.setIfInBounds_toArray, List.set_cons_zero, List.set_cons_succ, i64_w, i32_w]
  rfl
 refine pure_ (i := 2) (N := some 26) (v := ?_) (a' := ?_) #[true, true, true, false, false, false, false, false, false, false, false] rfl rfl (by kernel_rfl) (fun _ _ _ h => h) (Or.inl ⟨by rfl, ?_⟩) ?_ ?_
 rotate_left
 ·intro w'
  go_simp
  with_reducible rfl
 rotate_left
 ·simp only [Act.put, List.setIfInBounds_toArray, List.set_cons_zero, List.set_cons_succ, i64_w, i32_w]
  rfl
 refine pure_ (i := 4) (N := some 28) (v := ?_) (a' := ?_) #[true, true, true, false, true, false, false, false, false, false, false] rfl rfl (by kernel_rfl) (fun _ _ _ h => h) (Or.inl ⟨by rfl, ?_⟩) ?_ ?_
 rotate_left
 ·intro w'
  go_simp
  with_reducible rfl
 rotate_left
 ·simp only [Act.put, List.setIfInBounds_toArray, List.set_cons_zero, List.set_cons_succ, i64_w, i32_w]
  rfl
 refine pure_ (i := 5) (N := some 29) (v := ?_) (a' := ?_) #[true, true, true, false, true, true, false, false, false, false, false] rfl rfl (by kernel_rfl) (fun _ _ _ h => h) (Or.inl ⟨by rfl, ?_⟩) ?_ ?_
 rotate_left
 ·intro w'
  go_simp
  with_reducible rfl
 rotate_left
 ·simp only [Act.put, List.setIfInBounds_toArray, List.set_cons_zero, List.set_cons_succ, i64_w, i32_w]
  rfl
 refine join_ (σ := (Option Addr × Nat) × (Option Addr × Nat)) 3 #[true, true, true, true, true, true, true, true, false, false, false] (fun s_ => [(27, .slice s_.1.1 M.length s_.1.2), (30, .slice s_.2.1 M.length s_.2.2), (31, .agg #[.slice none 0 0, .slice none 0 0, .slice none 0 0, .slice none 0 0, .slice s_.2.1 M.length s_.2.2])]) (fun s_ w' => Kd.R kmap 140 w' wB.heap.size (fun _ => True) (.slice s_.1.1 M.length s_.1.2) (List.replicate M.length none) ∧ Kd.R (Kd.int .i64) 3 w' wB.heap.size (fun _ => True) (.slice s_.2.1 M.length s_.2.2) (List.replicate M.length (0 : Int)) ∧ Below wB.heap.size wB w') ?_ ?_
 rotate_left
 ·intro hCont
  refine two_ (i := 3) (j := 6) (Ni := some 27) (Nj := some 30) #[true, true, true, true, true, true, false, false, false, false, false] #[true, true, true, false, true, true, true, false, false, false, false] rfl rfl rfl rfl (by kernel_rfl) (by decide) (by decide) (fun K hK => ?_) (fun K hK => ?_)
  ·skip
   refine Kd.R_make_step kmap (w0 := wB) wB.heap.size 140 (by rfl) (N := 27) rfl 102 _ _ rfl (M.length : Int) rfl rfl Try.underlying102 (.map none) 8 info140 rfl (by decide) (by omega) (none : Option Nat) (ok := fun _ => True) (okp := fun _ => True) rfl (fun _ hk => hk) trivial (of_decide_eq_true hm0) ?bd30 HBA.out (below_size HBA.out) ?_
   (case bd30 => have := HML.out; omega)
   intro un w5 ho hb hg_ hnew_
   obtain ⟨gn, cn, e_⟩ := Kd.R_slice ho
   simp only [List.length_replicate, Int.toNat_natCast] at e_
   subst e_
   have n0_ := Az.mk ho
   have n1_ := Az.mk hb
   clear HBA ho hb hg_ hnew_
   have HUN := n0_
   have HBA := n1_
   clear n0_ n1_
   refine hK.out _ _ trivial (fun hHeld => ?_)
   clear hK K
   refine norm_ (a' := ?_) ?_ ?_
   rotate_left
   ·show Act.put _ (some 27) _ = _
    simp only [Act.put, List.setIfInBounds_toArray, List.set_cons_zero, List.set_cons_succ, i64_w, i32_w]
    rfl
   refine one_ (i := 6) (N := some 30) #[true, true, true, true, true, true, true, false, false, false, false] rfl rfl (by kernel_rfl) (by decide) (fun K hK => ?_)
   refine Kd.R_make_step (Kd.int .i64) (w0 := wB) wB.heap.size 3 (by rfl) (N := 30) rfl 35 _ _ rfl (M.length : Int) rfl rfl Try.underlying35 (.int .i64 0) 8 info3 rfl (by decide) (by omega) (0 : Int) (ok := fun _ => True) (okp := fun _ => True) rfl (fun _ hk => hk) trivial (of_decide_eq_true hm0) ?bd61 HBA.out (below_size HBA.out) ?_
   (case bd61 => have := HML.out; omega)
   intro us w6 ho hb hg_ hnew_
   obtain ⟨gs, cs, e_⟩ := Kd.R_slice ho
   simp only [List.length_replicate, Int.toNat_natCast] at e_
   subst e_
   have n0_ := Az.mk ho
   have n1_ := Az.mk hb
   have mHUN_ := Az.mk (Kd.R_grown HUN.out hg_ (by simp))
   clear HBA ho hb hg_ hnew_ HUN
   have HUS := n0_
   have HBA := n1_
   have HUN := mHUN_
   clear n0_ n1_ mHUN_
   refine hK.out _ _ trivial (fun hHeld => ?_)
   clear hK K
   refine norm_ (a' := ?_) ?_ ?_
   rotate_left
   ·show Act.put _ (some 30) _ = _
    simp only [Act.put, List.setIfInBounds_toArray, List.set_cons_zero, List.set_cons_succ, i64_w, i32_w]
    rfl
   refine pure_ (i := 7) (N := some 31) (v := ?_) (a' := ?_) #[true, true, true, true, true, true, true, true, false, false, false] rfl rfl (by kernel_rfl) (fun _ _ _ h => h) (Or.inl ⟨by rfl, ?_⟩) ?_ ?_
   rotate_left
   ·intro w'
    go_simp
    with_reducible rfl
   rotate_left
   ·simp only [Act.put, List.setIfInBounds_toArray, List.set_cons_zero, List.set_cons_succ, i64_w, i32_w]
    rfl
   exact norm_ (by simp only [putAll, Act.put, List.setIfInBounds_toArray, List.set_cons_zero, List.set_cons_succ]) (hCont ((gn, cn), (gs, cs)) _ ⟨HUN.out, HUS.out, HBA.out⟩)
  ·skip
   refine Kd.R_make_step (Kd.int .i64) (w0 := wB) wB.heap.size 3 (by rfl) (N := 30) rfl 35 _ _ rfl (M.length : Int) rfl rfl Try.underlying35 (.int .i64 0) 8 info3 rfl (by decide) (by omega) (0 : Int) (ok := fun _ => True) (okp := fun _ => True) rfl (fun _ hk => hk) trivial (of_decide_eq_true hm0) ?bd60 HBA.out (below_size HBA.out) ?_
   (case bd60 => have := HML.out; omega)
   intro us w5 ho hb hg_ hnew_
   obtain ⟨gs, cs, e_⟩ := Kd.R_slice ho
   simp only [List.length_replicate, Int.toNat_natCast] at e_
   subst e_
   have n0_ := Az.mk ho
   have n1_ := Az.mk hb
   clear HBA ho hb hg_ hnew_
   have HUS := n0_
   have HBA := n1_
   clear n0_ n1_
   refine hK.out _ _ trivial (fun hHeld => ?_)
   clear hK K
   refine norm_ (a' := ?_) ?_ ?_
   rotate_left
   ·show Act.put _ (some 30) _ = _
    simp only [Act.put, List.setIfInBounds_toArray, List.set_cons_zero, List.set_cons_succ, i64_w, i32_w]
    rfl
   refine pure_ (i := 7) (N := some 31) (v := ?_) (a' := ?_) #[true, true, true, false, true, true, true, true, false, false, false] rfl rfl (by kernel_rfl) (fun _ _ _ h => h) (Or.inl ⟨by rfl, ?_⟩) ?_ ?_
   rotate_left
   ·intro w'
    go_simp
    with_reducible rfl
   rotate_left
   ·simp only [Act.put, List.setIfInBounds_toArray, List.set_cons_zero, List.set_cons_succ, i64_w, i32_w]
    rfl
   refine one_ (i := 3) (N := some 27) #[true, true, true, true, true, true, true, true, false, false, false] rfl rfl (by kernel_rfl) (by decide) (fun K hK => ?_)
   refine Kd.R_make_step kmap (w0 := wB) wB.heap.size 140 (by rfl) (N := 27) rfl 102 _ _ rfl (M.length : Int) rfl rfl Try.underlying102 (.map none) 8 info140 rfl (by decide) (by omega) (none : Option Nat) (ok := fun _ => True) (okp := fun _ => True) rfl (fun _ hk => hk) trivial (of_decide_eq_true hm0) ?bd31 HBA.out (below_size HBA.out) ?_
   (case bd31 => have := HML.out; omega)
   intro un w6 ho hb hg_ hnew_
   obtain ⟨gn, cn, e_⟩ := Kd.R_slice ho
   simp only [List.length_replicate, Int.toNat_natCast] at e_
   subst e_
   have n0_ := Az.mk ho
   have n1_ := Az.mk hb
   have mHUS_ := Az.mk (Kd.R_grown HUS.out hg_ (by simp))
   clear HBA ho hb hg_ hnew_ HUS
   have HUN := n0_
   have HBA := n1_
   have HUS := mHUS_
   clear n0_ n1_ mHUS_
   refine hK.out _ _ trivial (fun hHeld => ?_)
   clear hK K
   refine norm_ (a' := ?_) ?_ ?_
   rotate_left
   ·show Act.put _ (some 27) _ = _
    simp only [Act.put, List.setIfInBounds_toArray, List.set_cons_zero, List.set_cons_succ, i64_w, i32_w]
    rfl
   exact norm_ (by simp only [putAll, Act.put, List.setIfInBounds_toArray, List.set_cons_zero, List.set_cons_succ]) (hCont ((gn, cn), (gs, cs)) _ ⟨HUN.out, HUS.out, HBA.out⟩)
 rintro ⟨⟨gn, cn⟩, ⟨gs, cs⟩⟩ w7 ⟨h1, h2, h3⟩
 have hHeld : True := trivial
 dsimp only at h1 h2
 have HUN := Az.mk h1
 have HUS := Az.mk h2
 have HBA := Az.mk h3
 clear h1 h2 h3
 refine norm_ (a' := ?_) ?_ ?_
 rotate_left
 ·simp only [putAll, Act.put, List.setIfInBounds_toArray, List.set_cons_zero, List.set_cons_succ]
  rfl
 refine pure_ (i := 8) (N := some 32) (v := ?_) (a' := ?_) #[true, true, true, true, true, true, true, true, true, false, false] rfl rfl (by kernel_rfl) (fun _ _ _ h => h) (Or.inl ⟨by rfl, ?_⟩) ?_ ?_
 rotate_left
 ·intro w'
  go_simp
  with_reducible rfl
 rotate_left
 ·simp only [Act.put, List.setIfInBounds_toArray, List.set_cons_zero, List.set_cons_succ, i64_w, i32_w]
  rfl
 refine one_ (i := 9) (N := some 33) #[true, true, true, true, true, true, true, true, true, true, false] rfl rfl (by kernel_rfl) (by decide) (fun K hK => ?_)
 refine value_ (w1 := ?_) (v := ?_) (by rfl) rfl ?_ ?_
 rotate_left 2
 ·go_simp
  constructor
  ·rfl
  ·rfl
 refine hK.out _ _ trivial (fun hHeld => ?_)
 clear hK K
 refine norm_ (a' := ?_) ?_ ?_
 rotate_left
 ·show Act.put _ (some 33) _ = _
  simp only [Act.put, List.setIfInBounds_toArray, List.set_cons_zero, List.set_cons_succ, i64_w, i32_w]
  rfl
 refine pure_ (i := 10) (N := some 5) (v := ?_) (a' := ?_) #[true, true, true, true, true, true, true, true, true, true, true] rfl rfl (by kernel_rfl) (fun _ _ _ h => h) (Or.inl ⟨by rfl, ?_⟩) ?_ ?_
 rotate_left
 ·intro w'
  go_simp
  with_reducible rfl
 rotate_left
 ·simp only [Act.put, List.setIfInBounds_toArray, List.set_cons_zero, List.set_cons_succ, i64_w, i32_w]
  rfl
 refine done_ (by kernel_rfl) ?_
 have HBI := Az.mk (blk_new w7 (.cells #[.slice A0 M.length c0, .slice gn M.length cn, .slice none 0 0, .slice none 0 0, .slice none 0 0, .slice none 0 0, .slice gs M.length cs] 104 (0, 0)))
 have n0_ := Az.mk (bal HBA.out (.cells #[.slice A0 M.length c0, .slice gn M.length cn, .slice none 0 0, .slice none 0 0, .slice none 0 0, .slice none 0 0, .slice gs M.length cs] 104 (0, 0)))
 have n1_ := Az.mk (Kd.R_alloc HUN.out (.cells #[.slice A0 M.length c0, .slice gn M.length cn, .slice none 0 0, .slice none 0 0, .slice none 0 0, .slice none 0 0, .slice gs M.length cs] 104 (0, 0)))
 have n2_ := Az.mk (Kd.R_alloc HUS.out (.cells #[.slice A0 M.length c0, .slice gn M.length cn, .slice none 0 0, .slice none 0 0, .slice none 0 0, .slice none 0 0, .slice gs M.length cs] 104 (0, 0)))
 have HGI : Az (wB.heap.size ≤ w7.heap.size) := ⟨below_size HBA.out⟩
 have HI : Az (ImI wB (w7.alloc (.cells #[.slice A0 M.length c0, .slice gn M.length cn, .slice none 0 0, .slice none 0 0, .slice none 0 0, .slice none 0 0, .slice gs M.length cs] 104 (0, 0))) w7.heap.size (.slice A0 M.length c0) (.slice none 0 0) (.slice none 0 0) (.slice none 0 0) (.slice none 0 0) (.slice gs M.length cs) (.slice gn M.length cn) [] [] [] [] (List.replicate M.length 0) (List.replicate M.length none) (List.replicate M.length [])) :=
  ⟨⟨Kd.R_nil _ _ _ _ _, Kd.R_nil _ _ _ _ _, Kd.R_nil _ _ _ _ _, Kd.R_mono n2_.out (fun _ _ => by simp [Value.ownBlock]), Kd.R_nil _ _ _ _ _, n1_.out, mapsI0 _ _ _, HBI.out, n0_.out, HGI.out⟩⟩
 clear n0_ n1_ n2_ HBI HUN HUS HBA hHeld
 have HR1A := Az.mk (Kd.C_below HR1.out HB.out)
 have HR0A := Az.mk (Kd.C_below HR0.out HB.out)
 have HLM := Az.mk (Kd.C_max HR1.out)
 obtain ⟨gI, hgI⟩ : ∃ g, g = w7.heap.size := ⟨_, rfl⟩
 rw [← hgI] at HI ⊢
 clear HR0 HR1 hgI HGI
 generalize World.alloc _ _ = w8 at HI ⊢
 go_wp2_with fail
 go_loopg [36] (l1.length + 1) (fun kq v36 w' => ∃ (j : Nat) (t : IS) (fa : List Int) (uf : Value), v36 = .int .i64 (j : Int) ∧ Az (j + kq = l1.length + 1 ∧ j ≤ l1.length) ∧ Az (ldAll decT M k (l1.drop j) t fa = some (s1, fa1)) ∧ Az (ImR wB w' gI (.slice A0 M.length c0) uf (.slice gs M.length cs) (.slice gn M.length cn) fa t))
 case atStart => exact ⟨0, is0 M.length, [], _, rfl, ⟨by omega, by omega⟩, ⟨by simpa using HALL.out⟩, ⟨⟨_, _, _, _, HI.out, msOk0 M.length⟩⟩⟩
 case round =>
  clear HI HALL
  obtain ⟨j, t, fa, uf, rfl, HJ, HA, HS⟩ := hrel
  by_cases hj : j < l1.length
  ·have hj1 : decide ((j : Int) < (l1.length : Int)) = true := decide_eq_true (by omega)
   have hj2 : (j < l1.length) = True := eq_true hj
   obtain ⟨ad1, e1, hx⟩ := Kd.at_int HR1A.out (j : Int) (by omega) (by omega)
   subst e1
   have HBW : Az (Below wB.heap.size wB wr) := ⟨by obtain ⟨_, _, _, _, hI, _⟩ := HS.out; exact hI.be⟩
   have HX := Az.mk hx
   replace hx : wr.cell? (ad1.add j) = some (.int .i64 (rd l1 (j : Int))) := (HBW.out.cell (World.block_lt_of_cell? wB _ hx)).trans hx
   have hw := HA.out
   rw [rdI_drop hj, ldAll] at hw
   have hwr : wrap64 ((j : Int) + 1) = ((j + 1 : Nat) : Int) := by have := HLM.out; unfold wrap64; omega
   clear HA
   cases hf : ld decT M k (rd l1 (j : Int)) t with
   | none => rw [hf] at hw; cases hw
   | some r =>
    obtain ⟨b2, t2⟩ := r
    rw [hf] at hw
    dsimp only [Option.bind_some] at hw
    have HFF := Az.mk hf
    have HJL := Az.mk hj
    have HWR := Az.mk hwr
    clear hf hj hwr
    cases b2 with
    | true =>
     have HR := Az.mk hw
     clear hw
     go_wp2_with fail
     refine (im_all dec_impl HR0A.out k _ t true t2 _ HFF.out HS.out).mono ?_
     rintro e w5 ⟨rfl, hR2⟩
     have HS2 := Az.mk hR2
     clear hR2 hx
     go_wp2_with fail
     go_roundg (gk - 1)
     case measure => have := HJ.out; omega
     case rel => exact ⟨j + 1, t2, fa, uf, (by first | rfl | (rw [HWR.out]) | (simp [HWR.out])), ⟨by have := HJ.out; omega, by have := HJL.out; omega⟩, HR, HS2⟩
    | false =>
     rw [if_neg (by decide)] at hw
     split at hw
     ·rename_i hfl
      have HR := Az.mk hw
      have HFL := Az.mk hfl
      clear hw hfl
      go_wp2_with fail
      refine (im_all dec_impl HR0A.out k _ t false t2 _ HFF.out HS.out).mono ?_
      rintro e w5 ⟨rfl, hR2⟩
      obtain ⟨ub, uw, ur, mb, hI, hV⟩ := hR2
      have HI := Az.mk hI
      have HV2 := Az.mk hV
      obtain ⟨hz0, hz1, hz2, hz3, hz4, hz5, hz6, hzf⟩ := hI.cells
      clear hI hV hx HS
      go_wp2_with (first | ((with_reducible refine gate_builtin (b := .append) (xs := #[.tmp 49, .tmp 51]) rfl ?_); at_builtin; refine Kd.R_append (Kd.int .i64) (w0 := wB) wB.heap.size rfl (.tmp 49) (.tmp 51) 35 3 (.int .i64 0) 8 rfl Try.underlying35 info3 rfl (by decide) (by omega) uf fa (rd l1 (j : Int)) [.int .i64 (rd l1 (j : Int))] (fun k => some k ≠ ub.ownBlock ∧ some k ≠ uw.ownBlock ∧ some k ≠ Value.ownBlock (.slice gs M.length cs)) (fun _ => False) rfl rfl ?aP (fun _ hk => hk.elim) ?aF ?aO ?aB ?aS ?aL ?_; (case aP => exact rfl); (case aB => exact HI.out.be); (case aF => exact (fun k_ hk => ⟨Kd.fresh' (Kd.R_lt HI.out.rb) k_ hk, Kd.fresh' (Kd.R_lt HI.out.rw_) k_ hk, Kd.fresh' (Kd.R_lt HI.out.rs) k_ hk⟩)); (case aO => exact HI.out.rf); (case aS => exact below_size HI.out.be); (case aL => have := HFL.out; unfold IB at this; omega); intro v1 w9 ho hb hg hat; obtain ⟨A1_, c1_, e_⟩ := Kd.R_slice ho; simp only [List.length_append, List.length_cons, List.length_nil, Nat.zero_add] at e_; subst e_; obtain ⟨hI_, hy0, hyf⟩ := ImI.putF HI.out ho hb hg hat; have n0_ := Az.mk hI_; clear HI hI_ ho hb hg hat hz0 hz1 hz2 hz3 hz4 hz5 hz6 hzf; have HI := n0_; clear n0_))
      clear hy0 hyf
      go_roundg (gk - 1)
      case measure => have := HJ.out; omega
      case rel => exact ⟨j + 1, t2, fa ++ [rd l1 (j : Int)], _, (by first | rfl | (rw [HWR.out]) | (simp [HWR.out])), ⟨by have := HJ.out; omega, by have := HJL.out; omega⟩, HR, ⟨_, _, _, _, HI.out, HV2.out⟩⟩
     ·cases hw
  ·have hj1 : decide ((j : Int) < (l1.length : Int)) = false := decide_eq_false (by omega)
   have hj2 : (j < l1.length) = False := eq_false hj
   have hw := HA.out
   rw [List.drop_of_length_le (by omega), ldAll] at hw
   injection hw with hw
   injection hw with ha hs
   subst ha hs
   obtain ⟨ub, uw, ur, mb, hI, hV⟩ := HS.out
   obtain ⟨Xb, Yb, eb⟩ := Kd.R_slice hI.rb
   subst eb
   obtain ⟨Xw, Yw, ew⟩ := Kd.R_slice hI.rw_
   subst ew
   obtain ⟨Xf, Yf, ef⟩ := Kd.R_slice hI.rf
   subst ef
   obtain ⟨Xr, Yr, er⟩ := Kd.R_slice hI.rr
   subst er
   obtain ⟨hz0, hz1, hz2, hz3, hz4, hz5, hz6, hzf⟩ := hI.cells
   have HI := Az.mk hI
   have HBR2 := Az.mk ((hI.be.block gR (blk_lt HBR.out)).trans HBR.out)
   have hq0 : wr.cell? ⟨gR, 0, none⟩ = some (.slice none 0 0) := (bC HBR2.out 0).trans rfl
   have hq1 : wr.cell? ⟨gR, 1, none⟩ = some (.slice none 0 0) := (bC HBR2.out 1).trans rfl
   have hq2 : wr.cell? ⟨gR, 2, none⟩ = some (.slice none 0 0) := (bC HBR2.out 2).trans rfl
   have hq3 : wr.cell? ⟨gR, 3, none⟩ = some (.slice none 0 0) := (bC HBR2.out 3).trans rfl
   have hq4 : wr.cell? ⟨gR, 4, none⟩ = some (.slice none 0 0) := (bC HBR2.out 4).trans rfl
   have hqf : ∀ j, wr.frozen? ⟨gR, j, none⟩ = false := fun j => bF HBR2.out j
   clear hI hV HS HA
   go_wp2_with fail
   refine bodyPost_ret (results_cell_row rfl _ _ gR 48 #[.slice Xb t.bg.length Yb, .slice Xw t.wh.length Yw, .slice Xf fa.length Yf, .slice Xr t.re.length Yr, .slice gs M.length cs] (0, 0) _ rfl (put5 HBR2.out) Try.underlying48 rfl (by kernel_rfl)) rfl ?_
   have hle : w.heap.size ≤ wB.heap.size := HB.out.size
   have hbw := below_step HB.out HI.out.be
   have hge : w.heap.size ≤ gR := by have := HGR.out; omega
   exact ⟨_, _, _, _, _, rfl, farG HBR2.out HI.out.rb hle (by decide), farG HBR2.out HI.out.rw_ hle (by decide), farG HBR2.out HI.out.rf hle (by decide), farG HBR2.out HI.out.rr hle (by decide), farG HBR2.out HI.out.rs hle (by decide),
    bS (bS (bS (bS (bS hbw hge) hge) hge) hge) hge⟩
theorem impl_ImportRun.bad (k : Nat) (A0 : Option Addr) (c0 : Nat) (M : List S72) (A1 : Option Addr) (c1 : Nat) (l1 : List Int) (w : World)
  (hr0 : Kd.C k72 w A0 M.length M) (hc0 : M.length ≤ c0) (hr1 : Kd.C (Kd.int .i64) w A1 l1.length l1) (hc1 : l1.length ≤ c1) (hv : impl_ModsOk.f k M = some false ∨ impl_ModsOk.f k M = some true ∧ (l1.length > 60 ∨ ¬ l1.length > 60 ∧ impl_indicesOk.f k l1 (M.length : Int) = some false)) :
  Calls Try.prog 24 #[.slice A0 M.length c0, .slice A1 l1.length c1] w (Five w [] [] [] [] []) := by
 have HR0 := Az.mk hr0
 have HC0 := Az.mk hc0
 have HR1 := Az.mk hr1
 have HC1 := Az.mk hc1
 have hu48 := Try.underlying48
 clear hr0 hc0 hr1 hc1
 rcases hv with hv | ⟨hv, h60 | ⟨h60, hix⟩⟩
 ·have HV := Az.mk hv
  clear hv
  go_enter Try.func24, Try.ntmps24
  go_wp2_with (first | ((with_reducible refine gate_dst (N := 4) rfl ?_); refine box_event ?hg (N := 4) ?hd (cs := #[.slice none 0 0, .slice none 0 0, .slice none 0 0, .slice none 0 0, .slice none 0 0]) (t := 48) ?hr ?_; (case hd => rfl); (case hg => rfl); (case hr => first | (go_simp; done) | (go_simp; rfl)); intro gR hg wA hbox hb; have HBR := Az.mk hbox; have HB := Az.mk hb; have HGR : Az (gR = w.heap.size) := ⟨hg⟩; clear hbox hb hg))
  refine (impl_ModsOk.calls k A0 c0 M false _ (Kd.C_below HR0.out HB.out) HC0.out HV.out).mono ?_
  rintro e w1 ⟨rfl, hb⟩
  have HB1 := Az.mk (below_step HB.out hb)
  have HBR1 := Az.mk (blk_below HBR.out hb)
  clear hb HB HBR
  have hq0 : w1.cell? ⟨gR, 0, none⟩ = some (.slice none 0 0) := (bC HBR1.out 0).trans rfl
  have hq1 : w1.cell? ⟨gR, 1, none⟩ = some (.slice none 0 0) := (bC HBR1.out 1).trans rfl
  have hq2 : w1.cell? ⟨gR, 2, none⟩ = some (.slice none 0 0) := (bC HBR1.out 2).trans rfl
  have hq3 : w1.cell? ⟨gR, 3, none⟩ = some (.slice none 0 0) := (bC HBR1.out 3).trans rfl
  have hq4 : w1.cell? ⟨gR, 4, none⟩ = some (.slice none 0 0) := (bC HBR1.out 4).trans rfl
  have hqf : ∀ j, w1.frozen? ⟨gR, j, none⟩ = false := fun j => bF HBR1.out j
  go_wp2_with fail
  refine bodyPost_ret (results_cell_row rfl _ _ gR 48 #[.slice none 0 0, .slice none 0 0, .slice none 0 0, .slice none 0 0, .slice none 0 0] (0, 0) _ rfl (put5 HBR1.out) Try.underlying48 rfl (by kernel_rfl)) rfl ?_
  exact five_nil HB1.out (by have := HGR.out; omega)
 ·have HV := Az.mk hv
  have h61 : decide ((60 : Int) < (l1.length : Int)) = true := decide_eq_true (by omega)
  have h62 : (60 < l1.length) = True := eq_true (by omega)
  clear hv h60
  go_enter Try.func24, Try.ntmps24
  go_wp2_with (first | ((with_reducible refine gate_dst (N := 4) rfl ?_); refine box_event ?hg (N := 4) ?hd (cs := #[.slice none 0 0, .slice none 0 0, .slice none 0 0, .slice none 0 0, .slice none 0 0]) (t := 48) ?hr ?_; (case hd => rfl); (case hg => rfl); (case hr => first | (go_simp; done) | (go_simp; rfl)); intro gR hg wA hbox hb; have HBR := Az.mk hbox; have HB := Az.mk hb; have HGR : Az (gR = w.heap.size) := ⟨hg⟩; clear hbox hb hg))
  refine (impl_ModsOk.calls k A0 c0 M true _ (Kd.C_below HR0.out HB.out) HC0.out HV.out).mono ?_
  rintro e w1 ⟨rfl, hb⟩
  have HB1 := Az.mk (below_step HB.out hb)
  have HBR1 := Az.mk (blk_below HBR.out hb)
  clear hb HB HBR
  have hq0 : w1.cell? ⟨gR, 0, none⟩ = some (.slice none 0 0) := (bC HBR1.out 0).trans rfl
  have hq1 : w1.cell? ⟨gR, 1, none⟩ = some (.slice none 0 0) := (bC HBR1.out 1).trans rfl
  have hq2 : w1.cell? ⟨gR, 2, none⟩ = some (.slice none 0 0) := (bC HBR1.out 2).trans rfl
  have hq3 : w1.cell? ⟨gR, 3, none⟩ = some (.slice none 0 0) := (bC HBR1.out 3).trans rfl
  have hq4 : w1.cell? ⟨gR, 4, none⟩ = some (.slice none 0 0) := (bC HBR1.out 4).trans rfl
  have hqf : ∀ j, w1.frozen? ⟨gR, j, none⟩ = false := fun j => bF HBR1.out j
  go_wp2_with fail
  refine bodyPost_ret (results_cell_row rfl _ _ gR 48 #[.slice none 0 0, .slice none 0 0, .slice none 0 0, .slice none 0 0, .slice none 0 0] (0, 0) _ rfl (put5 HBR1.out) Try.underlying48 rfl (by kernel_rfl)) rfl ?_
  exact five_nil HB1.out (by have := HGR.out; omega)
 ·have HV := Az.mk hv
  have HIX := Az.mk hix
  have h61 : decide ((60 : Int) < (l1.length : Int)) = false := decide_eq_false (by omega)
  have h62 : (60 < l1.length) = False := eq_false (by omega)
  have h63 : (l1.length ≤ 60) = True := eq_true (by omega)
  clear hv h60 hix
  go_enter Try.func24, Try.ntmps24
  go_wp2_with (first | ((with_reducible refine gate_dst (N := 4) rfl ?_); refine box_event ?hg (N := 4) ?hd (cs := #[.slice none 0 0, .slice none 0 0, .slice none 0 0, .slice none 0 0, .slice none 0 0]) (t := 48) ?hr ?_; (case hd => rfl); (case hg => rfl); (case hr => first | (go_simp; done) | (go_simp; rfl)); intro gR hg wA hbox hb; have HBR := Az.mk hbox; have HB := Az.mk hb; have HGR : Az (gR = w.heap.size) := ⟨hg⟩; clear hbox hb hg))
  refine (impl_ModsOk.calls k A0 c0 M true _ (Kd.C_below HR0.out HB.out) HC0.out HV.out).mono ?_
  rintro e w1 ⟨rfl, hb⟩
  have HB1 := Az.mk (below_step HB.out hb)
  have HBR1 := Az.mk (blk_below HBR.out hb)
  clear hb HB HBR
  go_wp2_with fail
  refine (impl_indicesOk.calls k A1 c1 l1 _ false _ (Kd.C_below HR1.out HB1.out) HC1.out HIX.out).mono ?_
  rintro e w2 ⟨rfl, hd⟩
  have n0_ := Az.mk (below_step HB1.out hd.below)
  have n1_ := Az.mk (blk_below HBR1.out hd.below)
  clear hd HB1 HBR1
  have HB1 := n0_
  have HBR1 := n1_
  clear n0_ n1_
  have hq0 : w2.cell? ⟨gR, 0, none⟩ = some (.slice none 0 0) := (bC HBR1.out 0).trans rfl
  have hq1 : w2.cell? ⟨gR, 1, none⟩ = some (.slice none 0 0) := (bC HBR1.out 1).trans rfl
  have hq2 : w2.cell? ⟨gR, 2, none⟩ = some (.slice none 0 0) := (bC HBR1.out 2).trans rfl
  have hq3 : w2.cell? ⟨gR, 3, none⟩ = some (.slice none 0 0) := (bC HBR1.out 3).trans rfl
  have hq4 : w2.cell? ⟨gR, 4, none⟩ = some (.slice none 0 0) := (bC HBR1.out 4).trans rfl
  have hqf : ∀ j, w2.frozen? ⟨gR, j, none⟩ = false := fun j => bF HBR1.out j
  go_wp2_with fail
  refine bodyPost_ret (results_cell_row rfl _ _ gR 48 #[.slice none 0 0, .slice none 0 0, .slice none 0 0, .slice none 0 0, .slice none 0 0] (0, 0) _ rfl (put5 HBR1.out) Try.underlying48 rfl (by kernel_rfl)) rfl ?_
  exact five_nil HB1.out (by have := HGR.out; omega)
end Go.Proofs.Ytehhhlhedmfdiaa.PFnImportRun
end
section
namespace Go.Proofs.Ytehhhlhedmfdiaa.PFnImportRun
open Go.RowKit Go.Proofs.Yz0.PrintWords Go.Proofs.Yz0.PrintLast Go.Proofs.Yz0.PrintMore
set_option linter.unusedVariables false
set_option linter.unusedSimpArgs false
theorem impl_ImportRun.five (k : Nat) (A0 : Option Addr) (c0 : Nat) (l0 : List S72) (A1 : Option Addr) (c1 : Nat) (l1 : List Int) (r1 r2 r3 : List Int) (r4 : List ByteArray) (r5 : List Int) (w : World) (hr0 : Kd.C k72 w A0 l0.length l0) (hc0 : l0.length ≤ c0) (hr1 : Kd.C (Kd.int .i64) w A1 l1.length l1) (hc1 : l1.length ≤ c1) (h : impl_ImportRun.f k l0 l1 = some (r1, r2, r3, r4, r5)) :
  Calls Try.prog 24 #[.slice A0 l0.length c0, .slice A1 l1.length c1] w (Five w r1 r2 r3 r4 r5) := by
 unfold impl_ImportRun.f at h
 have nil : ∀ {x1 x2 x3 : List Int} {x4 : List ByteArray} {x5 : List Int}, some (([] : List Int), ([] : List Int), ([] : List Int), ([] : List ByteArray), ([] : List Int)) = some (x1, x2, x3, x4, x5) → x1 = [] ∧ x2 = [] ∧ x3 = [] ∧ x4 = [] ∧ x5 = [] := by
  intro x1 x2 x3 x4 x5 h
  injection h with h
  injection h with e1 e2
  injection e2 with e2 e3
  injection e3 with e3 e4
  injection e4 with e4 e5
  exact ⟨e1.symm, e2.symm, e3.symm, e4.symm, e5.symm⟩
 cases hv : impl_ModsOk.f k l0 with
 | none => rw [hv] at h; cases h
 | some t =>
 rw [hv] at h
 dsimp only [Option.bind_some] at h
 cases t with
 | false =>
  rw [if_neg (by decide)] at h
  obtain ⟨rfl, rfl, rfl, rfl, rfl⟩ := nil h
  exact impl_ImportRun.bad k A0 c0 l0 A1 c1 l1 w hr0 hc0 hr1 hc1 (.inl hv)
 | true =>
 rw [if_pos rfl] at h
 by_cases h60 : l1.length > 60
 ·rw [if_pos h60] at h
  obtain ⟨rfl, rfl, rfl, rfl, rfl⟩ := nil h
  exact impl_ImportRun.bad k A0 c0 l0 A1 c1 l1 w hr0 hc0 hr1 hc1 (.inr ⟨hv, .inl h60⟩)
 rw [if_neg h60] at h
 cases hi : impl_indicesOk.f k l1 (l0.length : Int) with
 | none => rw [hi] at h; cases h
 | some u =>
 rw [hi] at h
 dsimp only [Option.bind_some] at h
 cases u with
 | false =>
  rw [if_neg (by decide)] at h
  obtain ⟨rfl, rfl, rfl, rfl, rfl⟩ := nil h
  exact impl_ImportRun.bad k A0 c0 l0 A1 c1 l1 w hr0 hc0 hr1 hc1 (.inr ⟨hv, .inr ⟨h60, hi⟩⟩)
 | true =>
 rw [if_pos rfl] at h
 split at h
 ·rename_i hm
  exact impl_ImportRun.good k A0 c0 l0 A1 c1 l1 r1 r2 r3 r4 r5 w hr0 hc0 hr1 hc1 hv h60 hi hm h
 ·cases h
end Go.Proofs.Ytehhhlhedmfdiaa.PFnImportRun
end
section
namespace Go.Proofs.Ytehhhlhedmfdiaa.PFnImportRun
open Go.RowKit Go.Proofs.Yz0.PrintWords Go.Proofs.Yz0.PrintLast Go.Proofs.Yz0.PrintMore Go.Proofs.Ytehhhlhedmfdiaa.Plain
set_option linter.unusedVariables false
theorem tb6 : tb 6 = 374490 := by decide
def NoB (s : IS) : Prop := ∀ j : Nat, s.st.getD j 0 ≠ 1
theorem NoB.keep {M : List S72} {s t : IS} (h : NoB s) (k : IPost M s t) : NoB t := fun j e => h j ((k.bgs j).1 e)
theorem st2_keep {M : List S72} {s t : IS} (hs : IInv M s) (k : IPost M s t) {j : Nat} (h : s.st.getD j 0 = 2) : t.st.getD j 0 = 2 := by
 obtain ⟨a, ha⟩ := k.whp
 exact (k.inv.who j).2 (by rw [ha]; exact List.mem_append_left _ ((hs.who j).1 h))
theorem ldAll_ok {M : List S72} (hM : ModsP M) (dec : Int → ByteArray) : ∀ (l : List Int) (s : IS) (fa : List Int) (c : Nat), (∀ x ∈ l, 0 ≤ x ∧ x < M.length) → IInv M s → NoB s → Le c s → c + l.length * tb 6 < IB → fa.length + l.length < IB →
  ∃ s' t, ldAll dec M 7 l s fa = some (s', fa ++ t) ∧ IPost M s s' ∧ Le (c + l.length * tb 6) s' ∧ (∀ x ∈ l, s'.st.getD x.toNat 0 = 2 ∨ x ∈ t) ∧ (t = [] → ∀ x ∈ l, s'.st.getD x.toNat 0 = 2) ∧ t.length ≤ l.length := by
 intro l
 induction l with
 | nil => intro s fa c _ hs _ hle _ _; exact ⟨s, [], by simp [ldAll], IPost.refl hs, by simpa using hle, (fun x hx => by cases hx), (fun _ x hx => by cases hx), Nat.le_refl _⟩
 | cons i l ih =>
  intro s fa c hx hs hn hle hc hf
  rw [List.length_cons, Nat.succ_mul] at hc
  rw [List.length_cons] at hf
  obtain ⟨h0, h1⟩ := hx i (by simp)
  obtain ⟨q, rfl⟩ := Int.eq_ofNat_of_zero_le h0
  have hq : q < M.length := by omega
  obtain ⟨b, s1, e1, hp, hb1, hb0, hl⟩ := ld_ok hM dec 6 q s c hq hs (by have := nb_le s.st; rw [hs.l1] at this; have := hM.2.2; omega) (fun j hj => absurd hj (hn j)) hle (by have := Nat.zero_le (l.length * tb 6); omega)
  have hn1 := hn.keep hp
  simp only [ldAll]
  rw [e1]
  dsimp only [Option.bind_some]
  cases b with
  | true =>
   rw [if_pos rfl]
   obtain ⟨s2, t, e2, hp2, hl2, hw, ht, htl⟩ := ih s1 fa (c + tb 6) (fun x h => hx x (List.mem_cons_of_mem _ h)) hp.inv hn1 hl (by omega) (by omega)
   have hq2 : s1.st.getD q 0 = 2 := by
    rcases hp.inv.tri q with h | h | h
    ·exact absurd h (hb1 rfl)
    ·exact absurd h (hn1 q)
    ·exact h
   have hq3 := st2_keep hp.inv hp2 hq2
   refine ⟨s2, t, e2, hp.trans hp2, hl2.mono (by rw [List.length_cons, Nat.succ_mul]; omega), fun x h => ?_, fun et x h => ?_, by rw [List.length_cons]; omega⟩
   ·rcases List.mem_cons.1 h with rfl | h
    ·exact .inl hq3
    ·exact hw x h
   ·rcases List.mem_cons.1 h with rfl | h
    ·exact hq3
    ·exact ht et x h
  | false =>
   rw [if_neg (by decide), if_pos (by omega)]
   obtain ⟨s2, t, e2, hp2, hl2, hw, ht, htl⟩ := ih s1 (fa ++ [(q : Int)]) (c + tb 6) (fun x h => hx x (List.mem_cons_of_mem _ h)) hp.inv hn1 hl (by omega) (by rw [List.length_append, List.length_singleton]; omega)
   refine ⟨s2, (q : Int) :: t, by rw [e2, List.append_assoc]; rfl, hp.trans hp2, hl2.mono (by rw [List.length_cons, Nat.succ_mul]; omega), fun x h => ?_, (fun et => by cases et), by rw [List.length_cons, List.length_cons]; omega⟩
   rcases List.mem_cons.1 h with rfl | h
   ·exact .inr (by simp)
   ·exact (hw x h).imp id (List.mem_cons_of_mem _)
theorem rep0 {α : Type} (n j : Nat) (z : α) : (List.replicate n z).getD j z = z := by
 rw [List.getD_eq_getElem?_getD, List.getElem?_replicate]
 split <;> rfl
theorem is0_inv (M : List S72) : IInv M (is0 M.length) := by
 have h0 : ∀ j : Nat, (is0 M.length).st.getD j 0 = 0 := fun j => rep0 _ _ _
 have h1 : ∀ j : Nat, (is0 M.length).nm.getD j [] = [] := fun j => rep0 _ _ _
 refine ⟨by simp [is0], by simp [is0], fun i => .inl (h0 i), fun i _ => h1 i, (fun i p hp => by rw [h1] at hp; cases hp), fun i => ?_, (fun x hx => by cases hx), List.nodup_nil, fun i hi => absurd (h0 i) hi, fun a m b e => ?_⟩
 ·rw [h0]; exact ⟨fun h => absurd h (by decide), fun h => by cases h⟩
 ·have e : ([] : List Int) = a ++ m :: b := e
  cases a <;> cases e
theorem is0_noB (n : Nat) : NoB (is0 n) := fun j => by
 show (List.replicate n 0).getD j 0 ≠ 1
 rw [rep0]; decide
theorem is0_le (n : Nat) : Le 0 (is0 n) := ⟨Nat.le_refl _, Nat.le_refl _, Nat.le_refl _, fun j => by
 show ((List.replicate n []).getD j []).length ≤ 0
 rw [rep0]; exact Nat.le_refl _⟩
theorem run_ok {M : List S72} (hM : ModsP M) (dec : Int → ByteArray) (l : List Int) (hx : ∀ x ∈ l, 0 ≤ x ∧ x < M.length) (hl : l.length ≤ 1000) :
  ∃ s fa, ldAll dec M 7 l (is0 M.length) [] = some (s, fa) ∧ IInv M s ∧ NoB s ∧ (∀ x ∈ l, s.st.getD x.toNat 0 = 2 ∨ x ∈ fa) ∧ (fa = [] → ∀ x ∈ l, s.st.getD x.toNat 0 = 2) ∧ Le (l.length * tb 6) s ∧ fa.length ≤ l.length := by
 have hmul : l.length * tb 6 ≤ 1000 * tb 6 := Nat.mul_le_mul_right _ hl
 rw [tb6] at hmul
 obtain ⟨s, t, e, hp, hle, hw, ht, htl⟩ := ldAll_ok hM dec l (is0 M.length) [] 0 hx (is0_inv M) (is0_noB _) (is0_le _) (by rw [tb6]; unfold IB; omega) (by unfold IB; simp; omega)
 rw [List.nil_append] at e
 exact ⟨s, t, e, hp.inv, (is0_noB _).keep hp, hw, ht, by simpa using hle, htl⟩
theorem impAll_ev {dec : Int → ByteArray} {M : List S72} {l : List Int} {s : IS} {fa : List Int} (h : ldAll dec M 7 l (is0 M.length) [] = some (s, fa)) : Ev (fun k => impAll dec M k l) (s.bg, s.wh, fa, s.re, s.st) := by
 refine Ev.of (fun k => impAll_mono dec M k l) (k := 7) ?_
 unfold impAll
 rw [h]; rfl
def IdxP (n : Nat) (l : List Int) : Prop := (∀ x ∈ l, 0 ≤ x ∧ x < (n : Int)) ∧ l.length ≤ 60
theorem rd_drop {l : List Int} {j : Nat} (h : j < l.length) : l.drop j = rd l (j : Int) :: l.drop (j + 1) := rdI_drop h
theorem validIx_from (l : List Int) (n : Nat) (hl : l.length ≤ 9000000000000000000) (hn : n ≤ 1000) (d : Nat) : ∀ j : Nat, j + d = l.length → Tells (fun k => spec_validIndices.l0 k l (n : Int) (j : Int)) ((∀ x ∈ l.drop j, 0 ≤ x ∧ x < (n : Int)) ∧ l.length ≤ 60) := by
 have hw : wrap64 ((n : Int) - 1) = (n : Int) - 1 := by unfold wrap64; omega
 induction d with
 | zero =>
  intro j hj
  refine Tells.step (f := fun _ => some (decide ((l.length : Int) ≤ 60))) (fun k => ?_) (Tells.now ?_)
  ·simp only [spec_validIndices.l0]; rw [if_neg (by omega)]
  ·rw [List.drop_of_length_le (by omega), decide_eq_true_iff]
   exact ⟨fun h => ⟨(fun x hx => by cases hx), by omega⟩, fun h => by have := h.2; omega⟩
 | succ d ih =>
  intro j hj
  have hlt : j < l.length := by omega
  have hwr : wrap64 ((j : Int) + 1) = ((j + 1 : Nat) : Int) := by unfold wrap64; omega
  refine Tells.step (f := fun k => (spec_inRange.f (rd l (j : Int)) 0 ((n : Int) - 1)).bind fun t => (if t = true then (spec_validIndices.l0 k l (n : Int) ((j + 1 : Nat) : Int)) else (some false))) (fun k => ?_) ?_
  ·simp only [spec_validIndices.l0]; rw [if_pos (by omega), if_pos (by omega), hw, hwr]
  ·refine Tells.ask (f := fun k t => (if t = true then (spec_validIndices.l0 k l (n : Int) ((j + 1 : Nat) : Int)) else (some false))) (inRange_tells (rd l (j : Int)) 0 ((n : Int) - 1)) (fun h => ?_) (fun h => ?_)
   ·refine Tells.congr (f := fun k => spec_validIndices.l0 k l (n : Int) ((j + 1 : Nat) : Int)) (fun k => by rw [if_pos rfl]) (ih (j + 1) (by omega)) ?_
    rw [rd_drop hlt]
    exact ⟨fun h2 => ⟨fun x hx => (List.mem_cons.1 hx).elim (fun e => by subst e; omega) (h2.1 x), h2.2⟩, fun h2 => ⟨fun x hx => h2.1 x (List.mem_cons_of_mem _ hx), h2.2⟩⟩
   ·refine Tells.congr (f := fun _ => some false) (fun k => by rw [if_neg (by decide)]) (Tells.now (P := False) (by simp)) ?_
    rw [rd_drop hlt]
    exact ⟨False.elim, fun h2 => h (by have := h2.1 _ (List.mem_cons_self); omega)⟩
theorem validIx_tells (l : List Int) (n : Nat) (hl : l.length ≤ 9000000000000000000) (hn : n ≤ 1000) : Tells (fun k => spec_validIndices.f k l (n : Int)) (IdxP n l) :=
 Tells.congr (fun k => by unfold spec_validIndices.f; rfl) (validIx_from l n hl hn l.length 0 (by omega)) (by rw [List.drop_zero]; exact Iff.rfl)
theorem indicesOk_from (l : List Int) (n : Nat) (hl : l.length ≤ 9000000000000000000) (d : Nat) : ∀ j : Nat, j + d = l.length → Tells (fun k => impl_indicesOk.l0 k (n : Int) l (l.length : Int) (j : Int)) (∀ x ∈ l.drop j, 0 ≤ x ∧ x < (n : Int)) := by
 induction d with
 | zero =>
  intro j hj
  refine Tells.step (f := fun _ => some true) (fun k => ?_) (Tells.now ?_)
  ·simp only [impl_indicesOk.l0]; rw [if_neg (by omega)]
  ·rw [List.drop_of_length_le (by omega)]
   exact ⟨fun _ => (fun x hx => by cases hx), fun _ => rfl⟩
 | succ d ih =>
  intro j hj
  have hlt : j < l.length := by omega
  have hwr : wrap64 ((j : Int) + 1) = ((j + 1 : Nat) : Int) := by unfold wrap64; omega
  by_cases h0 : rd l (j : Int) < 0
  ·refine Tells.step (f := fun _ => some false) (fun k => ?_) (Tells.now (by rw [rd_drop hlt]; exact ⟨(fun h => by cases h), fun h => by have := h _ (List.mem_cons_self); omega⟩))
   simp only [impl_indicesOk.l0]; rw [if_pos (by omega), if_pos (by omega), if_pos (by omega)]; exact if_pos h0
  ·by_cases h1 : rd l (j : Int) ≥ (n : Int)
   ·refine Tells.step (f := fun _ => some false) (fun k => ?_) (Tells.now (by rw [rd_drop hlt]; exact ⟨(fun h => by cases h), fun h => by have := h _ (List.mem_cons_self); omega⟩))
    simp only [impl_indicesOk.l0]; rw [if_pos (by omega), if_pos (by omega), if_pos (by omega), if_neg h0, if_pos h1]
   ·refine Tells.step (f := fun k => impl_indicesOk.l0 k (n : Int) l (l.length : Int) ((j + 1 : Nat) : Int)) (fun k => ?_) ((ih (j + 1) (by omega)).iff ?_)
    ·simp only [impl_indicesOk.l0]; rw [if_pos (by omega), if_pos (by omega), if_pos (by omega), if_neg h0, if_neg h1, hwr]
    ·rw [rd_drop hlt]
     exact ⟨fun h2 => (fun x hx => (List.mem_cons.1 hx).elim (fun e => by subst e; omega) (h2 x)), fun h2 => fun x hx => h2 x (List.mem_cons_of_mem _ hx)⟩
theorem indicesOk_tells (l : List Int) (n : Nat) (hl : l.length ≤ 9000000000000000000) : Tells (fun k => impl_indicesOk.f k l (n : Int)) (∀ x ∈ l, 0 ≤ x ∧ x < (n : Int)) :=
 Tells.congr (fun k => by unfold impl_indicesOk.f; rfl) (indicesOk_from l n hl l.length 0 (by omega)) (by rw [List.drop_zero])
def RunIs (M : List S72) (l : List Int) (r : List Int × List Int × List Int × List ByteArray × List Int) : Prop :=
 Ev (fun k => impl_ImportRun.f k M l) r ∧ Ev (fun k => spec_ImportRun.f k M l) r
theorem run_bad (M : List S72) (hm : Small M) (l : List Int) (hl : l.length ≤ 9000000000000000000) (h : ¬ (ModsP M ∧ IdxP M.length l)) : RunIs M l ([], [], [], [], []) := by
 obtain ⟨b, v1, v2, hb⟩ := (validMods_tells M hm).same (modsOk_tells M hm)
 constructor
 ·cases b with
  | false =>
   exact Ev.bind (f := fun k t => if t = true then (if l.length > 60 then some ([], [], [], [], []) else (impl_indicesOk.f k l (M.length : Int)).bind fun u => if u = true then (if M.length ≤ 1000 then impAll decT M k l else none) else some ([], [], [], [], [])) else some ([], [], [], [], [])) v2 (Ev.congr (f := fun _ => some ([], [], [], [], [])) (fun k => by rw [if_neg (by decide)]) (Ev.now _))
  | true =>
   have hP := hb.1 rfl
   refine Ev.bind (f := fun k t => if t = true then (if l.length > 60 then some ([], [], [], [], []) else (impl_indicesOk.f k l (M.length : Int)).bind fun u => if u = true then (if M.length ≤ 1000 then impAll decT M k l else none) else some ([], [], [], [], [])) else some ([], [], [], [], [])) v2 ?_
   by_cases h60 : l.length > 60
   ·exact Ev.congr (f := fun _ => some ([], [], [], [], [])) (fun k => by rw [if_pos rfl, if_pos h60]) (Ev.now _)
   ·obtain ⟨c, i1, hc⟩ := indicesOk_tells l M.length hl
    have hcf : c = false := by
     cases c with
     | false => rfl
     | true => exact absurd ⟨hP, hc.1 rfl, by omega⟩ h
    subst hcf
    exact Ev.congr (fun k => by rw [if_pos rfl, if_neg h60]) (Ev.bind (f := fun k u => if u = true then (if M.length ≤ 1000 then impAll decT M k l else none) else some ([], [], [], [], [])) i1 (Ev.congr (f := fun _ => some ([], [], [], [], [])) (fun k => by rw [if_neg (by decide)]) (Ev.now _)))
 ·cases b with
  | false =>
   exact Ev.bind (f := fun k t => if t = true then ((spec_validIndices.f k l (M.length : Int)).bind fun u => if u = true then (if M.length ≤ 1000 then impAll decT M k l else none) else some ([], [], [], [], [])) else some ([], [], [], [], [])) v1 (Ev.congr (f := fun _ => some ([], [], [], [], [])) (fun k => by rw [if_neg (by decide)]) (Ev.now _))
  | true =>
   have hP := hb.1 rfl
   obtain ⟨c, i1, hc⟩ := validIx_tells l M.length hl (by have := hP.2.2; omega)
   have hcf : c = false := by
    cases c with
    | false => rfl
    | true => exact absurd ⟨hP, hc.1 rfl⟩ h
   subst hcf
   refine Ev.bind (f := fun k t => if t = true then ((spec_validIndices.f k l (M.length : Int)).bind fun u => if u = true then (if M.length ≤ 1000 then impAll decT M k l else none) else some ([], [], [], [], [])) else some ([], [], [], [], [])) v1 ?_
   exact Ev.congr (fun k => by rw [if_pos rfl]) (Ev.bind (f := fun k u => if u = true then (if M.length ≤ 1000 then impAll decT M k l else none) else some ([], [], [], [], [])) i1 (Ev.congr (f := fun _ => some ([], [], [], [], [])) (fun k => by rw [if_neg (by decide)]) (Ev.now _)))
theorem run_good (M : List S72) (hm : Small M) (l : List Int) (hP : ModsP M) (hI : IdxP M.length l) {s : IS} {fa : List Int} (h : ldAll decT M 7 l (is0 M.length) [] = some (s, fa)) : RunIs M l (s.bg, s.wh, fa, s.re, s.st) := by
 obtain ⟨b, v1, v2, hb⟩ := (validMods_tells M hm).same (modsOk_tells M hm)
 have hbt : b = true := hb.2 hP
 subst hbt
 have hl : l.length ≤ 9000000000000000000 := by have := hI.2; omega
 constructor
 ·obtain ⟨c, i1, hc⟩ := indicesOk_tells l M.length hl
  have hct : c = true := hc.2 hI.1
  subst hct
  refine Ev.bind (f := fun k t => if t = true then (if l.length > 60 then some ([], [], [], [], []) else (impl_indicesOk.f k l (M.length : Int)).bind fun u => if u = true then (if M.length ≤ 1000 then impAll decT M k l else none) else some ([], [], [], [], [])) else some ([], [], [], [], [])) v2 ?_
  refine Ev.congr (fun k => by rw [if_pos rfl, if_neg (by have := hI.2; omega)]) (Ev.bind (f := fun k u => if u = true then (if M.length ≤ 1000 then impAll decT M k l else none) else some ([], [], [], [], [])) i1 (Ev.congr (fun k => by rw [if_pos rfl, if_pos (by have := hP.2.2; omega)]) (impAll_ev h)))
 ·obtain ⟨c, i1, hc⟩ := validIx_tells l M.length hl (by have := hP.2.2; omega)
  have hct : c = true := hc.2 hI
  subst hct
  refine Ev.bind (f := fun k t => if t = true then ((spec_validIndices.f k l (M.length : Int)).bind fun u => if u = true then (if M.length ≤ 1000 then impAll decT M k l else none) else some ([], [], [], [], [])) else some ([], [], [], [], [])) v1 ?_
  refine Ev.congr (fun k => by rw [if_pos rfl]) (Ev.bind (f := fun k u => if u = true then (if M.length ≤ 1000 then impAll decT M k l else none) else some ([], [], [], [], [])) i1 (Ev.congr (fun k => by rw [if_pos rfl, if_pos (by have := hP.2.2; omega)]) (impAll_ev h)))
end Go.Proofs.Ytehhhlhedmfdiaa.PFnImportRun
end
section
namespace Go.Proofs.Ytehhhlhedmfdiaa.PFnImportRun
open Go.RowKit Go.Proofs.Yz0.PrintWords Go.Proofs.Yz0.PrintLast Go.Proofs.Yz0.PrintMore Go.Proofs.Ytehhhlhedmfdiaa.Plain
set_option linter.unusedVariables false
theorem sameNums_from (l : List Int) (hl : l.length ≤ 1000000000000) (d : Nat) : ∀ j : Nat, j + d = l.length → Ev (fun k => spec_sameNums.l0 k l l (j : Int)) true := by
 induction d with
 | zero =>
  intro j hj
  refine Ev.step (f := fun _ => some true) (fun k => ?_) (Ev.now _)
  simp only [spec_sameNums.l0]; rw [if_neg (by omega)]
 | succ d ih =>
  intro j hj
  refine Ev.step (fun k => ?_) (ih (j + 1) (by omega))
  simp only [spec_sameNums.l0]
  rw [if_pos (by omega), if_pos (by omega), if_pos (by omega), show wrap64 ((j : Int) + 1) = ((j + 1 : Nat) : Int) from by unfold wrap64; omega]
  exact if_pos trivial
theorem sameNums_ev (l : List Int) (hl : l.length ≤ 1000000000000) : Ev (fun k => spec_sameNums.f k l l) true := by
 refine Ev.congr (fun k => ?_) (sameNums_from l hl l.length 0 (by omega))
 unfold spec_sameNums.f
 rw [if_pos rfl]; rfl
theorem sameTexts_from (l : List ByteArray) (hl : l.length ≤ 1000000000000) (d : Nat) : ∀ j : Nat, j + d = l.length → Ev (fun k => spec_sameTexts.l0 k l l (j : Int)) true := by
 induction d with
 | zero =>
  intro j hj
  refine Ev.step (f := fun _ => some true) (fun k => ?_) (Ev.now _)
  simp only [spec_sameTexts.l0]; rw [if_neg (by omega)]
 | succ d ih =>
  intro j hj
  refine Ev.step (fun k => ?_) (ih (j + 1) (by omega))
  simp only [spec_sameTexts.l0]
  rw [if_pos (by omega), if_pos (by omega), if_pos (by omega), show wrap64 ((j : Int) + 1) = ((j + 1 : Nat) : Int) from by unfold wrap64; omega]
  exact if_pos trivial
theorem sameTexts_ev (l : List ByteArray) (hl : l.length ≤ 1000000000000) : Ev (fun k => spec_sameTexts.f k l l) true := by
 refine Ev.congr (fun k => ?_) (sameTexts_from l hl l.length 0 (by omega))
 unfold spec_sameTexts.f
 rw [if_pos rfl]; rfl
theorem yes_bind {g : Nat → Option Bool} {f : Nat → Option Bool} {b : Bool} (h : Ev g true) (k : Ev f b) : Ev (fun n => (g n).bind fun t => if t = true then f n else some false) b :=
 Ev.bind (f := fun n t => if t = true then f n else some false) h (Ev.congr (fun n => by rw [if_pos rfl]) k)
theorem same_ev (r1 r2 r3 : List Int) (r4 : List ByteArray) (r5 : List Int) (h1 : r1.length ≤ 1000000000000) (h2 : r2.length ≤ 1000000000000) (h3 : r3.length ≤ 1000000000000) (h4 : r4.length ≤ 1000000000000) (h5 : r5.length ≤ 1000000000000) :
  Ev (fun k => spec_SameImports.f k r1 r2 r3 r4 r5 r1 r2 r3 r4 r5) true := by
 refine Ev.congr (fun k => by unfold spec_SameImports.f; rfl) ?_
 exact yes_bind (sameNums_ev r1 h1) (yes_bind (sameNums_ev r2 h2) (yes_bind (sameNums_ev r3 h3) (yes_bind (sameTexts_ev r4 h4) (Ev.congr (fun k => by rw [bindSome]) (sameNums_ev r5 h5)))))
end Go.Proofs.Ytehhhlhedmfdiaa.PFnImportRun
end
section
namespace Go.Proofs.Ytehhhlhedmfdiaa.PFnImportRun
open Go.RowKit Go.Proofs.Yz0.PrintWords Go.Proofs.Yz0.PrintLast Go.Proofs.Yz0.PrintMore Go.Proofs.Ytehhhlhedmfdiaa.Plain
set_option linter.unusedVariables false
theorem inList_from (l : List Int) (n : Int) (hl : l.length ≤ 1000000000000) (d : Nat) : ∀ j : Nat, j + d = l.length → Tells (fun k => spec_inList.l0 k l n (j : Int)) (n ∈ l.drop j) := by
 induction d with
 | zero =>
  intro j hj
  refine Tells.step (f := fun _ => some false) (fun k => ?_) (Tells.now ?_)
  ·simp only [spec_inList.l0]; rw [if_neg (by omega)]
  ·rw [List.drop_of_length_le (by omega)]; simp
 | succ d ih =>
  intro j hj
  have hlt : j < l.length := by omega
  by_cases h : rd l (j : Int) = n
  ·refine Tells.step (f := fun _ => some true) (fun k => ?_) (Tells.now ?_)
   ·simp only [spec_inList.l0]; rw [if_pos (by omega), if_pos (by omega), if_pos h]
   ·rw [rd_drop hlt, h]; simp
  ·refine Tells.step (fun k => ?_) ((ih (j + 1) (by omega)).iff ?_)
   ·simp only [spec_inList.l0]; rw [if_pos (by omega), if_pos (by omega), if_neg h, show wrap64 ((j : Int) + 1) = ((j + 1 : Nat) : Int) from by unfold wrap64; omega]
   ·rw [rd_drop hlt, List.mem_cons]
    exact ⟨.inr, fun h2 => h2.elim (fun e => absurd e.symm h) id⟩
theorem hasInt_tells (l : List Int) (n : Int) (hl : l.length ≤ 1000000000000) : Tells (fun k => spec_HasInt.f k l n) (n ∈ l) :=
 Tells.congr (fun k => by unfold spec_HasInt.f spec_inList.f; rw [bindSome]; rfl) (inList_from l n hl l.length 0 (by omega)) (by rw [List.drop_zero])
theorem hasInt_ev {l : List Int} {n : Int} (hl : l.length ≤ 1000000000000) (h : n ∈ l) : Ev (fun k => spec_HasInt.f k l n) true := by
 obtain ⟨b, e, hb⟩ := hasInt_tells l n hl
 rw [hb.2 h] at e
 exact e
end Go.Proofs.Ytehhhlhedmfdiaa.PFnImportRun
end
section
namespace Go.Proofs.Ytehhhlhedmfdiaa.PFnImportRun
open Go.RowKit Go.Proofs.Yz0.PrintWords Go.Proofs.Yz0.PrintLast Go.Proofs.Yz0.PrintMore
attribute [local go_sem] max2_int min2_int max_two min_two max_three min_three max_four min_four
set_option linter.unusedVariables false
set_option linter.unusedSimpArgs false
end Go.Proofs.Ytehhhlhedmfdiaa.PFnImportRun
end
section
namespace Go.Proofs.Ytehhhlhedmfdiaa.PFnImportRun
open Go.RowKit Go.Proofs.Yz0.PrintWords Go.Proofs.Yz0.PrintLast Go.Proofs.Yz0.PrintMore
set_option linter.unusedVariables false
def Bytes (l : List Int) : Prop := ∀ x ∈ l, 0 ≤ x ∧ x ≤ 255
theorem rnd_rd {l : List Int} (h : Bytes l) (i : Int) : 0 ≤ rd l i ∧ rd l i ≤ 255 := by
 unfold rd
 rw [List.getD_eq_getElem?_getD]
 cases e : l[i.toNat]? with
 | none => simp
 | some x => exact h x (List.mem_of_getElem? e)
theorem rnd_wr {a : Int} (h0 : 0 ≤ a) (h : a < 4611686018427387904) : wrap64 a = a := by unfold wrap64; omega
theorem xor_nn {a b : Int} (ha : 0 ≤ a) (ha2 : a < 4611686018427387904) (hb : 0 ≤ b) (hb2 : b < 4611686018427387904) : 0 ≤ Go.bits .xor .i64 a b := by
 obtain ⟨x, rfl⟩ := Int.eq_ofNat_of_zero_le ha
 obtain ⟨y, rfl⟩ := Int.eq_ofNat_of_zero_le hb
 have hx : x < 2 ^ 62 := by omega
 have hy : y < 2 ^ 62 := by omega
 have hxy : x ^^^ y < 2 ^ 62 := Nat.xor_lt_two_pow hx hy
 have ex : x % 2 ^ 64 = x := Nat.mod_eq_of_lt (by omega)
 have ey : y % 2 ^ 64 = y := Nat.mod_eq_of_lt (by omega)
 have e : ((BitVec.ofInt 64 (x : Int)) ^^^ (BitVec.ofInt 64 (y : Int))).toNat = x ^^^ y := by
  rw [BitVec.toNat_xor, BitVec.ofInt_natCast, BitVec.ofInt_natCast, BitVec.toNat_ofNat, BitVec.toNat_ofNat, ex, ey]
 show 0 ≤ IntKind.i64.wrap ((((BitVec.ofInt 64 (x : Int)) ^^^ (BitVec.ofInt 64 (y : Int))).toNat : Nat) : Int)
 rw [e, IntKind.wrap_i64]
 omega
theorem mixed_nn {r1 r2 pos q : Int} (h1 : 0 ≤ r1 ∧ r1 ≤ 255) (h2 : 0 ≤ r2 ∧ r2 ≤ 255) (hp : 0 ≤ pos ∧ pos ≤ 1000000000) (hq : 0 ≤ q ∧ q ≤ 1000000000) :
  0 ≤ Go.bits .xor .i64 (wrap64 ((wrap64 ((wrap64 ((wrap64 ((wrap64 r1) * 131)) + (wrap64 ((wrap64 r2) * 1117)))) + (wrap64 (pos * 29)))) + (wrap64 ((wrap64 q) * 53))))
   (wrap64 (Int.tdiv (wrap64 ((wrap64 ((wrap64 ((wrap64 ((wrap64 r1) * 131)) + (wrap64 ((wrap64 r2) * 1117)))) + (wrap64 (pos * 29)))) + (wrap64 ((wrap64 q) * 53)))) 64)) := by
 rw [rnd_wr (a := r1) (by omega) (by omega), rnd_wr (a := r2) (by omega) (by omega), rnd_wr (a := q) (by omega) (by omega), rnd_wr (a := r1 * 131) (by omega) (by omega), rnd_wr (a := r2 * 1117) (by omega) (by omega),
  rnd_wr (a := pos * 29) (by omega) (by omega), rnd_wr (a := q * 53) (by omega) (by omega), rnd_wr (a := r1 * 131 + r2 * 1117) (by omega) (by omega), rnd_wr (a := r1 * 131 + r2 * 1117 + pos * 29) (by omega) (by omega),
  rnd_wr (a := r1 * 131 + r2 * 1117 + pos * 29 + q * 53) (by omega) (by omega)]
 have e : Int.tdiv (r1 * 131 + r2 * 1117 + pos * 29 + q * 53) 64 = (r1 * 131 + r2 * 1117 + pos * 29 + q * 53) / 64 := Int.tdiv_eq_ediv_of_nonneg (by omega)
 rw [e, rnd_wr (by omega) (by omega)]
 exact xor_nn (by omega) (by omega) (by omega) (by omega)
theorem pick_ok {l : List Int} (hb : Bytes l) {pos n : Int} (h0 : 0 ≤ pos) (h1 : pos < 1000000) : ∃ r p', spec_rnd_pick.f l pos n = some (r, p') ∧ 0 ≤ r ∧ (n < 2 ∧ r = 0 ∨ r < n) ∧ pos ≤ p' ∧ p' ≤ pos + 1 := by
 unfold spec_rnd_pick.f
 by_cases hn : n < 2
 ·rw [if_pos hn]; exact ⟨0, pos, rfl, by omega, Or.inl ⟨hn, rfl⟩, by omega, by omega⟩
 rw [if_neg hn]
 have hw : wrap64 (pos + 1) = pos + 1 := rnd_wr (by omega) (by omega)
 have hn0 : ¬ n = 0 := by omega
 by_cases hl : (l.length : Int) > 0
 ·have i0 : 0 ≤ Int.tmod pos (l.length : Int) := Int.tmod_nonneg _ h0
  have i1 : Int.tmod pos (l.length : Int) < (l.length : Int) := Int.tmod_lt_of_pos _ hl
  have ej : wrap64 ((wrap64 (pos * 7)) + 3) = pos * 7 + 3 := by rw [rnd_wr (a := pos * 7) (by omega) (by omega), rnd_wr (by omega) (by omega)]
  have j0 : 0 ≤ Int.tmod (wrap64 ((wrap64 (pos * 7)) + 3)) (l.length : Int) := by rw [ej]; exact Int.tmod_nonneg _ (by omega)
  have j1 : Int.tmod (wrap64 ((wrap64 (pos * 7)) + 3)) (l.length : Int) < (l.length : Int) := Int.tmod_lt_of_pos _ hl
  have q0 : 0 ≤ Int.tdiv pos (l.length : Int) := Int.tdiv_nonneg h0 (by omega)
  have q1 : Int.tdiv pos (l.length : Int) ≤ pos := Int.tdiv_le_self _ h0
  have hm := mixed_nn (rnd_rd hb (Int.tmod pos (l.length : Int))) (rnd_rd hb (Int.tmod (wrap64 ((wrap64 (pos * 7)) + 3)) (l.length : Int))) ⟨h0, by omega⟩ ⟨q0, by omega⟩
  have hr := rnd_rd hb (Int.tmod pos (l.length : Int))
  rw [if_pos hl, if_neg (by omega), if_pos i0, if_pos i1]
  by_cases hbig : n > 256
  ·rw [if_pos hbig, if_pos j0, if_pos j1, if_neg hn0, hw]
   exact ⟨_, _, rfl, Int.tmod_nonneg _ hm, Or.inr (Int.tmod_lt_of_pos _ (by omega)), by omega, by omega⟩
  ·rw [if_neg hbig]
   by_cases hp : pos ≥ (l.length : Int)
   ·rw [if_pos hp, if_pos j0, if_pos j1, if_neg hn0, hw]
    exact ⟨_, _, rfl, Int.tmod_nonneg _ hm, Or.inr (Int.tmod_lt_of_pos _ (by omega)), by omega, by omega⟩
   ·rw [if_neg hp, if_neg hn0, hw, rnd_wr (a := rd l (Int.tmod pos (l.length : Int))) (by omega) (by omega)]
    exact ⟨_, _, rfl, Int.tmod_nonneg _ hr.1, Or.inr (Int.tmod_lt_of_pos _ (by omega)), by omega, by omega⟩
 ·rw [if_neg hl, if_neg hn0, hw, Int.zero_emod]
  exact ⟨0, pos + 1, rfl, by omega, Or.inr (by omega), by omega, by omega⟩
theorem newRnd_ok (l : List Int) (h : ∀ x ∈ l, (Lit.int .u8 x).wf = true) : ∃ c, spec_newRnd.f l = some (c, 0) ∧ Bytes c ∧ c.length ≤ 4000 := by
 unfold spec_newRnd.f
 have h1 : 0 ≤ mn (l.length : Int) 4000 := by unfold mn; split <;> omega
 have h2 : mn (l.length : Int) 4000 ≤ (l.length : Int) := by unfold mn; split <;> omega
 have h3 : mn (l.length : Int) 4000 ≤ 4000 := by unfold mn; split <;> omega
 rw [if_pos h1, if_pos h2]
 refine ⟨_, rfl, fun x hx => bounds_u8 (h x (List.mem_of_mem_take hx)), ?_⟩
 rw [List.length_take]; omega
end Go.Proofs.Ytehhhlhedmfdiaa.PFnImportRun
end
section
namespace Go.Proofs.Ytehhhlhedmfdiaa.PFnImportRun
open Go.RowKit Go.Proofs.Yz0.PrintWords Go.Proofs.Yz0.PrintLast Go.Proofs.Yz0.PrintMore
set_option linter.unusedVariables false
theorem one_ok {c : List Int} (hb : Bytes c) {pos : Int} (h0 : 0 ≤ pos) (h1 : pos < 1000000) {l : List Int} (hl : 0 < l.length) :
  ∃ x p', spec_rnd_one.f c pos l = some (x, p') ∧ pos ≤ p' ∧ p' ≤ pos + 1 := by
 obtain ⟨r, p', e, r0, r1, a, b⟩ := pick_ok hb (pos := pos) (n := (l.length : Int)) h0 h1
 have hr : r < (l.length : Int) := by omega
 refine ⟨rd l r, p', ?_, a, b⟩
 unfold spec_rnd_one.f
 rw [e]
 show (if 0 ≤ r then _ else _) = _
 rw [if_pos r0, if_pos hr]
theorem of_ok {c : List Int} (hb : Bytes c) {pos : Int} (h0 : 0 ≤ pos) (h1 : pos < 1000000) {l : List ByteArray} (hl : 0 < l.length) :
  ∃ x p', spec_rnd_of.f c pos l = some (x, p') ∧ x ∈ l ∧ pos ≤ p' ∧ p' ≤ pos + 1 := by
 obtain ⟨r, p', e, r0, r1, a, b⟩ := pick_ok hb (pos := pos) (n := (l.length : Int)) h0 h1
 have hr : r < (l.length : Int) := by omega
 refine ⟨rdOf ByteArray.empty l r, p', ?_, ?_, a, b⟩
 ·unfold spec_rnd_of.f
  rw [e]
  show (if 0 ≤ r then _ else _) = _
  rw [if_pos r0, if_pos hr]
 ·have hr2 : r.toNat < l.length := by omega
  unfold rdOf
  rw [List.getD_eq_getElem?_getD, List.getElem?_eq_getElem hr2]
  exact List.getElem_mem hr2
theorem often_ok {c : List Int} (hb : Bytes c) {pos : Int} (h0 : 0 ≤ pos) (h1 : pos < 900000) (a : Int) : ∃ x p', spec_rnd_often.f c pos a = some (x, p') ∧ pos ≤ p' ∧ p' ≤ pos + 2 := by
 obtain ⟨r, p', e, r0, r1, e1, e2⟩ := pick_ok hb (pos := pos) (n := 16) h0 (by omega)
 unfold spec_rnd_often.f
 rw [e]
 simp only [Option.bind_some]
 by_cases hr : r = 0
 ·rw [if_pos hr]
  unfold spec_rnd_odd.f
  obtain ⟨x, p2, e3, e4, e5⟩ := one_ok hb (pos := p') (by omega) (by omega) (l := ([(-1), 4611686018427387904, (-4611686018427387904), 1001, 7, 1000001, (-9223372036854775808), 9223372036854775807] : List Int)) (by decide)
  rw [e3]
  exact ⟨x, p2, rfl, by omega, by omega⟩
 ·rw [if_neg hr]
  exact ⟨a, p', rfl, by omega, by omega⟩
def words : List ByteArray := [(⟨#[97]⟩ : ByteArray), (⟨#[98]⟩ : ByteArray), (⟨#[120]⟩ : ByteArray), (⟨#[102]⟩ : ByteArray), (⟨#[120, 115]⟩ : ByteArray), (⟨#[95, 49]⟩ : ByteArray), (⟨#[78, 97, 109, 101, 57]⟩ : ByteArray), (⟨#[105, 102]⟩ : ByteArray), (⟨#[78, 111, 110, 101]⟩ : ByteArray), (⟨#[108, 97, 109, 98, 100, 97]⟩ : ByteArray), (⟨#[49, 97]⟩ : ByteArray), (⟨#[]⟩ : ByteArray), (⟨#[97, 45, 98]⟩ : ByteArray), (⟨#[97, 98, 99, 100, 101, 102, 103, 104, 105, 106, 107, 108]⟩ : ByteArray), (⟨#[97, 98, 99, 100, 101, 102, 103, 104, 105, 106, 107, 108, 109]⟩ : ByteArray), (⟨#[105, 115]⟩ : ByteArray), (⟨#[105, 115, 97]⟩ : ByteArray)]
theorem word_ok {c : List Int} (hb : Bytes c) {pos : Int} (h0 : 0 ≤ pos) (h1 : pos < 900000) : ∃ x p', spec_rnd_word.f c pos = some (x, p') ∧ x.size ≤ 20 ∧ pos ≤ p' ∧ p' ≤ pos + 1 := by
 have hall : ∀ x ∈ words, x.size ≤ 20 := by decide +kernel
 obtain ⟨x, p', e, hx, e1, e2⟩ := of_ok hb (pos := pos) h0 (by omega) (l := words) (by decide)
 refine ⟨x, p', ?_, hall x hx, e1, e2⟩
 show (spec_rnd_of.f c pos words).bind _ = _
 rw [e]; rfl
def DrawnMods (r : List S72) : Prop := r.length ≤ 10 ∧ ∀ x ∈ r, x.f0.length ≤ 10 ∧ ∀ s ∈ x.f0, s.f2.size ≤ 20
theorem mods_inner {c : List Int} (hb : Bytes c) (n i : Nat) (hi : i < n) (hn : n ≤ 5) (out : List S72) (hout : out.length ≤ i) (hg : ∀ x ∈ out, x.f0.length ≤ 10 ∧ ∀ s ∈ x.f0, s.f2.size ≤ 20)
  (ih : ∀ (out : List S72) (pos : Int), out.length ≤ i + 1 → (∀ x ∈ out, x.f0.length ≤ 10 ∧ ∀ s ∈ x.f0, s.f2.size ≤ 20) → 0 ≤ pos → pos + 40 * ((n - (i + 1) : Nat) : Int) ≤ 5000 → ∃ r p', Ev (fun k => spec_rnd_mods.l0 k out (n : Int) ((i + 1 : Nat) : Int) c pos) (r, p') ∧ DrawnMods r ∧ 0 ≤ p' ∧ p' ≤ 5000) :
  ∀ (d : Nat) (steps : List S74) (pos : Int), steps.length + d ≤ 10 → (∀ s ∈ steps, s.f2.size ≤ 20) → 0 ≤ pos → pos + 6 * (d : Int) + 40 * ((n - (i + 1) : Nat) : Int) ≤ 5000 →
   ∃ r p', Ev (fun k => spec_rnd_mods.l1 k out (n : Int) (i : Int) steps (d : Int) c pos) (r, p') ∧ DrawnMods r ∧ 0 ≤ p' ∧ p' ≤ 5000 := by
 intro d
 induction d with
 | zero =>
  intro steps pos hs hz h0 h1
  obtain ⟨r, p', e, hr⟩ := ih (out ++ [⟨steps⟩]) pos (by rw [List.length_append, List.length_singleton]; omega) (fun x hx => by
   rcases List.mem_append.1 hx with hx | hx
   ·exact hg x hx
   ·rw [List.mem_singleton.1 hx]; exact ⟨by show steps.length ≤ 10; omega, hz⟩) h0 (by omega)
  refine ⟨r, p', Ev.step (fun k => ?_) e, hr⟩
  simp only [spec_rnd_mods.l1]
  rw [if_neg (by omega), if_pos (by omega), show wrap64 ((i : Int) + 1) = ((i + 1 : Nat) : Int) from by unfold wrap64; omega]
 | succ d ihd =>
  intro steps pos hs hz h0 h1
  have hw : wrap64 (((d + 1 : Nat) : Int) - 1) = (d : Int) := by unfold wrap64; omega
  obtain ⟨kd, p1, e1, a1, b1⟩ := one_ok hb (pos := pos) h0 (by omega) (l := ([1, 1, 2, 3, 3, 4, 4, 5] : List Int)) (by decide)
  obtain ⟨v, p2, e2, _, _, a2, b2⟩ := pick_ok hb (pos := p1) (n := (n : Int)) (by omega) (by omega)
  obtain ⟨u, p3, e3, a3, b3⟩ := often_ok hb (pos := p2) (by omega) (by omega) v
  have join : ∀ nm : Bool, ∃ r p', Ev (fun k => spec_rnd_mods.j2 k out (n : Int) (i : Int) steps ((d + 1 : Nat) : Int) nm c p3 kd u (⟨#[]⟩ : ByteArray)) (r, p') ∧ DrawnMods r ∧ 0 ≤ p' ∧ p' ≤ 5000 := by
   intro nm
   cases nm with
   | true =>
    obtain ⟨w, p4, e4, hw4, a4, b4⟩ := word_ok hb (pos := p3) (by omega) (by omega)
    obtain ⟨z, p5, e5, hz5, a5, b5⟩ := of_ok hb (pos := p4) (by omega) (by omega) (l := ([(⟨#[97]⟩ : ByteArray), (⟨#[97]⟩ : ByteArray), (⟨#[98]⟩ : ByteArray), w] : List ByteArray)) (by simp)
    have hz20 : z.size ≤ 20 := by
     simp only [List.mem_cons, List.not_mem_nil, or_false] at hz5
     rcases hz5 with rfl | rfl | rfl | rfl
     ·decide
     ·decide
     ·decide
     ·exact hw4
    obtain ⟨r, p', e, hr⟩ := ihd (steps ++ [⟨kd, u, z⟩]) p5 (by rw [List.length_append, List.length_singleton]; omega) (fun s hs => by
     rcases List.mem_append.1 hs with hs | hs
     ·exact hz s hs
     ·rw [List.mem_singleton.1 hs]; exact hz20) (by omega) (by omega)
    refine ⟨r, p', Ev.step (fun k => ?_) e, hr⟩
    simp only [spec_rnd_mods.j2]
    rw [if_pos trivial, e4]
    simp only [Option.bind_some]
    rw [e5]
    simp only [Option.bind_some]
    rw [if_pos (by omega), hw]
   | false =>
    obtain ⟨r, p', e, hr⟩ := ihd (steps ++ [⟨kd, u, (⟨#[]⟩ : ByteArray)⟩]) p3 (by rw [List.length_append, List.length_singleton]; omega) (fun s hs => by
     rcases List.mem_append.1 hs with hs | hs
     ·exact hz s hs
     ·rw [List.mem_singleton.1 hs]; show (0 : Nat) ≤ 20; omega) (by omega) (by omega)
    refine ⟨r, p', Ev.step (fun k => ?_) e, hr⟩
    simp only [spec_rnd_mods.j2]
    rw [if_neg (by decide), if_pos (by omega), hw]
  by_cases h3 : kd = 3
  ·obtain ⟨r, p', e, hr⟩ := join true
   refine ⟨r, p', Ev.step (fun k => ?_) e, hr⟩
   simp only [spec_rnd_mods.l1]
   rw [if_pos (by omega), e1]
   simp only [Option.bind_some]
   rw [e2]
   simp only [Option.bind_some]
   rw [e3]
   simp only [Option.bind_some]
   rw [if_pos h3]
  ·obtain ⟨r, p', e, hr⟩ := join (kd == 4)
   refine ⟨r, p', Ev.step (fun k => ?_) e, hr⟩
   simp only [spec_rnd_mods.l1]
   rw [if_pos (by omega), e1]
   simp only [Option.bind_some]
   rw [e2]
   simp only [Option.bind_some]
   rw [e3]
   simp only [Option.bind_some]
   rw [if_neg h3]
theorem mods_outer {c : List Int} (hb : Bytes c) (n : Nat) (hn : n ≤ 5) : ∀ (e i : Nat), i + e = n → ∀ (out : List S72) (pos : Int), out.length ≤ i → (∀ x ∈ out, x.f0.length ≤ 10 ∧ ∀ s ∈ x.f0, s.f2.size ≤ 20) → 0 ≤ pos → pos + 40 * ((n - i : Nat) : Int) ≤ 5000 →
  ∃ r p', Ev (fun k => spec_rnd_mods.l0 k out (n : Int) (i : Int) c pos) (r, p') ∧ DrawnMods r ∧ 0 ≤ p' ∧ p' ≤ 5000 := by
 intro e
 induction e with
 | zero =>
  intro i hi out pos ho hg h0 h1
  refine ⟨out, pos, Ev.step (f := fun _ => some (out, pos)) (fun k => ?_) (Ev.now _), ⟨by omega, hg⟩, h0, by omega⟩
  simp only [spec_rnd_mods.l0]; rw [if_neg (by omega)]
 | succ e ih =>
  intro i hi out pos ho hg h0 h1
  obtain ⟨v, p1, e1, v0, v1, a1, b1⟩ := pick_ok hb (pos := pos) (n := 6) h0 (by omega)
  obtain ⟨d, rfl⟩ := Int.eq_ofNat_of_zero_le v0
  obtain ⟨r, p', ev, hr⟩ := mods_inner hb n i (by omega) hn out ho hg (ih (i + 1) (by omega)) d [] p1 (by simp; omega) (fun s hs => by cases hs) (by omega) (by omega)
  refine ⟨r, p', Ev.step (fun k => ?_) ev, hr⟩
  simp only [spec_rnd_mods.l0]
  rw [if_pos (by omega), e1]
  simp only [Option.bind_some]
theorem mods_ev {c : List Int} (hb : Bytes c) {pos : Int} (h0 : 0 ≤ pos) (h1 : pos < 1000) : ∃ r p', Ev (fun k => spec_rnd_mods.f k c pos) (r, p') ∧ DrawnMods r ∧ 0 ≤ p' ∧ p' ≤ 5000 := by
 obtain ⟨v, p1, e1, v0, v1, a1, b1⟩ := pick_ok hb (pos := pos) (n := 5) h0 (by omega)
 obtain ⟨q, rfl⟩ := Int.eq_ofNat_of_zero_le v0
 obtain ⟨r, p', ev, hr⟩ := mods_outer hb (q + 1) (by omega) (q + 1) 0 (by omega) [] p1 (by simp) (fun x hx => by cases hx) (by omega) (by omega)
 refine ⟨r, p', Ev.congr (fun k => ?_) ev, hr⟩
 unfold spec_rnd_mods.f
 rw [e1]
 simp only [Option.bind_some]
 rw [show wrap64 (1 + (q : Int)) = ((q + 1 : Nat) : Int) from by unfold wrap64; omega]
 rfl
theorem numbers_ev {c : List Int} (hb : Bytes c) (n : Int) : ∀ (d : Nat) (out : List Int) (pos : Int), 0 ≤ pos → pos + (d : Int) < 900000 → out.length + d ≤ 100 → ∃ r p', Ev (fun k => spec_rnd_numbers.l0 k n out (d : Int) c pos) (r, p') ∧ r.length = out.length + d := by
 intro d
 induction d with
 | zero =>
  intro out pos h0 h1 hl
  refine ⟨out, pos, Ev.step (f := fun _ => some (out, pos)) (fun k => ?_) (Ev.now _), rfl⟩
  simp only [spec_rnd_numbers.l0]; rw [if_neg (by omega)]
 | succ d ih =>
  intro out pos h0 h1 hl
  obtain ⟨v, p1, e1, v0, v1, a1, b1⟩ := pick_ok hb (pos := pos) (n := n) h0 (by omega)
  obtain ⟨r, p', ev, hr⟩ := ih (out ++ [v]) p1 (by omega) (by omega) (by rw [List.length_append, List.length_singleton]; omega)
  refine ⟨r, p', Ev.step (fun k => ?_) ev, by rw [hr, List.length_append, List.length_singleton]; omega⟩
  simp only [spec_rnd_numbers.l0]
  rw [if_pos (by omega), e1]
  simp only [Option.bind_some]
  rw [if_pos (by omega), show wrap64 (((d + 1 : Nat) : Int) - 1) = (d : Int) from by unfold wrap64; omega]
theorem draw_ev (l0 : List Int) (h : ∀ x ∈ l0, (Lit.int .u8 x).wf = true) : ∃ M l, Ev (fun k => spec_DrawImportRun.f k l0) (M, l) ∧ Small M ∧ l.length ≤ 4 := by
 obtain ⟨c, e0, hb, _⟩ := newRnd_ok l0 h
 obtain ⟨M, p1, e1, hM, a1, b1⟩ := mods_ev hb (pos := 0) (by omega) (by omega)
 obtain ⟨v, p2, e2, v0, v1, a2, b2⟩ := pick_ok hb (pos := p1) (n := 5) a1 (by omega)
 obtain ⟨d, rfl⟩ := Int.eq_ofNat_of_zero_le v0
 obtain ⟨l, p3, e3, hl⟩ := numbers_ev hb (M.length : Int) d [] p2 (by omega) (by omega) (by simp; omega)
 refine ⟨M, l, Ev.congr (f := fun k => (spec_rnd_mods.f k c 0).bind fun bt175 => ((spec_rnd_numbers.f k c bt175.2 4 (bt175.1.length : Int)).bind fun bt179 => (some (bt175.1, bt179.1)))) (fun k => ?_) (Ev.bind (f := fun k bt175 => ((spec_rnd_numbers.f k c bt175.2 4 (bt175.1.length : Int)).bind fun bt179 => (some (bt175.1, bt179.1)))) e1 (Ev.bind (f := fun _ bt179 => (some (M, bt179.1))) (a := (l, p3)) (Ev.congr (fun k => ?_) e3) (Ev.now _))), ⟨by have := hM.1; omega, fun x hx => ?_⟩, by rw [hl]; simp; omega⟩
 ·unfold spec_DrawImportRun.f
  rw [e0]
  simp only [Option.bind_some]
 ·unfold spec_rnd_numbers.f
  rw [show wrap64 (4 + 1) = 5 from by unfold wrap64; omega, e2]
  simp only [Option.bind_some]
 ·obtain ⟨g1, g2⟩ := hM.2 x hx
  exact ⟨by omega, fun s hs => by have := g2 s hs; omega⟩
end Go.Proofs.Ytehhhlhedmfdiaa.PFnImportRun
end
section
namespace Go.Proofs.Ytehhhlhedmfdiaa.PFnImportRun
open Go.RowKit Go.Proofs.Yz0.PrintWords Go.Proofs.Yz0.PrintLast Go.Proofs.Yz0.PrintMore
set_option linter.unusedVariables false
set_option linter.unusedSimpArgs false
structure Rows5 (W : World) (X1 : Option Addr) (Y1 : Nat) (r1 : List Int) (X2 : Option Addr) (Y2 : Nat) (r2 : List Int) (X3 : Option Addr) (Y3 : Nat) (r3 : List Int) (X4 : Option Addr) (Y4 : Nat) (r4 : List ByteArray) (X5 : Option Addr) (Y5 : Nat) (r5 : List Int) : Prop where
 c1 : Kd.C (Kd.int .i64) W X1 r1.length r1
 l1 : r1.length ≤ Y1
 c2 : Kd.C (Kd.int .i64) W X2 r2.length r2
 l2 : r2.length ≤ Y2
 c3 : Kd.C (Kd.int .i64) W X3 r3.length r3
 l3 : r3.length ≤ Y3
 c4 : Kd.C Kd.string W X4 r4.length r4
 l4 : r4.length ≤ Y4
 c5 : Kd.C (Kd.int .i64) W X5 r5.length r5
 l5 : r5.length ≤ Y5
theorem Rows5.below {W W2 : World} {X1 X2 X3 X4 X5 : Option Addr} {Y1 Y2 Y3 Y4 Y5 : Nat} {r1 r2 r3 r5 : List Int} {r4 : List ByteArray} (h : Rows5 W X1 Y1 r1 X2 Y2 r2 X3 Y3 r3 X4 Y4 r4 X5 Y5 r5) (hb : Below W.heap.size W W2) : Rows5 W2 X1 Y1 r1 X2 Y2 r2 X3 Y3 r3 X4 Y4 r4 X5 Y5 r5 :=
 ⟨Kd.C_below h.c1 hb, h.l1, Kd.C_below h.c2 hb, h.l2, Kd.C_below h.c3 hb, h.l3, Kd.C_below h.c4 hb, h.l4, Kd.C_below h.c5 hb, h.l5⟩
theorem Five.rows {w w' : World} {r1 r2 r3 r5 : List Int} {r4 : List ByteArray} {e : Ending} (h : Five w r1 r2 r3 r4 r5 e w') : ∃ X1 Y1 X2 Y2 X3 Y3 X4 Y4 X5 Y5, e = .returned (.agg #[.slice X1 r1.length Y1, .slice X2 r2.length Y2, .slice X3 r3.length Y3, .slice X4 r4.length Y4, .slice X5 r5.length Y5]) ∧
  Rows5 w' X1 Y1 r1 X2 Y2 r2 X3 Y3 r3 X4 Y4 r4 X5 Y5 r5 ∧ Below w.heap.size w w' := by
 obtain ⟨v0, v1, v2, v3, v4, rfl, h0, h1, h2, h3, h4, hb⟩ := h
 obtain ⟨X1, Y1, rfl, a1, b1⟩ := Kd.R_reads h0
 obtain ⟨X2, Y2, rfl, a2, b2⟩ := Kd.R_reads h1
 obtain ⟨X3, Y3, rfl, a3, b3⟩ := Kd.R_reads h2
 obtain ⟨X4, Y4, rfl, a4, b4⟩ := Kd.R_reads h3
 obtain ⟨X5, Y5, rfl, a5, b5⟩ := Kd.R_reads h4
 exact ⟨X1, Y1, X2, Y2, X3, Y3, X4, Y4, X5, Y5, rfl, ⟨b1, a1, b2, a2, b3, a3, b4, a4, b5, a5⟩, hb⟩
theorem cells5 {W : World} {g : Nat} {v1 v2 v3 v4 v5 : Value} (h : W.heap[g]? = some (.cells #[v1, v2, v3, v4, v5] 48 (0, 0))) : W.cell? ⟨g, 0, none⟩ = some v1 ∧ W.cell? ⟨g, 1, none⟩ = some v2 ∧ W.cell? ⟨g, 2, none⟩ = some v3 ∧ W.cell? ⟨g, 3, none⟩ = some v4 ∧ W.cell? ⟨g, 4, none⟩ = some v5 :=
 ⟨(bC h 0).trans rfl, (bC h 1).trans rfl, (bC h 2).trans rfl, (bC h 3).trans rfl, (bC h 4).trans rfl⟩
end Go.Proofs.Ytehhhlhedmfdiaa.PFnImportRun
end
section
namespace Go.Proofs.Ytehhhlhedmfdiaa.PFnImportRun
open Go.RowKit Go.Proofs.Yz0.PrintWords Go.Proofs.Yz0.PrintLast Go.Proofs.Yz0.PrintMore
set_option linter.unusedVariables false
set_option linter.unusedSimpArgs false
theorem info3' : ∃ i, Try.prog.info? 3 = some i := by
 obtain ⟨i, hi, _⟩ := Option.map_eq_some_iff.1 info3
 exact ⟨i, hi⟩
structure RunK (w W : World) (AL : Option Addr) (l : List Int) (g5 : Nat) (X1 : Option Addr) (Y1 : Nat) (r1 : List Int) (X2 : Option Addr) (Y2 : Nat) (r2 : List Int) (X3 : Option Addr) (Y3 : Nat) (r3 : List Int) (X4 : Option Addr) (Y4 : Nat) (r4 : List ByteArray) (X5 : Option Addr) (Y5 : Nat) (r5 : List Int) : Prop where
 be : Below w.heap.size w W
 li : Kd.C (Kd.int .i64) W AL l.length l
 rw_ : Rows5 W X1 Y1 r1 X2 Y2 r2 X3 Y3 r3 X4 Y4 r4 X5 Y5 r5
 bx : W.heap[g5]? = some (.cells #[.slice X1 r1.length Y1, .slice X2 r2.length Y2, .slice X3 r3.length Y3, .slice X4 r4.length Y4, .slice X5 r5.length Y5] 48 (0, 0))
theorem RunK.below {w W W2 : World} {AL : Option Addr} {l : List Int} {g5 : Nat} {X1 X2 X3 X4 X5 : Option Addr} {Y1 Y2 Y3 Y4 Y5 : Nat} {r1 r2 r3 r5 : List Int} {r4 : List ByteArray} (h : RunK w W AL l g5 X1 Y1 r1 X2 Y2 r2 X3 Y3 r3 X4 Y4 r4 X5 Y5 r5) (hb : Below W.heap.size W W2) : RunK w W2 AL l g5 X1 Y1 r1 X2 Y2 r2 X3 Y3 r3 X4 Y4 r4 X5 Y5 r5 :=
 ⟨below_step h.be hb, Kd.C_below h.li hb, h.rw_.below hb, blk_below h.bx hb⟩
theorem at_nat {W : World} {A : Option Addr} {xs : List Int} (h : Kd.C (Kd.int .i64) W A xs.length xs) {j : Nat} (hj : j < xs.length) {v : Int} (hv : rd xs (j : Int) = v) : ∃ ad, A = some ad ∧ W.cell? (ad.add j) = some (.int .i64 v) := by
 subst hv
 exact Kd.at_int h (j : Int) (by omega) (by omega)
theorem rn_big (A0 : Option Addr) (c0 : Nat) (l0 : List Int) (w : World) (hbig : (l0.length : Int) > 1048576) : Calls Try.prog 7 #[.slice A0 l0.length c0] w fun e w' => e = .returned (.bool true) ∧ Below w.heap.size w w' := by
 have h1 : decide ((1048576 : Int) < (l0.length : Int)) = true := decide_eq_true (by omega)
 have h2 : (1048576 < l0.length) = True := eq_true (by omega)
 clear hbig
 go_enter Try.func7, Try.ntmps7
 go_wp2_with fail
 go_ret
 exact ⟨rfl, Below.refl _ _⟩
theorem rn_walk (k : Nat) (A0 : Option Addr) (c0 : Nat) (l0 : List Int) (w : World) (hr0 : Kd.C (Kd.int .u8) w A0 l0.length l0) (hc0 : l0.length ≤ c0) (hbig : ¬ (l0.length : Int) > 1048576) (M : List S72) (l : List Int) (hD : spec_DrawImportRun.f k l0 = some (M, l)) (hl : l.length ≤ 4)
  (b1 w1 f1 : List Int) (e1 : List ByteArray) (t1 : List Int) (h1 : impl_ImportRun.f k M l = some (b1, w1, f1, e1, t1)) (h2 : spec_ImportRun.f k M l = some (b1, w1, f1, e1, t1)) (hS : spec_SameImports.f k b1 w1 f1 e1 t1 b1 w1 f1 e1 t1 = some true)
  (hwl : w1.length ≤ 1000000000000)
  (hfin : t1.length = 0 ∨ (0 < t1.length ∧ t1.length = M.length ∧ (∀ i : Nat, i < w1.length → ∃ q : Nat, rd w1 (i : Int) = (q : Int) ∧ q < t1.length ∧ rd t1 (q : Int) = 2 ∧ spec_HasInt.f k b1 (q : Int) = some true ∧ spec_HasInt.f k (w1.take i) (q : Int) = some false) ∧
   (∀ i : Nat, i < l.length → ∃ q : Nat, rd l (i : Int) = (q : Int) ∧ q < t1.length ∧ (rd t1 (q : Int) = 2 ∨ (rd t1 (q : Int) ≠ 2 ∧ rd t1 (q : Int) ≠ 1 ∧ spec_HasInt.f k f1 (q : Int) = some true))))) :
  Calls Try.prog 7 #[.slice A0 l0.length c0] w fun e w' => e = .returned (.bool true) ∧ Below w.heap.size w w' := by
 have hg1 : decide ((1048576 : Int) < (l0.length : Int)) = false := decide_eq_false hbig
 have hg2 : (1048576 < l0.length) = False := eq_false (by omega)
 have hg3 : (l0.length ≤ 1048576) = True := eq_true (by omega)
 have HR0 := Az.mk hr0
 have HC0 := Az.mk hc0
 have HD := Az.mk hD
 have HLL := Az.mk hl
 have H1 := Az.mk h1
 have H2 := Az.mk h2
 have HS := Az.mk hS
 have HF := Az.mk hfin
 have HWL := Az.mk hwl
 obtain ⟨i0, hi0⟩ := info3'
 have HI0 := Az.mk hi0
 have hu48 := Try.underlying48
 clear hr0 hc0 hD hl h1 h2 hS hfin hbig hi0 hwl
 go_enter Try.func7, Try.ntmps7
 go_wp2_with fail
 refine (spec_DrawImportRun.calls k A0 c0 l0 M l _ HR0.out HC0.out HD.out).mono ?_
 rintro e wa ⟨vM, vL, rfl, hM, hL, hb⟩
 obtain ⟨AM, cM, rfl, hMc, hMC⟩ := Kd.S_reads hM
 obtain ⟨AL, cL, rfl, hLc, hLC⟩ := Kd.R_reads hL
 have HB := Az.mk hb
 have HMC := Az.mk hMC
 have HMc := Az.mk hMc
 have HLC := Az.mk hLC
 have HLc := Az.mk hLc
 clear hb hM hL hMc hMC hLc hLC HR0 HC0 HD hg1 hg2 hg3
 go_wp2_with fail
 refine (impl_ImportRun.five k AM cM M AL cL l b1 w1 f1 e1 t1 _ HMC.out HMc.out HLC.out HLc.out H1.out).mono ?_
 intro e wb hF
 obtain ⟨X1, Y1, X2, Y2, X3, Y3, X4, Y4, X5, Y5, rfl, hrows, hb⟩ := hF.rows
 have n0_ := Az.mk (below_step HB.out hb)
 have n1_ := Az.mk (Kd.C_below HMC.out hb)
 have n2_ := Az.mk (Kd.C_below HLC.out hb)
 clear HB HMC HLC hb hF H1
 have HB := n0_
 have HMC := n1_
 have HLC := n2_
 clear n0_ n1_ n2_
 have HRW := Az.mk hrows
 clear hrows
 go_wp2_with fail
 have HG5 := Az.mk (blk_new wb (.cells #[.slice X1 b1.length Y1, .slice X2 w1.length Y2, .slice X3 f1.length Y3, .slice X4 e1.length Y4, .slice X5 t1.length Y5] 48 (0, 0)))
 have hal : Below wb.heap.size wb (wb.alloc (.cells #[.slice X1 b1.length Y1, .slice X2 w1.length Y2, .slice X3 f1.length Y3, .slice X4 e1.length Y4, .slice X5 t1.length Y5] 48 (0, 0))) := bal (Below.refl _ _) _
 have n0_ := Az.mk (below_step HB.out hal)
 have n1_ := Az.mk (Kd.C_below HMC.out hal)
 have n2_ := Az.mk (Kd.C_below HLC.out hal)
 have n3_ := Az.mk (HRW.out.below hal)
 clear HB HMC HLC HRW hal
 have HB := n0_
 have HMC := n1_
 have HLC := n2_
 have HRW := n3_
 clear n0_ n1_ n2_ n3_
 obtain ⟨g5, hg5⟩ : ∃ g, g = wb.heap.size := ⟨_, rfl⟩
 rw [← hg5] at HG5 ⊢
 clear hg5
 generalize World.alloc _ _ = wc at HB HMC HLC HRW HG5 ⊢
 refine (spec_ImportRun.five k AM cM M AL cL l b1 w1 f1 e1 t1 _ HMC.out HMc.out HLC.out HLc.out H2.out).mono ?_
 intro e we hF
 obtain ⟨U1, T1, U2, T2, U3, T3, U4, T4, U5, T5, rfl, hrows, hb⟩ := hF.rows
 have HK := Az.mk (RunK.below (⟨HB.out, HLC.out, HRW.out, HG5.out⟩ : RunK w wc AL l g5 X1 Y1 b1 X2 Y2 w1 X3 Y3 f1 X4 Y4 e1 X5 Y5 t1) hb)
 have HRS := Az.mk hrows
 clear HB HMC HLC HRW HG5 hb hF H2 hrows
 obtain ⟨hc0, hc1, hc2, hc3, hc4⟩ := cells5 HK.out.bx
 go_wp2_with (first | ((with_reducible refine gate_dst (N := 6) rfl ?_); refine box_event ?hg (N := 6) ?hd (cs := #[.slice none 0 0, .slice none 0 0, .slice none 0 0, .slice none 0 0, .slice none 0 0]) (t := 48) ?hr ?_; (case hd => rfl); (case hg => rfl); (case hr => first | (go_simp; done) | (go_simp; rfl)); intro g6 hg wp hbox hb; have hge : we.heap.size ≤ g6 := Nat.le_of_eq hg.symm; have HGE := Az.mk hge; clear hge; have HG6 := Az.mk hbox; have HBP := Az.mk hb; clear hbox hb hg; clear hc0 hc1 hc2 hc3 hc4; have hq0 : wp.cell? ⟨g6, 0, none⟩ = some (.slice none 0 0) := (bC HG6.out 0).trans rfl; have hq1 : wp.cell? ⟨g6, 1, none⟩ = some (.slice none 0 0) := (bC HG6.out 1).trans rfl; have hq2 : wp.cell? ⟨g6, 2, none⟩ = some (.slice none 0 0) := (bC HG6.out 2).trans rfl; have hq3 : wp.cell? ⟨g6, 3, none⟩ = some (.slice none 0 0) := (bC HG6.out 3).trans rfl; have hq4 : wp.cell? ⟨g6, 4, none⟩ = some (.slice none 0 0) := (bC HG6.out 4).trans rfl; have hqf : ∀ j, wp.frozen? ⟨g6, j, none⟩ = false := fun j => bF HG6.out j) | ((with_reducible refine gate_store (t := 48) (p := 6) rfl ?_); refine store_event (t := 48) (p := 6) (v := (.tmp 23)) (w1 := ((((((wp).setCell ⟨g6, 0, none⟩ (.slice U1 b1.length T1)).setCell ⟨g6, 1, none⟩ (.slice U2 w1.length T2)).setCell ⟨g6, 2, none⟩ (.slice U3 f1.length T3)).setCell ⟨g6, 3, none⟩ (.slice U4 e1.length T4)).setCell ⟨g6, 4, none⟩ (.slice U5 t1.length T5))) ?hg ?ho ?hn ?hr ?_; (case ho => rfl); (case hg => rfl); (case hn => rfl); (case hr => first | (go_simp; done) | (go_simp; rfl)); intro wf hw_; have hb : Below we.heap.size we wf := (by rw [hw_]; exact bS (bS (bS (bS (bS HBP.out HGE.out) HGE.out) HGE.out) HGE.out) HGE.out); have n6_ : Az (wf.heap[g6]? = some (.cells #[.slice U1 b1.length T1, .slice U2 w1.length T2, .slice U3 f1.length T3, .slice U4 e1.length T4, .slice U5 t1.length T5] 48 (0, 0))) := ⟨by rw [hw_]; exact put5 HG6.out⟩; clear HG6 HBP hw_ hq0 hq1 hq2 hq3 hq4 hqf; have HG6 := n6_; clear n6_; have n0_ := Az.mk (HK.out.below hb); have n1_ := Az.mk (HRS.out.below hb); clear HK HRS hb; have HK := n0_; have HRS := n1_; clear n0_ n1_; obtain ⟨hc0, hc1, hc2, hc3, hc4⟩ := cells5 HK.out.bx; obtain ⟨hd0, hd1, hd2, hd3, hd4⟩ := cells5 HG6.out))
 refine (spec_SameImports.calls k X1 Y1 b1 X2 Y2 w1 X3 Y3 f1 X4 Y4 e1 X5 Y5 t1 U1 T1 b1 U2 T2 w1 U3 T3 f1 U4 T4 e1 U5 T5 t1 true _ HK.out.rw_.c1 HK.out.rw_.l1 HK.out.rw_.c2 HK.out.rw_.l2 HK.out.rw_.c3 HK.out.rw_.l3 HK.out.rw_.c4 HK.out.rw_.l4 HK.out.rw_.c5 HK.out.rw_.l5 HRS.out.c1 HRS.out.l1 HRS.out.c2 HRS.out.l2 HRS.out.c3 HRS.out.l3 HRS.out.c4 HRS.out.l4 HRS.out.c5 HRS.out.l5 HS.out).mono ?_
 rintro e wg ⟨rfl, hb⟩
 have n0_ := Az.mk (HK.out.below hb)
 clear HK HRS HS hb hc0 hc1 hc2 hc3 hc4 hd0 hd1 hd2 hd3 hd4 HG6
 have HK := n0_
 clear n0_
 obtain ⟨hc0, hc1, hc2, hc3, hc4⟩ := cells5 HK.out.bx
 rcases HF.out with hz | ⟨hp, htm, hA, hZ⟩
 ·have ha1 : ((t1.length : Int) == 0) = true := beq_iff_eq.2 (by omega)
  have ha2 : (t1.length = 0) = True := eq_true hz
  have ha5 : (t1 = []) = True := eq_true (List.eq_nil_of_length_eq_zero hz)
  clear HF hz
  go_wp2_with fail
  go_ret
  exact ⟨rfl, HK.out.be⟩
 have ha1 : ((t1.length : Int) == 0) = false := beq_eq_false_iff_ne.2 (by omega)
 have ha2 : (t1.length = 0) = False := eq_false (by omega)
 have ha3 : (t1 = []) = False := eq_false (fun e => by rw [e] at hp; exact Nat.lt_irrefl _ hp)
 have HA := Az.mk hA
 have HZ := Az.mk hZ
 have HTM := Az.mk htm
 clear HF hp htm hA hZ
 go_wp2_with fail
 clear hc0 hc1 hc2 hc3 hc4
 go_loopg [8] (w1.length + 1) (fun kq v8 w' => ∃ j : Nat, v8 = .int .i64 (j : Int) ∧ Az (j + kq = w1.length + 1 ∧ j ≤ w1.length) ∧ Az (RunK w w' AL l g5 X1 Y1 b1 X2 Y2 w1 X3 Y3 f1 X4 Y4 e1 X5 Y5 t1))
 case atStart => exact ⟨0, rfl, ⟨by omega, by omega⟩, HK⟩
 case round =>
  clear HK
  obtain ⟨j, rfl, HJ, HK⟩ := hrel
  obtain ⟨hc0, hc1, hc2, hc3, hc4⟩ := cells5 HK.out.bx
  by_cases hj : j < w1.length
  ·have hj1 : decide ((j : Int) < (w1.length : Int)) = true := decide_eq_true (by omega)
   have hj2 : (j < w1.length) = True := eq_true hj
   obtain ⟨q, hq, hqt, hq2, hqb, hqw⟩ := HA.out j hj
   obtain ⟨ad2, e2, hx⟩ := at_nat HK.out.rw_.c2 hj hq
   subst e2
   obtain ⟨ad5, e5, hy⟩ := at_nat HK.out.rw_.c5 hqt hq2
   subst e5
   have hq3 : decide ((q : Int) < (t1.length : Int)) = true := decide_eq_true (by omega)
   have hq4 : (q < t1.length) = True := eq_true hqt
   have hwr : wrap64 ((j : Int) + 1) = ((j + 1 : Nat) : Int) := by have := HWL.out; unfold wrap64; omega
   have hcut := cut_to (P := Try.prog) 35 3 .i64 Try.underlying35 HI0.out (some ad2) w1.length Y2 (j : Int) (by omega) (by omega) HK.out.rw_.l2
   simp only [Int.toNat_natCast] at hcut
   have HTK : Az ((w1.take j).length = j) := ⟨by rw [List.length_take]; omega⟩
   have HQB := Az.mk hqb
   have HQW := Az.mk hqw
   have HWR := Az.mk hwr
   have HJL := Az.mk hj
   clear hq hqt hq2 hqb hqw hwr hj
   go_wp2_with fail
   refine start_ (n := 33) (S := fun w' => w'.cell? ⟨g5, 4, none⟩ = some (.slice (some ad5) t1.length Y5) ∧ w'.cell? ⟨g5, 1, none⟩ = some (.slice (some ad2) w1.length Y2) ∧ w'.cell? (ad2.add j) = some (.int .i64 (q : Int)) ∧ w'.cell? (ad5.add q) = some (.int .i64 2) ∧ w'.cell? ⟨g5, 0, none⟩ = some (.slice X1 b1.length Y1)) (ds := []) #[false, false, false, false, false, false, false, false, false, false, false, false, false, false, false, false, false, false, false, false, false, false, false, false, false, false, false, false, false, false, false, false, false] (by kernel_rfl) rfl rfl ⟨hc4, hc1, hx, hy, hc0⟩ (fun hHeld => ?_)
   have n0_ := Az.mk (HK.out.below (below_drew (Below.refl _ _)))
   clear HK hc0 hc1 hc2 hc3 hc4 hx hy
   have HK := n0_
   clear n0_
   generalize World.drew _ = wl at HK hHeld ⊢
   refine pure_ (i := 0) (N := some 43) (v := ?_) (a' := ?_) #[true, false, false, false, false, false, false, false, false, false, false, false, false, false, false, false, false, false, false, false, false, false, false, false, false, false, false, false, false, false, false, false, false] rfl rfl (by kernel_rfl) (fun _ _ _ h => h) (Or.inl ⟨by rfl, ?_⟩) ?_ ?_
   rotate_left
   ·intro w'
    go_simp
    with_reducible rfl
   rotate_left
   ·simp only [Act.put, List.setIfInBounds_toArray, List.set_cons_zero, List.set_cons_succ, i64_w, i32_w]
    rfl
   refine pure_ (i := 2) (N := some 45) (v := ?_) (a' := ?_) #[true, false, true, false, false, false, false, false, false, false, false, false, false, false, false, false, false, false, false, false, false, false, false, false, false, false, false, false, false, false, false, false, false] rfl rfl (by kernel_rfl) (fun _ _ _ h => h) (Or.inl ⟨by rfl, ?_⟩) ?_ ?_
   rotate_left
   ·intro w'
    go_simp
    with_reducible rfl
   rotate_left
   ·simp only [Act.put, List.setIfInBounds_toArray, List.set_cons_zero, List.set_cons_succ, i64_w, i32_w]
    rfl
   refine pure_ (i := 4) (N := some 47) (v := ?_) (a' := ?_) #[true, false, true, false, true, false, false, false, false, false, false, false, false, false, false, false, false, false, false, false, false, false, false, false, false, false, false, false, false, false, false, false, false] rfl rfl (by kernel_rfl) (fun _ _ _ h => h) (Or.inl ⟨by rfl, ?_⟩) ?_ ?_
   rotate_left
   ·intro w'
    go_simp
    with_reducible rfl
   rotate_left
   ·simp only [Act.put, List.setIfInBounds_toArray, List.set_cons_zero, List.set_cons_succ, i64_w, i32_w]
    rfl
   refine take_ (i := 1) (N := some 44) (v := ?_) (a' := ?_) #[true, true, true, false, true, false, false, false, false, false, false, false, false, false, false, false, false, false, false, false, false, false, false, false, false, false, false, false, false, false, false, false, false] rfl rfl (by kernel_rfl) (fun _ _ _ h => h) (Or.inl ⟨by rfl, ?_⟩) hHeld ?_ ?_
   rotate_left
   ·rintro w' ⟨s0, s1, s2, s3, s4⟩
    go_simp
    with_reducible rfl
   rotate_left
   ·simp only [Act.put, List.setIfInBounds_toArray, List.set_cons_zero, List.set_cons_succ, i64_w, i32_w]
    rfl
   refine take_ (i := 3) (N := some 46) (v := ?_) (a' := ?_) #[true, true, true, true, true, false, false, false, false, false, false, false, false, false, false, false, false, false, false, false, false, false, false, false, false, false, false, false, false, false, false, false, false] rfl rfl (by kernel_rfl) (fun _ _ _ h => h) (Or.inl ⟨by rfl, ?_⟩) hHeld ?_ ?_
   rotate_left
   ·rintro w' ⟨s0, s1, s2, s3, s4⟩
    go_simp
    with_reducible rfl
   rotate_left
   ·simp only [Act.put, List.setIfInBounds_toArray, List.set_cons_zero, List.set_cons_succ, i64_w, i32_w]
    rfl
   refine pure_ (i := 5) (N := some 48) (v := ?_) (a' := ?_) #[true, true, true, true, true, true, false, false, false, false, false, false, false, false, false, false, false, false, false, false, false, false, false, false, false, false, false, false, false, false, false, false, false] rfl rfl (by kernel_rfl) (fun _ _ _ h => h) (Or.inl ⟨by rfl, ?_⟩) ?_ ?_
   rotate_left
   ·intro w'
    go_simp
    with_reducible rfl
   rotate_left
   ·simp only [Act.put, List.setIfInBounds_toArray, List.set_cons_zero, List.set_cons_succ, i64_w, i32_w]
    rfl
   refine take_ (i := 6) (N := some 49) (v := ?_) (a' := ?_) #[true, true, true, true, true, true, true, false, false, false, false, false, false, false, false, false, false, false, false, false, false, false, false, false, false, false, false, false, false, false, false, false, false] rfl rfl (by kernel_rfl) (fun _ _ _ h => h) (Or.inl ⟨by rfl, ?_⟩) hHeld ?_ ?_
   rotate_left
   ·rintro w' ⟨s0, s1, s2, s3, s4⟩
    go_simp
    with_reducible rfl
   rotate_left
   ·simp only [Act.put, List.setIfInBounds_toArray, List.set_cons_zero, List.set_cons_succ, i64_w, i32_w]
    rfl
   refine pure_ (i := 7) (N := some 50) (v := ?_) (a' := ?_) #[true, true, true, true, true, true, true, true, false, false, false, false, false, false, false, false, false, false, false, false, false, false, false, false, false, false, false, false, false, false, false, false, false] rfl rfl (by kernel_rfl) (fun _ _ _ h => h) (Or.inl ⟨by rfl, ?_⟩) ?_ ?_
   rotate_left
   ·intro w'
    go_simp
    with_reducible rfl
   rotate_left
   ·simp only [Act.put, List.setIfInBounds_toArray, List.set_cons_zero, List.set_cons_succ, i64_w, i32_w]
    rfl
   refine take_ (i := 8) (N := some 51) (v := ?_) (a' := ?_) #[true, true, true, true, true, true, true, true, true, false, false, false, false, false, false, false, false, false, false, false, false, false, false, false, false, false, false, false, false, false, false, false, false] rfl rfl (by kernel_rfl) (fun _ _ _ h => h) (Or.inl ⟨by rfl, ?_⟩) hHeld ?_ ?_
   rotate_left
   ·rintro w' ⟨s0, s1, s2, s3, s4⟩
    go_simp
    with_reducible rfl
   rotate_left
   ·simp only [Act.put, List.setIfInBounds_toArray, List.set_cons_zero, List.set_cons_succ, i64_w, i32_w]
    rfl
   refine pure_ (i := 9) (N := some 52) (v := ?_) (a' := ?_) #[true, true, true, true, true, true, true, true, true, true, false, false, false, false, false, false, false, false, false, false, false, false, false, false, false, false, false, false, false, false, false, false, false] rfl rfl (by kernel_rfl) (fun _ _ _ h => h) (Or.inl ⟨by rfl, ?_⟩) ?_ ?_
   rotate_left
   ·intro w'
    go_simp
    with_reducible rfl
   rotate_left
   ·simp only [Act.put, List.setIfInBounds_toArray, List.set_cons_zero, List.set_cons_succ, i64_w, i32_w]
    rfl
   refine pure_ (i := 10) (N := some 53) (v := ?_) (a' := ?_) #[true, true, true, true, true, true, true, true, true, true, true, false, false, false, false, false, false, false, false, false, false, false, false, false, false, false, false, false, false, false, false, false, false] rfl rfl (by kernel_rfl) (fun _ _ _ h => h) (Or.inl ⟨by rfl, ?_⟩) ?_ ?_
   rotate_left
   ·intro w'
    go_simp
    with_reducible rfl
   rotate_left
   ·simp only [Act.put, List.setIfInBounds_toArray, List.set_cons_zero, List.set_cons_succ, i64_w, i32_w]
    rfl
   refine pure_ (i := 11) (N := some 54) (v := ?_) (a' := ?_) #[true, true, true, true, true, true, true, true, true, true, true, true, false, false, false, false, false, false, false, false, false, false, false, false, false, false, false, false, false, false, false, false, false] rfl rfl (by kernel_rfl) (fun _ _ _ h => h) (Or.inl ⟨by rfl, ?_⟩) ?_ ?_
   rotate_left
   ·intro w'
    go_simp
    with_reducible rfl
   rotate_left
   ·simp only [Act.put, List.setIfInBounds_toArray, List.set_cons_zero, List.set_cons_succ, i64_w, i32_w]
    rfl
   refine pure_ (i := 13) (N := some 56) (v := ?_) (a' := ?_) #[true, true, true, true, true, true, true, true, true, true, true, true, false, true, false, false, false, false, false, false, false, false, false, false, false, false, false, false, false, false, false, false, false] rfl rfl (by kernel_rfl) (fun _ _ _ h => h) (Or.inl ⟨by rfl, ?_⟩) ?_ ?_
   rotate_left
   ·intro w'
    go_simp
    with_reducible rfl
   rotate_left
   ·simp only [Act.put, List.setIfInBounds_toArray, List.set_cons_zero, List.set_cons_succ, i64_w, i32_w]
    rfl
   refine pure_ (i := 15) (N := some 58) (v := ?_) (a' := ?_) #[true, true, true, true, true, true, true, true, true, true, true, true, false, true, false, true, false, false, false, false, false, false, false, false, false, false, false, false, false, false, false, false, false] rfl rfl (by kernel_rfl) (fun _ _ _ h => h) (Or.inl ⟨by rfl, ?_⟩) ?_ ?_
   rotate_left
   ·intro w'
    go_simp
    with_reducible rfl
   rotate_left
   ·simp only [Act.put, List.setIfInBounds_toArray, List.set_cons_zero, List.set_cons_succ, i64_w, i32_w]
    rfl
   refine take_ (i := 12) (N := some 55) (v := ?_) (a' := ?_) #[true, true, true, true, true, true, true, true, true, true, true, true, true, true, false, true, false, false, false, false, false, false, false, false, false, false, false, false, false, false, false, false, false] rfl rfl (by kernel_rfl) (fun _ _ _ h => h) (Or.inl ⟨by rfl, ?_⟩) hHeld ?_ ?_
   rotate_left
   ·rintro w' ⟨s0, s1, s2, s3, s4⟩
    go_simp
    with_reducible rfl
   rotate_left
   ·simp only [Act.put, List.setIfInBounds_toArray, List.set_cons_zero, List.set_cons_succ, i64_w, i32_w]
    rfl
   refine take_ (i := 14) (N := some 57) (v := ?_) (a' := ?_) #[true, true, true, true, true, true, true, true, true, true, true, true, true, true, true, true, false, false, false, false, false, false, false, false, false, false, false, false, false, false, false, false, false] rfl rfl (by kernel_rfl) (fun _ _ _ h => h) (Or.inl ⟨by rfl, ?_⟩) hHeld ?_ ?_
   rotate_left
   ·rintro w' ⟨s0, s1, s2, s3, s4⟩
    go_simp
    with_reducible rfl
   rotate_left
   ·simp only [Act.put, List.setIfInBounds_toArray, List.set_cons_zero, List.set_cons_succ, i64_w, i32_w]
    rfl
   refine pure_ (i := 16) (N := some 59) (v := ?_) (a' := ?_) #[true, true, true, true, true, true, true, true, true, true, true, true, true, true, true, true, true, false, false, false, false, false, false, false, false, false, false, false, false, false, false, false, false] rfl rfl (by kernel_rfl) (fun _ _ _ h => h) (Or.inl ⟨by rfl, ?_⟩) ?_ ?_
   rotate_left
   ·intro w'
    go_simp
    with_reducible rfl
   rotate_left
   ·simp only [Act.put, List.setIfInBounds_toArray, List.set_cons_zero, List.set_cons_succ, i64_w, i32_w]
    rfl
   refine take_ (i := 17) (N := some 60) (v := ?_) (a' := ?_) #[true, true, true, true, true, true, true, true, true, true, true, true, true, true, true, true, true, true, false, false, false, false, false, false, false, false, false, false, false, false, false, false, false] rfl rfl (by kernel_rfl) (fun _ _ _ h => h) (Or.inl ⟨by rfl, ?_⟩) hHeld ?_ ?_
   rotate_left
   ·rintro w' ⟨s0, s1, s2, s3, s4⟩
    go_simp
    with_reducible rfl
   rotate_left
   ·simp only [Act.put, List.setIfInBounds_toArray, List.set_cons_zero, List.set_cons_succ, i64_w, i32_w]
    rfl
   refine one_ (i := 18) (N := some 61) #[true, true, true, true, true, true, true, true, true, true, true, true, true, true, true, true, true, true, true, false, false, false, false, false, false, false, false, false, false, false, false, false, false] rfl rfl (by kernel_rfl) (by decide) (fun K hK => ?_)
   refine goes_ Try.func42 (by kernel_rfl) rfl #[.slice X1 b1.length Y1, .int .i64 (q : Int)] (by rfl) rfl rfl (by simp only [List.map_toArray, List.map_cons, List.map_nil]; rfl) ?_
   with_reducible refine (spec_HasInt.calls k X1 Y1 b1 (q : Int) true _ HK.out.rw_.c1 HK.out.rw_.l1 HQB.out).mono ?_
   rintro e wm18 ⟨rfl, hd⟩
   refine ⟨_, rfl, ?_⟩
   have n0_ := Az.mk (HK.out.below hd.below)
   have hb := hd.below
   clear HK hd
   have HK := n0_
   clear n0_
   refine hK.out _ _ ⟨pw_cell_below hb hHeld.1, pw_cell_below hb hHeld.2.1, pw_cell_below hb hHeld.2.2.1, pw_cell_below hb hHeld.2.2.2.1, pw_cell_below hb hHeld.2.2.2.2⟩ (fun hHeld => ?_)
   clear hK K
   refine norm_ (a' := ?_) ?_ ?_
   rotate_left
   ·show Act.put _ (some 61) _ = _
    simp only [Act.put, List.setIfInBounds_toArray, List.set_cons_zero, List.set_cons_succ, i64_w, i32_w]
    rfl
   refine pure_ (i := 19) (N := some 62) (v := ?_) (a' := ?_) #[true, true, true, true, true, true, true, true, true, true, true, true, true, true, true, true, true, true, true, true, false, false, false, false, false, false, false, false, false, false, false, false, false] rfl rfl (by kernel_rfl) (fun _ _ _ h => h) (Or.inl ⟨by rfl, ?_⟩) ?_ ?_
   rotate_left
   ·intro w'
    go_simp
    with_reducible rfl
   rotate_left
   ·simp only [Act.put, List.setIfInBounds_toArray, List.set_cons_zero, List.set_cons_succ, i64_w, i32_w]
    rfl
   refine pure_ (i := 20) (N := some 63) (v := ?_) (a' := ?_) #[true, true, true, true, true, true, true, true, true, true, true, true, true, true, true, true, true, true, true, true, true, false, false, false, false, false, false, false, false, false, false, false, false] rfl rfl (by kernel_rfl) (fun _ _ _ h => h) (Or.inl ⟨by rfl, ?_⟩) ?_ ?_
   rotate_left
   ·intro w'
    go_simp
    with_reducible rfl
   rotate_left
   ·simp only [Act.put, List.setIfInBounds_toArray, List.set_cons_zero, List.set_cons_succ, i64_w, i32_w]
    rfl
   refine pure_ (i := 21) (N := some 64) (v := ?_) (a' := ?_) #[true, true, true, true, true, true, true, true, true, true, true, true, true, true, true, true, true, true, true, true, true, true, false, false, false, false, false, false, false, false, false, false, false] rfl rfl (by kernel_rfl) (fun _ _ _ h => h) (Or.inl ⟨by rfl, ?_⟩) ?_ ?_
   rotate_left
   ·intro w'
    go_simp
    with_reducible rfl
   rotate_left
   ·simp only [Act.put, List.setIfInBounds_toArray, List.set_cons_zero, List.set_cons_succ, i64_w, i32_w]
    rfl
   refine pure_ (i := 22) (N := some 65) (v := ?_) (a' := ?_) #[true, true, true, true, true, true, true, true, true, true, true, true, true, true, true, true, true, true, true, true, true, true, true, false, false, false, false, false, false, false, false, false, false] rfl rfl (by kernel_rfl) (fun _ _ _ h => h) (Or.inl ⟨by rfl, ?_⟩) ?_ ?_
   rotate_left
   ·intro w'
    go_simp
    with_reducible rfl
   rotate_left
   ·simp only [Act.put, List.setIfInBounds_toArray, List.set_cons_zero, List.set_cons_succ, i64_w, i32_w]
    rfl
   refine pure_ (i := 24) (N := some 67) (v := ?_) (a' := ?_) #[true, true, true, true, true, true, true, true, true, true, true, true, true, true, true, true, true, true, true, true, true, true, true, false, true, false, false, false, false, false, false, false, false] rfl rfl (by kernel_rfl) (fun _ _ _ h => h) (Or.inl ⟨by rfl, ?_⟩) ?_ ?_
   rotate_left
   ·intro w'
    go_simp
    with_reducible rfl
   rotate_left
   ·simp only [Act.put, List.setIfInBounds_toArray, List.set_cons_zero, List.set_cons_succ, i64_w, i32_w]
    rfl
   refine pure_ (i := 26) (N := some 69) (v := ?_) (a' := ?_) #[true, true, true, true, true, true, true, true, true, true, true, true, true, true, true, true, true, true, true, true, true, true, true, false, true, false, true, false, false, false, false, false, false] rfl rfl (by kernel_rfl) (fun _ _ _ h => h) (Or.inl ⟨by rfl, ?_⟩) ?_ ?_
   rotate_left
   ·intro w'
    go_simp
    with_reducible rfl
   rotate_left
   ·simp only [Act.put, List.setIfInBounds_toArray, List.set_cons_zero, List.set_cons_succ, i64_w, i32_w]
    rfl
   refine pure_ (i := 28) (N := some 71) (v := ?_) (a' := ?_) #[true, true, true, true, true, true, true, true, true, true, true, true, true, true, true, true, true, true, true, true, true, true, true, false, true, false, true, false, true, false, false, false, false] rfl rfl (by kernel_rfl) (fun _ _ _ h => h) (Or.inl ⟨by rfl, ?_⟩) ?_ ?_
   rotate_left
   ·intro w'
    go_simp
    with_reducible rfl
   rotate_left
   ·simp only [Act.put, List.setIfInBounds_toArray, List.set_cons_zero, List.set_cons_succ, i64_w, i32_w]
    rfl
   refine take_ (i := 23) (N := some 66) (v := ?_) (a' := ?_) #[true, true, true, true, true, true, true, true, true, true, true, true, true, true, true, true, true, true, true, true, true, true, true, true, true, false, true, false, true, false, false, false, false] rfl rfl (by kernel_rfl) (fun _ _ _ h => h) (Or.inl ⟨by rfl, ?_⟩) hHeld ?_ ?_
   rotate_left
   ·rintro w' ⟨s0, s1, s2, s3, s4⟩
    go_simp
    with_reducible rfl
   rotate_left
   ·simp only [Act.put, List.setIfInBounds_toArray, List.set_cons_zero, List.set_cons_succ, i64_w, i32_w]
    rfl
   refine pure_ (i := 25) (N := some 68) (v := ?_) (a' := ?_) #[true, true, true, true, true, true, true, true, true, true, true, true, true, true, true, true, true, true, true, true, true, true, true, true, true, true, true, false, true, false, false, false, false] rfl rfl (by kernel_rfl) (fun _ _ _ h => h) (Or.inl ⟨by rfl, ?_⟩) ?_ ?_
   rotate_left
   ·intro w'
    go_simp
    with_reducible rfl
   rotate_left
   ·simp only [Act.put, List.setIfInBounds_toArray, List.set_cons_zero, List.set_cons_succ, i64_w, i32_w]
    rfl
   refine take_ (i := 27) (N := some 70) (v := ?_) (a' := ?_) #[true, true, true, true, true, true, true, true, true, true, true, true, true, true, true, true, true, true, true, true, true, true, true, true, true, true, true, true, true, false, false, false, false] rfl rfl (by kernel_rfl) (fun _ _ _ h => h) (Or.inl ⟨by rfl, ?_⟩) hHeld ?_ ?_
   rotate_left
   ·rintro w' ⟨s0, s1, s2, s3, s4⟩
    go_simp
    with_reducible rfl
   rotate_left
   ·simp only [Act.put, List.setIfInBounds_toArray, List.set_cons_zero, List.set_cons_succ, i64_w, i32_w]
    rfl
   refine pure_ (i := 29) (N := some 72) (v := ?_) (a' := ?_) #[true, true, true, true, true, true, true, true, true, true, true, true, true, true, true, true, true, true, true, true, true, true, true, true, true, true, true, true, true, true, false, false, false] rfl rfl (by kernel_rfl) (fun _ _ _ h => h) (Or.inl ⟨by rfl, ?_⟩) ?_ ?_
   rotate_left
   ·intro w'
    go_simp
    with_reducible rfl
   rotate_left
   ·simp only [Act.put, List.setIfInBounds_toArray, List.set_cons_zero, List.set_cons_succ, i64_w, i32_w]
    rfl
   refine take_ (i := 30) (N := some 73) (v := ?_) (a' := ?_) #[true, true, true, true, true, true, true, true, true, true, true, true, true, true, true, true, true, true, true, true, true, true, true, true, true, true, true, true, true, true, true, false, false] rfl rfl (by kernel_rfl) (fun _ _ _ h => h) (Or.inl ⟨by rfl, ?_⟩) hHeld ?_ ?_
   rotate_left
   ·rintro w' ⟨s0, s1, s2, s3, s4⟩
    go_simp
    with_reducible rfl
   rotate_left
   ·simp only [Act.put, List.setIfInBounds_toArray, List.set_cons_zero, List.set_cons_succ, i64_w, i32_w]
    rfl
   refine one_ (i := 31) (N := some 74) #[true, true, true, true, true, true, true, true, true, true, true, true, true, true, true, true, true, true, true, true, true, true, true, true, true, true, true, true, true, true, true, true, false] rfl rfl (by kernel_rfl) (by decide) (fun K hK => ?_)
   refine goes_ Try.func42 (by kernel_rfl) rfl #[.slice (some ad2) j Y2, .int .i64 (q : Int)] (by rfl) rfl rfl (by simp only [List.map_toArray, List.map_cons, List.map_nil]; rfl) ?_
   with_reducible refine (calls_of_args (args' := #[.slice (some ad2) (w1.take j).length Y2, .int .i64 (q : Int)]) (by rw [HTK.out]) (spec_HasInt.calls k (some ad2) Y2 (w1.take j) (q : Int) false _ (Kd.C_take HK.out.rw_.c2 (Nat.le_of_lt HJL.out)) (by rw [HTK.out]; exact Nat.le_trans (Nat.le_of_lt HJL.out) HK.out.rw_.l2) HQW.out)).mono ?_
   rintro e wm31 ⟨rfl, hd⟩
   refine ⟨_, rfl, ?_⟩
   have n0_ := Az.mk (HK.out.below hd.below)
   have hb := hd.below
   clear HK hd
   have HK := n0_
   clear n0_
   refine hK.out _ _ ⟨pw_cell_below hb hHeld.1, pw_cell_below hb hHeld.2.1, pw_cell_below hb hHeld.2.2.1, pw_cell_below hb hHeld.2.2.2.1, pw_cell_below hb hHeld.2.2.2.2⟩ (fun hHeld => ?_)
   clear hK K
   refine norm_ (a' := ?_) ?_ ?_
   rotate_left
   ·show Act.put _ (some 74) _ = _
    simp only [Act.put, List.setIfInBounds_toArray, List.set_cons_zero, List.set_cons_succ, i64_w, i32_w]
    rfl
   refine pure_ (i := 32) (N := some 75) (v := ?_) (a' := ?_) #[true, true, true, true, true, true, true, true, true, true, true, true, true, true, true, true, true, true, true, true, true, true, true, true, true, true, true, true, true, true, true, true, true] rfl rfl (by kernel_rfl) (fun _ _ _ h => h) (Or.inl ⟨by rfl, ?_⟩) ?_ ?_
   rotate_left
   ·intro w'
    go_simp
    with_reducible rfl
   rotate_left
   ·simp only [Act.put, List.setIfInBounds_toArray, List.set_cons_zero, List.set_cons_succ, i64_w, i32_w]
    rfl
   refine done_ (by kernel_rfl) ?_
   clear hHeld
   clear hq3 hq4 hcut
   go_wp2_with fail
   go_roundg (gk - 1)
   case measure => have := HJ.out; omega
   case rel => exact ⟨j + 1, (by first | rfl | (rw [HWR.out]) | (simp [HWR.out])), ⟨by have := HJ.out; omega, by have := HJL.out; omega⟩, HK⟩
  ·have hj1 : decide ((j : Int) < (w1.length : Int)) = false := decide_eq_false (by omega)
   have hj2 : (j < w1.length) = False := eq_false hj
   clear hj
   go_wp2_with fail
   clear hc0 hc1 hc2 hc3 hc4 hj1 hj2 HJ
   go_loopg [9] (l.length + 1) (fun kq v9 w' => ∃ j : Nat, v9 = .int .i64 (j : Int) ∧ Az (j + kq = l.length + 1 ∧ j ≤ l.length) ∧ Az (RunK w w' AL l g5 X1 Y1 b1 X2 Y2 w1 X3 Y3 f1 X4 Y4 e1 X5 Y5 t1))
   case atStart => exact ⟨0, rfl, ⟨by omega, by omega⟩, HK⟩
   case round =>
    clear HK
    obtain ⟨i, rfl, HJ, HK⟩ := hrel
    obtain ⟨hc0, hc1, hc2, hc3, hc4⟩ := cells5 HK.out.bx
    by_cases hj : i < l.length
    ·have hj1 : decide ((i : Int) < (l.length : Int)) = true := decide_eq_true (by omega)
     have hj2 : (i < l.length) = True := eq_true hj
     obtain ⟨q, hq, hqt, hq2⟩ := HZ.out i hj
     obtain ⟨adl, el, hx⟩ := at_nat HK.out.li hj hq
     subst el
     obtain ⟨ad5, e5, hy⟩ := at_nat HK.out.rw_.c5 hqt rfl
     subst e5
     have hq3 : decide ((q : Int) < (t1.length : Int)) = true := decide_eq_true (by omega)
     have hq4 : (q < t1.length) = True := eq_true hqt
     have hwr : wrap64 ((i : Int) + 1) = ((i + 1 : Nat) : Int) := by have := HLL.out; unfold wrap64; omega
     have HWR := Az.mk hwr
     have HJL := Az.mk hj
     clear hq hqt hwr hj
     rcases hq2 with hq2 | ⟨hn2, hn1, hqf⟩
     ·rw [hq2] at hy
      clear hq2
      go_wp2_with fail
      refine start_ (n := 30) (S := fun w' => w'.cell? ⟨g5, 4, none⟩ = some (.slice (some ad5) t1.length Y5) ∧ w'.cell? (adl.add i) = some (.int .i64 (q : Int)) ∧ w'.cell? (ad5.add q) = some (.int .i64 2)) (ds := []) #[false, false, false, false, false, false, false, false, false, false, false, false, false, false, false, false, false, false, false, false, false, false, false, false, false, false, false, false, false, false] (by kernel_rfl) rfl rfl ⟨hc4, hx, hy⟩ (fun hHeld => ?_)
      have n0_ := Az.mk (HK.out.below (below_drew (Below.refl _ _)))
      clear HK hc0 hc1 hc2 hc3 hc4 hx hy
      have HK := n0_
      clear n0_
      generalize World.drew _ = wl at HK hHeld ⊢
      refine pure_ (i := 0) (N := some 82) (v := ?_) (a' := ?_) #[true, false, false, false, false, false, false, false, false, false, false, false, false, false, false, false, false, false, false, false, false, false, false, false, false, false, false, false, false, false] rfl rfl (by kernel_rfl) (fun _ _ _ h => h) (Or.inl ⟨by rfl, ?_⟩) ?_ ?_
      rotate_left
      ·intro w'
       go_simp
       with_reducible rfl
      rotate_left
      ·simp only [Act.put, List.setIfInBounds_toArray, List.set_cons_zero, List.set_cons_succ, i64_w, i32_w]
       rfl
      refine pure_ (i := 2) (N := some 84) (v := ?_) (a' := ?_) #[true, false, true, false, false, false, false, false, false, false, false, false, false, false, false, false, false, false, false, false, false, false, false, false, false, false, false, false, false, false] rfl rfl (by kernel_rfl) (fun _ _ _ h => h) (Or.inl ⟨by rfl, ?_⟩) ?_ ?_
      rotate_left
      ·intro w'
       go_simp
       with_reducible rfl
      rotate_left
      ·simp only [Act.put, List.setIfInBounds_toArray, List.set_cons_zero, List.set_cons_succ, i64_w, i32_w]
       rfl
      refine pure_ (i := 3) (N := some 85) (v := ?_) (a' := ?_) #[true, false, true, true, false, false, false, false, false, false, false, false, false, false, false, false, false, false, false, false, false, false, false, false, false, false, false, false, false, false] rfl rfl (by kernel_rfl) (fun _ _ _ h => h) (Or.inl ⟨by rfl, ?_⟩) ?_ ?_
      rotate_left
      ·intro w'
       go_simp
       with_reducible rfl
      rotate_left
      ·simp only [Act.put, List.setIfInBounds_toArray, List.set_cons_zero, List.set_cons_succ, i64_w, i32_w]
       rfl
      refine pure_ (i := 4) (N := some 86) (v := ?_) (a' := ?_) #[true, false, true, true, true, false, false, false, false, false, false, false, false, false, false, false, false, false, false, false, false, false, false, false, false, false, false, false, false, false] rfl rfl (by kernel_rfl) (fun _ _ _ h => h) (Or.inl ⟨by rfl, ?_⟩) ?_ ?_
      rotate_left
      ·intro w'
       go_simp
       with_reducible rfl
      rotate_left
      ·simp only [Act.put, List.setIfInBounds_toArray, List.set_cons_zero, List.set_cons_succ, i64_w, i32_w]
       rfl
      refine take_ (i := 1) (N := some 83) (v := ?_) (a' := ?_) #[true, true, true, true, true, false, false, false, false, false, false, false, false, false, false, false, false, false, false, false, false, false, false, false, false, false, false, false, false, false] rfl rfl (by kernel_rfl) (fun _ _ _ h => h) (Or.inl ⟨by rfl, ?_⟩) hHeld ?_ ?_
      rotate_left
      ·rintro w' ⟨s0, s1, s2⟩
       go_simp
       with_reducible rfl
      rotate_left
      ·simp only [Act.put, List.setIfInBounds_toArray, List.set_cons_zero, List.set_cons_succ, i64_w, i32_w]
       rfl
      refine take_ (i := 5) (N := some 87) (v := ?_) (a' := ?_) #[true, true, true, true, true, true, false, false, false, false, false, false, false, false, false, false, false, false, false, false, false, false, false, false, false, false, false, false, false, false] rfl rfl (by kernel_rfl) (fun _ _ _ h => h) (Or.inl ⟨by rfl, ?_⟩) hHeld ?_ ?_
      rotate_left
      ·rintro w' ⟨s0, s1, s2⟩
       go_simp
       with_reducible rfl
      rotate_left
      ·simp only [Act.put, List.setIfInBounds_toArray, List.set_cons_zero, List.set_cons_succ, i64_w, i32_w]
       rfl
      refine pure_ (i := 6) (N := some 88) (v := ?_) (a' := ?_) #[true, true, true, true, true, true, true, false, false, false, false, false, false, false, false, false, false, false, false, false, false, false, false, false, false, false, false, false, false, false] rfl rfl (by kernel_rfl) (fun _ _ _ h => h) (Or.inl ⟨by rfl, ?_⟩) ?_ ?_
      rotate_left
      ·intro w'
       go_simp
       with_reducible rfl
      rotate_left
      ·simp only [Act.put, List.setIfInBounds_toArray, List.set_cons_zero, List.set_cons_succ, i64_w, i32_w]
       rfl
      refine take_ (i := 7) (N := some 89) (v := ?_) (a' := ?_) #[true, true, true, true, true, true, true, true, false, false, false, false, false, false, false, false, false, false, false, false, false, false, false, false, false, false, false, false, false, false] rfl rfl (by kernel_rfl) (fun _ _ _ h => h) (Or.inl ⟨by rfl, ?_⟩) hHeld ?_ ?_
      rotate_left
      ·rintro w' ⟨s0, s1, s2⟩
       go_simp
       with_reducible rfl
      rotate_left
      ·simp only [Act.put, List.setIfInBounds_toArray, List.set_cons_zero, List.set_cons_succ, i64_w, i32_w]
       rfl
      refine pure_ (i := 8) (N := some 90) (v := ?_) (a' := ?_) #[true, true, true, true, true, true, true, true, true, false, false, false, false, false, false, false, false, false, false, false, false, false, false, false, false, false, false, false, false, false] rfl rfl (by kernel_rfl) (fun _ _ _ h => h) (Or.inl ⟨by rfl, ?_⟩) ?_ ?_
      rotate_left
      ·intro w'
       go_simp
       with_reducible rfl
      rotate_left
      ·simp only [Act.put, List.setIfInBounds_toArray, List.set_cons_zero, List.set_cons_succ, i64_w, i32_w]
       rfl
      refine pure_ (i := 9) (N := some 91) (v := ?_) (a' := ?_) #[true, true, true, true, true, true, true, true, true, true, false, false, false, false, false, false, false, false, false, false, false, false, false, false, false, false, false, false, false, false] rfl rfl (by kernel_rfl) (fun _ _ _ h => h) (Or.inl ⟨by rfl, ?_⟩) ?_ ?_
      rotate_left
      ·intro w'
       go_simp
       with_reducible rfl
      rotate_left
      ·simp only [Act.put, List.setIfInBounds_toArray, List.set_cons_zero, List.set_cons_succ, i64_w, i32_w]
       rfl
      refine pure_ (i := 10) (N := some 92) (v := ?_) (a' := ?_) #[true, true, true, true, true, true, true, true, true, true, true, false, false, false, false, false, false, false, false, false, false, false, false, false, false, false, false, false, false, false] rfl rfl (by kernel_rfl) (fun _ _ _ h => h) (Or.inl ⟨by rfl, ?_⟩) ?_ ?_
      rotate_left
      ·intro w'
       go_simp
       with_reducible rfl
      rotate_left
      ·simp only [Act.put, List.setIfInBounds_toArray, List.set_cons_zero, List.set_cons_succ, i64_w, i32_w]
       rfl
      refine pure_ (i := 12) (N := some 94) (v := ?_) (a' := ?_) #[true, true, true, true, true, true, true, true, true, true, true, false, true, false, false, false, false, false, false, false, false, false, false, false, false, false, false, false, false, false] rfl rfl (by kernel_rfl) (fun _ _ _ h => h) (Or.inl ⟨by rfl, ?_⟩) ?_ ?_
      rotate_left
      ·intro w'
       go_simp
       with_reducible rfl
      rotate_left
      ·simp only [Act.put, List.setIfInBounds_toArray, List.set_cons_zero, List.set_cons_succ, i64_w, i32_w]
       rfl
      refine pure_ (i := 13) (N := some 95) (v := ?_) (a' := ?_) #[true, true, true, true, true, true, true, true, true, true, true, false, true, true, false, false, false, false, false, false, false, false, false, false, false, false, false, false, false, false] rfl rfl (by kernel_rfl) (fun _ _ _ h => h) (Or.inl ⟨by rfl, ?_⟩) ?_ ?_
      rotate_left
      ·intro w'
       go_simp
       with_reducible rfl
      rotate_left
      ·simp only [Act.put, List.setIfInBounds_toArray, List.set_cons_zero, List.set_cons_succ, i64_w, i32_w]
       rfl
      refine pure_ (i := 14) (N := some 96) (v := ?_) (a' := ?_) #[true, true, true, true, true, true, true, true, true, true, true, false, true, true, true, false, false, false, false, false, false, false, false, false, false, false, false, false, false, false] rfl rfl (by kernel_rfl) (fun _ _ _ h => h) (Or.inl ⟨by rfl, ?_⟩) ?_ ?_
      rotate_left
      ·intro w'
       go_simp
       with_reducible rfl
      rotate_left
      ·simp only [Act.put, List.setIfInBounds_toArray, List.set_cons_zero, List.set_cons_succ, i64_w, i32_w]
       rfl
      refine take_ (i := 11) (N := some 93) (v := ?_) (a' := ?_) #[true, true, true, true, true, true, true, true, true, true, true, true, true, true, true, false, false, false, false, false, false, false, false, false, false, false, false, false, false, false] rfl rfl (by kernel_rfl) (fun _ _ _ h => h) (Or.inl ⟨by rfl, ?_⟩) hHeld ?_ ?_
      rotate_left
      ·rintro w' ⟨s0, s1, s2⟩
       go_simp
       with_reducible rfl
      rotate_left
      ·simp only [Act.put, List.setIfInBounds_toArray, List.set_cons_zero, List.set_cons_succ, i64_w, i32_w]
       rfl
      refine take_ (i := 15) (N := some 97) (v := ?_) (a' := ?_) #[true, true, true, true, true, true, true, true, true, true, true, true, true, true, true, true, false, false, false, false, false, false, false, false, false, false, false, false, false, false] rfl rfl (by kernel_rfl) (fun _ _ _ h => h) (Or.inl ⟨by rfl, ?_⟩) hHeld ?_ ?_
      rotate_left
      ·rintro w' ⟨s0, s1, s2⟩
       go_simp
       with_reducible rfl
      rotate_left
      ·simp only [Act.put, List.setIfInBounds_toArray, List.set_cons_zero, List.set_cons_succ, i64_w, i32_w]
       rfl
      refine pure_ (i := 16) (N := some 98) (v := ?_) (a' := ?_) #[true, true, true, true, true, true, true, true, true, true, true, true, true, true, true, true, true, false, false, false, false, false, false, false, false, false, false, false, false, false] rfl rfl (by kernel_rfl) (fun _ _ _ h => h) (Or.inl ⟨by rfl, ?_⟩) ?_ ?_
      rotate_left
      ·intro w'
       go_simp
       with_reducible rfl
      rotate_left
      ·simp only [Act.put, List.setIfInBounds_toArray, List.set_cons_zero, List.set_cons_succ, i64_w, i32_w]
       rfl
      refine take_ (i := 17) (N := some 99) (v := ?_) (a' := ?_) #[true, true, true, true, true, true, true, true, true, true, true, true, true, true, true, true, true, true, false, false, false, false, false, false, false, false, false, false, false, false] rfl rfl (by kernel_rfl) (fun _ _ _ h => h) (Or.inl ⟨by rfl, ?_⟩) hHeld ?_ ?_
      rotate_left
      ·rintro w' ⟨s0, s1, s2⟩
       go_simp
       with_reducible rfl
      rotate_left
      ·simp only [Act.put, List.setIfInBounds_toArray, List.set_cons_zero, List.set_cons_succ, i64_w, i32_w]
       rfl
      refine pure_ (i := 18) (N := some 100) (v := ?_) (a' := ?_) #[true, true, true, true, true, true, true, true, true, true, true, true, true, true, true, true, true, true, true, false, false, false, false, false, false, false, false, false, false, false] rfl rfl (by kernel_rfl) (fun _ _ _ h => h) (Or.inl ⟨by rfl, ?_⟩) ?_ ?_
      rotate_left
      ·intro w'
       go_simp
       with_reducible rfl
      rotate_left
      ·simp only [Act.put, List.setIfInBounds_toArray, List.set_cons_zero, List.set_cons_succ, i64_w, i32_w]
       rfl
      refine pure_ (i := 19) (N := some 101) (v := ?_) (a' := ?_) #[true, true, true, true, true, true, true, true, true, true, true, true, true, true, true, true, true, true, true, true, false, false, false, false, false, false, false, false, false, false] rfl rfl (by kernel_rfl) (fun _ _ _ h => h) (Or.inl ⟨by rfl, ?_⟩) ?_ ?_
      rotate_left
      ·intro w'
       go_simp
       with_reducible rfl
      rotate_left
      ·simp only [Act.put, List.setIfInBounds_toArray, List.set_cons_zero, List.set_cons_succ, i64_w, i32_w]
       rfl
      refine pure_ (i := 20) (N := some 102) (v := undef) (a' := ?_) #[true, true, true, true, true, true, true, true, true, true, true, true, true, true, true, true, true, true, true, true, true, false, false, false, false, false, false, false, false, false] rfl rfl (by kernel_rfl) (fun _ _ _ h => h) (Or.inr ⟨by rfl, rfl⟩) ?_ ?_
      rotate_left
      ·simp only [Act.put, List.setIfInBounds_toArray, List.set_cons_zero, List.set_cons_succ, i64_w, i32_w]
       rfl
      refine pure_ (i := 21) (N := some 103) (v := undef) (a' := ?_) #[true, true, true, true, true, true, true, true, true, true, true, true, true, true, true, true, true, true, true, true, true, true, false, false, false, false, false, false, false, false] rfl rfl (by kernel_rfl) (fun _ _ _ h => h) (Or.inr ⟨by rfl, rfl⟩) ?_ ?_
      rotate_left
      ·simp only [Act.put, List.setIfInBounds_toArray, List.set_cons_zero, List.set_cons_succ, i64_w, i32_w]
       rfl
      refine pure_ (i := 22) (N := some 104) (v := undef) (a' := ?_) #[true, true, true, true, true, true, true, true, true, true, true, true, true, true, true, true, true, true, true, true, true, true, true, false, false, false, false, false, false, false] rfl rfl (by kernel_rfl) (fun _ _ _ h => h) (Or.inr ⟨by rfl, rfl⟩) ?_ ?_
      rotate_left
      ·simp only [Act.put, List.setIfInBounds_toArray, List.set_cons_zero, List.set_cons_succ, i64_w, i32_w]
       rfl
      refine pure_ (i := 23) (N := some 105) (v := undef) (a' := ?_) #[true, true, true, true, true, true, true, true, true, true, true, true, true, true, true, true, true, true, true, true, true, true, true, true, false, false, false, false, false, false] rfl rfl (by kernel_rfl) (fun _ _ _ h => h) (Or.inr ⟨by rfl, rfl⟩) ?_ ?_
      rotate_left
      ·simp only [Act.put, List.setIfInBounds_toArray, List.set_cons_zero, List.set_cons_succ, i64_w, i32_w]
       rfl
      refine pure_ (i := 24) (N := some 106) (v := undef) (a' := ?_) #[true, true, true, true, true, true, true, true, true, true, true, true, true, true, true, true, true, true, true, true, true, true, true, true, true, false, false, false, false, false] rfl rfl (by kernel_rfl) (fun _ _ _ h => h) (Or.inr ⟨by rfl, rfl⟩) ?_ ?_
      rotate_left
      ·simp only [Act.put, List.setIfInBounds_toArray, List.set_cons_zero, List.set_cons_succ, i64_w, i32_w]
       rfl
      refine pure_ (i := 25) (N := some 107) (v := undef) (a' := ?_) #[true, true, true, true, true, true, true, true, true, true, true, true, true, true, true, true, true, true, true, true, true, true, true, true, true, true, false, false, false, false] rfl rfl (by kernel_rfl) (fun _ _ _ h => h) (Or.inr ⟨by rfl, rfl⟩) ?_ ?_
      rotate_left
      ·simp only [Act.put, List.setIfInBounds_toArray, List.set_cons_zero, List.set_cons_succ, i64_w, i32_w]
       rfl
      refine pure_ (i := 26) (N := some 108) (v := undef) (a' := ?_) #[true, true, true, true, true, true, true, true, true, true, true, true, true, true, true, true, true, true, true, true, true, true, true, true, true, true, true, false, false, false] rfl rfl (by kernel_rfl) (fun _ _ _ h => h) (Or.inr ⟨by rfl, rfl⟩) ?_ ?_
      rotate_left
      ·simp only [Act.put, List.setIfInBounds_toArray, List.set_cons_zero, List.set_cons_succ, i64_w, i32_w]
       rfl
      refine pure_ (i := 27) (N := some 109) (v := undef) (a' := ?_) #[true, true, true, true, true, true, true, true, true, true, true, true, true, true, true, true, true, true, true, true, true, true, true, true, true, true, true, true, false, false] rfl rfl (by kernel_rfl) (fun _ _ _ h => h) (Or.inr ⟨by rfl, rfl⟩) ?_ ?_
      rotate_left
      ·simp only [Act.put, List.setIfInBounds_toArray, List.set_cons_zero, List.set_cons_succ, i64_w, i32_w]
       rfl
      refine pure_ (i := 28) (N := some 110) (v := ?_) (a' := ?_) #[true, true, true, true, true, true, true, true, true, true, true, true, true, true, true, true, true, true, true, true, true, true, true, true, true, true, true, true, true, false] rfl rfl (by kernel_rfl) (fun _ _ _ h => h) (Or.inl ⟨by rfl, ?_⟩) ?_ ?_
      rotate_left
      ·intro w'
       go_simp
       with_reducible rfl
      rotate_left
      ·simp only [Act.put, List.setIfInBounds_toArray, List.set_cons_zero, List.set_cons_succ, i64_w, i32_w]
       rfl
      refine pure_ (i := 29) (N := some 111) (v := ?_) (a' := ?_) #[true, true, true, true, true, true, true, true, true, true, true, true, true, true, true, true, true, true, true, true, true, true, true, true, true, true, true, true, true, true] rfl rfl (by kernel_rfl) (fun _ _ _ h => h) (Or.inl ⟨by rfl, ?_⟩) ?_ ?_
      rotate_left
      ·intro w'
       go_simp
       with_reducible rfl
      rotate_left
      ·simp only [Act.put, List.setIfInBounds_toArray, List.set_cons_zero, List.set_cons_succ, i64_w, i32_w]
       rfl
      refine done_ (by kernel_rfl) ?_
      clear hHeld
      clear hq3 hq4
      go_wp2_with fail
      go_roundg (gk - 1)
      case measure => have := HJ.out; omega
      case rel => exact ⟨i + 1, (by first | rfl | (rw [HWR.out]) | (simp [HWR.out])), ⟨by have := HJ.out; omega, by have := HJL.out; omega⟩, HK⟩
     ·have hv1 : (rd t1 (q : Int) == 1) = false := beq_eq_false_iff_ne.2 hn1
      have hv2 : (rd t1 (q : Int) != 2) = true := bne_iff_ne.2 hn2
      have hv3 : (rd t1 (q : Int) = 1) = False := eq_false hn1
      have hv4 : (rd t1 (q : Int) = 2) = False := eq_false hn2
      have HQF := Az.mk hqf
      clear hn2 hn1 hqf
      go_wp2_with fail
      refine start_ (n := 30) (S := fun w' => w'.cell? ⟨g5, 4, none⟩ = some (.slice (some ad5) t1.length Y5) ∧ w'.cell? (adl.add i) = some (.int .i64 (q : Int)) ∧ w'.cell? (ad5.add q) = some (.int .i64 (rd t1 (q : Int))) ∧ w'.cell? ⟨g5, 2, none⟩ = some (.slice X3 f1.length Y3)) (ds := []) #[false, false, false, false, false, false, false, false, false, false, false, false, false, false, false, false, false, false, false, false, false, false, false, false, false, false, false, false, false, false] (by kernel_rfl) rfl rfl ⟨hc4, hx, hy, hc2⟩ (fun hHeld => ?_)
      have n0_ := Az.mk (HK.out.below (below_drew (Below.refl _ _)))
      clear HK hc0 hc1 hc2 hc3 hc4 hx hy
      have HK := n0_
      clear n0_
      generalize World.drew _ = wl at HK hHeld ⊢
      refine pure_ (i := 0) (N := some 82) (v := ?_) (a' := ?_) #[true, false, false, false, false, false, false, false, false, false, false, false, false, false, false, false, false, false, false, false, false, false, false, false, false, false, false, false, false, false] rfl rfl (by kernel_rfl) (fun _ _ _ h => h) (Or.inl ⟨by rfl, ?_⟩) ?_ ?_
      rotate_left
      ·intro w'
       go_simp
       with_reducible rfl
      rotate_left
      ·simp only [Act.put, List.setIfInBounds_toArray, List.set_cons_zero, List.set_cons_succ, i64_w, i32_w]
       rfl
      refine pure_ (i := 2) (N := some 84) (v := ?_) (a' := ?_) #[true, false, true, false, false, false, false, false, false, false, false, false, false, false, false, false, false, false, false, false, false, false, false, false, false, false, false, false, false, false] rfl rfl (by kernel_rfl) (fun _ _ _ h => h) (Or.inl ⟨by rfl, ?_⟩) ?_ ?_
      rotate_left
      ·intro w'
       go_simp
       with_reducible rfl
      rotate_left
      ·simp only [Act.put, List.setIfInBounds_toArray, List.set_cons_zero, List.set_cons_succ, i64_w, i32_w]
       rfl
      refine pure_ (i := 3) (N := some 85) (v := ?_) (a' := ?_) #[true, false, true, true, false, false, false, false, false, false, false, false, false, false, false, false, false, false, false, false, false, false, false, false, false, false, false, false, false, false] rfl rfl (by kernel_rfl) (fun _ _ _ h => h) (Or.inl ⟨by rfl, ?_⟩) ?_ ?_
      rotate_left
      ·intro w'
       go_simp
       with_reducible rfl
      rotate_left
      ·simp only [Act.put, List.setIfInBounds_toArray, List.set_cons_zero, List.set_cons_succ, i64_w, i32_w]
       rfl
      refine pure_ (i := 4) (N := some 86) (v := ?_) (a' := ?_) #[true, false, true, true, true, false, false, false, false, false, false, false, false, false, false, false, false, false, false, false, false, false, false, false, false, false, false, false, false, false] rfl rfl (by kernel_rfl) (fun _ _ _ h => h) (Or.inl ⟨by rfl, ?_⟩) ?_ ?_
      rotate_left
      ·intro w'
       go_simp
       with_reducible rfl
      rotate_left
      ·simp only [Act.put, List.setIfInBounds_toArray, List.set_cons_zero, List.set_cons_succ, i64_w, i32_w]
       rfl
      refine take_ (i := 1) (N := some 83) (v := ?_) (a' := ?_) #[true, true, true, true, true, false, false, false, false, false, false, false, false, false, false, false, false, false, false, false, false, false, false, false, false, false, false, false, false, false] rfl rfl (by kernel_rfl) (fun _ _ _ h => h) (Or.inl ⟨by rfl, ?_⟩) hHeld ?_ ?_
      rotate_left
      ·rintro w' ⟨s0, s1, s2, s3⟩
       go_simp
       with_reducible rfl
      rotate_left
      ·simp only [Act.put, List.setIfInBounds_toArray, List.set_cons_zero, List.set_cons_succ, i64_w, i32_w]
       rfl
      refine take_ (i := 5) (N := some 87) (v := ?_) (a' := ?_) #[true, true, true, true, true, true, false, false, false, false, false, false, false, false, false, false, false, false, false, false, false, false, false, false, false, false, false, false, false, false] rfl rfl (by kernel_rfl) (fun _ _ _ h => h) (Or.inl ⟨by rfl, ?_⟩) hHeld ?_ ?_
      rotate_left
      ·rintro w' ⟨s0, s1, s2, s3⟩
       go_simp
       with_reducible rfl
      rotate_left
      ·simp only [Act.put, List.setIfInBounds_toArray, List.set_cons_zero, List.set_cons_succ, i64_w, i32_w]
       rfl
      refine pure_ (i := 6) (N := some 88) (v := ?_) (a' := ?_) #[true, true, true, true, true, true, true, false, false, false, false, false, false, false, false, false, false, false, false, false, false, false, false, false, false, false, false, false, false, false] rfl rfl (by kernel_rfl) (fun _ _ _ h => h) (Or.inl ⟨by rfl, ?_⟩) ?_ ?_
      rotate_left
      ·intro w'
       go_simp
       with_reducible rfl
      rotate_left
      ·simp only [Act.put, List.setIfInBounds_toArray, List.set_cons_zero, List.set_cons_succ, i64_w, i32_w]
       rfl
      refine take_ (i := 7) (N := some 89) (v := ?_) (a' := ?_) #[true, true, true, true, true, true, true, true, false, false, false, false, false, false, false, false, false, false, false, false, false, false, false, false, false, false, false, false, false, false] rfl rfl (by kernel_rfl) (fun _ _ _ h => h) (Or.inl ⟨by rfl, ?_⟩) hHeld ?_ ?_
      rotate_left
      ·rintro w' ⟨s0, s1, s2, s3⟩
       go_simp
       with_reducible rfl
      rotate_left
      ·simp only [Act.put, List.setIfInBounds_toArray, List.set_cons_zero, List.set_cons_succ, i64_w, i32_w]
       rfl
      refine pure_ (i := 8) (N := some 90) (v := ?_) (a' := ?_) #[true, true, true, true, true, true, true, true, true, false, false, false, false, false, false, false, false, false, false, false, false, false, false, false, false, false, false, false, false, false] rfl rfl (by kernel_rfl) (fun _ _ _ h => h) (Or.inl ⟨by rfl, ?_⟩) ?_ ?_
      rotate_left
      ·intro w'
       go_simp
       with_reducible rfl
      rotate_left
      ·simp only [Act.put, List.setIfInBounds_toArray, List.set_cons_zero, List.set_cons_succ, i64_w, i32_w]
       rfl
      refine pure_ (i := 9) (N := some 91) (v := ?_) (a' := ?_) #[true, true, true, true, true, true, true, true, true, true, false, false, false, false, false, false, false, false, false, false, false, false, false, false, false, false, false, false, false, false] rfl rfl (by kernel_rfl) (fun _ _ _ h => h) (Or.inl ⟨by rfl, ?_⟩) ?_ ?_
      rotate_left
      ·intro w'
       go_simp
       with_reducible rfl
      rotate_left
      ·simp only [Act.put, List.setIfInBounds_toArray, List.set_cons_zero, List.set_cons_succ, i64_w, i32_w]
       rfl
      refine pure_ (i := 10) (N := some 92) (v := ?_) (a' := ?_) #[true, true, true, true, true, true, true, true, true, true, true, false, false, false, false, false, false, false, false, false, false, false, false, false, false, false, false, false, false, false] rfl rfl (by kernel_rfl) (fun _ _ _ h => h) (Or.inl ⟨by rfl, ?_⟩) ?_ ?_
      rotate_left
      ·intro w'
       go_simp
       with_reducible rfl
      rotate_left
      ·simp only [Act.put, List.setIfInBounds_toArray, List.set_cons_zero, List.set_cons_succ, i64_w, i32_w]
       rfl
      refine pure_ (i := 12) (N := some 94) (v := ?_) (a' := ?_) #[true, true, true, true, true, true, true, true, true, true, true, false, true, false, false, false, false, false, false, false, false, false, false, false, false, false, false, false, false, false] rfl rfl (by kernel_rfl) (fun _ _ _ h => h) (Or.inl ⟨by rfl, ?_⟩) ?_ ?_
      rotate_left
      ·intro w'
       go_simp
       with_reducible rfl
      rotate_left
      ·simp only [Act.put, List.setIfInBounds_toArray, List.set_cons_zero, List.set_cons_succ, i64_w, i32_w]
       rfl
      refine pure_ (i := 13) (N := some 95) (v := ?_) (a' := ?_) #[true, true, true, true, true, true, true, true, true, true, true, false, true, true, false, false, false, false, false, false, false, false, false, false, false, false, false, false, false, false] rfl rfl (by kernel_rfl) (fun _ _ _ h => h) (Or.inl ⟨by rfl, ?_⟩) ?_ ?_
      rotate_left
      ·intro w'
       go_simp
       with_reducible rfl
      rotate_left
      ·simp only [Act.put, List.setIfInBounds_toArray, List.set_cons_zero, List.set_cons_succ, i64_w, i32_w]
       rfl
      refine pure_ (i := 14) (N := some 96) (v := ?_) (a' := ?_) #[true, true, true, true, true, true, true, true, true, true, true, false, true, true, true, false, false, false, false, false, false, false, false, false, false, false, false, false, false, false] rfl rfl (by kernel_rfl) (fun _ _ _ h => h) (Or.inl ⟨by rfl, ?_⟩) ?_ ?_
      rotate_left
      ·intro w'
       go_simp
       with_reducible rfl
      rotate_left
      ·simp only [Act.put, List.setIfInBounds_toArray, List.set_cons_zero, List.set_cons_succ, i64_w, i32_w]
       rfl
      refine take_ (i := 11) (N := some 93) (v := ?_) (a' := ?_) #[true, true, true, true, true, true, true, true, true, true, true, true, true, true, true, false, false, false, false, false, false, false, false, false, false, false, false, false, false, false] rfl rfl (by kernel_rfl) (fun _ _ _ h => h) (Or.inl ⟨by rfl, ?_⟩) hHeld ?_ ?_
      rotate_left
      ·rintro w' ⟨s0, s1, s2, s3⟩
       go_simp
       with_reducible rfl
      rotate_left
      ·simp only [Act.put, List.setIfInBounds_toArray, List.set_cons_zero, List.set_cons_succ, i64_w, i32_w]
       rfl
      refine take_ (i := 15) (N := some 97) (v := ?_) (a' := ?_) #[true, true, true, true, true, true, true, true, true, true, true, true, true, true, true, true, false, false, false, false, false, false, false, false, false, false, false, false, false, false] rfl rfl (by kernel_rfl) (fun _ _ _ h => h) (Or.inl ⟨by rfl, ?_⟩) hHeld ?_ ?_
      rotate_left
      ·rintro w' ⟨s0, s1, s2, s3⟩
       go_simp
       with_reducible rfl
      rotate_left
      ·simp only [Act.put, List.setIfInBounds_toArray, List.set_cons_zero, List.set_cons_succ, i64_w, i32_w]
       rfl
      refine pure_ (i := 16) (N := some 98) (v := ?_) (a' := ?_) #[true, true, true, true, true, true, true, true, true, true, true, true, true, true, true, true, true, false, false, false, false, false, false, false, false, false, false, false, false, false] rfl rfl (by kernel_rfl) (fun _ _ _ h => h) (Or.inl ⟨by rfl, ?_⟩) ?_ ?_
      rotate_left
      ·intro w'
       go_simp
       with_reducible rfl
      rotate_left
      ·simp only [Act.put, List.setIfInBounds_toArray, List.set_cons_zero, List.set_cons_succ, i64_w, i32_w]
       rfl
      refine take_ (i := 17) (N := some 99) (v := ?_) (a' := ?_) #[true, true, true, true, true, true, true, true, true, true, true, true, true, true, true, true, true, true, false, false, false, false, false, false, false, false, false, false, false, false] rfl rfl (by kernel_rfl) (fun _ _ _ h => h) (Or.inl ⟨by rfl, ?_⟩) hHeld ?_ ?_
      rotate_left
      ·rintro w' ⟨s0, s1, s2, s3⟩
       go_simp
       with_reducible rfl
      rotate_left
      ·simp only [Act.put, List.setIfInBounds_toArray, List.set_cons_zero, List.set_cons_succ, i64_w, i32_w]
       rfl
      refine pure_ (i := 18) (N := some 100) (v := ?_) (a' := ?_) #[true, true, true, true, true, true, true, true, true, true, true, true, true, true, true, true, true, true, true, false, false, false, false, false, false, false, false, false, false, false] rfl rfl (by kernel_rfl) (fun _ _ _ h => h) (Or.inl ⟨by rfl, ?_⟩) ?_ ?_
      rotate_left
      ·intro w'
       go_simp
       with_reducible rfl
      rotate_left
      ·simp only [Act.put, List.setIfInBounds_toArray, List.set_cons_zero, List.set_cons_succ, i64_w, i32_w]
       rfl
      refine pure_ (i := 19) (N := some 101) (v := ?_) (a' := ?_) #[true, true, true, true, true, true, true, true, true, true, true, true, true, true, true, true, true, true, true, true, false, false, false, false, false, false, false, false, false, false] rfl rfl (by kernel_rfl) (fun _ _ _ h => h) (Or.inl ⟨by rfl, ?_⟩) ?_ ?_
      rotate_left
      ·intro w'
       go_simp
       with_reducible rfl
      rotate_left
      ·simp only [Act.put, List.setIfInBounds_toArray, List.set_cons_zero, List.set_cons_succ, i64_w, i32_w]
       rfl
      refine pure_ (i := 20) (N := some 102) (v := ?_) (a' := ?_) #[true, true, true, true, true, true, true, true, true, true, true, true, true, true, true, true, true, true, true, true, true, false, false, false, false, false, false, false, false, false] rfl rfl (by kernel_rfl) (fun _ _ _ h => h) (Or.inl ⟨by rfl, ?_⟩) ?_ ?_
      rotate_left
      ·intro w'
       go_simp
       with_reducible rfl
      rotate_left
      ·simp only [Act.put, List.setIfInBounds_toArray, List.set_cons_zero, List.set_cons_succ, i64_w, i32_w]
       rfl
      refine pure_ (i := 22) (N := some 104) (v := ?_) (a' := ?_) #[true, true, true, true, true, true, true, true, true, true, true, true, true, true, true, true, true, true, true, true, true, false, true, false, false, false, false, false, false, false] rfl rfl (by kernel_rfl) (fun _ _ _ h => h) (Or.inl ⟨by rfl, ?_⟩) ?_ ?_
      rotate_left
      ·intro w'
       go_simp
       with_reducible rfl
      rotate_left
      ·simp only [Act.put, List.setIfInBounds_toArray, List.set_cons_zero, List.set_cons_succ, i64_w, i32_w]
       rfl
      refine pure_ (i := 23) (N := some 105) (v := ?_) (a' := ?_) #[true, true, true, true, true, true, true, true, true, true, true, true, true, true, true, true, true, true, true, true, true, false, true, true, false, false, false, false, false, false] rfl rfl (by kernel_rfl) (fun _ _ _ h => h) (Or.inl ⟨by rfl, ?_⟩) ?_ ?_
      rotate_left
      ·intro w'
       go_simp
       with_reducible rfl
      rotate_left
      ·simp only [Act.put, List.setIfInBounds_toArray, List.set_cons_zero, List.set_cons_succ, i64_w, i32_w]
       rfl
      refine pure_ (i := 24) (N := some 106) (v := ?_) (a' := ?_) #[true, true, true, true, true, true, true, true, true, true, true, true, true, true, true, true, true, true, true, true, true, false, true, true, true, false, false, false, false, false] rfl rfl (by kernel_rfl) (fun _ _ _ h => h) (Or.inl ⟨by rfl, ?_⟩) ?_ ?_
      rotate_left
      ·intro w'
       go_simp
       with_reducible rfl
      rotate_left
      ·simp only [Act.put, List.setIfInBounds_toArray, List.set_cons_zero, List.set_cons_succ, i64_w, i32_w]
       rfl
      refine take_ (i := 21) (N := some 103) (v := ?_) (a' := ?_) #[true, true, true, true, true, true, true, true, true, true, true, true, true, true, true, true, true, true, true, true, true, true, true, true, true, false, false, false, false, false] rfl rfl (by kernel_rfl) (fun _ _ _ h => h) (Or.inl ⟨by rfl, ?_⟩) hHeld ?_ ?_
      rotate_left
      ·rintro w' ⟨s0, s1, s2, s3⟩
       go_simp
       with_reducible rfl
      rotate_left
      ·simp only [Act.put, List.setIfInBounds_toArray, List.set_cons_zero, List.set_cons_succ, i64_w, i32_w]
       rfl
      refine take_ (i := 25) (N := some 107) (v := ?_) (a' := ?_) #[true, true, true, true, true, true, true, true, true, true, true, true, true, true, true, true, true, true, true, true, true, true, true, true, true, true, false, false, false, false] rfl rfl (by kernel_rfl) (fun _ _ _ h => h) (Or.inl ⟨by rfl, ?_⟩) hHeld ?_ ?_
      rotate_left
      ·rintro w' ⟨s0, s1, s2, s3⟩
       go_simp
       with_reducible rfl
      rotate_left
      ·simp only [Act.put, List.setIfInBounds_toArray, List.set_cons_zero, List.set_cons_succ, i64_w, i32_w]
       rfl
      refine one_ (i := 26) (N := some 108) #[true, true, true, true, true, true, true, true, true, true, true, true, true, true, true, true, true, true, true, true, true, true, true, true, true, true, true, false, false, false] rfl rfl (by kernel_rfl) (by decide) (fun K hK => ?_)
      refine goes_ Try.func42 (by kernel_rfl) rfl #[.slice X3 f1.length Y3, .int .i64 (q : Int)] (by rfl) rfl rfl (by simp only [List.map_toArray, List.map_cons, List.map_nil]; rfl) ?_
      with_reducible refine (spec_HasInt.calls k X3 Y3 f1 (q : Int) true _ HK.out.rw_.c3 HK.out.rw_.l3 HQF.out).mono ?_
      rintro e wm26 ⟨rfl, hd⟩
      refine ⟨_, rfl, ?_⟩
      have n0_ := Az.mk (HK.out.below hd.below)
      have hb := hd.below
      clear HK hd
      have HK := n0_
      clear n0_
      refine hK.out _ _ ⟨pw_cell_below hb hHeld.1, pw_cell_below hb hHeld.2.1, pw_cell_below hb hHeld.2.2.1, pw_cell_below hb hHeld.2.2.2⟩ (fun hHeld => ?_)
      clear hK K
      refine norm_ (a' := ?_) ?_ ?_
      rotate_left
      ·show Act.put _ (some 108) _ = _
       simp only [Act.put, List.setIfInBounds_toArray, List.set_cons_zero, List.set_cons_succ, i64_w, i32_w]
       rfl
      refine pure_ (i := 27) (N := some 109) (v := ?_) (a' := ?_) #[true, true, true, true, true, true, true, true, true, true, true, true, true, true, true, true, true, true, true, true, true, true, true, true, true, true, true, true, false, false] rfl rfl (by kernel_rfl) (fun _ _ _ h => h) (Or.inl ⟨by rfl, ?_⟩) ?_ ?_
      rotate_left
      ·intro w'
       go_simp
       with_reducible rfl
      rotate_left
      ·simp only [Act.put, List.setIfInBounds_toArray, List.set_cons_zero, List.set_cons_succ, i64_w, i32_w]
       rfl
      refine pure_ (i := 28) (N := some 110) (v := ?_) (a' := ?_) #[true, true, true, true, true, true, true, true, true, true, true, true, true, true, true, true, true, true, true, true, true, true, true, true, true, true, true, true, true, false] rfl rfl (by kernel_rfl) (fun _ _ _ h => h) (Or.inl ⟨by rfl, ?_⟩) ?_ ?_
      rotate_left
      ·intro w'
       go_simp
       with_reducible rfl
      rotate_left
      ·simp only [Act.put, List.setIfInBounds_toArray, List.set_cons_zero, List.set_cons_succ, i64_w, i32_w]
       rfl
      refine pure_ (i := 29) (N := some 111) (v := ?_) (a' := ?_) #[true, true, true, true, true, true, true, true, true, true, true, true, true, true, true, true, true, true, true, true, true, true, true, true, true, true, true, true, true, true] rfl rfl (by kernel_rfl) (fun _ _ _ h => h) (Or.inl ⟨by rfl, ?_⟩) ?_ ?_
      rotate_left
      ·intro w'
       go_simp
       with_reducible rfl
      rotate_left
      ·simp only [Act.put, List.setIfInBounds_toArray, List.set_cons_zero, List.set_cons_succ, i64_w, i32_w]
       rfl
      refine done_ (by kernel_rfl) ?_
      clear hHeld
      clear hq3 hq4 hv1 hv2 hv3 hv4
      go_wp2_with fail
      go_roundg (gk - 1)
      case measure => have := HJ.out; omega
      case rel => exact ⟨i + 1, (by first | rfl | (rw [HWR.out]) | (simp [HWR.out])), ⟨by have := HJ.out; omega, by have := HJL.out; omega⟩, HK⟩
    ·have hj1 : decide ((i : Int) < (l.length : Int)) = false := decide_eq_false (by omega)
     have hj2 : (i < l.length) = False := eq_false hj
     have ht1 : ((t1.length : Int) == (M.length : Int)) = true := beq_iff_eq.2 (by have := HTM.out; omega)
     have ht2 : (t1.length = M.length) = True := eq_true HTM.out
     clear hj
     go_wp2_with fail
     go_ret
     exact ⟨rfl, HK.out.be⟩
end Go.Proofs.Ytehhhlhedmfdiaa.PFnImportRun
end
section
namespace Go.Proofs.Ytehhhlhedmfdiaa.PFnImportRun
open Go.RowKit Go.Proofs.Yz0.PrintWords Go.Proofs.Yz0.PrintLast Go.Proofs.Yz0.PrintMore Go.Proofs.Ytehhhlhedmfdiaa.Plain
set_option linter.unusedVariables false
theorem ev_all {P : Nat → Nat → Prop} : ∀ n : Nat, (∀ i, i < n → ∃ K, ∀ k, K ≤ k → P k i) → ∃ K, ∀ k, K ≤ k → ∀ i, i < n → P k i := by
 intro n
 induction n with
 | zero => intro _; exact ⟨0, fun k _ i hi => absurd hi (Nat.not_lt_zero _)⟩
 | succ n ih =>
  intro h
  obtain ⟨K1, h1⟩ := ih (fun i hi => h i (by omega))
  obtain ⟨K2, h2⟩ := h n (by omega)
  refine ⟨K1 + K2, fun k hk i hi => ?_⟩
  by_cases e : i = n
  ·subst e; exact h2 k (by omega)
  ·exact h1 k (by omega) i (by omega)
theorem hasInt_no {l : List Int} {n : Int} (hl : l.length ≤ 1000000000000) (h : n ∉ l) : Ev (fun k => spec_HasInt.f k l n) false := by
 obtain ⟨b, e, hb⟩ := hasInt_tells l n hl
 cases b with
 | false => exact e
 | true => exact absurd (hb.1 rfl) h
theorem rd_mem {l : List Int} {i : Nat} (h : i < l.length) : rd l (i : Int) ∈ l := List.mem_of_mem_drop (by rw [rd_drop h]; simp : rd l (i : Int) ∈ l.drop i)
theorem run_facts (M : List S72) (hs : Small M) (l : List Int) (hl : l.length ≤ 4) :
  ∃ (b1 w1 f1 : List Int) (e1 : List ByteArray) (t1 : List Int), RunIs M l (b1, w1, f1, e1, t1) ∧
   (b1.length ≤ 1000000000000 ∧ w1.length ≤ 1000000000000 ∧ f1.length ≤ 1000000000000 ∧ e1.length ≤ 1000000000000 ∧ t1.length ≤ 1000000000000) ∧
   ∃ K, ∀ k, K ≤ k → t1.length = 0 ∨ (0 < t1.length ∧ t1.length = M.length ∧ (∀ i : Nat, i < w1.length → ∃ q : Nat, rd w1 (i : Int) = (q : Int) ∧ q < t1.length ∧ rd t1 (q : Int) = 2 ∧ spec_HasInt.f k b1 (q : Int) = some true ∧ spec_HasInt.f k (w1.take i) (q : Int) = some false) ∧
    (∀ i : Nat, i < l.length → ∃ q : Nat, rd l (i : Int) = (q : Int) ∧ q < t1.length ∧ (rd t1 (q : Int) = 2 ∨ (rd t1 (q : Int) ≠ 2 ∧ rd t1 (q : Int) ≠ 1 ∧ spec_HasInt.f k f1 (q : Int) = some true)))) := by
 by_cases hv : ModsP M ∧ IdxP M.length l
 ·obtain ⟨hM, hI⟩ := hv
  obtain ⟨s, fa, e, hi, hn, hw, ht, hle, hfl⟩ := run_ok hM decT l hI.1 (by omega)
  have hmul : l.length * tb 6 ≤ 4 * tb 6 := Nat.mul_le_mul_right _ hl
  rw [tb6] at hmul
  have hlen : ∀ {x : Nat}, x ≤ l.length * tb 6 → x ≤ 1000000000000 := fun h => by rw [tb6] at h; omega
  have hbl := hlen hle.1
  have hwl := hlen hle.2.1
  obtain ⟨K1, h1⟩ := ev_all (P := fun k i => ∃ q : Nat, rd s.wh (i : Int) = (q : Int) ∧ q < s.st.length ∧ rd s.st (q : Int) = 2 ∧ spec_HasInt.f k s.bg (q : Int) = some true ∧ spec_HasInt.f k (s.wh.take i) (q : Int) = some false) s.wh.length (fun i h => by
   have hm := rd_mem h
   obtain ⟨g0, g1⟩ := hi.whr _ hm
   obtain ⟨q, hq⟩ := Int.eq_ofNat_of_zero_le g0
   rw [hq] at hm g1
   have h2 : s.st.getD q 0 = 2 := (hi.who q).2 hm
   obtain ⟨Ka, ha⟩ := hasInt_ev (l := s.bg) hbl (hi.bgn q (by rw [h2]; decide))
   have hnot : (q : Int) ∉ s.wh.take i := by
    have hsp : s.wh.take i ++ s.wh.drop i = s.wh := List.take_append_drop i s.wh
    rw [rd_drop h, hq] at hsp
    have hnd := hi.nod
    rw [← hsp, List.nodup_append] at hnd
    exact fun hin => hnd.2.2 _ hin _ (List.mem_cons_self) rfl
   obtain ⟨Kb, hb⟩ := hasInt_no (l := s.wh.take i) (by rw [List.length_take]; omega) hnot
   exact ⟨Ka + Kb, fun k hk => ⟨q, hq, by rw [hi.l1]; omega, h2, ha k (by omega), hb k (by omega)⟩⟩)
  obtain ⟨K2, h2⟩ := ev_all (P := fun k i => ∃ q : Nat, rd l (i : Int) = (q : Int) ∧ q < s.st.length ∧ (rd s.st (q : Int) = 2 ∨ (rd s.st (q : Int) ≠ 2 ∧ rd s.st (q : Int) ≠ 1 ∧ spec_HasInt.f k fa (q : Int) = some true))) l.length (fun i h => by
   have hm := rd_mem h
   obtain ⟨g0, g1⟩ := hI.1 _ hm
   obtain ⟨q, hq⟩ := Int.eq_ofNat_of_zero_le g0
   rw [hq] at hm g1
   by_cases h2 : s.st.getD q 0 = 2
   ·exact ⟨0, fun k _ => ⟨q, hq, by rw [hi.l1]; omega, .inl h2⟩⟩
   ·have hf : (q : Int) ∈ fa := (hw _ hm).resolve_left h2
    obtain ⟨Ka, ha⟩ := hasInt_ev (l := fa) (by omega) hf
    exact ⟨Ka, fun k hk => ⟨q, hq, by rw [hi.l1]; omega, .inr ⟨h2, hn q, ha k hk⟩⟩⟩)
  exact ⟨s.bg, s.wh, fa, s.re, s.st, run_good M hs l hM hI e, ⟨hbl, hwl, by omega, hlen hle.2.2.1, by rw [hi.l1]; have := hM.2.2; omega⟩, K1 + K2, fun k hk => .inr ⟨by rw [hi.l1]; have := hM.2.1; omega, hi.l1, h1 k (by omega), h2 k (by omega)⟩⟩
 ·exact ⟨[], [], [], [], [], run_bad M hs l (by omega) hv, by simp, 0, fun _ _ => .inl rfl⟩
theorem laws_FnImportRun.walk (a0 : Option Addr) (len0 cap0 : Nat) (z0 : List Int) (w : World) (w0 : (a0 = none ∧ len0 = 0 ∧ cap0 = 0 ∧ z0 = []) ∨ ∃ x, a0 = some x ∧ len0 ≤ cap0 ∧ cap0 ≤ maxLen ∧ z0.length = cap0 ∧ (∀ i, i < z0.length → w.cell? (x.add i) = some (.int .u8 (z0.getD i 0))) ∧ ∀ n ∈ z0, (Lit.int .u8 n).wf = true) (y0 : len0 * 1 ≤ 140737488351232) :
  Calls Try.prog 7 #[.slice a0 len0 cap0] w fun e w' => e = .returned (.bool true) ∧ Below w.heap.size w w' := by
 obtain ⟨l0, rfl, hr0, hm0, hw0, hc0⟩ := ReadsInt.ofRowC w0
 have hC := Kd.C_of_reads (d := (0 : Int)) (h1 := fun _ => rfl) hr0
 by_cases hbig : (l0.length : Int) > 1048576
 ·exact rn_big _ _ l0 w hbig
 obtain ⟨M, l, ⟨k1, d1⟩, hs, hl⟩ := draw_ev l0 hw0
 obtain ⟨b1, w1, f1, e1, t1, ⟨⟨k2, r1⟩, ⟨k3, r2⟩⟩, ⟨n1, n2, n3, n4, n5⟩, k4, hfin⟩ := run_facts M hs l hl
 obtain ⟨k5, s1⟩ := same_ev b1 w1 f1 e1 t1 n1 n2 n3 n4 n5
 obtain ⟨k, hk⟩ : ∃ k, k = k1 + k2 + k3 + k4 + k5 := ⟨_, rfl⟩
 exact rn_walk k _ _ l0 w hC hc0 hbig M l (d1 k (by omega)) hl b1 w1 f1 e1 t1 (r1 k (by omega)) (r2 k (by omega)) (s1 k (by omega)) n2 (hfin k (by omega))
end Go.Proofs.Ytehhhlhedmfdiaa.PFnImportRun
end
section
namespace Go.Proofs.Yz0.PrintWords
open Go.ChangeShapes Go.WideShapes
theorem sized_ints {H : Type} {enc : TypeId × Value → H} {P : Program} {W : World} {base : Nat} {spare : Nat → Bool} {held : Bool} {t e : TypeId} {k : IntKind} {a : Option Addr} {len cap : Nat} {d : DataW H} {ps : List MemPlace} {ts : List TypeId} {ds : List (DataW H)} {j : Nat}
  (hsz : (DataW.weightsEach P ts ds).all (· ≤ reachBytes) = true) (ht : ts[j]? = some t) (hd : ds[j]? = some d) (hu : P.underlying t = some (.slice e)) (he : P.underlying e = some (.int k)) (hc : P.cellsOf e = 1) {B : Nat} (hB : P.bytesOf e = B)
  (h : DataW.Trod enc P W base spare held t (.slice a len cap) d ps) : len * B ≤ 140737488351232 := by
 obtain ⟨fuel, hf⟩ := h
 rcases open_ints hu he hc hf with ⟨hcs, _⟩ | ⟨x, l, c, zs, hcs, _, hl, _, hz, hx, _, _⟩
 ·simp [Value.cells] at hcs
  obtain ⟨rfl, rfl, rfl⟩ := hcs
  simp
 ·simp [Value.cells] at hcs
  obtain ⟨rfl, rfl, rfl⟩ := hcs
  obtain ⟨hx, _⟩ := Prod.mk.inj hx
  subst hx
  have z := sized_slice hsz ht hd hu
  rw [hB] at z
  have hl2 : len ≤ zs.length := by
   rw [hz]
   split
   ·exact hl
   ·exact Nat.le_refl _
  have h1 : (lits (H := H) k (zs.take len)).length + (lits (H := H) k (zs.drop len)).length = zs.length := by
   simp [lits]
   omega
  rw [h1] at z
  exact Nat.le_trans (Nat.mul_le_mul_right _ hl2) z
end Go.Proofs.Yz0.PrintWords
end
section
namespace Go.Proofs.Ytehhhlhedmfdiaa.fnImportRun
open Go.ChangeShapes Go.WideShapes Go.ChangeAt Go.RowKit
open Go.ChangeMaps (open_string shut_string)
set_option linter.unusedVariables false
theorem own : ownKnob Try.prog.godebug = none := by kernel_rfl
theorem laidOut : laidOutB Try.prog = true := by kernel_rfl
def IsRow (k : IntKind) (w : World) (a : Option Addr) (len cap : Nat) (zs : List Int) : Prop :=
 (a = none ∧ len = 0 ∧ cap = 0 ∧ zs = []) ∨
 ∃ x, a = some x ∧ len ≤ cap ∧ cap ≤ maxLen ∧ zs.length = cap ∧ (∀ i, i < zs.length → w.cell? (x.add i) = some (.int k (zs.getD i 0))) ∧ ∀ n ∈ zs, (Lit.int k n).wf = true
theorem lifted (os : Os) (started : os.Started) (H : Type) (enc : TypeId × Value → H) :
  ReturnsInHanded {} Try.checked os 7 .any (Rows.fnImportRunSpec.pre6 enc Try.prog Try.f7 Rows.fnImportRunRow.domain false) (Rows.fnImportRunSpec.post enc Try.prog Try.f7 false true false false) := by
 refine returnsInHanded_of_change_sized (C := Try.checked) own started (by kernel_rfl) Try.func7
  (ChangeSpec.witness6 (enc := enc) (C := Try.checked) false ⟨#[], #[.slice none 0 0], []⟩ 8 (by kernel_rfl) (by kernel_rfl) (by kernel_rfl) (by kernel_rfl)) ?_
 intro W base args ds gs before hval0 hW hcnd hsz0 _
 have hsz : (DataW.weightsEach Try.prog (Try.f7.params.toList ++ Rows.fnImportRunSpec.plain.varTypes Try.prog) (ds ++ gs)).all (· ≤ reachBytes) = true := hsz0
 have hval : ∀ (j : Nat) t v, Try.f7.params[j]? = some t → args[j]? = some v → Value.okWide Try.prog W .any base t v := hval0
 have hW' := hW
 obtain ⟨p, q, hA0, hV, rfl, hfz, hnd⟩ := hW
 have hA : DataW.TrodAll enc Try.prog W 0 (fun _ => true) true Try.f7.params.toList args.toList ds p := hA0
 rw [Try.params7] at hA hval hsz
 obtain ⟨v0, vs0, d0, ds0, p0, q0, hargs, rfl, rfl, h0, r0⟩ := trodAll_cons hA
 obtain ⟨rfl, rfl, rfl⟩ := trodAll_nil r0
 obtain rfl : args = #[v0] := by cases args; simp_all
 obtain ⟨rfl, rfl⟩ := trodVars_none hV
 obtain ⟨a0, len0, cap0, rfl⟩ := okWide_slice Try.underlying22 (hval 0 22 v0 rfl rfl)
 have k0 := h0
 have lt0 : ∀ x ∈ p0, x.block < W.heap.size := by obtain ⟨m, hm⟩ := k0; exact DataW.trod_lt m _ _ _ hm
 obtain ⟨z0, w0⟩ : ∃ zs, IsRow .u8 W a0 len0 cap0 zs := by
  obtain ⟨fuel, hf⟩ := h0
  rcases open_ints Try.underlying22 Try.underlying5 (by kernel_rfl) hf with ⟨hcs, _⟩ | ⟨x, l, c, zs, hcs, _, hl, hm, hz, _, hcell, hwz⟩
  ·simp [Value.cells] at hcs
   obtain ⟨rfl, rfl, rfl⟩ := hcs
   exact ⟨[], .inl ⟨rfl, rfl, rfl, rfl⟩⟩
  ·simp [Value.cells] at hcs
   obtain ⟨rfl, rfl, rfl⟩ := hcs
   exact ⟨zs, .inr ⟨_, rfl, hl, hm, by simpa using hz, hcell, hwz⟩⟩
 have y0 : len0 * 1 ≤ 140737488351232 := Go.Proofs.Yz0.PrintWords.sized_ints hsz (j := 0) (t := 22) rfl rfl Try.underlying22 Try.underlying5 (by kernel_rfl) (by kernel_rfl) h0
 clear hA0 hval0 hsz0 hsz
 refine (PFnImportRun.laws_FnImportRun.walk a0 len0 cap0 z0 W w0 y0).mono fun e W' ⟨he, bel⟩ => ?_
 subst he
 exact ⟨_, rfl, _, _, _, [], _, [], hW', trodAll_mk1 (shut_bool Try.underlying4 _), (trodAll_cons_mk (Below.trod laidOut (by kernel_rfl) (of_decide_eq_true (by kernel_rfl)) k0 bel lt0) trodAll_mk0), rfl, bel.frame _, fun h => by cases h⟩
theorem over : Rows.fnImportRunRow.holds Try.pinned (OpenSpec.ofChange Rows.fnImportRunSpec) :=
 OpenClaim.holds_of_wide 7 Try.f7 rfl rfl rfl rfl rfl rfl rfl ⟨rfl, rfl, rfl, rfl, rfl⟩ rfl rfl rfl rfl rfl (by kernel_rfl) Try.func7 (by kernel_rfl)
  (of_decide_eq_true (by kernel_rfl)) (by unfold Func.isWrapper; first | (rw [if_pos (by decide +kernel)]; kernel_rfl) | (rw [if_neg (by decide +kernel)]; exact ⟨rfl, rfl⟩))
  (fun os started H enc _ => lifted os started H enc)
theorem proved : Rows.FnImportRunSaid := over
end Go.Proofs.Ytehhhlhedmfdiaa.fnImportRun
namespace Go.Proofs.Ytehhhlhedmfdiaa
theorem fnImportRun_holds : Rows.FnImportRunSaid := fnImportRun.proved
end Go.Proofs.Ytehhhlhedmfdiaa
end
#print axioms Go.Proofs.Ytehhhlhedmfdiaa.fnImportRun_holds
