/- strings.Split, strings.Join and strings.Index, out of the shelf's contracts, in the words of the printed walks. -/
import Derived.Test.YtcpeomfncopkaaaDoorShelf
import Derived.Test.YtcpeomfncopkaaaDoorWWords
import Derived.Test.YtcpeomfncopkaaaDoorWMore
import Derived.Lib.SplitLaws
namespace Go.Proofs.YtcpeomfncopkaaaDoor
open Go.RowKit Go.Proofs.YtcpeomfncopkaaaDoorW.PrintWords
set_option linter.unusedVariables false
/-- The cell of internal/bytealg.MaxLen holds some int. -/
def MaxOk (w : World) : Prop := ∃ m : Int, w.cell? ⟨0, 0, none⟩ = some (.int .i64 m)
theorem MaxOk.below {w W : World} (h : MaxOk w) (hb : Below w.heap.size w W) : MaxOk W := by
  obtain ⟨m, hm⟩ := h; exact ⟨m, pw_cell_below hb hm⟩

def strings_Split.f (a0 : ByteArray) (a1 : ByteArray) : Option (List ByteArray) := if a0.size < 4294967281 ∧ 1 ≤ a1.size then some (Go.Lib.splitB a1 0 (Go.Lib.countB a0 a1) a0) else none
theorem plain_spot {w : World} {ad : Addr} {v : Value} (h : w.cell? ad = some v) : ad = ⟨ad.block, ad.off, none⟩ := by
  unfold World.cell? at h
  cases ad with
  | mk b o s =>
    cases s with
    | none => rfl
    | some x => simp at h; split at h <;> simp at h
theorem strings_Split.calls (a0 : ByteArray) (a1 : ByteArray) (r : List ByteArray) (w : World) (h : strings_Split.f a0 a1 = some r) (hmx : MaxOk w := by first | exact hmx | exact MaxOk.below hmx (by repeat (first | (with_reducible first | exact HB.out | apply below_alloc | apply pw_below_drewN | apply below_drew1) | exact HB.out))) :
    Calls Tryd.prog 21 #[.string a0, .string a1] w fun e w' => ∃ v0_ : Value, e = .returned (v0_) ∧ Kd.R Kd.string 9 w' w.heap.size (fun _ => True) v0_ r ∧ Below w.heap.size w w' := by
  unfold strings_Split.f at h
  split at h
  case isFalse => cases h
  case isTrue hc =>
  obtain rfl := Option.some.inj h
  obtain ⟨m, hm⟩ := hmx
  refine (Tryd.strings_Split a0 a1 m w hc.1 hm hc.2).mono ?_
  rintro e w' ⟨rfl, rfl⟩
  have hl := Go.Lib.splitB_all a1 hc.2 0 (Go.Lib.countB a0 a1) a0 rfl
  refine ⟨_, rfl, ?_, below_alloc (Below.refl _ _) _⟩
  have hb : Go.Lib.countB a0 a1 + 1 ≤ 9223372036854775807 := by have := Go.Lib.countB_le a1 hc.2 a0.size a0 (Nat.le_refl _); omega
  have ho := own_lit_of (enc := Value.string) w w.heap.size 9 (Go.Lib.splitB a1 0 (Go.Lib.countB a0 a1) a0) (Nat.le_refl _) (by rw [hl]; exact hb)
  rw [hl] at ho
  exact Kd.R_of_own (by rw [hl]; exact ho) (fun _ _ => trivial)

def strings_Join.f (l0 : List ByteArray) (a1 : ByteArray) : Option ByteArray := if l0.length ≤ 140737488355328 ∧ (Go.Lib.join (l0.map (·.data.toList)) a1.data.toList).length ≤ 140737488355328 then some ⟨(Go.Lib.join (l0.map (·.data.toList)) a1.data.toList).toArray⟩ else none
theorem strings_Join.calls (A0 : Option Addr) (c0 : Nat) (l0 : List ByteArray) (a1 : ByteArray) (r : ByteArray) (w : World) (hr0 : Kd.C Kd.string w A0 l0.length l0) (hc0 : l0.length ≤ c0) (h : strings_Join.f l0 a1 = some r) :
    Calls Tryd.prog 20 #[.slice A0 l0.length c0, .string a1] w fun e w' => e = .returned (.string r) ∧ Below w.heap.size w w' := by
  unfold strings_Join.f at h
  split at h
  case isFalse => cases h
  case isTrue hc =>
  obtain rfl := Option.some.inj h
  rcases Nat.eq_zero_or_pos l0.length with h0 | h0
  · have : l0 = [] := List.length_eq_zero_iff.1 h0
    subst this
    refine (Tryd.strings_Join_none A0 c0 a1 w).mono ?_
    rintro e w' ⟨rfl, rfl⟩
    exact ⟨by simp [Go.Lib.join_nil], Below.refl _ _⟩
  · obtain ⟨_, _, hC⟩ := hr0
    obtain ⟨ad, rfl, hcell⟩ := hC h0
    have hat : ∀ (j : Nat) x, l0[j]? = some x → w.cell? (ad.add j) = some (.string x) := by
      intro j x hj
      obtain ⟨c, _, hK, hcc⟩ := hcell j x hj
      have hK2 : c = [.string x] := hK
      subst hK2
      have := hcc 0 _ rfl
      rwa [show j * Kd.string.sz + 0 = j from Nat.mul_one j] at this
    obtain ⟨y, hy⟩ : ∃ y, l0[0]? = some y := ⟨_, List.getElem?_eq_getElem h0⟩
    have h00 := hat 0 y hy
    have e0 : ad.add 0 = ad := by unfold Addr.add; simp
    rw [e0] at h00
    have hp := plain_spot h00
    have hbk : ad.block < w.heap.size := World.block_lt_of_cell? w ad h00
    have hcells : ∀ (j : Nat) x, l0[j]? = some x → w.cell? ⟨ad.block, ad.off + j, none⟩ = some (.string x) := by
      intro j x hj
      have h1 := hat j x hj
      have e1 := plain_spot h1
      have e2 : (ad.add j).block = ad.block ∧ (ad.add j).off = ad.off + j := by
        unfold Addr.add; split
        · rename_i h; subst h; exact ⟨rfl, rfl⟩
        · exact ⟨rfl, rfl⟩
      rw [e1, e2.1, e2.2] at h1
      exact h1
    rw [hp]
    exact Tryd.strings_Join ad.block ad.off c0 l0 a1 w hcells hbk hc.1 hc0 hc.2

def strings_Index.f (a0 : ByteArray) (a1 : ByteArray) : Option Int := if a0.size < 4294967281 then some (Go.Lib.index a0.data.toList a1.data.toList) else none
theorem strings_Index.calls (a0 : ByteArray) (a1 : ByteArray) (r : Int) (w : World) (h : strings_Index.f a0 a1 = some r) (hmx : MaxOk w := by first | exact hmx | exact MaxOk.below hmx (by repeat (first | (with_reducible first | exact HB.out | apply below_alloc | apply pw_below_drewN | apply below_drew1) | exact HB.out))) :
    Calls Tryd.prog 26 #[.string a0, .string a1] w fun e w' => e = .returned (.int .i64 r) ∧ Drawn0 w w' := by
  unfold strings_Index.f at h
  split at h
  case isFalse => cases h
  case isTrue hc =>
  obtain rfl := Option.some.inj h
  obtain ⟨m, hm⟩ := hmx
  refine (Tryd.strings_Index a0 a1 m w hc hm).mono ?_
  rintro e w' ⟨rfl, rfl⟩
  exact ⟨rfl, Drawn0.refl _⟩
end Go.Proofs.YtcpeomfncopkaaaDoor
