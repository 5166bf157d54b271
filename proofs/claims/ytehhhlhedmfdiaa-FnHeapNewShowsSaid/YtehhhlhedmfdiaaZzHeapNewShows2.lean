/- FnHeapNewShows: for every input in the statement's domain the law's walk ends with true Part 2 of 4: what the proof needs. -/
import Derived.Test.YtehhhlhedmfdiaaZzHeapNewShows1
import Derived.Test.YtehhhlhedmfdiaaProg
import Derived.Below
import Derived.Deep.Draws
import Derived.Deep.AppendLies
import Derived.Maps.AppendAt
import Derived.OwnWalk
import Derived.Laws.BytesArg
import Derived.Laws.MakeOwn
import Derived.Laws.OwnMore
import Derived.Deep.OwnRows
import Derived.Tactics
import Derived.Lib.ConvBytes
import Derived.Laws.Slices
import Derived.WalkKit
import Derived.KernelRfl
import Derived.RowKit3
import Derived.Deep.LoopGhost
import Derived.Deep.QuietTactic
import Derived.BigQuiet
import Derived.WideLaws
import Derived.Deep.DeepCutAuto
import Derived.Deep.CutBlock
import Derived.Deep.RegionHeld3
import Derived.Laws.Rows
import Derived.Lib.AppendStr
import Derived.ArgAppend
import Derived.Laws.IdiomCopy
import Derived.OrdersHeld
import Derived.Laws.BitsLemmas
import Derived.RowKit
set_option maxHeartbeats 8000000
set_option maxRecDepth 100000
section
namespace Go.Proofs.Ytehhhlhedmfdiaa.PFnHeapNewShows
open Go.RowKit Go.Proofs.Yz0.PrintWords Go.Proofs.Yz0.PrintLast Go.Proofs.Yz0.PrintMore
attribute [local go_sem] max2_int min2_int max_two min_two max_three min_three max_four min_four
set_option linter.unusedVariables false
set_option linter.unusedSimpArgs false
def errW : Option Int → Value
 | none => .nilIface
 | some c => .iface 0 (.int .i64 c)
theorem errW_none : errW none = .nilIface := rfl
theorem errW_some (c : Int) : errW (some c) = .iface 0 (.int .i64 c) := rfl
theorem info31 : (Try.prog.info? 31).map (fun i => (i.zero, i.size, i.bytes)) = some (some (.agg #[(.int .i64 0), (.string ⟨#[]⟩), (.int .i64 0)]), 3, 32) := by kernel_rfl
theorem info79 : (Try.prog.info? 79).map (fun i => (i.zero, i.size, i.bytes)) = some (some (.agg #[(.int .i64 0), (.string ⟨#[]⟩), (.int .i64 0), (.slice none 0 0), (.slice none 0 0), (.slice none 0 0), (.slice none 0 0)]), 7, 128) := by kernel_rfl
structure S31 where
 f0 : Int
 f1 : ByteArray
 f2 : Int
def z31 : S31 := ⟨(0 : Int), (⟨#[]⟩ : ByteArray), (0 : Int)⟩
def k31 : Kd S31 := Kd.iso (Kd.pair (Kd.int .i64) (Kd.pair Kd.string (Kd.int .i64))) (fun x : S31 => (x.f0, x.f1, x.f2))
theorem k31_open {w : World} {x : S31} {cs : List Value} (h : k31.K w x cs) : cs = [.int .i64 x.f0, .string x.f1, .int .i64 x.f2] := by
 obtain ⟨_, _, rfl, rfl, ⟨_, _, rfl, rfl, rfl⟩⟩ := h
 exact rfl
theorem k31_mkM (w : World) (base : Nat) (ok : Nat → Prop) (x : S31)  : k31.M w base ok x [.int .i64 x.f0, .string x.f1, .int .i64 x.f2] := ⟨[.int .i64 x.f0], [.string x.f1, .int .i64 x.f2], rfl, rfl, ⟨[.string x.f1], [.int .i64 x.f2], rfl, rfl, rfl⟩⟩
def rd_T31 (xs : List S31) (i : Int) : S31 := xs.getD i.toNat z31
theorem at_T31 {w : World} {A : Option Addr} {n : Nat} {xs : List S31} (h : Kd.C k31 w A n xs) (i : Int) (h0 : 0 ≤ i) (h1 : i < n) : ∃ ad , A = some ad ∧ w.cell? (ad.add (i.toNat * 3)) = some (.int .i64 (rd_T31 xs i).f0) ∧ w.cell? ⟨(ad.add (i.toNat * 3)).block, (ad.add (i.toNat * 3)).off + 1, none⟩ = some (.string (rd_T31 xs i).f1) ∧ w.cell? ⟨(ad.add (i.toNat * 3)).block, (ad.add (i.toNat * 3)).off + 2, none⟩ = some (.int .i64 (rd_T31 xs i).f2) := by
 obtain ⟨ad, c, e, _, hK, hc0⟩ := Kd.C_get h z31 i h0 h1
 have hc : ∀ j u, c[j]? = some u → w.cell? (ad.add (i.toNat * 3 + j)) = some u := hc0
 obtain rfl := k31_open hK
 exact ⟨ad, e, hc 0 _ rfl, by rw [← add_field _ _ 1 (by omega)]; exact hc 1 _ rfl, by rw [← add_field _ _ 2 (by omega)]; exact hc 2 _ rfl⟩
structure S79 where
 f0 : Int
 f1 : ByteArray
 f2 : Int
 f3 : (List S31)
 f4 : (List S31)
 f5 : (List ByteArray)
 f6 : (List S31)
def z79 : S79 := ⟨(0 : Int), (⟨#[]⟩ : ByteArray), (0 : Int), ([] : List S31), ([] : List S31), ([] : List ByteArray), ([] : List S31)⟩
def k79 : Kd S79 := Kd.iso (Kd.pair (Kd.int .i64) (Kd.pair Kd.string (Kd.pair (Kd.int .i64) (Kd.pair (Kd.slice 31 k31) (Kd.pair (Kd.slice 31 k31) (Kd.pair (Kd.slice 9 Kd.string) (Kd.slice 31 k31))))))) (fun x : S79 => (x.f0, x.f1, x.f2, x.f3, x.f4, x.f5, x.f6))
theorem k79_open {w : World} {x : S79} {cs : List Value} (h : k79.K w x cs) : ∃ A3 c3 A4 c4 A5 c5 A6 c6, cs = [.int .i64 x.f0, .string x.f1, .int .i64 x.f2, .slice A3 x.f3.length c3, .slice A4 x.f4.length c4, .slice A5 x.f5.length c5, .slice A6 x.f6.length c6] ∧ x.f3.length ≤ c3 ∧ k31.C w A3 x.f3.length x.f3 ∧ x.f4.length ≤ c4 ∧ k31.C w A4 x.f4.length x.f4 ∧ x.f5.length ≤ c5 ∧ Kd.string.C w A5 x.f5.length x.f5 ∧ x.f6.length ≤ c6 ∧ k31.C w A6 x.f6.length x.f6 := by
 obtain ⟨_, _, rfl, rfl, ⟨_, _, rfl, rfl, ⟨_, _, rfl, rfl, ⟨_, _, rfl, ⟨A3, c3, rfl, l3, g3⟩, ⟨_, _, rfl, ⟨A4, c4, rfl, l4, g4⟩, ⟨_, _, rfl, ⟨A5, c5, rfl, l5, g5⟩, ⟨A6, c6, rfl, l6, g6⟩⟩⟩⟩⟩⟩⟩ := h
 exact ⟨A3, c3, A4, c4, A5, c5, A6, c6, rfl, l3, g3, l4, g4, l5, g5, l6, g6⟩
theorem k79_mkM (w : World) (base : Nat) (ok : Nat → Prop) (x : S79) {v3 : Value} (g3 : k31.R 31 w base ok v3 x.f3) {v4 : Value} (g4 : k31.R 31 w base ok v4 x.f4) {v5 : Value} (g5 : Kd.string.R 9 w base ok v5 x.f5) {v6 : Value} (g6 : k31.R 31 w base ok v6 x.f6) : k79.M w base ok x [.int .i64 x.f0, .string x.f1, .int .i64 x.f2, v3, v4, v5, v6] := ⟨[.int .i64 x.f0], [.string x.f1, .int .i64 x.f2, v3, v4, v5, v6], rfl, rfl, ⟨[.string x.f1], [.int .i64 x.f2, v3, v4, v5, v6], rfl, rfl, ⟨[.int .i64 x.f2], [v3, v4, v5, v6], rfl, rfl, ⟨[v3], [v4, v5, v6], rfl, ⟨v3, rfl, g3⟩, ⟨[v4], [v5, v6], rfl, ⟨v4, rfl, g4⟩, ⟨[v5], [v6], rfl, ⟨v5, rfl, g5⟩, ⟨v6, rfl, g6⟩⟩⟩⟩⟩⟩⟩
def rd_T79 (xs : List S79) (i : Int) : S79 := xs.getD i.toNat z79
theorem at_T79 {w : World} {A : Option Addr} {n : Nat} {xs : List S79} (h : Kd.C k79 w A n xs) (i : Int) (h0 : 0 ≤ i) (h1 : i < n) : ∃ ad A3 c3 A4 c4 A5 c5 A6 c6, A = some ad ∧ w.cell? (ad.add (i.toNat * 7)) = some (.int .i64 (rd_T79 xs i).f0) ∧ w.cell? ⟨(ad.add (i.toNat * 7)).block, (ad.add (i.toNat * 7)).off + 1, none⟩ = some (.string (rd_T79 xs i).f1) ∧ w.cell? ⟨(ad.add (i.toNat * 7)).block, (ad.add (i.toNat * 7)).off + 2, none⟩ = some (.int .i64 (rd_T79 xs i).f2) ∧ w.cell? ⟨(ad.add (i.toNat * 7)).block, (ad.add (i.toNat * 7)).off + 3, none⟩ = some (.slice A3 (rd_T79 xs i).f3.length c3) ∧ w.cell? ⟨(ad.add (i.toNat * 7)).block, (ad.add (i.toNat * 7)).off + 4, none⟩ = some (.slice A4 (rd_T79 xs i).f4.length c4) ∧ w.cell? ⟨(ad.add (i.toNat * 7)).block, (ad.add (i.toNat * 7)).off + 5, none⟩ = some (.slice A5 (rd_T79 xs i).f5.length c5) ∧ w.cell? ⟨(ad.add (i.toNat * 7)).block, (ad.add (i.toNat * 7)).off + 6, none⟩ = some (.slice A6 (rd_T79 xs i).f6.length c6) ∧ (rd_T79 xs i).f3.length ≤ c3 ∧ k31.C w A3 (rd_T79 xs i).f3.length (rd_T79 xs i).f3 ∧ (rd_T79 xs i).f4.length ≤ c4 ∧ k31.C w A4 (rd_T79 xs i).f4.length (rd_T79 xs i).f4 ∧ (rd_T79 xs i).f5.length ≤ c5 ∧ Kd.string.C w A5 (rd_T79 xs i).f5.length (rd_T79 xs i).f5 ∧ (rd_T79 xs i).f6.length ≤ c6 ∧ k31.C w A6 (rd_T79 xs i).f6.length (rd_T79 xs i).f6 := by
 obtain ⟨ad, c, e, _, hK, hc0⟩ := Kd.C_get h z79 i h0 h1
 have hc : ∀ j u, c[j]? = some u → w.cell? (ad.add (i.toNat * 7 + j)) = some u := hc0
 obtain ⟨A3, c3, A4, c4, A5, c5, A6, c6, rfl, l3, g3, l4, g4, l5, g5, l6, g6⟩ := k79_open hK
 exact ⟨ad, A3, c3, A4, c4, A5, c5, A6, c6, e, hc 0 _ rfl, by rw [← add_field _ _ 1 (by omega)]; exact hc 1 _ rfl, by rw [← add_field _ _ 2 (by omega)]; exact hc 2 _ rfl, by rw [← add_field _ _ 3 (by omega)]; exact hc 3 _ rfl, by rw [← add_field _ _ 4 (by omega)]; exact hc 4 _ rfl, by rw [← add_field _ _ 5 (by omega)]; exact hc 5 _ rfl, by rw [← add_field _ _ 6 (by omega)]; exact hc 6 _ rfl, l3, g3, l4, g4, l5, g5, l6, g6⟩
end Go.Proofs.Ytehhhlhedmfdiaa.PFnHeapNewShows
end
section
namespace Go.Proofs.Ytehhhlhedmfdiaa.PFnHeapNewShows
open Go.RowKit Go.Proofs.Yz0.PrintWords Go.Proofs.Yz0.PrintLast Go.Proofs.Yz0.PrintMore
attribute [local go_sem] max2_int min2_int max_two min_two max_three min_three max_four min_four
set_option linter.unusedVariables false
set_option linter.unusedSimpArgs false
def impl_errorNames.f  : Option (List ByteArray) := some (([(⟨#[69, 114, 114, 111, 114]⟩ : ByteArray), (⟨#[84, 121, 112, 101, 69, 114, 114, 111, 114]⟩ : ByteArray), (⟨#[78, 97, 109, 101, 69, 114, 114, 111, 114]⟩ : ByteArray), (⟨#[86, 97, 108, 117, 101, 69, 114, 114, 111, 114]⟩ : ByteArray), (⟨#[73, 110, 100, 101, 120, 69, 114, 114, 111, 114]⟩ : ByteArray), (⟨#[75, 101, 121, 69, 114, 114, 111, 114]⟩ : ByteArray), (⟨#[90, 101, 114, 111, 69, 114, 114, 111, 114]⟩ : ByteArray), (⟨#[65, 116, 116, 114, 69, 114, 114, 111, 114]⟩ : ByteArray), (⟨#[83, 105, 122, 101, 69, 114, 114, 111, 114]⟩ : ByteArray), (⟨#[83, 116, 111, 112, 69, 114, 114, 111, 114]⟩ : ByteArray), (⟨#[82, 117, 110, 69, 114, 114, 111, 114]⟩ : ByteArray), (⟨#[73, 109, 112, 111, 114, 116, 69, 114, 114, 111, 114]⟩ : ByteArray), (⟨#[65, 115, 115, 101, 114, 116, 69, 114, 114, 111, 114]⟩ : ByteArray)] : List ByteArray))
theorem impl_errorNames.calls  (r : List ByteArray) (w : World) (h : impl_errorNames.f  = some r) :
  Calls Try.prog 44 #[] w fun e w' => ∃ v0_ : Value, e = .returned (v0_) ∧ Kd.R Kd.string 9 w' w.heap.size (fun _ => True) v0_ r ∧ Below w.heap.size w w' := by
 have HB := Az.mk (Below.refl w.heap.size w)
 have H : (some (([(⟨#[69, 114, 114, 111, 114]⟩ : ByteArray), (⟨#[84, 121, 112, 101, 69, 114, 114, 111, 114]⟩ : ByteArray), (⟨#[78, 97, 109, 101, 69, 114, 114, 111, 114]⟩ : ByteArray), (⟨#[86, 97, 108, 117, 101, 69, 114, 114, 111, 114]⟩ : ByteArray), (⟨#[73, 110, 100, 101, 120, 69, 114, 114, 111, 114]⟩ : ByteArray), (⟨#[75, 101, 121, 69, 114, 114, 111, 114]⟩ : ByteArray), (⟨#[90, 101, 114, 111, 69, 114, 114, 111, 114]⟩ : ByteArray), (⟨#[65, 116, 116, 114, 69, 114, 114, 111, 114]⟩ : ByteArray), (⟨#[83, 105, 122, 101, 69, 114, 114, 111, 114]⟩ : ByteArray), (⟨#[83, 116, 111, 112, 69, 114, 114, 111, 114]⟩ : ByteArray), (⟨#[82, 117, 110, 69, 114, 114, 111, 114]⟩ : ByteArray), (⟨#[73, 109, 112, 111, 114, 116, 69, 114, 114, 111, 114]⟩ : ByteArray), (⟨#[65, 115, 115, 101, 114, 116, 69, 114, 114, 111, 114]⟩ : ByteArray)] : List ByteArray))) = some r := h
 clear h
 obtain ⟨y101, hy101⟩ : ∃ y_ : List ByteArray, y_ = (([(⟨#[69, 114, 114, 111, 114]⟩ : ByteArray), (⟨#[84, 121, 112, 101, 69, 114, 114, 111, 114]⟩ : ByteArray), (⟨#[78, 97, 109, 101, 69, 114, 114, 111, 114]⟩ : ByteArray), (⟨#[86, 97, 108, 117, 101, 69, 114, 114, 111, 114]⟩ : ByteArray), (⟨#[73, 110, 100, 101, 120, 69, 114, 114, 111, 114]⟩ : ByteArray), (⟨#[75, 101, 121, 69, 114, 114, 111, 114]⟩ : ByteArray), (⟨#[90, 101, 114, 111, 69, 114, 114, 111, 114]⟩ : ByteArray), (⟨#[65, 116, 116, 114, 69, 114, 114, 111, 114]⟩ : ByteArray), (⟨#[83, 105, 122, 101, 69, 114, 114, 111, 114]⟩ : ByteArray), (⟨#[83, 116, 111, 112, 69, 114, 114, 111, 114]⟩ : ByteArray), (⟨#[82, 117, 110, 69, 114, 114, 111, 114]⟩ : ByteArray), (⟨#[73, 109, 112, 111, 114, 116, 69, 114, 114, 111, 114]⟩ : ByteArray), (⟨#[65, 115, 115, 101, 114, 116, 69, 114, 114, 111, 114]⟩ : ByteArray)] : List ByteArray)) := ⟨_, rfl⟩
 replace H : (some y101) = some r := by first | (rw [hy101]; with_reducible exact H) | (have H2_ := (Option.bind_some _ _).symm.trans H; rw [hy101]; with_reducible exact H2_) | (have H2_ := (Option.bind_some _ _).symm.trans H; with_reducible exact H2_) | with_reducible exact H | (rw [hy101]; exact H) | exact H
 have Ny101 := Az.mk hy101
 clear hy101
 obtain rfl := Option.some.inj H
 go_enter Try.func44, Try.ntmps44
 go_wp2_with (first | ((with_reducible refine gate_dst (N := 1) rfl ?_); refine Kd.R_lit Kd.string _ 9 ?hg (N := 1) ?hd (xs := ([(⟨#[69, 114, 114, 111, 114]⟩ : ByteArray), (⟨#[84, 121, 112, 101, 69, 114, 114, 111, 114]⟩ : ByteArray), (⟨#[78, 97, 109, 101, 69, 114, 114, 111, 114]⟩ : ByteArray), (⟨#[86, 97, 108, 117, 101, 69, 114, 114, 111, 114]⟩ : ByteArray), (⟨#[73, 110, 100, 101, 120, 69, 114, 114, 111, 114]⟩ : ByteArray), (⟨#[75, 101, 121, 69, 114, 114, 111, 114]⟩ : ByteArray), (⟨#[90, 101, 114, 111, 69, 114, 114, 111, 114]⟩ : ByteArray), (⟨#[65, 116, 116, 114, 69, 114, 114, 111, 114]⟩ : ByteArray), (⟨#[83, 105, 122, 101, 69, 114, 114, 111, 114]⟩ : ByteArray), (⟨#[83, 116, 111, 112, 69, 114, 114, 111, 114]⟩ : ByteArray), (⟨#[82, 117, 110, 69, 114, 114, 111, 114]⟩ : ByteArray), (⟨#[73, 109, 112, 111, 114, 116, 69, 114, 114, 111, 114]⟩ : ByteArray), (⟨#[65, 115, 115, 101, 114, 116, 69, 114, 114, 111, 114]⟩ : ByteArray)] : List ByteArray)) (inner := [.string (⟨#[69, 114, 114, 111, 114]⟩ : ByteArray), .string (⟨#[84, 121, 112, 101, 69, 114, 114, 111, 114]⟩ : ByteArray), .string (⟨#[78, 97, 109, 101, 69, 114, 114, 111, 114]⟩ : ByteArray), .string (⟨#[86, 97, 108, 117, 101, 69, 114, 114, 111, 114]⟩ : ByteArray), .string (⟨#[73, 110, 100, 101, 120, 69, 114, 114, 111, 114]⟩ : ByteArray), .string (⟨#[75, 101, 121, 69, 114, 114, 111, 114]⟩ : ByteArray), .string (⟨#[90, 101, 114, 111, 69, 114, 114, 111, 114]⟩ : ByteArray), .string (⟨#[65, 116, 116, 114, 69, 114, 114, 111, 114]⟩ : ByteArray), .string (⟨#[83, 105, 122, 101, 69, 114, 114, 111, 114]⟩ : ByteArray), .string (⟨#[83, 116, 111, 112, 69, 114, 114, 111, 114]⟩ : ByteArray), .string (⟨#[82, 117, 110, 69, 114, 114, 111, 114]⟩ : ByteArray), .string (⟨#[73, 109, 112, 111, 114, 116, 69, 114, 114, 111, 114]⟩ : ByteArray), .string (⟨#[65, 115, 115, 101, 114, 116, 69, 114, 114, 111, 114]⟩ : ByteArray)]) (ok := fun _ => True) (okp := fun _ => True) ?hr ?hp (fun _ hk => hk) trivial (Below.refl _ _) (Nat.le_refl _) (by simp) ?_; (case hd => rfl); (case hg => rfl); (case hr => first | (go_simp; done) | (go_simp; rfl)); (case hp => exact (Reps.one (show Kd.M Kd.string _ _ _ (⟨#[69, 114, 114, 111, 114]⟩ : ByteArray) [.string (⟨#[69, 114, 114, 111, 114]⟩ : ByteArray)] from rfl) (Reps.one (show Kd.M Kd.string _ _ _ (⟨#[84, 121, 112, 101, 69, 114, 114, 111, 114]⟩ : ByteArray) [.string (⟨#[84, 121, 112, 101, 69, 114, 114, 111, 114]⟩ : ByteArray)] from rfl) (Reps.one (show Kd.M Kd.string _ _ _ (⟨#[78, 97, 109, 101, 69, 114, 114, 111, 114]⟩ : ByteArray) [.string (⟨#[78, 97, 109, 101, 69, 114, 114, 111, 114]⟩ : ByteArray)] from rfl) (Reps.one (show Kd.M Kd.string _ _ _ (⟨#[86, 97, 108, 117, 101, 69, 114, 114, 111, 114]⟩ : ByteArray) [.string (⟨#[86, 97, 108, 117, 101, 69, 114, 114, 111, 114]⟩ : ByteArray)] from rfl) (Reps.one (show Kd.M Kd.string _ _ _ (⟨#[73, 110, 100, 101, 120, 69, 114, 114, 111, 114]⟩ : ByteArray) [.string (⟨#[73, 110, 100, 101, 120, 69, 114, 114, 111, 114]⟩ : ByteArray)] from rfl) (Reps.one (show Kd.M Kd.string _ _ _ (⟨#[75, 101, 121, 69, 114, 114, 111, 114]⟩ : ByteArray) [.string (⟨#[75, 101, 121, 69, 114, 114, 111, 114]⟩ : ByteArray)] from rfl) (Reps.one (show Kd.M Kd.string _ _ _ (⟨#[90, 101, 114, 111, 69, 114, 114, 111, 114]⟩ : ByteArray) [.string (⟨#[90, 101, 114, 111, 69, 114, 114, 111, 114]⟩ : ByteArray)] from rfl) (Reps.one (show Kd.M Kd.string _ _ _ (⟨#[65, 116, 116, 114, 69, 114, 114, 111, 114]⟩ : ByteArray) [.string (⟨#[65, 116, 116, 114, 69, 114, 114, 111, 114]⟩ : ByteArray)] from rfl) (Reps.one (show Kd.M Kd.string _ _ _ (⟨#[83, 105, 122, 101, 69, 114, 114, 111, 114]⟩ : ByteArray) [.string (⟨#[83, 105, 122, 101, 69, 114, 114, 111, 114]⟩ : ByteArray)] from rfl) (Reps.one (show Kd.M Kd.string _ _ _ (⟨#[83, 116, 111, 112, 69, 114, 114, 111, 114]⟩ : ByteArray) [.string (⟨#[83, 116, 111, 112, 69, 114, 114, 111, 114]⟩ : ByteArray)] from rfl) (Reps.one (show Kd.M Kd.string _ _ _ (⟨#[82, 117, 110, 69, 114, 114, 111, 114]⟩ : ByteArray) [.string (⟨#[82, 117, 110, 69, 114, 114, 111, 114]⟩ : ByteArray)] from rfl) (Reps.one (show Kd.M Kd.string _ _ _ (⟨#[73, 109, 112, 111, 114, 116, 69, 114, 114, 111, 114]⟩ : ByteArray) [.string (⟨#[73, 109, 112, 111, 114, 116, 69, 114, 114, 111, 114]⟩ : ByteArray)] from rfl) (Reps.one (show Kd.M Kd.string _ _ _ (⟨#[65, 115, 115, 101, 114, 116, 69, 114, 114, 111, 114]⟩ : ByteArray) [.string (⟨#[65, 115, 115, 101, 114, 116, 69, 114, 114, 111, 114]⟩ : ByteArray)] from rfl) (Reps.none _ _))))))))))))))); intro v102 w1 ho2 hb hg_ hnew_; clear hg_ hnew_; (first | rw [← Ny101.out] at ho2 | (simp only [Int.reduceToNat] at ho2; rw [← Ny101.out] at ho2)); have n0_ := Az.mk (Kd.R_lower ho2 (below_size (by repeat (first | (with_reducible first | exact HB.out | apply bal | apply bdN | apply bdr) | exact HB.out)))); have n1_ := Az.mk (below_step (by repeat (first | (with_reducible first | exact HB.out | apply bal | apply bdN | apply bdr) | exact HB.out)) hb); clear HB; have HO103 := n0_; have HB := n1_; clear n0_ n1_; clear hb ho2))
 go_ret
 exact ⟨_, by first | rfl | (simp [errW_none, errW_some] <;> rfl) | (simp [*, errW_none, errW_some] <;> rfl), by (with_reducible repeat (first | apply Kd.R_alloc | apply Kd.R_drewN | apply Kd.R_drew)); exact HO103.out, by repeat (first | (with_reducible first | exact HB.out | apply bal | apply bdN | apply bdr) | exact HB.out)⟩
def impl_refTo.f (a0 : Int) : Option (Int × ByteArray × Int) := some (4, (⟨#[]⟩ : ByteArray), a0)
theorem impl_refTo.calls (a0 : Int) (r1 : Int) (r2 : ByteArray) (r3 : Int) (w : World) (h : impl_refTo.f a0 = some (r1, r2, r3)) :
  Calls Try.prog 45 #[.int .i64 a0] w fun e w' => e = .returned (.agg #[.int .i64 r1, .string r2, .int .i64 r3]) ∧ Below w.heap.size w w' := by
 have hu31 := Try.underlying31
 have HB := Az.mk (Below.refl w.heap.size w)
 have H : (some (4, (⟨#[]⟩ : ByteArray), a0)) = some (r1, r2, r3) := h
 clear h
 simp only [Option.some.injEq, Prod.mk.injEq] at H
 obtain ⟨rfl, rfl, rfl⟩ := H
 go_enter Try.func45, Try.ntmps45
 go_wp2_with (first | ((with_reducible refine gate_dst (N := 2) rfl ?_); refine box_event ?hg (N := 2) ?hd (cs := #[.int .i64 0, .string (⟨#[]⟩ : ByteArray), .int .i64 0]) (t := 31) ?hr ?_; (case hd => rfl); (case hg => rfl); (case hr => first | (go_simp; done) | (go_simp; rfl)); intro gb104 hg w2 hbox hb; have n0_ := Az.mk (below_step (by repeat (first | (with_reducible first | exact HB.out | apply bal | apply bdN | apply bdr) | exact HB.out)) hb); have n1_ := Az.mk (hbox); have n2_ := Az.mk ((by rw [hg]; exact (below_size (by repeat (first | (with_reducible first | exact HB.out | apply bal | apply bdN | apply bdr) | exact HB.out))) : w.heap.size ≤ gb104)); have n3_ := Az.mk ((by rw [hg]; exact (below_size (by repeat (first | (with_reducible first | exact HB.out | apply bal | apply bdN | apply bdr) | exact HB.out))) : w.heap.size ≤ gb104)); clear HB; have HB := n0_; have BK104 := n1_; have GW104 := n2_; have GE104 := n3_; clear n0_ n1_ n2_ n3_; clear hb hbox hg; have hcz3_0 : w2.cell? ⟨gb104, 0, none⟩ = some (.int .i64 0) := (bC BK104.out 0).trans rfl; have hcz3_1 : w2.cell? ⟨gb104, 1, none⟩ = some (.string (⟨#[]⟩ : ByteArray)) := (bC BK104.out 1).trans rfl; have hcz3_2 : w2.cell? ⟨gb104, 2, none⟩ = some (.int .i64 0) := (bC BK104.out 2).trans rfl; have hfz3_0 := bF BK104.out 0; have hfz3_1 := bF BK104.out 1; have hfz3_2 := bF BK104.out 2))
 refine bodyPost_ret (results_cell_row rfl _ _ gb104 31 #[.int .i64 4, .string (⟨#[]⟩ : ByteArray), .int .i64 a0] (0, 0) _ rfl (by (with_reducible repeat (first | refine blk_drewN ?_ _ | refine blk_drew ?_ | refine blk_alloc ?_ _)); refine blk_put (cs := #[.int .i64 4, .string (⟨#[]⟩ : ByteArray), .int .i64 0]) ?_ 2 _ rfl; (with_reducible repeat (first | refine blk_drewN ?_ _ | refine blk_drew ?_ | refine blk_alloc ?_ _)); refine blk_put (cs := #[.int .i64 4, .string (⟨#[]⟩ : ByteArray), .int .i64 0]) ?_ 1 _ rfl; (with_reducible repeat (first | refine blk_drewN ?_ _ | refine blk_drew ?_ | refine blk_alloc ?_ _)); refine blk_put (cs := #[.int .i64 0, .string (⟨#[]⟩ : ByteArray), .int .i64 0]) ?_ 0 _ rfl; (with_reducible repeat (first | refine blk_drewN ?_ _ | refine blk_drew ?_ | refine blk_alloc ?_ _)); exact BK104.out) Try.underlying31 rfl (by kernel_rfl)) rfl ?_
 exact ⟨by first | rfl | (simp [errW_none, errW_some] <;> rfl) | (simp [*, errW_none, errW_some] <;> rfl), by repeat (first | (with_reducible first | exact HB.out | apply bal | apply bdN | apply bdr | refine bS ?_ GE104.out) | exact HB.out)⟩
def impl_builtNames.f  : Option (List ByteArray) := some (([(⟨#[112, 114, 105, 110, 116]⟩ : ByteArray), (⟨#[108, 101, 110]⟩ : ByteArray), (⟨#[114, 97, 110, 103, 101]⟩ : ByteArray), (⟨#[115, 116, 114]⟩ : ByteArray), (⟨#[110, 101, 120, 116]⟩ : ByteArray), (⟨#[105, 115, 97]⟩ : ByteArray)] : List ByteArray))
theorem impl_builtNames.calls  (r : List ByteArray) (w : World) (h : impl_builtNames.f  = some r) :
  Calls Try.prog 46 #[] w fun e w' => ∃ v0_ : Value, e = .returned (v0_) ∧ Kd.R Kd.string 9 w' w.heap.size (fun _ => True) v0_ r ∧ Below w.heap.size w w' := by
 have HB := Az.mk (Below.refl w.heap.size w)
 have H : (some (([(⟨#[112, 114, 105, 110, 116]⟩ : ByteArray), (⟨#[108, 101, 110]⟩ : ByteArray), (⟨#[114, 97, 110, 103, 101]⟩ : ByteArray), (⟨#[115, 116, 114]⟩ : ByteArray), (⟨#[110, 101, 120, 116]⟩ : ByteArray), (⟨#[105, 115, 97]⟩ : ByteArray)] : List ByteArray))) = some r := h
 clear h
 obtain ⟨y105, hy105⟩ : ∃ y_ : List ByteArray, y_ = (([(⟨#[112, 114, 105, 110, 116]⟩ : ByteArray), (⟨#[108, 101, 110]⟩ : ByteArray), (⟨#[114, 97, 110, 103, 101]⟩ : ByteArray), (⟨#[115, 116, 114]⟩ : ByteArray), (⟨#[110, 101, 120, 116]⟩ : ByteArray), (⟨#[105, 115, 97]⟩ : ByteArray)] : List ByteArray)) := ⟨_, rfl⟩
 replace H : (some y105) = some r := by first | (rw [hy105]; with_reducible exact H) | (have H2_ := (Option.bind_some _ _).symm.trans H; rw [hy105]; with_reducible exact H2_) | (have H2_ := (Option.bind_some _ _).symm.trans H; with_reducible exact H2_) | with_reducible exact H | (rw [hy105]; exact H) | exact H
 have Ny105 := Az.mk hy105
 clear hy105
 obtain rfl := Option.some.inj H
 go_enter Try.func46, Try.ntmps46
 go_wp2_with (first | ((with_reducible refine gate_dst (N := 1) rfl ?_); refine Kd.R_lit Kd.string _ 9 ?hg (N := 1) ?hd (xs := ([(⟨#[112, 114, 105, 110, 116]⟩ : ByteArray), (⟨#[108, 101, 110]⟩ : ByteArray), (⟨#[114, 97, 110, 103, 101]⟩ : ByteArray), (⟨#[115, 116, 114]⟩ : ByteArray), (⟨#[110, 101, 120, 116]⟩ : ByteArray), (⟨#[105, 115, 97]⟩ : ByteArray)] : List ByteArray)) (inner := [.string (⟨#[112, 114, 105, 110, 116]⟩ : ByteArray), .string (⟨#[108, 101, 110]⟩ : ByteArray), .string (⟨#[114, 97, 110, 103, 101]⟩ : ByteArray), .string (⟨#[115, 116, 114]⟩ : ByteArray), .string (⟨#[110, 101, 120, 116]⟩ : ByteArray), .string (⟨#[105, 115, 97]⟩ : ByteArray)]) (ok := fun _ => True) (okp := fun _ => True) ?hr ?hp (fun _ hk => hk) trivial (Below.refl _ _) (Nat.le_refl _) (by simp) ?_; (case hd => rfl); (case hg => rfl); (case hr => first | (go_simp; done) | (go_simp; rfl)); (case hp => exact (Reps.one (show Kd.M Kd.string _ _ _ (⟨#[112, 114, 105, 110, 116]⟩ : ByteArray) [.string (⟨#[112, 114, 105, 110, 116]⟩ : ByteArray)] from rfl) (Reps.one (show Kd.M Kd.string _ _ _ (⟨#[108, 101, 110]⟩ : ByteArray) [.string (⟨#[108, 101, 110]⟩ : ByteArray)] from rfl) (Reps.one (show Kd.M Kd.string _ _ _ (⟨#[114, 97, 110, 103, 101]⟩ : ByteArray) [.string (⟨#[114, 97, 110, 103, 101]⟩ : ByteArray)] from rfl) (Reps.one (show Kd.M Kd.string _ _ _ (⟨#[115, 116, 114]⟩ : ByteArray) [.string (⟨#[115, 116, 114]⟩ : ByteArray)] from rfl) (Reps.one (show Kd.M Kd.string _ _ _ (⟨#[110, 101, 120, 116]⟩ : ByteArray) [.string (⟨#[110, 101, 120, 116]⟩ : ByteArray)] from rfl) (Reps.one (show Kd.M Kd.string _ _ _ (⟨#[105, 115, 97]⟩ : ByteArray) [.string (⟨#[105, 115, 97]⟩ : ByteArray)] from rfl) (Reps.none _ _)))))))); intro v106 w1 ho2 hb hg_ hnew_; clear hg_ hnew_; (first | rw [← Ny105.out] at ho2 | (simp only [Int.reduceToNat] at ho2; rw [← Ny105.out] at ho2)); have n0_ := Az.mk (Kd.R_lower ho2 (below_size (by repeat (first | (with_reducible first | exact HB.out | apply bal | apply bdN | apply bdr) | exact HB.out)))); have n1_ := Az.mk (below_step (by repeat (first | (with_reducible first | exact HB.out | apply bal | apply bdN | apply bdr) | exact HB.out)) hb); clear HB; have HO107 := n0_; have HB := n1_; clear n0_ n1_; clear hb ho2))
 go_ret
 exact ⟨_, by first | rfl | (simp [errW_none, errW_some] <;> rfl) | (simp [*, errW_none, errW_some] <;> rfl), by (with_reducible repeat (first | apply Kd.R_alloc | apply Kd.R_drewN | apply Kd.R_drew)); exact HO107.out, by repeat (first | (with_reducible first | exact HB.out | apply bal | apply bdN | apply bdr) | exact HB.out)⟩
mutual
def impl_HeapNew.l0 : Nat → List ByteArray → Int → Int → List (S79) → Option ((List (S79)))
 | 0, _, _, _, _ => none
 | k + 1, x8, x9, x10, x110000 => if x10 < x9 then (if 0 ≤ x10 then (if x10 < (x8.length : Int) then ((impl_refTo.f x10).bind fun bt114 => ((some (([(⟨bt114.1, bt114.2.1, bt114.2.2⟩ : S31)] : List (S31)) : List (S31))).bind fun y117 => (if x10 > 0 then ((impl_refTo.f 0).bind fun bt121 => ((impl_refTo.f 0).bind fun bt127 => (if y117.length < 4398046511104 then (if x110000.length < 1099511627776 then (impl_HeapNew.l0 k x8 x9 (wrap64 (x10 + 1)) (x110000 ++ [(⟨5, rdOf ByteArray.empty x8 x10, 0, (y117 ++ [(⟨bt127.1, bt127.2.1, bt127.2.2⟩ : S31)]), (([(⟨bt121.1, bt121.2.1, bt121.2.2⟩ : S31)] : List (S31))), ([] : List ByteArray), ([] : List (S31))⟩ : S79)])) else (none)) else (none)))) else (if x110000.length < 1099511627776 then (impl_HeapNew.l0 k x8 x9 (wrap64 (x10 + 1)) (x110000 ++ [(⟨5, rdOf ByteArray.empty x8 x10, 0, y117, ([] : List (S31)), ([] : List ByteArray), ([] : List (S31))⟩ : S79)])) else (none))))) else (none)) else (none)) else ((impl_builtNames.f).bind fun t139 => (impl_HeapNew.l1 k t139 (t139.length : Int) 0 x110000))
def impl_HeapNew.l1 : Nat → List ByteArray → Int → Int → List (S79) → Option ((List (S79)))
 | 0, _, _, _, _ => none
 | k + 1, x38, x39, x40, x110000 => if x40 < x39 then (if 0 ≤ x40 then (if x40 < (x38.length : Int) then (if x110000.length < 1099511627776 then (impl_HeapNew.l1 k x38 x39 (wrap64 (x40 + 1)) (x110000 ++ [(⟨10, rdOf ByteArray.empty x38 x40, 0, ([] : List (S31)), ([] : List (S31)), ([] : List ByteArray), ([] : List (S31))⟩ : S79)])) else (none)) else (none)) else (none)) else (some x110000)
end
def impl_HeapNew.f (k : Nat)  : Option ((List (S79))) := (impl_errorNames.f).bind fun t110 => (impl_HeapNew.l0 k t110 (t110.length : Int) 0 ([] : List (S79)))
theorem impl_HeapNew.calls (k : Nat)  (r : List (S79)) (w : World) (h : impl_HeapNew.f k  = some r) :
  Calls Try.prog 9 #[] w fun e w' => ∃ v0_ : Value, e = .returned (.agg #[v0_]) ∧ Kd.S k79 79 w' w.heap.size (fun _ => True) v0_ r ∧ Below w.heap.size w w' := by
 have hu25 := Try.underlying25
 have hu79 := Try.underlying79
 have HB := Az.mk (Below.refl w.heap.size w)
 have H : ((impl_errorNames.f).bind fun t110 => (impl_HeapNew.l0 k t110 (t110.length : Int) 0 ([] : List (S79)))) = some r := h
 clear h
 replace H := Option.bind_eq_some_iff.mp H
 obtain ⟨t110, A10, H⟩ := H
 replace H : (impl_HeapNew.l0 k t110 (t110.length : Int) 0 ([] : List (S79))) = some r := H
 have A1 := Az.mk A10
 clear A10
 have H' := Az.mk H
 clear H
 go_enter Try.func9, Try.ntmps9
 go_wp2_with (first | ((with_reducible refine gate_dst (N := 0) rfl ?_); refine box_event ?hg (N := 0) ?hd (cs := #[.slice none 0 0]) (t := 25) ?hr ?_; (case hd => rfl); (case hg => rfl); (case hr => first | (go_simp; done) | (go_simp; rfl)); intro gb108 hg w2 hbox hb; have n0_ := Az.mk (below_step (by repeat (first | (with_reducible first | exact HB.out | apply bal | apply bdN | apply bdr) | exact HB.out)) hb); have n1_ := Az.mk (hbox); have n2_ := Az.mk ((by rw [hg]; exact (below_size (by repeat (first | (with_reducible first | exact HB.out | apply bal | apply bdN | apply bdr) | exact HB.out))) : w.heap.size ≤ gb108)); have n3_ := Az.mk ((by rw [hg]; exact (below_size (by repeat (first | (with_reducible first | exact HB.out | apply bal | apply bdN | apply bdr) | exact HB.out))) : w.heap.size ≤ gb108)); clear HB; have HB := n0_; have BK108 := n1_; have GW108 := n2_; have GE108 := n3_; clear n0_ n1_ n2_ n3_; clear hb hbox hg) | ((with_reducible refine gate_dst (N := 1) rfl ?_); refine box_event ?hg (N := 1) ?hd (cs := #[.slice none 0 0]) (t := 25) ?hr ?_; (case hd => rfl); (case hg => rfl); (case hr => first | (go_simp; done) | (go_simp; rfl)); intro gb109 hg w3 hbox hb; have n0_ := Az.mk (blk_below (g := gb108) (o := .cells #[.slice none 0 0] 25 (0, 0)) (by (with_reducible repeat (first | refine blk_drewN ?_ _ | refine blk_drew ?_ | refine blk_alloc ?_ _)); exact BK108.out) hb); have n1_ := Az.mk (below_step (by repeat (first | (with_reducible first | exact HB.out | apply bal | apply bdN | apply bdr | refine bS ?_ GE108.out) | exact HB.out)) hb); have n2_ := Az.mk (hbox); have n3_ := Az.mk ((by rw [hg]; exact (below_size (by repeat (first | (with_reducible first | exact HB.out | apply bal | apply bdN | apply bdr | refine bS ?_ GE108.out) | exact HB.out))) : w.heap.size ≤ gb109)); have n4_ := Az.mk ((by rw [hg]; exact (below_size (by repeat (first | (with_reducible first | exact HB.out | apply bal | apply bdN | apply bdr | refine bS ?_ GE108.out) | exact HB.out))) : w.heap.size ≤ gb109)); have n5_ := Az.mk ((by rw [hg]; exact Nat.ne_of_lt (blk_lt (g := gb108) (o := .cells #[.slice none 0 0] 25 (0, 0)) (by (with_reducible repeat (first | refine blk_drewN ?_ _ | refine blk_drew ?_ | refine blk_alloc ?_ _)); exact BK108.out)) : gb108 ≠ gb109)); have n6_ := Az.mk ((by rw [hg]; exact Nat.ne_of_gt (blk_lt (g := gb108) (o := .cells #[.slice none 0 0] 25 (0, 0)) (by (with_reducible repeat (first | refine blk_drewN ?_ _ | refine blk_drew ?_ | refine blk_alloc ?_ _)); exact BK108.out)) : gb109 ≠ gb108)); clear BK108; clear HB; have BK108 := n0_; have HB := n1_; have BK109 := n2_; have GW109 := n3_; have GE109 := n4_; have NB108_109 := n5_; have NB109_108 := n6_; clear n0_ n1_ n2_ n3_ n4_ n5_ n6_; clear hb hbox hg; have hnb4 := NB109_108.out; have hnc4 := NB108_109.out; have hcz5_0 : w3.cell? ⟨gb109, 0, none⟩ = some (.slice none 0 0) := (bC BK109.out 0).trans rfl; have hfz5_0 := bF BK109.out 0) | ((with_reducible refine gate_callee (f := 44) rfl ?_); refine goesL_ (some 8) rfl rfl Try.func44 (by kernel_rfl) rfl #[] rfl (by (try simp only [List.map_toArray, List.map_cons, List.map_nil]); first | done | rfl | (simp only [List.length_drop, List.length_take]; rfl)) ?_; (with_reducible refine (impl_errorNames.calls  t110 _ A1.out).mono ?_); rintro e w6 ⟨v111, rfl, ho0, hb⟩; refine ⟨_, rfl, ?_⟩; have n0_ := Az.mk (Kd.R_lower ho0 (below_size (by repeat (first | (with_reducible first | exact HB.out | apply bal | apply bdN | apply bdr | refine bS ?_ GE108.out | refine bS ?_ GE109.out) | exact HB.out)))); have n1_ := Az.mk (blk_below (g := gb108) (o := .cells #[.slice none 0 0] 25 (0, 0)) (by (with_reducible repeat (first | refine blk_drewN ?_ _ | refine blk_drew ?_ | refine blk_alloc ?_ _)); refine blk_far ?_ NB108_109.out _; (with_reducible repeat (first | refine blk_drewN ?_ _ | refine blk_drew ?_ | refine blk_alloc ?_ _)); exact BK108.out) hb); have n2_ := Az.mk (blk_below (g := gb109) (o := .cells #[.slice none 0 0] 25 (0, 0)) (by (with_reducible repeat (first | refine blk_drewN ?_ _ | refine blk_drew ?_ | refine blk_alloc ?_ _)); refine blk_put (cs := #[.slice none 0 0]) ?_ 0 _ rfl; (with_reducible repeat (first | refine blk_drewN ?_ _ | refine blk_drew ?_ | refine blk_alloc ?_ _)); exact BK109.out) hb); have n3_ := Az.mk (below_step (by repeat (first | (with_reducible first | exact HB.out | apply bal | apply bdN | apply bdr | refine bS ?_ GE108.out | refine bS ?_ GE109.out) | exact HB.out)) hb); clear BK108; clear BK109; clear HB; have HO112 := n0_; have BK108 := n1_; have BK109 := n2_; have HB := n3_; clear n0_ n1_ n2_ n3_; (try clear hb); (try clear hb2); (try clear hk); (try clear hi); (try clear ho0); obtain ⟨Ao7, co7, eo7⟩ := Kd.R_slice HO112.out; subst eo7))
 go_loopg [10] k (fun kq v10 w' => ∃ (x10_1 : Int) (x110000_1 : List (S79)) (u110000 : Value), v10 = .int .i64 x10_1 ∧ Az (impl_HeapNew.l0 kq t110 (t110.length : Int) x10_1 x110000_1 = some r) ∧ Az (kq ≤ k) ∧ Az (Kd.R Kd.string 9 w' w.heap.size (fun _ => True) (.slice Ao7 t110.length co7) t110) ∧ Az (Kd.S k79 79 w' w.heap.size (fun k_ => some k_ ≠ ((.slice Ao7 t110.length co7) : Value).ownBlock) u110000 x110000_1) ∧ Az (w'.heap[gb108]? = some (.cells #[(.slice none 0 0)] 25 (0, 0))) ∧ Az (w'.heap[gb109]? = some (.cells #[u110000] 25 (0, 0))) ∧ Az (Below w.heap.size w w'))
 case atStart => exact ⟨(0), (([] : List (S79))), (.slice none 0 0), (by first | rfl | (simp; done) | (simp [*]; done)), H', ⟨Nat.le_refl _⟩, ⟨by (with_reducible repeat (first | apply Kd.R_alloc | apply Kd.R_drewN | apply Kd.R_drew)); exact HO112.out⟩, ⟨by first | exact Kd.S_nil _ _ _ _ _ | exact Kd.N_nil _ _ _ _ _ | exact Kd.V_nil _ _ _ _ _ | exact Kd.Q_nil _ _ _ _ _ | exact Kd.R_nil _ _ _ _ _⟩, ⟨by (with_reducible repeat (first | refine blk_drewN ?_ _ | refine blk_drew ?_ | refine blk_alloc ?_ _)); exact BK108.out⟩, ⟨by (with_reducible repeat (first | refine blk_drewN ?_ _ | refine blk_drew ?_ | refine blk_alloc ?_ _)); exact BK109.out⟩, ⟨by repeat (first | (with_reducible first | exact HB.out | apply bal | apply bdN | apply bdr | refine bS ?_ GE108.out | refine bS ?_ GE109.out) | exact HB.out)⟩⟩
 case round =>
  clear H'
  try clear p2
  try clear c4
  try clear hcz5_0
  try clear hfz5_0
  obtain ⟨x10_1, x110000_1, u110000, rfl, HA, HK1, HO_8, HO_110000, BK108, BK109, HB⟩ := hrel
  cases gk with
  | zero => exact absurd HA.out (by simp [impl_HeapNew.l0])
  | succ k1 =>
   have H := HA.out
   clear HA
   simp only [impl_HeapNew.l0] at H
   by_cases c8 : x10_1 < (t110.length : Int)
   ·rw [if_pos c8] at H
    have c8b0 : decide (x10_1 < (t110.length : Int)) = true := decide_eq_true c8
    clear c8
    by_cases c9 : 0 ≤ x10_1
    ·rw [if_pos c9] at H
     have c9b0 : decide (0 ≤ x10_1) = true := decide_eq_true c9
     clear c9
     by_cases c10 : x10_1 < (t110.length : Int)
     ·rw [if_pos c10] at H
      have c10b0 : decide (x10_1 < (t110.length : Int)) = true := decide_eq_true c10
      clear c10
      replace H := Option.bind_eq_some_iff.mp H
      obtain ⟨⟨t114, t115, t116⟩, A110, H⟩ := H
      replace H : ((some (([(⟨t114, t115, t116⟩ : S31)] : List (S31)) : List (S31))).bind fun y117 => (if x10_1 > 0 then ((impl_refTo.f 0).bind fun bt121 => ((impl_refTo.f 0).bind fun bt127 => (if y117.length < 4398046511104 then (if x110000_1.length < 1099511627776 then (impl_HeapNew.l0 k1 t110 (t110.length : Int) (wrap64 (x10_1 + 1)) (x110000_1 ++ [(⟨5, rdOf ByteArray.empty t110 x10_1, 0, (y117 ++ [(⟨bt127.1, bt127.2.1, bt127.2.2⟩ : S31)]), (([(⟨bt121.1, bt121.2.1, bt121.2.2⟩ : S31)] : List (S31))), ([] : List ByteArray), ([] : List (S31))⟩ : S79)])) else (none)) else (none)))) else (if x110000_1.length < 1099511627776 then (impl_HeapNew.l0 k1 t110 (t110.length : Int) (wrap64 (x10_1 + 1)) (x110000_1 ++ [(⟨5, rdOf ByteArray.empty t110 x10_1, 0, y117, ([] : List (S31)), ([] : List ByteArray), ([] : List (S31))⟩ : S79)])) else (none)))) = some r := H
      have A11 := Az.mk A110
      clear A110
      obtain ⟨y117, hy117⟩ : ∃ y_ : List (S31), y_ = (([(⟨t114, t115, t116⟩ : S31)] : List (S31))) := ⟨_, rfl⟩
      replace H : (if x10_1 > 0 then ((impl_refTo.f 0).bind fun bt121 => ((impl_refTo.f 0).bind fun bt127 => (if y117.length < 4398046511104 then (if x110000_1.length < 1099511627776 then (impl_HeapNew.l0 k1 t110 (t110.length : Int) (wrap64 (x10_1 + 1)) (x110000_1 ++ [(⟨5, rdOf ByteArray.empty t110 x10_1, 0, (y117 ++ [(⟨bt127.1, bt127.2.1, bt127.2.2⟩ : S31)]), (([(⟨bt121.1, bt121.2.1, bt121.2.2⟩ : S31)] : List (S31))), ([] : List ByteArray), ([] : List (S31))⟩ : S79)])) else (none)) else (none)))) else (if x110000_1.length < 1099511627776 then (impl_HeapNew.l0 k1 t110 (t110.length : Int) (wrap64 (x10_1 + 1)) (x110000_1 ++ [(⟨5, rdOf ByteArray.empty t110 x10_1, 0, y117, ([] : List (S31)), ([] : List ByteArray), ([] : List (S31))⟩ : S79)])) else (none))) = some r := by first | (rw [hy117]; with_reducible exact H) | (have H2_ := (Option.bind_some _ _).symm.trans H; rw [hy117]; with_reducible exact H2_) | (have H2_ := (Option.bind_some _ _).symm.trans H; with_reducible exact H2_) | with_reducible exact H | (rw [hy117]; exact H) | exact H
      have Ny117 := Az.mk hy117
      clear hy117
      by_cases c12 : x10_1 > 0
      ·rw [if_pos c12] at H
       have c12b0 : decide (0 < x10_1) = true := decide_eq_true c12
       clear c12
       replace H := Option.bind_eq_some_iff.mp H
       obtain ⟨⟨t121, t122, t123⟩, A130, H⟩ := H
       replace H : ((impl_refTo.f 0).bind fun bt127 => (if y117.length < 4398046511104 then (if x110000_1.length < 1099511627776 then (impl_HeapNew.l0 k1 t110 (t110.length : Int) (wrap64 (x10_1 + 1)) (x110000_1 ++ [(⟨5, rdOf ByteArray.empty t110 x10_1, 0, (y117 ++ [(⟨bt127.1, bt127.2.1, bt127.2.2⟩ : S31)]), (([(⟨t121, t122, t123⟩ : S31)] : List (S31))), ([] : List ByteArray), ([] : List (S31))⟩ : S79)])) else (none)) else (none))) = some r := H
       have A13 := Az.mk A130
       clear A130
       obtain ⟨y124, hy124⟩ : ∃ y_ : List (S31), y_ = (([(⟨t121, t122, t123⟩ : S31)] : List (S31))) := ⟨_, rfl⟩
       replace H : ((impl_refTo.f 0).bind fun bt127 => (if y117.length < 4398046511104 then (if x110000_1.length < 1099511627776 then (impl_HeapNew.l0 k1 t110 (t110.length : Int) (wrap64 (x10_1 + 1)) (x110000_1 ++ [(⟨5, rdOf ByteArray.empty t110 x10_1, 0, (y117 ++ [(⟨bt127.1, bt127.2.1, bt127.2.2⟩ : S31)]), y124, ([] : List ByteArray), ([] : List (S31))⟩ : S79)])) else (none)) else (none))) = some r := by first | (rw [hy124]; with_reducible exact H) | (have H2_ := (Option.bind_some _ _).symm.trans H; rw [hy124]; with_reducible exact H2_) | (have H2_ := (Option.bind_some _ _).symm.trans H; with_reducible exact H2_) | with_reducible exact H | (rw [hy124]; exact H) | exact H
       have Ny124 := Az.mk hy124
       clear hy124
       replace H := Option.bind_eq_some_iff.mp H
       obtain ⟨⟨t127, t128, t129⟩, A140, H⟩ := H
       replace H : (if y117.length < 4398046511104 then (if x110000_1.length < 1099511627776 then (impl_HeapNew.l0 k1 t110 (t110.length : Int) (wrap64 (x10_1 + 1)) (x110000_1 ++ [(⟨5, rdOf ByteArray.empty t110 x10_1, 0, (y117 ++ [(⟨t127, t128, t129⟩ : S31)]), y124, ([] : List ByteArray), ([] : List (S31))⟩ : S79)])) else (none)) else (none)) = some r := H
       have A14 := Az.mk A140
       clear A140
       by_cases c15 : y117.length < 4398046511104
       ·rw [if_pos c15] at H
        have LMc15 := Az.mk c15
        clear c15
        obtain ⟨y130, hy130⟩ : ∃ y_ : List (S31), y_ = (y117 ++ [(⟨t127, t128, t129⟩ : S31)]) := ⟨_, rfl⟩
        replace H : (if x110000_1.length < 1099511627776 then (impl_HeapNew.l0 k1 t110 (t110.length : Int) (wrap64 (x10_1 + 1)) (x110000_1 ++ [(⟨5, rdOf ByteArray.empty t110 x10_1, 0, y130, y124, ([] : List ByteArray), ([] : List (S31))⟩ : S79)])) else (none)) = some r := by first | (rw [hy130]; with_reducible exact H) | (have H2_ := (Option.bind_some _ _).symm.trans H; rw [hy130]; with_reducible exact H2_) | (have H2_ := (Option.bind_some _ _).symm.trans H; with_reducible exact H2_) | with_reducible exact H | (rw [hy130]; exact H) | exact H
        have Ny130 := Az.mk hy130
        clear hy130
        by_cases c16 : x110000_1.length < 1099511627776
        ·rw [if_pos c16] at H
         have LMc16 := Az.mk c16
         clear c16
         obtain ⟨y133, hy133⟩ : ∃ y_ : List (S79), y_ = (x110000_1 ++ [(⟨5, rdOf ByteArray.empty t110 x10_1, 0, y130, y124, ([] : List ByteArray), ([] : List (S31))⟩ : S79)]) := ⟨_, rfl⟩
         replace H : (impl_HeapNew.l0 k1 t110 (t110.length : Int) (wrap64 (x10_1 + 1)) y133) = some r := by first | (rw [hy133]; with_reducible exact H) | (have H2_ := (Option.bind_some _ _).symm.trans H; rw [hy133]; with_reducible exact H2_) | (have H2_ := (Option.bind_some _ _).symm.trans H; with_reducible exact H2_) | with_reducible exact H | (rw [hy133]; exact H) | exact H
         have Ny133 := Az.mk hy133
         clear hy133
         have H' := Az.mk H
         clear H
         have p113 : 0 ≤ (x10_1 : Int) := of_decide_eq_true (by first | (with_reducible assumption) | assumption)
         have q113 : x10_1 < (t110.length : Int) := of_decide_eq_true (by first | (with_reducible assumption) | assumption)
         obtain ⟨ad113, e113, hx113_0⟩ := Kd.at_string (Kd.R_reads' HO_8.out).2.2 x10_1 p113 q113
         cases e113
         replace p113 := eq_true p113
         replace q113 := eq_true q113
         try go_wp2_with (first | ((with_reducible refine gate_callee (f := 45) rfl ?_); refine goesL_ (some 17) rfl rfl Try.func45 (by kernel_rfl) rfl #[.int .i64 x10_1] rfl (by (try simp only [List.map_toArray, List.map_cons, List.map_nil]); first | done | rfl | (simp only [List.length_drop, List.length_take]; rfl)) ?_; (with_reducible refine (impl_refTo.calls x10_1 t114 t115 t116 _ A11.out).mono ?_); rintro e w17 ⟨rfl, hb⟩; refine ⟨_, rfl, ?_⟩; have n0_ := Az.mk (Kd.R_below (by (with_reducible repeat (first | apply Kd.R_alloc | apply Kd.R_drewN | apply Kd.R_drew)); exact HO_8.out) hb); have n1_ := Az.mk (Kd.S_below (by (with_reducible repeat (first | apply Kd.S_alloc | apply Kd.S_drewN | apply Kd.S_drew)); exact HO_110000.out) hb); have n2_ := Az.mk (blk_below (g := gb108) (o := .cells #[.slice none 0 0] 25 (0, 0)) (by (with_reducible repeat (first | refine blk_drewN ?_ _ | refine blk_drew ?_ | refine blk_alloc ?_ _)); exact BK108.out) hb); have n3_ := Az.mk (blk_below (g := gb109) (o := .cells #[u110000] 25 (0, 0)) (by (with_reducible repeat (first | refine blk_drewN ?_ _ | refine blk_drew ?_ | refine blk_alloc ?_ _)); exact BK109.out) hb); have n4_ := Az.mk (below_step (by repeat (first | (with_reducible first | exact HB.out | apply bal | apply bdN | apply bdr | refine bS ?_ GE108.out | refine bS ?_ GE109.out) | exact HB.out)) hb); clear HO_8; clear HO_110000; clear BK108; clear BK109; clear HB; have HO_8 := n0_; have HO_110000 := n1_; have BK108 := n2_; have BK109 := n3_; have HB := n4_; clear n0_ n1_ n2_ n3_ n4_; (try clear hb); (try clear hb2); (try clear hk); (try clear hi)) | ((with_reducible refine gate_dst (N := 18) rfl ?_); refine Kd.R_lit k31 _ 31 ?hg (N := 18) ?hd (xs := ([(⟨t114, t115, t116⟩ : S31)] : List (S31))) (inner := [.int .i64 t114, .string t115, .int .i64 t116]) (ok := fun _ => True) (okp := fun _ => True) ?hr ?hp (fun _ hk => hk) trivial (Below.refl _ _) (Nat.le_refl _) (by simp) ?_; (case hd => rfl); (case hg => rfl); (case hr => first | (go_simp; done) | (go_simp; rfl)); (case hp => exact (Reps.c3 (show Kd.M k31 _ _ _ (⟨t114, t115, t116⟩ : S31) [.int .i64 t114, .string t115, .int .i64 t116] from (k31_mkM _ _ _ (⟨t114, t115, t116⟩ : S31) )) (Reps.none _ _))); intro v118 w18 ho19 hb hg_ hnew_; clear hg_ hnew_; (first | rw [← Ny117.out] at ho19 | (simp only [Int.reduceToNat] at ho19; rw [← Ny117.out] at ho19)); have n0_ := Az.mk (Kd.R_below (by (with_reducible repeat (first | apply Kd.R_alloc | apply Kd.R_drewN | apply Kd.R_drew)); exact HO_8.out) hb); have n1_ := Az.mk (Kd.S_elder' (by (with_reducible repeat (first | apply Kd.S_alloc | apply Kd.S_drewN | apply Kd.S_drew)); exact HO_110000.out) (Kd.R_base ho19) hb); have n2_ := Az.mk (Kd.R_lower ho19 (below_size (by repeat (first | (with_reducible first | exact HB.out | apply bal | apply bdN | apply bdr | refine bS ?_ GE108.out | refine bS ?_ GE109.out) | exact HB.out)))); have n3_ := Az.mk (blk_below (g := gb108) (o := .cells #[.slice none 0 0] 25 (0, 0)) (by (with_reducible repeat (first | refine blk_drewN ?_ _ | refine blk_drew ?_ | refine blk_alloc ?_ _)); exact BK108.out) hb); have n4_ := Az.mk (blk_below (g := gb109) (o := .cells #[u110000] 25 (0, 0)) (by (with_reducible repeat (first | refine blk_drewN ?_ _ | refine blk_drew ?_ | refine blk_alloc ?_ _)); exact BK109.out) hb); have n5_ := Az.mk (below_step (by repeat (first | (with_reducible first | exact HB.out | apply bal | apply bdN | apply bdr | refine bS ?_ GE108.out | refine bS ?_ GE109.out) | exact HB.out)) hb); clear HO_8; clear HO_110000; clear BK108; clear BK109; clear HB; have HO_8 := n0_; have HO_110000 := n1_; have HO119 := n2_; have BK108 := n3_; have BK109 := n4_; have HB := n5_; clear n0_ n1_ n2_ n3_ n4_ n5_; clear hb ho19; obtain ⟨Ao20, co20, eo20⟩ := Kd.R_slice HO119.out; subst eo20) | ((with_reducible refine gate_dst (N := 4) rfl ?_); refine box_event ?hg (N := 4) ?hd (cs := #[.int .i64 0, .string (⟨#[]⟩ : ByteArray), .int .i64 0, .slice none 0 0, .slice none 0 0, .slice none 0 0, .slice none 0 0]) (t := 79) ?hr ?_; (case hd => rfl); (case hg => rfl); (case hr => first | (go_simp; done) | (go_simp; rfl)); intro gb120 hg w21 hbox hb; have n0_ := Az.mk (Kd.R_below (by (with_reducible repeat (first | apply Kd.R_alloc | apply Kd.R_drewN | apply Kd.R_drew)); exact HO_8.out) hb); have n1_ := Az.mk (Kd.S_below (Kd.S_elderB (by (with_reducible repeat (first | apply Kd.S_alloc | apply Kd.S_drewN | apply Kd.S_drew)); exact HO_110000.out) gb120 (Nat.le_of_eq hg.symm)) hb); have n2_ := Az.mk (Kd.R_below (by (with_reducible repeat (first | apply Kd.R_alloc | apply Kd.R_drewN | apply Kd.R_drew)); exact HO119.out) hb); have n3_ := Az.mk (blk_below (g := gb108) (o := .cells #[.slice none 0 0] 25 (0, 0)) (by (with_reducible repeat (first | refine blk_drewN ?_ _ | refine blk_drew ?_ | refine blk_alloc ?_ _)); exact BK108.out) hb); have n4_ := Az.mk (blk_below (g := gb109) (o := .cells #[u110000] 25 (0, 0)) (by (with_reducible repeat (first | refine blk_drewN ?_ _ | refine blk_drew ?_ | refine blk_alloc ?_ _)); exact BK109.out) hb); have n5_ := Az.mk (below_step (by repeat (first | (with_reducible first | exact HB.out | apply bal | apply bdN | apply bdr | refine bS ?_ GE108.out | refine bS ?_ GE109.out) | exact HB.out)) hb); have n6_ := Az.mk (hbox); have n7_ := Az.mk ((by rw [hg]; exact (below_size (by repeat (first | (with_reducible first | exact HB.out | apply bal | apply bdN | apply bdr | refine bS ?_ GE108.out | refine bS ?_ GE109.out) | exact HB.out))) : w.heap.size ≤ gb120)); have n8_ := Az.mk ((by rw [hg]; exact (below_size (by repeat (first | (with_reducible first | exact HB.out | apply bal | apply bdN | apply bdr | refine bS ?_ GE108.out | refine bS ?_ GE109.out) | exact HB.out))) : w.heap.size ≤ gb120)); have n9_ := Az.mk ((by rw [hg]; exact Nat.ne_of_lt (blk_lt (g := gb108) (o := .cells #[.slice none 0 0] 25 (0, 0)) (by (with_reducible repeat (first | refine blk_drewN ?_ _ | refine blk_drew ?_ | refine blk_alloc ?_ _)); exact BK108.out)) : gb108 ≠ gb120)); have n10_ := Az.mk ((by rw [hg]; exact Nat.ne_of_gt (blk_lt (g := gb108) (o := .cells #[.slice none 0 0] 25 (0, 0)) (by (with_reducible repeat (first | refine blk_drewN ?_ _ | refine blk_drew ?_ | refine blk_alloc ?_ _)); exact BK108.out)) : gb120 ≠ gb108)); have n11_ := Az.mk ((by rw [hg]; exact Nat.ne_of_lt (blk_lt (g := gb109) (o := .cells #[u110000] 25 (0, 0)) (by (with_reducible repeat (first | refine blk_drewN ?_ _ | refine blk_drew ?_ | refine blk_alloc ?_ _)); exact BK109.out)) : gb109 ≠ gb120)); have n12_ := Az.mk ((by rw [hg]; exact Nat.ne_of_gt (blk_lt (g := gb109) (o := .cells #[u110000] 25 (0, 0)) (by (with_reducible repeat (first | refine blk_drewN ?_ _ | refine blk_drew ?_ | refine blk_alloc ?_ _)); exact BK109.out)) : gb120 ≠ gb109)); clear HO_8; clear HO_110000; clear HO119; clear BK108; clear BK109; clear HB; have HO_8 := n0_; have HO_110000 := n1_; have HO119 := n2_; have BK108 := n3_; have BK109 := n4_; have HB := n5_; have BK120 := n6_; have GW120 := n7_; have GE120 := n8_; have NB108_120 := n9_; have NB120_108 := n10_; have NB109_120 := n11_; have NB120_109 := n12_; clear n0_ n1_ n2_ n3_ n4_ n5_ n6_ n7_ n8_ n9_ n10_ n11_ n12_; clear hb hbox hg; have hnb22 := NB120_108.out; have hnc22 := NB108_120.out; have hnb23 := NB120_109.out; have hnc23 := NB109_120.out; have hcz24_0 : w21.cell? ⟨gb120, 0, none⟩ = some (.int .i64 0) := (bC BK120.out 0).trans rfl; have hcz24_1 : w21.cell? ⟨gb120, 1, none⟩ = some (.string (⟨#[]⟩ : ByteArray)) := (bC BK120.out 1).trans rfl; have hcz24_2 : w21.cell? ⟨gb120, 2, none⟩ = some (.int .i64 0) := (bC BK120.out 2).trans rfl; have hcz24_3 : w21.cell? ⟨gb120, 3, none⟩ = some (.slice none 0 0) := (bC BK120.out 3).trans rfl; have hcz24_4 : w21.cell? ⟨gb120, 4, none⟩ = some (.slice none 0 0) := (bC BK120.out 4).trans rfl; have hcz24_5 : w21.cell? ⟨gb120, 5, none⟩ = some (.slice none 0 0) := (bC BK120.out 5).trans rfl; have hcz24_6 : w21.cell? ⟨gb120, 6, none⟩ = some (.slice none 0 0) := (bC BK120.out 6).trans rfl; have hfz24_0 := bF BK120.out 0; have hfz24_1 := bF BK120.out 1; have hfz24_2 := bF BK120.out 2; have hfz24_3 := bF BK120.out 3; have hfz24_4 := bF BK120.out 4; have hfz24_5 := bF BK120.out 5; have hfz24_6 := bF BK120.out 6) | ((with_reducible refine gate_callee (f := 45) rfl ?_); refine goesL_ (some 22) rfl rfl Try.func45 (by kernel_rfl) rfl #[.int .i64 0] rfl (by (try simp only [List.map_toArray, List.map_cons, List.map_nil]); first | done | rfl | (simp only [List.length_drop, List.length_take]; rfl)) ?_; (with_reducible refine (impl_refTo.calls 0 t121 t122 t123 _ A13.out).mono ?_); rintro e w25 ⟨rfl, hb⟩; refine ⟨_, rfl, ?_⟩; have n0_ := Az.mk (Kd.R_below (by (with_reducible repeat (first | apply Kd.R_alloc | apply Kd.R_drewN | apply Kd.R_drew)); exact (Kd.R_mono (Kd.R_far (p := ⟨gb120, 6, none⟩) (Kd.R_far (p := ⟨gb120, 5, none⟩) (Kd.R_far (p := ⟨gb120, 4, none⟩) (Kd.R_far (p := ⟨gb120, 3, none⟩) (Kd.R_far (p := ⟨gb120, 2, none⟩) (Kd.R_far (p := ⟨gb120, 1, none⟩) (Kd.R_far (p := ⟨gb120, 0, none⟩) (Kd.R_types HO_8.out BK120.out (by decide)) (fun _ hk => hk.2) (.int .i64 5)) (fun _ hk => hk.2) (.string (rdOf ByteArray.empty t110 x10_1))) (fun _ hk => hk.2) (.int .i64 0)) (fun _ hk => hk.2) (.slice Ao20 y117.length co20)) (fun _ hk => hk.2) (.slice none 0 0)) (fun _ hk => hk.2) (.slice none 0 0)) (fun _ hk => hk.2) (.slice none 0 0)) (fun _ h_ => h_.1))) hb); have n1_ := Az.mk (Kd.S_below (by (with_reducible repeat (first | apply Kd.S_alloc | apply Kd.S_drewN | apply Kd.S_drew)); exact (Kd.S_mono (Kd.S_far (p := ⟨gb120, 6, none⟩) (Kd.S_far (p := ⟨gb120, 5, none⟩) (Kd.S_far (p := ⟨gb120, 4, none⟩) (Kd.S_far (p := ⟨gb120, 3, none⟩) (Kd.S_far (p := ⟨gb120, 2, none⟩) (Kd.S_far (p := ⟨gb120, 1, none⟩) (Kd.S_far (p := ⟨gb120, 0, none⟩) (Kd.S_mono HO_110000.out (fun k_ hk => (⟨hk, hk.2⟩ : _ ∧ k_ ≠ gb120))) (fun _ hk => hk.2) (.int .i64 5)) (fun _ hk => hk.2) (.string (rdOf ByteArray.empty t110 x10_1))) (fun _ hk => hk.2) (.int .i64 0)) (fun _ hk => hk.2) (.slice Ao20 y117.length co20)) (fun _ hk => hk.2) (.slice none 0 0)) (fun _ hk => hk.2) (.slice none 0 0)) (fun _ hk => hk.2) (.slice none 0 0)) (fun _ h_ => h_.1))) hb); have n2_ := Az.mk (Kd.R_below (by (with_reducible repeat (first | apply Kd.R_alloc | apply Kd.R_drewN | apply Kd.R_drew)); exact (Kd.R_mono (Kd.R_far (p := ⟨gb120, 6, none⟩) (Kd.R_far (p := ⟨gb120, 5, none⟩) (Kd.R_far (p := ⟨gb120, 4, none⟩) (Kd.R_far (p := ⟨gb120, 3, none⟩) (Kd.R_far (p := ⟨gb120, 2, none⟩) (Kd.R_far (p := ⟨gb120, 1, none⟩) (Kd.R_far (p := ⟨gb120, 0, none⟩) (Kd.R_types HO119.out BK120.out (by decide)) (fun _ hk => hk.2) (.int .i64 5)) (fun _ hk => hk.2) (.string (rdOf ByteArray.empty t110 x10_1))) (fun _ hk => hk.2) (.int .i64 0)) (fun _ hk => hk.2) (.slice Ao20 y117.length co20)) (fun _ hk => hk.2) (.slice none 0 0)) (fun _ hk => hk.2) (.slice none 0 0)) (fun _ hk => hk.2) (.slice none 0 0)) (fun _ h_ => h_.1))) hb); have n3_ := Az.mk (blk_below (g := gb108) (o := .cells #[.slice none 0 0] 25 (0, 0)) (by (with_reducible repeat (first | refine blk_drewN ?_ _ | refine blk_drew ?_ | refine blk_alloc ?_ _)); refine blk_far ?_ NB108_120.out _; (with_reducible repeat (first | refine blk_drewN ?_ _ | refine blk_drew ?_ | refine blk_alloc ?_ _)); refine blk_far ?_ NB108_120.out _; (with_reducible repeat (first | refine blk_drewN ?_ _ | refine blk_drew ?_ | refine blk_alloc ?_ _)); refine blk_far ?_ NB108_120.out _; (with_reducible repeat (first | refine blk_drewN ?_ _ | refine blk_drew ?_ | refine blk_alloc ?_ _)); refine blk_far ?_ NB108_120.out _; (with_reducible repeat (first | refine blk_drewN ?_ _ | refine blk_drew ?_ | refine blk_alloc ?_ _)); refine blk_far ?_ NB108_120.out _; (with_reducible repeat (first | refine blk_drewN ?_ _ | refine blk_drew ?_ | refine blk_alloc ?_ _)); refine blk_far ?_ NB108_120.out _; (with_reducible repeat (first | refine blk_drewN ?_ _ | refine blk_drew ?_ | refine blk_alloc ?_ _)); refine blk_far ?_ NB108_120.out _; (with_reducible repeat (first | refine blk_drewN ?_ _ | refine blk_drew ?_ | refine blk_alloc ?_ _)); exact BK108.out) hb); have n4_ := Az.mk (blk_below (g := gb109) (o := .cells #[u110000] 25 (0, 0)) (by (with_reducible repeat (first | refine blk_drewN ?_ _ | refine blk_drew ?_ | refine blk_alloc ?_ _)); refine blk_far ?_ NB109_120.out _; (with_reducible repeat (first | refine blk_drewN ?_ _ | refine blk_drew ?_ | refine blk_alloc ?_ _)); refine blk_far ?_ NB109_120.out _; (with_reducible repeat (first | refine blk_drewN ?_ _ | refine blk_drew ?_ | refine blk_alloc ?_ _)); refine blk_far ?_ NB109_120.out _; (with_reducible repeat (first | refine blk_drewN ?_ _ | refine blk_drew ?_ | refine blk_alloc ?_ _)); refine blk_far ?_ NB109_120.out _; (with_reducible repeat (first | refine blk_drewN ?_ _ | refine blk_drew ?_ | refine blk_alloc ?_ _)); refine blk_far ?_ NB109_120.out _; (with_reducible repeat (first | refine blk_drewN ?_ _ | refine blk_drew ?_ | refine blk_alloc ?_ _)); refine blk_far ?_ NB109_120.out _; (with_reducible repeat (first | refine blk_drewN ?_ _ | refine blk_drew ?_ | refine blk_alloc ?_ _)); refine blk_far ?_ NB109_120.out _; (with_reducible repeat (first | refine blk_drewN ?_ _ | refine blk_drew ?_ | refine blk_alloc ?_ _)); exact BK109.out) hb); have n5_ := Az.mk (blk_below (g := gb120) (o := .cells #[.int .i64 5, .string (rdOf ByteArray.empty t110 x10_1), .int .i64 0, .slice Ao20 y117.length co20, .slice none 0 0, .slice none 0 0, .slice none 0 0] 79 (0, 0)) (by (with_reducible repeat (first | refine blk_drewN ?_ _ | refine blk_drew ?_ | refine blk_alloc ?_ _)); refine blk_put (cs := #[.int .i64 5, .string (rdOf ByteArray.empty t110 x10_1), .int .i64 0, .slice Ao20 y117.length co20, .slice none 0 0, .slice none 0 0, .slice none 0 0]) ?_ 6 _ rfl; (with_reducible repeat (first | refine blk_drewN ?_ _ | refine blk_drew ?_ | refine blk_alloc ?_ _)); refine blk_put (cs := #[.int .i64 5, .string (rdOf ByteArray.empty t110 x10_1), .int .i64 0, .slice Ao20 y117.length co20, .slice none 0 0, .slice none 0 0, .slice none 0 0]) ?_ 5 _ rfl; (with_reducible repeat (first | refine blk_drewN ?_ _ | refine blk_drew ?_ | refine blk_alloc ?_ _)); refine blk_put (cs := #[.int .i64 5, .string (rdOf ByteArray.empty t110 x10_1), .int .i64 0, .slice Ao20 y117.length co20, .slice none 0 0, .slice none 0 0, .slice none 0 0]) ?_ 4 _ rfl; (with_reducible repeat (first | refine blk_drewN ?_ _ | refine blk_drew ?_ | refine blk_alloc ?_ _)); refine blk_put (cs := #[.int .i64 5, .string (rdOf ByteArray.empty t110 x10_1), .int .i64 0, .slice none 0 0, .slice none 0 0, .slice none 0 0, .slice none 0 0]) ?_ 3 _ rfl; (with_reducible repeat (first | refine blk_drewN ?_ _ | refine blk_drew ?_ | refine blk_alloc ?_ _)); refine blk_put (cs := #[.int .i64 5, .string (rdOf ByteArray.empty t110 x10_1), .int .i64 0, .slice none 0 0, .slice none 0 0, .slice none 0 0, .slice none 0 0]) ?_ 2 _ rfl; (with_reducible repeat (first | refine blk_drewN ?_ _ | refine blk_drew ?_ | refine blk_alloc ?_ _)); refine blk_put (cs := #[.int .i64 5, .string (⟨#[]⟩ : ByteArray), .int .i64 0, .slice none 0 0, .slice none 0 0, .slice none 0 0, .slice none 0 0]) ?_ 1 _ rfl; (with_reducible repeat (first | refine blk_drewN ?_ _ | refine blk_drew ?_ | refine blk_alloc ?_ _)); refine blk_put (cs := #[.int .i64 0, .string (⟨#[]⟩ : ByteArray), .int .i64 0, .slice none 0 0, .slice none 0 0, .slice none 0 0, .slice none 0 0]) ?_ 0 _ rfl; (with_reducible repeat (first | refine blk_drewN ?_ _ | refine blk_drew ?_ | refine blk_alloc ?_ _)); exact BK120.out) hb); have n6_ := Az.mk (below_step (by repeat (first | (with_reducible first | exact HB.out | apply bal | apply bdN | apply bdr | refine bS ?_ GE108.out | refine bS ?_ GE109.out | refine bS ?_ GE120.out) | exact HB.out)) hb); clear HO_8; clear HO_110000; clear HO119; clear BK108; clear BK109; clear BK120; clear HB; have HO_8 := n0_; have HO_110000 := n1_; have HO119 := n2_; have BK108 := n3_; have BK109 := n4_; have BK120 := n5_; have HB := n6_; clear n0_ n1_ n2_ n3_ n4_ n5_ n6_; (try clear hb); (try clear hb2); (try clear hk); (try clear hi)) | ((with_reducible refine gate_dst (N := 23) rfl ?_); refine Kd.R_lit k31 _ 31 ?hg (N := 23) ?hd (xs := ([(⟨t121, t122, t123⟩ : S31)] : List (S31))) (inner := [.int .i64 t121, .string t122, .int .i64 t123]) (ok := fun _ => True) (okp := fun _ => True) ?hr ?hp (fun _ hk => hk) trivial (Below.refl _ _) (Nat.le_refl _) (by simp) ?_; (case hd => rfl); (case hg => rfl); (case hr => first | (go_simp; done) | (go_simp; rfl)); (case hp => exact (Reps.c3 (show Kd.M k31 _ _ _ (⟨t121, t122, t123⟩ : S31) [.int .i64 t121, .string t122, .int .i64 t123] from (k31_mkM _ _ _ (⟨t121, t122, t123⟩ : S31) )) (Reps.none _ _))); intro v125 w26 ho27 hb hg_ hnew_; clear hg_ hnew_; (first | rw [← Ny124.out] at ho27 | (simp only [Int.reduceToNat] at ho27; rw [← Ny124.out] at ho27)); have n0_ := Az.mk (Kd.R_below (by (with_reducible repeat (first | apply Kd.R_alloc | apply Kd.R_drewN | apply Kd.R_drew)); exact HO_8.out) hb); have n1_ := Az.mk (Kd.S_elder' (by (with_reducible repeat (first | apply Kd.S_alloc | apply Kd.S_drewN | apply Kd.S_drew)); exact HO_110000.out) (Kd.R_base ho27) hb); have n2_ := Az.mk (Kd.R_elder' (by (with_reducible repeat (first | apply Kd.R_alloc | apply Kd.R_drewN | apply Kd.R_drew)); exact HO119.out) (Kd.R_base ho27) hb); have n3_ := Az.mk (Kd.R_lower (Kd.R_new' ho27 (Kd.R_lt (by (with_reducible repeat (first | apply Kd.R_alloc | apply Kd.R_drewN | apply Kd.R_drew)); exact HO119.out))) (below_size (by repeat (first | (with_reducible first | exact HB.out | apply bal | apply bdN | apply bdr | refine bS ?_ GE108.out | refine bS ?_ GE109.out | refine bS ?_ GE120.out) | exact HB.out)))); have n4_ := Az.mk (blk_below (g := gb108) (o := .cells #[.slice none 0 0] 25 (0, 0)) (by (with_reducible repeat (first | refine blk_drewN ?_ _ | refine blk_drew ?_ | refine blk_alloc ?_ _)); exact BK108.out) hb); have n5_ := Az.mk (blk_below (g := gb109) (o := .cells #[u110000] 25 (0, 0)) (by (with_reducible repeat (first | refine blk_drewN ?_ _ | refine blk_drew ?_ | refine blk_alloc ?_ _)); exact BK109.out) hb); have n6_ := Az.mk (blk_below (g := gb120) (o := .cells #[.int .i64 5, .string (rdOf ByteArray.empty t110 x10_1), .int .i64 0, .slice Ao20 y117.length co20, .slice none 0 0, .slice none 0 0, .slice none 0 0] 79 (0, 0)) (by (with_reducible repeat (first | refine blk_drewN ?_ _ | refine blk_drew ?_ | refine blk_alloc ?_ _)); exact BK120.out) hb); have n7_ := Az.mk (below_step (by repeat (first | (with_reducible first | exact HB.out | apply bal | apply bdN | apply bdr | refine bS ?_ GE108.out | refine bS ?_ GE109.out | refine bS ?_ GE120.out) | exact HB.out)) hb); clear HO_8; clear HO_110000; clear HO119; clear BK108; clear BK109; clear BK120; clear HB; have HO_8 := n0_; have HO_110000 := n1_; have HO119 := n2_; have HO126 := n3_; have BK108 := n4_; have BK109 := n5_; have BK120 := n6_; have HB := n7_; clear n0_ n1_ n2_ n3_ n4_ n5_ n6_ n7_; clear hb ho27; obtain ⟨Ao28, co28, eo28⟩ := Kd.R_slice HO126.out; subst eo28; have hcz29_0 : w26.cell? ⟨gb120, 0, none⟩ = some (.int .i64 5) := (bC BK120.out 0).trans rfl; have hcz29_1 : w26.cell? ⟨gb120, 1, none⟩ = some (.string (rdOf ByteArray.empty t110 x10_1)) := (bC BK120.out 1).trans rfl; have hcz29_2 : w26.cell? ⟨gb120, 2, none⟩ = some (.int .i64 0) := (bC BK120.out 2).trans rfl; have hcz29_3 : w26.cell? ⟨gb120, 3, none⟩ = some (.slice Ao20 y117.length co20) := (bC BK120.out 3).trans rfl; have hcz29_4 : w26.cell? ⟨gb120, 4, none⟩ = some (.slice none 0 0) := (bC BK120.out 4).trans rfl; have hcz29_5 : w26.cell? ⟨gb120, 5, none⟩ = some (.slice none 0 0) := (bC BK120.out 5).trans rfl; have hcz29_6 : w26.cell? ⟨gb120, 6, none⟩ = some (.slice none 0 0) := (bC BK120.out 6).trans rfl; have hfz29_0 := bF BK120.out 0; have hfz29_1 := bF BK120.out 1; have hfz29_2 := bF BK120.out 2; have hfz29_3 := bF BK120.out 3; have hfz29_4 := bF BK120.out 4; have hfz29_5 := bF BK120.out 5; have hfz29_6 := bF BK120.out 6))
         have n0_ : Az (Kd.R Kd.string 9 (w26.setCell ⟨gb120, 4, none⟩ (.slice Ao28 y124.length co28)) w.heap.size (fun _ => True) (.slice (some ad113) t110.length co7) t110) := ⟨by (with_reducible repeat (first | apply Kd.R_alloc | apply Kd.R_drewN | apply Kd.R_drew)); exact Kd.R_mono (Kd.R_far (p := ⟨gb120, 4, none⟩) (Kd.R_types HO_8.out BK120.out (by decide)) (fun _ hk => hk.2) (.slice Ao28 y124.length co28)) (fun _ hk => trivial)⟩
         have n1_ : Az (Kd.S k79 79 (w26.setCell ⟨gb120, 4, none⟩ (.slice Ao28 y124.length co28)) w.heap.size (fun k_ => some k_ ≠ (.slice (some ad113) t110.length co7 : Value).ownBlock ∧ some k_ ≠ (.slice Ao20 y117.length co20 : Value).ownBlock ∧ some k_ ≠ (.slice Ao28 y124.length co28 : Value).ownBlock ∧ k_ ≠ gb120) u110000 x110000_1) := ⟨by (with_reducible repeat (first | apply Kd.S_alloc | apply Kd.S_drewN | apply Kd.S_drew)); exact Kd.S_mono (Kd.S_far (p := ⟨gb120, 4, none⟩) (Kd.S_mono HO_110000.out (fun k_ hk => (⟨hk, hk.1.2⟩ : _ ∧ k_ ≠ gb120))) (fun _ hk => hk.2) (.slice Ao28 y124.length co28)) (fun _ hk => ⟨hk.1.1.1.1, ⟨hk.1.1.1.2, ⟨hk.1.2, hk.1.1.2⟩⟩⟩)⟩
         have n2_ : Az (Kd.R k31 31 (w26.setCell ⟨gb120, 4, none⟩ (.slice Ao28 y124.length co28)) w.heap.size (fun k_ => some k_ ≠ (.slice Ao28 y124.length co28 : Value).ownBlock) (.slice Ao20 y117.length co20) y117) := ⟨by (with_reducible repeat (first | apply Kd.R_alloc | apply Kd.R_drewN | apply Kd.R_drew)); exact Kd.R_mono (Kd.R_far (p := ⟨gb120, 4, none⟩) (Kd.R_types HO119.out BK120.out (by decide)) (fun _ hk => hk.2) (.slice Ao28 y124.length co28)) (fun _ hk => hk.1.2)⟩
         have n3_ : Az (Kd.R k31 31 (w26.setCell ⟨gb120, 4, none⟩ (.slice Ao28 y124.length co28)) w.heap.size (fun k_ => some k_ ≠ (.slice Ao20 y117.length co20 : Value).ownBlock) (.slice Ao28 y124.length co28) y124) := ⟨by (with_reducible repeat (first | apply Kd.R_alloc | apply Kd.R_drewN | apply Kd.R_drew)); exact Kd.R_mono (Kd.R_far (p := ⟨gb120, 4, none⟩) (Kd.R_types HO126.out BK120.out (by decide)) (fun _ hk => hk.2) (.slice Ao28 y124.length co28)) (fun _ hk => hk.1.2)⟩
         have n4_ : Az ((w26.setCell ⟨gb120, 4, none⟩ (.slice Ao28 y124.length co28)).heap[gb108]? = some (.cells #[.slice none 0 0] 25 (0, 0))) := ⟨by (with_reducible repeat (first | refine blk_drewN ?_ _ | refine blk_drew ?_ | refine blk_alloc ?_ _)); refine blk_far ?_ NB108_120.out _; (with_reducible repeat (first | refine blk_drewN ?_ _ | refine blk_drew ?_ | refine blk_alloc ?_ _)); exact BK108.out⟩
         have n5_ : Az ((w26.setCell ⟨gb120, 4, none⟩ (.slice Ao28 y124.length co28)).heap[gb109]? = some (.cells #[u110000] 25 (0, 0))) := ⟨by (with_reducible repeat (first | refine blk_drewN ?_ _ | refine blk_drew ?_ | refine blk_alloc ?_ _)); refine blk_far ?_ NB109_120.out _; (with_reducible repeat (first | refine blk_drewN ?_ _ | refine blk_drew ?_ | refine blk_alloc ?_ _)); exact BK109.out⟩
         have n6_ : Az ((w26.setCell ⟨gb120, 4, none⟩ (.slice Ao28 y124.length co28)).heap[gb120]? = some (.cells #[.int .i64 5, .string (rdOf ByteArray.empty t110 x10_1), .int .i64 0, .slice Ao20 y117.length co20, .slice Ao28 y124.length co28, .slice none 0 0, .slice none 0 0] 79 (0, 0))) := ⟨by (with_reducible repeat (first | refine blk_drewN ?_ _ | refine blk_drew ?_ | refine blk_alloc ?_ _)); refine blk_put (cs := #[.int .i64 5, .string (rdOf ByteArray.empty t110 x10_1), .int .i64 0, .slice Ao20 y117.length co20, .slice none 0 0, .slice none 0 0, .slice none 0 0]) ?_ 4 _ rfl; (with_reducible repeat (first | refine blk_drewN ?_ _ | refine blk_drew ?_ | refine blk_alloc ?_ _)); exact BK120.out⟩
         have n7_ : Az (Below w.heap.size w (w26.setCell ⟨gb120, 4, none⟩ (.slice Ao28 y124.length co28))) := ⟨by repeat (first | (with_reducible first | exact HB.out | apply bal | apply bdN | apply bdr | refine bS ?_ GE108.out | refine bS ?_ GE109.out | refine bS ?_ GE120.out) | exact HB.out)⟩
         (try clear HO_8)
         (try clear HO_110000)
         (try clear HO119)
         (try clear HO126)
         (try clear BK108)
         (try clear BK109)
         (try clear BK120)
         (try clear HB)
         generalize (w26.setCell ⟨gb120, 4, none⟩ (.slice Ao28 y124.length co28)) = w30 at n0_ n1_ n2_ n3_ n4_ n5_ n6_ n7_ ⊢
         have HO_8 := n0_
         have HO_110000 := n1_
         have HO119 := n2_
         have HO126 := n3_
         have BK108 := n4_
         have BK109 := n5_
         have BK120 := n6_
         have HB := n7_
         clear n0_ n1_ n2_ n3_ n4_ n5_ n6_ n7_
         have n0_ := Az.mk (Kd.R_drew HO_8.out)
         have n1_ := Az.mk (Kd.S_drew HO_110000.out)
         have n2_ := Az.mk (Kd.R_drew HO119.out)
         have n3_ := Az.mk (Kd.R_drew HO126.out)
         have n4_ := Az.mk (blk_drew BK108.out)
         have n5_ := Az.mk (blk_drew BK109.out)
         have n6_ := Az.mk (blk_drew BK120.out)
         have n7_ := Az.mk (bdr HB.out)
         clear HO_8
         clear HO_110000
         clear HO119
         clear HO126
         clear BK108
         clear BK109
         clear BK120
         clear HB
         have HO_8 := n0_
         have HO_110000 := n1_
         have HO119 := n2_
         have HO126 := n3_
         have BK108 := n4_
         have BK109 := n5_
         have BK120 := n6_
         have HB := n7_
         clear n0_ n1_ n2_ n3_ n4_ n5_ n6_ n7_
         refine start_ (n := 7) (S := fun w' => w'.cell? ⟨gb120, 0, none⟩ = some (.int .i64 5) ∧ w'.cell? ⟨gb120, 1, none⟩ = some (.string (rdOf ByteArray.empty t110 x10_1)) ∧ w'.cell? ⟨gb120, 2, none⟩ = some (.int .i64 0) ∧ w'.cell? ⟨gb120, 3, none⟩ = some (.slice Ao20 y117.length co20) ∧ w'.cell? ⟨gb120, 4, none⟩ = some (.slice Ao28 y124.length co28) ∧ w'.cell? ⟨gb120, 5, none⟩ = some (.slice none 0 0) ∧ w'.cell? ⟨gb120, 6, none⟩ = some (.slice none 0 0)) (ds := [6]) #[false, false, false, false, false, false, false] (by kernel_rfl) rfl rfl ⟨(bC BK120.out 0).trans rfl, (bC BK120.out 1).trans rfl, (bC BK120.out 2).trans rfl, (bC BK120.out 3).trans rfl, (bC BK120.out 4).trans rfl, (bC BK120.out 5).trans rfl, (bC BK120.out 6).trans rfl⟩ (fun hHeld => ?_)
         generalize w30.drew = w31 at HO_8 HO_110000 HO119 HO126 BK108 BK109 BK120 HB hHeld ⊢
         refine pure_ (i := 0) (N := some 25) (v := ?_) (a' := ?_) #[true, false, false, false, false, false, false] rfl rfl (by kernel_rfl) (fun _ _ _ h => h) (Or.inl ⟨by rfl, ?_⟩) ?_ ?_
         rotate_left
         ·intro w'
          go_simp
          with_reducible rfl
         rotate_left
         ·simp only [Act.put, List.setIfInBounds_toArray, List.set_cons_zero, List.set_cons_succ, i64_w, i32_w]
          rfl
         refine take_ (i := 1) (N := some 26) (v := ?_) (a' := ?_) #[true, true, false, false, false, false, false] rfl rfl (by kernel_rfl) (fun _ _ _ h => h) (Or.inl ⟨by rfl, ?_⟩) hHeld ?_ ?_
         rotate_left
         ·rintro w' ⟨s0, s1, s2, s3, s4, s5, s6⟩
          go_simp
          with_reducible rfl
         rotate_left
         ·simp only [Act.put, List.setIfInBounds_toArray, List.set_cons_zero, List.set_cons_succ, i64_w, i32_w]
          rfl
         refine one_ (i := 2) (N := some 27) #[true, true, true, false, false, false, false] rfl rfl (by kernel_rfl) (by decide) (fun K hK => ?_)
         refine goes_ Try.func45 (by kernel_rfl) rfl #[.int .i64 0] (by rfl) rfl rfl (by (try simp only [List.map_toArray, List.map_cons, List.map_nil]); first | done | rfl | (simp only [List.length_drop, List.length_take]; rfl)) ?_
         with_reducible refine (impl_refTo.calls 0 t127 t128 t129 _ A14.out).mono ?_
         rintro e w32 ⟨rfl, hb⟩
         refine ⟨_, rfl, ?_⟩
         have n0_ := Az.mk (Kd.R_below (by (with_reducible repeat (first | apply Kd.R_alloc | apply Kd.R_drewN | apply Kd.R_drew)); exact HO_8.out) hb)
         have n1_ := Az.mk (Kd.S_below (by (with_reducible repeat (first | apply Kd.S_alloc | apply Kd.S_drewN | apply Kd.S_drew)); exact HO_110000.out) hb)
         have n2_ := Az.mk (Kd.R_below (by (with_reducible repeat (first | apply Kd.R_alloc | apply Kd.R_drewN | apply Kd.R_drew)); exact HO119.out) hb)
         have n3_ := Az.mk (Kd.R_below (by (with_reducible repeat (first | apply Kd.R_alloc | apply Kd.R_drewN | apply Kd.R_drew)); exact HO126.out) hb)
         have n4_ := Az.mk (blk_below (g := gb108) (o := .cells #[.slice none 0 0] 25 (0, 0)) (by (with_reducible repeat (first | refine blk_drewN ?_ _ | refine blk_drew ?_ | refine blk_alloc ?_ _)); exact BK108.out) hb)
         have n5_ := Az.mk (blk_below (g := gb109) (o := .cells #[u110000] 25 (0, 0)) (by (with_reducible repeat (first | refine blk_drewN ?_ _ | refine blk_drew ?_ | refine blk_alloc ?_ _)); exact BK109.out) hb)
         have n6_ := Az.mk (blk_below (g := gb120) (o := .cells #[.int .i64 5, .string (rdOf ByteArray.empty t110 x10_1), .int .i64 0, .slice Ao20 y117.length co20, .slice Ao28 y124.length co28, .slice none 0 0, .slice none 0 0] 79 (0, 0)) (by (with_reducible repeat (first | refine blk_drewN ?_ _ | refine blk_drew ?_ | refine blk_alloc ?_ _)); exact BK120.out) hb)
         have n7_ := Az.mk (below_step (by repeat (first | (with_reducible first | exact HB.out | apply bal | apply bdN | apply bdr | refine bS ?_ GE108.out | refine bS ?_ GE109.out | refine bS ?_ GE120.out) | exact HB.out)) hb)
         clear HO_8
         clear HO_110000
         clear HO119
         clear HO126
         clear BK108
         clear BK109
         clear BK120
         clear HB
         have HO_8 := n0_
         have HO_110000 := n1_
         have HO119 := n2_
         have HO126 := n3_
         have BK108 := n4_
         have BK109 := n5_
         have BK120 := n6_
         have HB := n7_
         clear n0_ n1_ n2_ n3_ n4_ n5_ n6_ n7_
         (try clear hb)
         (try clear hb2)
         (try clear hk)
         (try clear hi)
         refine hK.out _ _ ⟨(bC BK120.out 0).trans rfl, (bC BK120.out 1).trans rfl, (bC BK120.out 2).trans rfl, (bC BK120.out 3).trans rfl, (bC BK120.out 4).trans rfl, (bC BK120.out 5).trans rfl, (bC BK120.out 6).trans rfl⟩ (fun hHeld => ?_)
         clear hK K
         refine norm_ (a' := ?_) ?_ ?_
         rotate_left
         ·show Act.put _ (some 27) _ = _
          simp only [Act.put, List.setIfInBounds_toArray, List.set_cons_zero, List.set_cons_succ, i64_w, i32_w]
          rfl
         refine one_ (i := 3) (N := some 28) #[true, true, true, true, false, false, false] rfl rfl (by kernel_rfl) (by decide) (fun K hK => ?_)
         refine value_ (w1 := ?_) (v := ?_) (by rfl) rfl ?_ ?_
         rotate_left 2
         ·go_simp
          constructor
          ·rfl
          ·rfl
         refine hK.out _ _ ⟨(bC (blk_alloc BK120.out _) 0).trans rfl, (bC (blk_alloc BK120.out _) 1).trans rfl, (bC (blk_alloc BK120.out _) 2).trans rfl, (bC (blk_alloc BK120.out _) 3).trans rfl, (bC (blk_alloc BK120.out _) 4).trans rfl, (bC (blk_alloc BK120.out _) 5).trans rfl, (bC (blk_alloc BK120.out _) 6).trans rfl⟩ (fun hHeld => ?_)
         clear hK K
         refine norm_ (a' := ?_) ?_ ?_
         rotate_left
         ·show Act.put _ (some 28) _ = _
          simp only [Act.put, List.setIfInBounds_toArray, List.set_cons_zero, List.set_cons_succ, i64_w, i32_w]
          rfl
         refine one_ (i := 4) (N := some 29) #[true, true, true, true, true, false, false] rfl rfl (by kernel_rfl) (by decide) (fun K hK => ?_)
         refine Kd.R_append_step k31 (w0 := w) w.heap.size (by rfl) (.tmp 26) (.tmp 28) 77 31 (.agg #[(.int .i64 0), (.string ⟨#[]⟩), (.int .i64 0)]) 32 rfl Try.underlying77 info31 rfl (by decide) (by omega) (.slice Ao20 y117.length co20) y117 (⟨t127, t128, t129⟩ : S31) [.int .i64 t127, .string t128, .int .i64 t129] (fun k_ => some k_ ≠ (.slice Ao28 y124.length co28 : Value).ownBlock) (fun _ => False) rfl rfl ?aP (fun _ hk => hk.elim) ?aF ?aO ?aB ?aS ?aL ?_
         (case aP => exact k31_mkM _ _ _ (⟨t127, t128, t129⟩ : S31))
         (case aB => exact (by repeat (first | (with_reducible first | exact HB.out | apply bal | apply bdN | apply bdr | refine bS ?_ GE108.out | refine bS ?_ GE109.out | refine bS ?_ GE120.out) | exact HB.out)))
         (case aF => exact (fun k_ hk => Kd.fresh' (Kd.R_lt (by (with_reducible repeat (first | apply Kd.R_alloc | apply Kd.R_drewN | apply Kd.R_drew)); exact HO126.out)) k_ hk))
         (case aO => exact (by (with_reducible repeat (first | apply Kd.R_alloc | apply Kd.R_drewN | apply Kd.R_drew)); exact HO119.out))
         (case aS => exact (below_size (by repeat (first | (with_reducible first | exact HB.out | apply bal | apply bdN | apply bdr | refine bS ?_ GE108.out | refine bS ?_ GE109.out | refine bS ?_ GE120.out) | exact HB.out))))
         (case aL => have := LMc15.out; omega)
         intro v131 w33 ho hb hg hat
         rw [← Ny130.out] at ho
         have n0_ := Az.mk (Kd.R_over' (by (with_reducible repeat (first | apply Kd.R_alloc | apply Kd.R_drewN | apply Kd.R_drew)); exact HO_8.out) (Kd.R_typed (by (with_reducible repeat (first | apply Kd.R_alloc | apply Kd.R_drewN | apply Kd.R_drew)); exact HO119.out)) (by decide) hg)
         have n1_ := Az.mk (Kd.S_after (ok := (fun k_ => some k_ ≠ (.slice (some ad113) t110.length co7 : Value).ownBlock ∧ some k_ ≠ (.slice Ao28 y124.length co28 : Value).ownBlock ∧ k_ ≠ gb120)) (by (with_reducible repeat (first | apply Kd.S_alloc | apply Kd.S_drewN | apply Kd.S_drew)); exact Kd.S_mono HO_110000.out (fun _ hk => ⟨⟨hk.1, ⟨hk.2.2.1, hk.2.2.2⟩⟩, hk.2.1⟩)) hg hat)
         have n2_ := Az.mk (blk_grown (g := gb108) (o := .cells #[.slice none 0 0] 25 (0, 0)) (by (with_reducible repeat (first | refine blk_drewN ?_ _ | refine blk_drew ?_ | refine blk_alloc ?_ _)); exact BK108.out) hg (Kd.R_ne HO119.out BK108.out (by decide)))
         have n3_ := Az.mk (blk_grown (g := gb109) (o := .cells #[u110000] 25 (0, 0)) (by (with_reducible repeat (first | refine blk_drewN ?_ _ | refine blk_drew ?_ | refine blk_alloc ?_ _)); exact BK109.out) hg (Kd.R_ne HO119.out BK109.out (by decide)))
         have n4_ := Az.mk (blk_grown (g := gb120) (o := .cells #[.int .i64 5, .string (rdOf ByteArray.empty t110 x10_1), .int .i64 0, .slice Ao20 y117.length co20, .slice Ao28 y124.length co28, .slice none 0 0, .slice none 0 0] 79 (0, 0)) (by (with_reducible repeat (first | refine blk_drewN ?_ _ | refine blk_drew ?_ | refine blk_alloc ?_ _)); exact BK120.out) hg (Kd.R_ne HO119.out BK120.out (by decide)))
         have n5_ := Az.mk (Kd.R_after (ok := (fun _ => True)) (by (with_reducible repeat (first | apply Kd.R_alloc | apply Kd.R_drewN | apply Kd.R_drew)); exact Kd.R_mono HO126.out (fun _ hk => ⟨trivial, hk⟩)) hg hat)
         have n6_ := Az.mk (hb)
         have n7_ := Az.mk (ho)
         clear HO_8
         clear HO_110000
         clear BK108
         clear BK109
         clear BK120
         clear HO126
         clear HB
         clear HO119
         have HO_8 := n0_
         have HO_110000 := n1_
         have BK108 := n2_
         have BK109 := n3_
         have BK120 := n4_
         have HO126 := n5_
         have HB := n6_
         have HO132 := n7_
         clear n0_ n1_ n2_ n3_ n4_ n5_ n6_ n7_
         clear ho hb hg hat
         obtain ⟨Ao34, co34, eo34⟩ := Kd.R_slice HO132.out
         (first | subst eo34 | (injection eo34 with f1_ f2_ f3_; have f4_ := f1_.symm; have f5_ := f3_.symm; clear f1_ f2_ f3_; subst f4_; subst f5_))
         refine hK.out _ _ ⟨(bC BK120.out 0).trans rfl, (bC BK120.out 1).trans rfl, (bC BK120.out 2).trans rfl, (bC BK120.out 3).trans rfl, (bC BK120.out 4).trans rfl, (bC BK120.out 5).trans rfl, (bC BK120.out 6).trans rfl⟩ (fun hHeld => ?_)
         clear hK K
         refine norm_ (a' := ?_) ?_ ?_
         rotate_left
         ·show Act.put _ (some 29) _ = _
          simp only [Act.put, List.setIfInBounds_toArray, List.set_cons_zero, List.set_cons_succ, i64_w, i32_w]
          rfl
         refine pure_ (i := 5) (N := some 30) (v := ?_) (a' := ?_) #[true, true, true, true, true, true, false] rfl rfl (by kernel_rfl) (fun _ _ _ h => h) (Or.inl ⟨by rfl, ?_⟩) ?_ ?_
         rotate_left
         ·intro w'
          go_simp
          with_reducible rfl
         rotate_left
         ·simp only [Act.put, List.setIfInBounds_toArray, List.set_cons_zero, List.set_cons_succ, i64_w, i32_w]
          rfl
         refine last_ (i := 6) (N := none) #[true, true, true, true, true, true, true] rfl rfl (by kernel_rfl) (by decide) (fun K hK => ?_)
         have hs35 : w33.cell? ⟨gb120, 3, none⟩ = some (.slice Ao20 y117.length co20) := (bC BK120.out 3).trans rfl
         have hfs35 := bF BK120.out 3
         have hns35_0 := NB108_120.out
         have hns35_1 := NB109_120.out
         have hms35_0 := NB120_108.out
         have hms35_1 := NB120_109.out
         refine skip_ (w1 := ?_) (by rfl) rfl ?_ ?_
         rotate_left
         ·go_simp
          rfl
         refine hK.out _ _ ?_
         clear hK K
         refine done_ (by kernel_rfl) ?_
         have n0_ : Az (Kd.R Kd.string 9 (w33.setCell ⟨gb120, 3, none⟩ (.slice Ao34 y130.length co34)) w.heap.size (fun _ => True) (.slice (some ad113) t110.length co7) t110) := ⟨by (with_reducible repeat (first | apply Kd.R_alloc | apply Kd.R_drewN | apply Kd.R_drew)); exact Kd.R_mono (Kd.R_far (p := ⟨gb120, 3, none⟩) (Kd.R_types HO_8.out BK120.out (by decide)) (fun _ hk => hk.2) (.slice Ao34 y130.length co34)) (fun _ hk => trivial)⟩
         have n1_ : Az (Kd.S k79 79 (w33.setCell ⟨gb120, 3, none⟩ (.slice Ao34 y130.length co34)) w.heap.size (fun k_ => some k_ ≠ (.slice (some ad113) t110.length co7 : Value).ownBlock ∧ some k_ ≠ (.slice Ao28 y124.length co28 : Value).ownBlock ∧ some k_ ≠ (.slice Ao34 y130.length co34 : Value).ownBlock ∧ k_ ≠ gb120) u110000 x110000_1) := ⟨by (with_reducible repeat (first | apply Kd.S_alloc | apply Kd.S_drewN | apply Kd.S_drew)); exact Kd.S_mono (Kd.S_far (p := ⟨gb120, 3, none⟩) (Kd.S_mono HO_110000.out (fun k_ hk => (⟨hk, hk.1.2.2⟩ : _ ∧ k_ ≠ gb120))) (fun _ hk => hk.2) (.slice Ao34 y130.length co34)) (fun _ hk => ⟨hk.1.1.1, ⟨hk.1.1.2.1, ⟨hk.1.2, hk.1.1.2.2⟩⟩⟩)⟩
         have n2_ : Az (Kd.R k31 31 (w33.setCell ⟨gb120, 3, none⟩ (.slice Ao34 y130.length co34)) w.heap.size (fun k_ => some k_ ≠ (.slice Ao34 y130.length co34 : Value).ownBlock) (.slice Ao28 y124.length co28) y124) := ⟨by (with_reducible repeat (first | apply Kd.R_alloc | apply Kd.R_drewN | apply Kd.R_drew)); exact Kd.R_mono (Kd.R_far (p := ⟨gb120, 3, none⟩) (Kd.R_types HO126.out BK120.out (by decide)) (fun _ hk => hk.2) (.slice Ao34 y130.length co34)) (fun _ hk => hk.1.2)⟩
         have n3_ : Az (Kd.R k31 31 (w33.setCell ⟨gb120, 3, none⟩ (.slice Ao34 y130.length co34)) w.heap.size (fun k_ => some k_ ≠ (.slice Ao28 y124.length co28 : Value).ownBlock) (.slice Ao34 y130.length co34) y130) := ⟨by (with_reducible repeat (first | apply Kd.R_alloc | apply Kd.R_drewN | apply Kd.R_drew)); exact Kd.R_mono (Kd.R_far (p := ⟨gb120, 3, none⟩) (Kd.R_types HO132.out BK120.out (by decide)) (fun _ hk => hk.2) (.slice Ao34 y130.length co34)) (fun _ hk => hk.1)⟩
         have n4_ : Az ((w33.setCell ⟨gb120, 3, none⟩ (.slice Ao34 y130.length co34)).heap[gb108]? = some (.cells #[.slice none 0 0] 25 (0, 0))) := ⟨by (with_reducible repeat (first | refine blk_drewN ?_ _ | refine blk_drew ?_ | refine blk_alloc ?_ _)); refine blk_far ?_ NB108_120.out _; (with_reducible repeat (first | refine blk_drewN ?_ _ | refine blk_drew ?_ | refine blk_alloc ?_ _)); exact BK108.out⟩
         have n5_ : Az ((w33.setCell ⟨gb120, 3, none⟩ (.slice Ao34 y130.length co34)).heap[gb109]? = some (.cells #[u110000] 25 (0, 0))) := ⟨by (with_reducible repeat (first | refine blk_drewN ?_ _ | refine blk_drew ?_ | refine blk_alloc ?_ _)); refine blk_far ?_ NB109_120.out _; (with_reducible repeat (first | refine blk_drewN ?_ _ | refine blk_drew ?_ | refine blk_alloc ?_ _)); exact BK109.out⟩
         have n6_ : Az ((w33.setCell ⟨gb120, 3, none⟩ (.slice Ao34 y130.length co34)).heap[gb120]? = some (.cells #[.int .i64 5, .string (rdOf ByteArray.empty t110 x10_1), .int .i64 0, .slice Ao34 y130.length co34, .slice Ao28 y124.length co28, .slice none 0 0, .slice none 0 0] 79 (0, 0))) := ⟨by (with_reducible repeat (first | refine blk_drewN ?_ _ | refine blk_drew ?_ | refine blk_alloc ?_ _)); refine blk_put (cs := #[.int .i64 5, .string (rdOf ByteArray.empty t110 x10_1), .int .i64 0, .slice Ao20 y117.length co20, .slice Ao28 y124.length co28, .slice none 0 0, .slice none 0 0]) ?_ 3 _ rfl; (with_reducible repeat (first | refine blk_drewN ?_ _ | refine blk_drew ?_ | refine blk_alloc ?_ _)); exact BK120.out⟩
         have n7_ : Az (Below w.heap.size w (w33.setCell ⟨gb120, 3, none⟩ (.slice Ao34 y130.length co34))) := ⟨by repeat (first | (with_reducible first | exact HB.out | apply bal | apply bdN | apply bdr | refine bS ?_ GE108.out | refine bS ?_ GE109.out | refine bS ?_ GE120.out) | exact HB.out)⟩
         (try clear HO_8)
         (try clear HO_110000)
         (try clear HO126)
         (try clear HO132)
         (try clear BK108)
         (try clear BK109)
         (try clear BK120)
         (try clear HB)
         generalize (w33.setCell ⟨gb120, 3, none⟩ (.slice Ao34 y130.length co34)) = w36 at n0_ n1_ n2_ n3_ n4_ n5_ n6_ n7_ ⊢
         have HO_8 := n0_
         have HO_110000 := n1_
         have HO126 := n2_
         have HO132 := n3_
         have BK108 := n4_
         have BK109 := n5_
         have BK120 := n6_
         have HB := n7_
         clear n0_ n1_ n2_ n3_ n4_ n5_ n6_ n7_
         have hnb37 := NB109_108.out
         have hnc37 := NB108_109.out
         have hcz38_0 : w36.cell? ⟨gb109, 0, none⟩ = some (u110000) := (bC BK109.out 0).trans rfl
         have hfz38_0 := bF BK109.out 0
         have hcz39_0 : w36.cell? ⟨gb120, 0, none⟩ = some (.int .i64 5) := (bC BK120.out 0).trans rfl
         have hcz39_1 : w36.cell? ⟨gb120, 1, none⟩ = some (.string (rdOf ByteArray.empty t110 x10_1)) := (bC BK120.out 1).trans rfl
         have hcz39_2 : w36.cell? ⟨gb120, 2, none⟩ = some (.int .i64 0) := (bC BK120.out 2).trans rfl
         have hcz39_3 : w36.cell? ⟨gb120, 3, none⟩ = some (.slice Ao34 y130.length co34) := (bC BK120.out 3).trans rfl
         have hcz39_4 : w36.cell? ⟨gb120, 4, none⟩ = some (.slice Ao28 y124.length co28) := (bC BK120.out 4).trans rfl
         have hcz39_5 : w36.cell? ⟨gb120, 5, none⟩ = some (.slice none 0 0) := (bC BK120.out 5).trans rfl
         have hcz39_6 : w36.cell? ⟨gb120, 6, none⟩ = some (.slice none 0 0) := (bC BK120.out 6).trans rfl
         have hfz39_0 := bF BK120.out 0
         have hfz39_1 := bF BK120.out 1
         have hfz39_2 := bF BK120.out 2
         have hfz39_3 := bF BK120.out 3
         have hfz39_4 := bF BK120.out 4
         have hfz39_5 := bF BK120.out 5
         have hfz39_6 := bF BK120.out 6
         try go_wp2_with (first | ((with_reducible refine gate_builtin (b := .append) (xs := #[.tmp 32, .tmp 34]) rfl ?_); at_builtin; refine Kd.S_append k79 (w0 := w) w.heap.size rfl (.tmp 32) (.tmp 34) 23 79 (.agg #[(.int .i64 0), (.string ⟨#[]⟩), (.int .i64 0), (.slice none 0 0), (.slice none 0 0), (.slice none 0 0), (.slice none 0 0)]) 128 rfl Try.underlying23 info79 rfl (by decide) (by omega) u110000 x110000_1 (⟨5, rdOf ByteArray.empty t110 x10_1, 0, y130, y124, ([] : List ByteArray), ([] : List (S31))⟩ : S79) [.int .i64 5, .string (rdOf ByteArray.empty t110 x10_1), .int .i64 0, .slice Ao34 y130.length co34, .slice Ao28 y124.length co28, .slice none 0 0, .slice none 0 0] (fun k_ => some k_ ≠ (.slice (some ad113) t110.length co7 : Value).ownBlock ∧ k_ ≠ gb120) (fun k_ => some k_ = (.slice Ao34 y130.length co34 : Value).ownBlock ∨ some k_ = (.slice Ao28 y124.length co28 : Value).ownBlock) rfl rfl ?aP (fun k_ hk_ => hk_.elim (fun h_ => ((Kd.R_mono (ok' := fun k_ => ((fun k_ => some k_ ≠ (.slice (some ad113) t110.length co7 : Value).ownBlock ∧ k_ ≠ gb120)) k_ ∧ some k_ ≠ (u110000 : Value).ownBlock) (Kd.R_types (Kd.R_apart' (Kd.R_apart' (HO132.out) (Kd.R_typed HO_8.out) (by decide)) (Kd.S_typed HO_110000.out) (by decide)) BK120.out (by decide)) (fun k_ hk => ⟨⟨hk.1.1.2, hk.2⟩, hk.1.2⟩))).1 k_ h_.symm) (fun h_ => ((Kd.R_mono (ok' := fun k_ => ((fun k_ => some k_ ≠ (.slice (some ad113) t110.length co7 : Value).ownBlock ∧ k_ ≠ gb120)) k_ ∧ some k_ ≠ (u110000 : Value).ownBlock) (Kd.R_types (Kd.R_apart' (Kd.R_apart' (HO126.out) (Kd.R_typed HO_8.out) (by decide)) (Kd.S_typed HO_110000.out) (by decide)) BK120.out (by decide)) (fun k_ hk => ⟨⟨hk.1.1.2, hk.2⟩, hk.1.2⟩))).1 k_ h_.symm)) ?aF ?aO ?aB ?aS ?aL ?_; (case aP => exact k79_mkM _ _ _ (⟨5, rdOf ByteArray.empty t110 x10_1, 0, y130, y124, ([] : List ByteArray), ([] : List (S31))⟩ : S79) (Kd.R_mono (Kd.R_tight rfl (Kd.R_mono (ok' := fun k_ => ((fun k_ => some k_ ≠ (.slice (some ad113) t110.length co7 : Value).ownBlock ∧ k_ ≠ gb120)) k_ ∧ some k_ ≠ (u110000 : Value).ownBlock) (Kd.R_types (Kd.R_apart' (Kd.R_apart' (HO132.out) (Kd.R_typed HO_8.out) (by decide)) (Kd.S_typed HO_110000.out) (by decide)) BK120.out (by decide)) (fun k_ hk => ⟨⟨hk.1.1.2, hk.2⟩, hk.1.2⟩))) (fun _ h_ => Or.inl h_)) (Kd.R_mono (Kd.R_tight rfl (Kd.R_mono (ok' := fun k_ => ((fun k_ => some k_ ≠ (.slice (some ad113) t110.length co7 : Value).ownBlock ∧ k_ ≠ gb120)) k_ ∧ some k_ ≠ (u110000 : Value).ownBlock) (Kd.R_types (Kd.R_apart' (Kd.R_apart' (HO126.out) (Kd.R_typed HO_8.out) (by decide)) (Kd.S_typed HO_110000.out) (by decide)) BK120.out (by decide)) (fun k_ hk => ⟨⟨hk.1.1.2, hk.2⟩, hk.1.2⟩))) (fun _ h_ => Or.inr (h_))) (Kd.R_nil _ _ _ _ _) (Kd.R_nil _ _ _ _ _)); (case aB => exact (by repeat (first | (with_reducible first | exact HB.out | apply bal | apply bdN | apply bdr | refine bS ?_ GE108.out | refine bS ?_ GE109.out | refine bS ?_ GE120.out) | exact HB.out))); (case aF => exact (fun k_ hk => ⟨Kd.fresh' (Kd.R_lt (by (with_reducible repeat (first | apply Kd.R_alloc | apply Kd.R_drewN | apply Kd.R_drew)); exact HO_8.out)) k_ hk, Kd.freshB (g := gb120) (o := .cells #[.int .i64 5, .string (rdOf ByteArray.empty t110 x10_1), .int .i64 0, .slice Ao34 y130.length co34, .slice Ao28 y124.length co28, .slice none 0 0, .slice none 0 0] 79 (0, 0)) (by (with_reducible repeat (first | refine blk_drewN ?_ _ | refine blk_drew ?_ | refine blk_alloc ?_ _)); exact BK120.out) k_ hk⟩)); (case aO => exact (by (with_reducible repeat (first | apply Kd.S_alloc | apply Kd.S_drewN | apply Kd.S_drew)); exact Kd.S_mono HO_110000.out (fun k_ hk => ⟨⟨hk.1, hk.2.2.2⟩, fun e_ => e_.elim (fun h_ => hk.2.2.1 h_) (fun h_ => hk.2.1 h_)⟩))); (case aS => exact (below_size (by repeat (first | (with_reducible first | exact HB.out | apply bal | apply bdN | apply bdr | refine bS ?_ GE108.out | refine bS ?_ GE109.out | refine bS ?_ GE120.out) | exact HB.out)))); (case aL => have := LMc16.out; omega); intro v134 w40 ho hb hg hat; rw [← Ny133.out] at ho; have n0_ := Az.mk (Kd.R_over' (by (with_reducible repeat (first | apply Kd.R_alloc | apply Kd.R_drewN | apply Kd.R_drew)); exact HO_8.out) (Kd.S_typed (by (with_reducible repeat (first | apply Kd.S_alloc | apply Kd.S_drewN | apply Kd.S_drew)); exact HO_110000.out)) (by decide) hg); have n1_ := Az.mk (blk_grown (g := gb108) (o := .cells #[.slice none 0 0] 25 (0, 0)) (by (with_reducible repeat (first | refine blk_drewN ?_ _ | refine blk_drew ?_ | refine blk_alloc ?_ _)); exact BK108.out) hg (Kd.S_ne HO_110000.out BK108.out (by decide))); have n2_ := Az.mk (blk_grown (g := gb109) (o := .cells #[u110000] 25 (0, 0)) (by (with_reducible repeat (first | refine blk_drewN ?_ _ | refine blk_drew ?_ | refine blk_alloc ?_ _)); exact BK109.out) hg (Kd.S_ne HO_110000.out BK109.out (by decide))); have n3_ := Az.mk (blk_grown (g := gb120) (o := .cells #[.int .i64 5, .string (rdOf ByteArray.empty t110 x10_1), .int .i64 0, .slice Ao34 y130.length co34, .slice Ao28 y124.length co28, .slice none 0 0, .slice none 0 0] 79 (0, 0)) (by (with_reducible repeat (first | refine blk_drewN ?_ _ | refine blk_drew ?_ | refine blk_alloc ?_ _)); exact BK120.out) hg (Kd.S_away HO_110000.out (fun _ hk => hk.2.2.2))); have n4_ := Az.mk (hb); have n5_ := Az.mk (ho); clear HO_8; clear BK108; clear BK109; clear BK120; clear HB; clear HO_110000; clear HO126; clear HO132; have HO_8 := n0_; have BK108 := n1_; have BK109 := n2_; have BK120 := n3_; have HB := n4_; have HO135 := n5_; clear n0_ n1_ n2_ n3_ n4_ n5_; clear ho hb hg hat; obtain ⟨Ao41, co41, eo41⟩ := Kd.S_slice HO135.out; subst eo41; have hcz42_0 : w40.cell? ⟨gb109, 0, none⟩ = some (u110000) := (bC BK109.out 0).trans rfl; have hfz42_0 := bF BK109.out 0))
         go_roundg k1
         case measure => have := HK1.out; omega
         case rel => exact ⟨(wrap64 (x10_1 + 1)), (y133), (.slice Ao41 y133.length co41), (by first | rfl | (simp; done) | (simp [*]; done)), H', ⟨by have := HK1.out; omega⟩, ⟨by (with_reducible repeat (first | apply Kd.R_alloc | apply Kd.R_drewN | apply Kd.R_drew)); exact Kd.R_mono (Kd.R_far (p := ⟨gb109, 0, none⟩) (Kd.R_types HO_8.out BK109.out (by decide)) (fun _ hk => hk.2) (.slice Ao41 y133.length co41)) (fun _ hk => trivial)⟩, ⟨by (with_reducible repeat (first | apply Kd.S_alloc | apply Kd.S_drewN | apply Kd.S_drew)); exact Kd.S_mono (Kd.S_far (p := ⟨gb109, 0, none⟩) (Kd.S_types HO135.out BK109.out (by decide)) (fun _ hk => hk.2) (.slice Ao41 y133.length co41)) (fun _ hk => hk.1.1)⟩, ⟨by (with_reducible repeat (first | refine blk_drewN ?_ _ | refine blk_drew ?_ | refine blk_alloc ?_ _)); refine blk_far ?_ NB108_109.out _; (with_reducible repeat (first | refine blk_drewN ?_ _ | refine blk_drew ?_ | refine blk_alloc ?_ _)); exact BK108.out⟩, ⟨by (with_reducible repeat (first | refine blk_drewN ?_ _ | refine blk_drew ?_ | refine blk_alloc ?_ _)); refine blk_put (cs := #[u110000]) ?_ 0 _ rfl; (with_reducible repeat (first | refine blk_drewN ?_ _ | refine blk_drew ?_ | refine blk_alloc ?_ _)); exact BK109.out⟩, ⟨by repeat (first | (with_reducible first | exact HB.out | apply bal | apply bdN | apply bdr | refine bS ?_ GE108.out | refine bS ?_ GE109.out | refine bS ?_ GE120.out) | exact HB.out)⟩⟩
        ·rw [if_neg c16] at H
         exact absurd H (by simp)
       ·rw [if_neg c15] at H
        exact absurd H (by simp)
      ·rw [if_neg c12] at H
       have c12b0 : decide (0 < x10_1) = false := decide_eq_false c12
       clear c12
       by_cases c43 : x110000_1.length < 1099511627776
       ·rw [if_pos c43] at H
        have LMc43 := Az.mk c43
        clear c43
        obtain ⟨y136, hy136⟩ : ∃ y_ : List (S79), y_ = (x110000_1 ++ [(⟨5, rdOf ByteArray.empty t110 x10_1, 0, y117, ([] : List (S31)), ([] : List ByteArray), ([] : List (S31))⟩ : S79)]) := ⟨_, rfl⟩
        replace H : (impl_HeapNew.l0 k1 t110 (t110.length : Int) (wrap64 (x10_1 + 1)) y136) = some r := by first | (rw [hy136]; with_reducible exact H) | (have H2_ := (Option.bind_some _ _).symm.trans H; rw [hy136]; with_reducible exact H2_) | (have H2_ := (Option.bind_some _ _).symm.trans H; with_reducible exact H2_) | with_reducible exact H | (rw [hy136]; exact H) | exact H
        have Ny136 := Az.mk hy136
        clear hy136
        have H' := Az.mk H
        clear H
        have p113 : 0 ≤ (x10_1 : Int) := of_decide_eq_true (by first | (with_reducible assumption) | assumption)
        have q113 : x10_1 < (t110.length : Int) := of_decide_eq_true (by first | (with_reducible assumption) | assumption)
        obtain ⟨ad113, e113, hx113_0⟩ := Kd.at_string (Kd.R_reads' HO_8.out).2.2 x10_1 p113 q113
        cases e113
        replace p113 := eq_true p113
        replace q113 := eq_true q113
        go_wp2_with (first | ((with_reducible refine gate_callee (f := 45) rfl ?_); refine goesL_ (some 17) rfl rfl Try.func45 (by kernel_rfl) rfl #[.int .i64 x10_1] rfl (by (try simp only [List.map_toArray, List.map_cons, List.map_nil]); first | done | rfl | (simp only [List.length_drop, List.length_take]; rfl)) ?_; (with_reducible refine (impl_refTo.calls x10_1 t114 t115 t116 _ A11.out).mono ?_); rintro e w44 ⟨rfl, hb⟩; refine ⟨_, rfl, ?_⟩; have n0_ := Az.mk (Kd.R_below (by (with_reducible repeat (first | apply Kd.R_alloc | apply Kd.R_drewN | apply Kd.R_drew)); exact HO_8.out) hb); have n1_ := Az.mk (Kd.S_below (by (with_reducible repeat (first | apply Kd.S_alloc | apply Kd.S_drewN | apply Kd.S_drew)); exact HO_110000.out) hb); have n2_ := Az.mk (blk_below (g := gb108) (o := .cells #[.slice none 0 0] 25 (0, 0)) (by (with_reducible repeat (first | refine blk_drewN ?_ _ | refine blk_drew ?_ | refine blk_alloc ?_ _)); exact BK108.out) hb); have n3_ := Az.mk (blk_below (g := gb109) (o := .cells #[u110000] 25 (0, 0)) (by (with_reducible repeat (first | refine blk_drewN ?_ _ | refine blk_drew ?_ | refine blk_alloc ?_ _)); exact BK109.out) hb); have n4_ := Az.mk (below_step (by repeat (first | (with_reducible first | exact HB.out | apply bal | apply bdN | apply bdr | refine bS ?_ GE108.out | refine bS ?_ GE109.out) | exact HB.out)) hb); clear HO_8; clear HO_110000; clear BK108; clear BK109; clear HB; have HO_8 := n0_; have HO_110000 := n1_; have BK108 := n2_; have BK109 := n3_; have HB := n4_; clear n0_ n1_ n2_ n3_ n4_; (try clear hb); (try clear hb2); (try clear hk); (try clear hi)) | ((with_reducible refine gate_dst (N := 18) rfl ?_); refine Kd.R_lit k31 _ 31 ?hg (N := 18) ?hd (xs := ([(⟨t114, t115, t116⟩ : S31)] : List (S31))) (inner := [.int .i64 t114, .string t115, .int .i64 t116]) (ok := fun _ => True) (okp := fun _ => True) ?hr ?hp (fun _ hk => hk) trivial (Below.refl _ _) (Nat.le_refl _) (by simp) ?_; (case hd => rfl); (case hg => rfl); (case hr => first | (go_simp; done) | (go_simp; rfl)); (case hp => exact (Reps.c3 (show Kd.M k31 _ _ _ (⟨t114, t115, t116⟩ : S31) [.int .i64 t114, .string t115, .int .i64 t116] from (k31_mkM _ _ _ (⟨t114, t115, t116⟩ : S31) )) (Reps.none _ _))); intro v118 w45 ho46 hb hg_ hnew_; clear hg_ hnew_; (first | rw [← Ny117.out] at ho46 | (simp only [Int.reduceToNat] at ho46; rw [← Ny117.out] at ho46)); have n0_ := Az.mk (Kd.R_below (by (with_reducible repeat (first | apply Kd.R_alloc | apply Kd.R_drewN | apply Kd.R_drew)); exact HO_8.out) hb); have n1_ := Az.mk (Kd.S_elder' (by (with_reducible repeat (first | apply Kd.S_alloc | apply Kd.S_drewN | apply Kd.S_drew)); exact HO_110000.out) (Kd.R_base ho46) hb); have n2_ := Az.mk (Kd.R_lower ho46 (below_size (by repeat (first | (with_reducible first | exact HB.out | apply bal | apply bdN | apply bdr | refine bS ?_ GE108.out | refine bS ?_ GE109.out) | exact HB.out)))); have n3_ := Az.mk (blk_below (g := gb108) (o := .cells #[.slice none 0 0] 25 (0, 0)) (by (with_reducible repeat (first | refine blk_drewN ?_ _ | refine blk_drew ?_ | refine blk_alloc ?_ _)); exact BK108.out) hb); have n4_ := Az.mk (blk_below (g := gb109) (o := .cells #[u110000] 25 (0, 0)) (by (with_reducible repeat (first | refine blk_drewN ?_ _ | refine blk_drew ?_ | refine blk_alloc ?_ _)); exact BK109.out) hb); have n5_ := Az.mk (below_step (by repeat (first | (with_reducible first | exact HB.out | apply bal | apply bdN | apply bdr | refine bS ?_ GE108.out | refine bS ?_ GE109.out) | exact HB.out)) hb); clear HO_8; clear HO_110000; clear BK108; clear BK109; clear HB; have HO_8 := n0_; have HO_110000 := n1_; have HO119 := n2_; have BK108 := n3_; have BK109 := n4_; have HB := n5_; clear n0_ n1_ n2_ n3_ n4_ n5_; clear hb ho46; obtain ⟨Ao47, co47, eo47⟩ := Kd.R_slice HO119.out; subst eo47) | ((with_reducible refine gate_dst (N := 4) rfl ?_); refine box_event ?hg (N := 4) ?hd (cs := #[.int .i64 0, .string (⟨#[]⟩ : ByteArray), .int .i64 0, .slice none 0 0, .slice none 0 0, .slice none 0 0, .slice none 0 0]) (t := 79) ?hr ?_; (case hd => rfl); (case hg => rfl); (case hr => first | (go_simp; done) | (go_simp; rfl)); intro gb120 hg w48 hbox hb; have n0_ := Az.mk (Kd.R_below (by (with_reducible repeat (first | apply Kd.R_alloc | apply Kd.R_drewN | apply Kd.R_drew)); exact HO_8.out) hb); have n1_ := Az.mk (Kd.S_below (Kd.S_elderB (by (with_reducible repeat (first | apply Kd.S_alloc | apply Kd.S_drewN | apply Kd.S_drew)); exact HO_110000.out) gb120 (Nat.le_of_eq hg.symm)) hb); have n2_ := Az.mk (Kd.R_below (by (with_reducible repeat (first | apply Kd.R_alloc | apply Kd.R_drewN | apply Kd.R_drew)); exact HO119.out) hb); have n3_ := Az.mk (blk_below (g := gb108) (o := .cells #[.slice none 0 0] 25 (0, 0)) (by (with_reducible repeat (first | refine blk_drewN ?_ _ | refine blk_drew ?_ | refine blk_alloc ?_ _)); exact BK108.out) hb); have n4_ := Az.mk (blk_below (g := gb109) (o := .cells #[u110000] 25 (0, 0)) (by (with_reducible repeat (first | refine blk_drewN ?_ _ | refine blk_drew ?_ | refine blk_alloc ?_ _)); exact BK109.out) hb); have n5_ := Az.mk (below_step (by repeat (first | (with_reducible first | exact HB.out | apply bal | apply bdN | apply bdr | refine bS ?_ GE108.out | refine bS ?_ GE109.out) | exact HB.out)) hb); have n6_ := Az.mk (hbox); have n7_ := Az.mk ((by rw [hg]; exact (below_size (by repeat (first | (with_reducible first | exact HB.out | apply bal | apply bdN | apply bdr | refine bS ?_ GE108.out | refine bS ?_ GE109.out) | exact HB.out))) : w.heap.size ≤ gb120)); have n8_ := Az.mk ((by rw [hg]; exact (below_size (by repeat (first | (with_reducible first | exact HB.out | apply bal | apply bdN | apply bdr | refine bS ?_ GE108.out | refine bS ?_ GE109.out) | exact HB.out))) : w.heap.size ≤ gb120)); have n9_ := Az.mk ((by rw [hg]; exact Nat.ne_of_lt (blk_lt (g := gb108) (o := .cells #[.slice none 0 0] 25 (0, 0)) (by (with_reducible repeat (first | refine blk_drewN ?_ _ | refine blk_drew ?_ | refine blk_alloc ?_ _)); exact BK108.out)) : gb108 ≠ gb120)); have n10_ := Az.mk ((by rw [hg]; exact Nat.ne_of_gt (blk_lt (g := gb108) (o := .cells #[.slice none 0 0] 25 (0, 0)) (by (with_reducible repeat (first | refine blk_drewN ?_ _ | refine blk_drew ?_ | refine blk_alloc ?_ _)); exact BK108.out)) : gb120 ≠ gb108)); have n11_ := Az.mk ((by rw [hg]; exact Nat.ne_of_lt (blk_lt (g := gb109) (o := .cells #[u110000] 25 (0, 0)) (by (with_reducible repeat (first | refine blk_drewN ?_ _ | refine blk_drew ?_ | refine blk_alloc ?_ _)); exact BK109.out)) : gb109 ≠ gb120)); have n12_ := Az.mk ((by rw [hg]; exact Nat.ne_of_gt (blk_lt (g := gb109) (o := .cells #[u110000] 25 (0, 0)) (by (with_reducible repeat (first | refine blk_drewN ?_ _ | refine blk_drew ?_ | refine blk_alloc ?_ _)); exact BK109.out)) : gb120 ≠ gb109)); clear HO_8; clear HO_110000; clear HO119; clear BK108; clear BK109; clear HB; have HO_8 := n0_; have HO_110000 := n1_; have HO119 := n2_; have BK108 := n3_; have BK109 := n4_; have HB := n5_; have BK120 := n6_; have GW120 := n7_; have GE120 := n8_; have NB108_120 := n9_; have NB120_108 := n10_; have NB109_120 := n11_; have NB120_109 := n12_; clear n0_ n1_ n2_ n3_ n4_ n5_ n6_ n7_ n8_ n9_ n10_ n11_ n12_; clear hb hbox hg; have hnb49 := NB120_108.out; have hnc49 := NB108_120.out; have hnb50 := NB120_109.out; have hnc50 := NB109_120.out; have hcz51_0 : w48.cell? ⟨gb120, 0, none⟩ = some (.int .i64 0) := (bC BK120.out 0).trans rfl; have hcz51_1 : w48.cell? ⟨gb120, 1, none⟩ = some (.string (⟨#[]⟩ : ByteArray)) := (bC BK120.out 1).trans rfl; have hcz51_2 : w48.cell? ⟨gb120, 2, none⟩ = some (.int .i64 0) := (bC BK120.out 2).trans rfl; have hcz51_3 : w48.cell? ⟨gb120, 3, none⟩ = some (.slice none 0 0) := (bC BK120.out 3).trans rfl; have hcz51_4 : w48.cell? ⟨gb120, 4, none⟩ = some (.slice none 0 0) := (bC BK120.out 4).trans rfl; have hcz51_5 : w48.cell? ⟨gb120, 5, none⟩ = some (.slice none 0 0) := (bC BK120.out 5).trans rfl; have hcz51_6 : w48.cell? ⟨gb120, 6, none⟩ = some (.slice none 0 0) := (bC BK120.out 6).trans rfl; have hfz51_0 := bF BK120.out 0; have hfz51_1 := bF BK120.out 1; have hfz51_2 := bF BK120.out 2; have hfz51_3 := bF BK120.out 3; have hfz51_4 := bF BK120.out 4; have hfz51_5 := bF BK120.out 5; have hfz51_6 := bF BK120.out 6) | ((with_reducible refine gate_store (t := 79) (p := 4) rfl ?_); refine store_event (t := 79) (p := 4) (v := ?vo_w52) (w1 := (((((((w48.setCell ⟨gb120, 0, none⟩ (.int .i64 5)).setCell ⟨gb120, 1, none⟩ (.string (rdOf ByteArray.empty t110 x10_1))).setCell ⟨gb120, 2, none⟩ (.int .i64 0)).setCell ⟨gb120, 3, none⟩ (.slice Ao47 y117.length co47)).setCell ⟨gb120, 4, none⟩ (.slice none 0 0)).setCell ⟨gb120, 5, none⟩ (.slice none 0 0)).setCell ⟨gb120, 6, none⟩ (.slice none 0 0))) ?hg ?ho ?hn ?hr ?_; (case ho => rfl); (case hg => rfl); (case hn => rfl); (case hr => first | (go_simp; done) | (go_simp; rfl)); intro w52 hw; have n0_ : Az (Kd.R Kd.string 9 w52 w.heap.size (fun _ => True) (.slice (some ad113) t110.length co7) t110) := ⟨(by rw [hw]; exact (by (with_reducible repeat (first | apply Kd.R_alloc | apply Kd.R_drewN | apply Kd.R_drew)); exact Kd.R_mono (Kd.R_far (p := ⟨gb120, 6, none⟩) (Kd.R_far (p := ⟨gb120, 5, none⟩) (Kd.R_far (p := ⟨gb120, 4, none⟩) (Kd.R_far (p := ⟨gb120, 3, none⟩) (Kd.R_far (p := ⟨gb120, 2, none⟩) (Kd.R_far (p := ⟨gb120, 1, none⟩) (Kd.R_far (p := ⟨gb120, 0, none⟩) (Kd.R_types HO_8.out BK120.out (by decide)) (fun _ hk => hk.2) (.int .i64 5)) (fun _ hk => hk.2) (.string (rdOf ByteArray.empty t110 x10_1))) (fun _ hk => hk.2) (.int .i64 0)) (fun _ hk => hk.2) (.slice Ao47 y117.length co47)) (fun _ hk => hk.2) (.slice none 0 0)) (fun _ hk => hk.2) (.slice none 0 0)) (fun _ hk => hk.2) (.slice none 0 0)) (fun _ hk => trivial)))⟩; have n1_ : Az (Kd.S k79 79 w52 w.heap.size (fun k_ => some k_ ≠ (.slice (some ad113) t110.length co7 : Value).ownBlock ∧ some k_ ≠ (.slice Ao47 y117.length co47 : Value).ownBlock ∧ k_ ≠ gb120) u110000 x110000_1) := ⟨(by rw [hw]; exact (by (with_reducible repeat (first | apply Kd.S_alloc | apply Kd.S_drewN | apply Kd.S_drew)); exact Kd.S_mono (Kd.S_far (p := ⟨gb120, 6, none⟩) (Kd.S_far (p := ⟨gb120, 5, none⟩) (Kd.S_far (p := ⟨gb120, 4, none⟩) (Kd.S_far (p := ⟨gb120, 3, none⟩) (Kd.S_far (p := ⟨gb120, 2, none⟩) (Kd.S_far (p := ⟨gb120, 1, none⟩) (Kd.S_far (p := ⟨gb120, 0, none⟩) (Kd.S_mono HO_110000.out (fun k_ hk => (⟨hk, hk.2⟩ : _ ∧ k_ ≠ gb120))) (fun _ hk => hk.2) (.int .i64 5)) (fun _ hk => hk.2) (.string (rdOf ByteArray.empty t110 x10_1))) (fun _ hk => hk.2) (.int .i64 0)) (fun _ hk => hk.2) (.slice Ao47 y117.length co47)) (fun _ hk => hk.2) (.slice none 0 0)) (fun _ hk => hk.2) (.slice none 0 0)) (fun _ hk => hk.2) (.slice none 0 0)) (fun _ hk => ⟨hk.1.1.1, ⟨hk.1.1.2, hk.1.2⟩⟩)))⟩; have n2_ : Az (Kd.R k31 31 w52 w.heap.size (fun _ => True) (.slice Ao47 y117.length co47) y117) := ⟨(by rw [hw]; exact (by (with_reducible repeat (first | apply Kd.R_alloc | apply Kd.R_drewN | apply Kd.R_drew)); exact Kd.R_mono (Kd.R_far (p := ⟨gb120, 6, none⟩) (Kd.R_far (p := ⟨gb120, 5, none⟩) (Kd.R_far (p := ⟨gb120, 4, none⟩) (Kd.R_far (p := ⟨gb120, 3, none⟩) (Kd.R_far (p := ⟨gb120, 2, none⟩) (Kd.R_far (p := ⟨gb120, 1, none⟩) (Kd.R_far (p := ⟨gb120, 0, none⟩) (Kd.R_types HO119.out BK120.out (by decide)) (fun _ hk => hk.2) (.int .i64 5)) (fun _ hk => hk.2) (.string (rdOf ByteArray.empty t110 x10_1))) (fun _ hk => hk.2) (.int .i64 0)) (fun _ hk => hk.2) (.slice Ao47 y117.length co47)) (fun _ hk => hk.2) (.slice none 0 0)) (fun _ hk => hk.2) (.slice none 0 0)) (fun _ hk => hk.2) (.slice none 0 0)) (fun _ hk => trivial)))⟩; have n3_ : Az (w52.heap[gb108]? = some (.cells #[.slice none 0 0] 25 (0, 0))) := ⟨(by rw [hw]; exact (by (with_reducible repeat (first | refine blk_drewN ?_ _ | refine blk_drew ?_ | refine blk_alloc ?_ _)); refine blk_far ?_ NB108_120.out _; (with_reducible repeat (first | refine blk_drewN ?_ _ | refine blk_drew ?_ | refine blk_alloc ?_ _)); refine blk_far ?_ NB108_120.out _; (with_reducible repeat (first | refine blk_drewN ?_ _ | refine blk_drew ?_ | refine blk_alloc ?_ _)); refine blk_far ?_ NB108_120.out _; (with_reducible repeat (first | refine blk_drewN ?_ _ | refine blk_drew ?_ | refine blk_alloc ?_ _)); refine blk_far ?_ NB108_120.out _; (with_reducible repeat (first | refine blk_drewN ?_ _ | refine blk_drew ?_ | refine blk_alloc ?_ _)); refine blk_far ?_ NB108_120.out _; (with_reducible repeat (first | refine blk_drewN ?_ _ | refine blk_drew ?_ | refine blk_alloc ?_ _)); refine blk_far ?_ NB108_120.out _; (with_reducible repeat (first | refine blk_drewN ?_ _ | refine blk_drew ?_ | refine blk_alloc ?_ _)); refine blk_far ?_ NB108_120.out _; (with_reducible repeat (first | refine blk_drewN ?_ _ | refine blk_drew ?_ | refine blk_alloc ?_ _)); exact BK108.out))⟩; have n4_ : Az (w52.heap[gb109]? = some (.cells #[u110000] 25 (0, 0))) := ⟨(by rw [hw]; exact (by (with_reducible repeat (first | refine blk_drewN ?_ _ | refine blk_drew ?_ | refine blk_alloc ?_ _)); refine blk_far ?_ NB109_120.out _; (with_reducible repeat (first | refine blk_drewN ?_ _ | refine blk_drew ?_ | refine blk_alloc ?_ _)); refine blk_far ?_ NB109_120.out _; (with_reducible repeat (first | refine blk_drewN ?_ _ | refine blk_drew ?_ | refine blk_alloc ?_ _)); refine blk_far ?_ NB109_120.out _; (with_reducible repeat (first | refine blk_drewN ?_ _ | refine blk_drew ?_ | refine blk_alloc ?_ _)); refine blk_far ?_ NB109_120.out _; (with_reducible repeat (first | refine blk_drewN ?_ _ | refine blk_drew ?_ | refine blk_alloc ?_ _)); refine blk_far ?_ NB109_120.out _; (with_reducible repeat (first | refine blk_drewN ?_ _ | refine blk_drew ?_ | refine blk_alloc ?_ _)); refine blk_far ?_ NB109_120.out _; (with_reducible repeat (first | refine blk_drewN ?_ _ | refine blk_drew ?_ | refine blk_alloc ?_ _)); refine blk_far ?_ NB109_120.out _; (with_reducible repeat (first | refine blk_drewN ?_ _ | refine blk_drew ?_ | refine blk_alloc ?_ _)); exact BK109.out))⟩; have n5_ : Az (w52.heap[gb120]? = some (.cells #[.int .i64 5, .string (rdOf ByteArray.empty t110 x10_1), .int .i64 0, .slice Ao47 y117.length co47, .slice none 0 0, .slice none 0 0, .slice none 0 0] 79 (0, 0))) := ⟨(by rw [hw]; exact (by (with_reducible repeat (first | refine blk_drewN ?_ _ | refine blk_drew ?_ | refine blk_alloc ?_ _)); refine blk_put (cs := #[.int .i64 5, .string (rdOf ByteArray.empty t110 x10_1), .int .i64 0, .slice Ao47 y117.length co47, .slice none 0 0, .slice none 0 0, .slice none 0 0]) ?_ 6 _ rfl; (with_reducible repeat (first | refine blk_drewN ?_ _ | refine blk_drew ?_ | refine blk_alloc ?_ _)); refine blk_put (cs := #[.int .i64 5, .string (rdOf ByteArray.empty t110 x10_1), .int .i64 0, .slice Ao47 y117.length co47, .slice none 0 0, .slice none 0 0, .slice none 0 0]) ?_ 5 _ rfl; (with_reducible repeat (first | refine blk_drewN ?_ _ | refine blk_drew ?_ | refine blk_alloc ?_ _)); refine blk_put (cs := #[.int .i64 5, .string (rdOf ByteArray.empty t110 x10_1), .int .i64 0, .slice Ao47 y117.length co47, .slice none 0 0, .slice none 0 0, .slice none 0 0]) ?_ 4 _ rfl; (with_reducible repeat (first | refine blk_drewN ?_ _ | refine blk_drew ?_ | refine blk_alloc ?_ _)); refine blk_put (cs := #[.int .i64 5, .string (rdOf ByteArray.empty t110 x10_1), .int .i64 0, .slice none 0 0, .slice none 0 0, .slice none 0 0, .slice none 0 0]) ?_ 3 _ rfl; (with_reducible repeat (first | refine blk_drewN ?_ _ | refine blk_drew ?_ | refine blk_alloc ?_ _)); refine blk_put (cs := #[.int .i64 5, .string (rdOf ByteArray.empty t110 x10_1), .int .i64 0, .slice none 0 0, .slice none 0 0, .slice none 0 0, .slice none 0 0]) ?_ 2 _ rfl; (with_reducible repeat (first | refine blk_drewN ?_ _ | refine blk_drew ?_ | refine blk_alloc ?_ _)); refine blk_put (cs := #[.int .i64 5, .string (⟨#[]⟩ : ByteArray), .int .i64 0, .slice none 0 0, .slice none 0 0, .slice none 0 0, .slice none 0 0]) ?_ 1 _ rfl; (with_reducible repeat (first | refine blk_drewN ?_ _ | refine blk_drew ?_ | refine blk_alloc ?_ _)); refine blk_put (cs := #[.int .i64 0, .string (⟨#[]⟩ : ByteArray), .int .i64 0, .slice none 0 0, .slice none 0 0, .slice none 0 0, .slice none 0 0]) ?_ 0 _ rfl; (with_reducible repeat (first | refine blk_drewN ?_ _ | refine blk_drew ?_ | refine blk_alloc ?_ _)); exact BK120.out))⟩; have n6_ : Az (Below w.heap.size w w52) := ⟨(by rw [hw]; exact (by repeat (first | (with_reducible first | exact HB.out | apply bal | apply bdN | apply bdr | refine bS ?_ GE108.out | refine bS ?_ GE109.out | refine bS ?_ GE120.out) | exact HB.out)))⟩; clear hw; clear HO_8; clear HO_110000; clear HO119; clear BK108; clear BK109; clear BK120; clear HB; have HO_8 := n0_; have HO_110000 := n1_; have HO119 := n2_; have BK108 := n3_; have BK109 := n4_; have BK120 := n5_; have HB := n6_; clear n0_ n1_ n2_ n3_ n4_ n5_ n6_; have hnb53 := NB109_108.out; have hnc53 := NB108_109.out; have hcz54_0 : w52.cell? ⟨gb109, 0, none⟩ = some (u110000) := (bC BK109.out 0).trans rfl; have hfz54_0 := bF BK109.out 0; have hcz55_0 : w52.cell? ⟨gb120, 0, none⟩ = some (.int .i64 5) := (bC BK120.out 0).trans rfl; have hcz55_1 : w52.cell? ⟨gb120, 1, none⟩ = some (.string (rdOf ByteArray.empty t110 x10_1)) := (bC BK120.out 1).trans rfl; have hcz55_2 : w52.cell? ⟨gb120, 2, none⟩ = some (.int .i64 0) := (bC BK120.out 2).trans rfl; have hcz55_3 : w52.cell? ⟨gb120, 3, none⟩ = some (.slice Ao47 y117.length co47) := (bC BK120.out 3).trans rfl; have hcz55_4 : w52.cell? ⟨gb120, 4, none⟩ = some (.slice none 0 0) := (bC BK120.out 4).trans rfl; have hcz55_5 : w52.cell? ⟨gb120, 5, none⟩ = some (.slice none 0 0) := (bC BK120.out 5).trans rfl; have hcz55_6 : w52.cell? ⟨gb120, 6, none⟩ = some (.slice none 0 0) := (bC BK120.out 6).trans rfl; have hfz55_0 := bF BK120.out 0; have hfz55_1 := bF BK120.out 1; have hfz55_2 := bF BK120.out 2; have hfz55_3 := bF BK120.out 3; have hfz55_4 := bF BK120.out 4; have hfz55_5 := bF BK120.out 5; have hfz55_6 := bF BK120.out 6) | ((with_reducible refine gate_builtin (b := .append) (xs := #[.tmp 32, .tmp 34]) rfl ?_); at_builtin; refine Kd.S_append k79 (w0 := w) w.heap.size rfl (.tmp 32) (.tmp 34) 23 79 (.agg #[(.int .i64 0), (.string ⟨#[]⟩), (.int .i64 0), (.slice none 0 0), (.slice none 0 0), (.slice none 0 0), (.slice none 0 0)]) 128 rfl Try.underlying23 info79 rfl (by decide) (by omega) u110000 x110000_1 (⟨5, rdOf ByteArray.empty t110 x10_1, 0, y117, ([] : List (S31)), ([] : List ByteArray), ([] : List (S31))⟩ : S79) [.int .i64 5, .string (rdOf ByteArray.empty t110 x10_1), .int .i64 0, .slice Ao47 y117.length co47, .slice none 0 0, .slice none 0 0, .slice none 0 0] (fun k_ => some k_ ≠ (.slice (some ad113) t110.length co7 : Value).ownBlock ∧ k_ ≠ gb120) (fun k_ => some k_ = (.slice Ao47 y117.length co47 : Value).ownBlock) rfl rfl ?aP (fun k_ hk_ => ((Kd.R_mono (ok' := fun k_ => ((fun k_ => some k_ ≠ (.slice (some ad113) t110.length co7 : Value).ownBlock ∧ k_ ≠ gb120)) k_ ∧ some k_ ≠ (u110000 : Value).ownBlock) (Kd.R_types (Kd.R_apart' (Kd.R_apart' (HO119.out) (Kd.R_typed HO_8.out) (by decide)) (Kd.S_typed HO_110000.out) (by decide)) BK120.out (by decide)) (fun k_ hk => ⟨⟨hk.1.1.2, hk.2⟩, hk.1.2⟩))).1 k_ hk_.symm) ?aF ?aO ?aB ?aS ?aL ?_; (case aP => exact k79_mkM _ _ _ (⟨5, rdOf ByteArray.empty t110 x10_1, 0, y117, ([] : List (S31)), ([] : List ByteArray), ([] : List (S31))⟩ : S79) (Kd.R_mono (Kd.R_tight rfl (Kd.R_mono (ok' := fun k_ => ((fun k_ => some k_ ≠ (.slice (some ad113) t110.length co7 : Value).ownBlock ∧ k_ ≠ gb120)) k_ ∧ some k_ ≠ (u110000 : Value).ownBlock) (Kd.R_types (Kd.R_apart' (Kd.R_apart' (HO119.out) (Kd.R_typed HO_8.out) (by decide)) (Kd.S_typed HO_110000.out) (by decide)) BK120.out (by decide)) (fun k_ hk => ⟨⟨hk.1.1.2, hk.2⟩, hk.1.2⟩))) (fun _ h_ => h_)) (Kd.R_nil _ _ _ _ _) (Kd.R_nil _ _ _ _ _) (Kd.R_nil _ _ _ _ _)); (case aB => exact (by repeat (first | (with_reducible first | exact HB.out | apply bal | apply bdN | apply bdr | refine bS ?_ GE108.out | refine bS ?_ GE109.out | refine bS ?_ GE120.out) | exact HB.out))); (case aF => exact (fun k_ hk => ⟨Kd.fresh' (Kd.R_lt (by (with_reducible repeat (first | apply Kd.R_alloc | apply Kd.R_drewN | apply Kd.R_drew)); exact HO_8.out)) k_ hk, Kd.freshB (g := gb120) (o := .cells #[.int .i64 5, .string (rdOf ByteArray.empty t110 x10_1), .int .i64 0, .slice Ao47 y117.length co47, .slice none 0 0, .slice none 0 0, .slice none 0 0] 79 (0, 0)) (by (with_reducible repeat (first | refine blk_drewN ?_ _ | refine blk_drew ?_ | refine blk_alloc ?_ _)); exact BK120.out) k_ hk⟩)); (case aO => exact (by (with_reducible repeat (first | apply Kd.S_alloc | apply Kd.S_drewN | apply Kd.S_drew)); exact Kd.S_mono HO_110000.out (fun k_ hk => ⟨⟨hk.1, hk.2.2⟩, fun e_ => hk.2.1 e_⟩))); (case aS => exact (below_size (by repeat (first | (with_reducible first | exact HB.out | apply bal | apply bdN | apply bdr | refine bS ?_ GE108.out | refine bS ?_ GE109.out | refine bS ?_ GE120.out) | exact HB.out)))); (case aL => have := LMc43.out; omega); intro v137 w56 ho hb hg hat; rw [← Ny136.out] at ho; have n0_ := Az.mk (Kd.R_over' (by (with_reducible repeat (first | apply Kd.R_alloc | apply Kd.R_drewN | apply Kd.R_drew)); exact HO_8.out) (Kd.S_typed (by (with_reducible repeat (first | apply Kd.S_alloc | apply Kd.S_drewN | apply Kd.S_drew)); exact HO_110000.out)) (by decide) hg); have n1_ := Az.mk (blk_grown (g := gb108) (o := .cells #[.slice none 0 0] 25 (0, 0)) (by (with_reducible repeat (first | refine blk_drewN ?_ _ | refine blk_drew ?_ | refine blk_alloc ?_ _)); exact BK108.out) hg (Kd.S_ne HO_110000.out BK108.out (by decide))); have n2_ := Az.mk (blk_grown (g := gb109) (o := .cells #[u110000] 25 (0, 0)) (by (with_reducible repeat (first | refine blk_drewN ?_ _ | refine blk_drew ?_ | refine blk_alloc ?_ _)); exact BK109.out) hg (Kd.S_ne HO_110000.out BK109.out (by decide))); have n3_ := Az.mk (blk_grown (g := gb120) (o := .cells #[.int .i64 5, .string (rdOf ByteArray.empty t110 x10_1), .int .i64 0, .slice Ao47 y117.length co47, .slice none 0 0, .slice none 0 0, .slice none 0 0] 79 (0, 0)) (by (with_reducible repeat (first | refine blk_drewN ?_ _ | refine blk_drew ?_ | refine blk_alloc ?_ _)); exact BK120.out) hg (Kd.S_away HO_110000.out (fun _ hk => hk.2.2))); have n4_ := Az.mk (hb); have n5_ := Az.mk (ho); clear HO_8; clear BK108; clear BK109; clear BK120; clear HB; clear HO_110000; clear HO119; have HO_8 := n0_; have BK108 := n1_; have BK109 := n2_; have BK120 := n3_; have HB := n4_; have HO138 := n5_; clear n0_ n1_ n2_ n3_ n4_ n5_; clear ho hb hg hat; obtain ⟨Ao57, co57, eo57⟩ := Kd.S_slice HO138.out; subst eo57; have hcz58_0 : w56.cell? ⟨gb109, 0, none⟩ = some (u110000) := (bC BK109.out 0).trans rfl; have hfz58_0 := bF BK109.out 0))
        go_roundg k1
        case measure => have := HK1.out; omega
        case rel => exact ⟨(wrap64 (x10_1 + 1)), (y136), (.slice Ao57 y136.length co57), (by first | rfl | (simp; done) | (simp [*]; done)), H', ⟨by have := HK1.out; omega⟩, ⟨by (with_reducible repeat (first | apply Kd.R_alloc | apply Kd.R_drewN | apply Kd.R_drew)); exact Kd.R_mono (Kd.R_far (p := ⟨gb109, 0, none⟩) (Kd.R_types HO_8.out BK109.out (by decide)) (fun _ hk => hk.2) (.slice Ao57 y136.length co57)) (fun _ hk => trivial)⟩, ⟨by (with_reducible repeat (first | apply Kd.S_alloc | apply Kd.S_drewN | apply Kd.S_drew)); exact Kd.S_mono (Kd.S_far (p := ⟨gb109, 0, none⟩) (Kd.S_types HO138.out BK109.out (by decide)) (fun _ hk => hk.2) (.slice Ao57 y136.length co57)) (fun _ hk => hk.1.1)⟩, ⟨by (with_reducible repeat (first | refine blk_drewN ?_ _ | refine blk_drew ?_ | refine blk_alloc ?_ _)); refine blk_far ?_ NB108_109.out _; (with_reducible repeat (first | refine blk_drewN ?_ _ | refine blk_drew ?_ | refine blk_alloc ?_ _)); exact BK108.out⟩, ⟨by (with_reducible repeat (first | refine blk_drewN ?_ _ | refine blk_drew ?_ | refine blk_alloc ?_ _)); refine blk_put (cs := #[u110000]) ?_ 0 _ rfl; (with_reducible repeat (first | refine blk_drewN ?_ _ | refine blk_drew ?_ | refine blk_alloc ?_ _)); exact BK109.out⟩, ⟨by repeat (first | (with_reducible first | exact HB.out | apply bal | apply bdN | apply bdr | refine bS ?_ GE108.out | refine bS ?_ GE109.out | refine bS ?_ GE120.out) | exact HB.out)⟩⟩
       ·rw [if_neg c43] at H
        exact absurd H (by simp)
     ·rw [if_neg c10] at H
      exact absurd H (by simp)
    ·rw [if_neg c9] at H
     exact absurd H (by simp)
   ·rw [if_neg c8] at H
    have c8b0 : decide (x10_1 < (t110.length : Int)) = false := decide_eq_false c8
    clear c8
    replace H := Option.bind_eq_some_iff.mp H
    obtain ⟨t139, A590, H⟩ := H
    replace H : (impl_HeapNew.l1 k1 t139 (t139.length : Int) 0 x110000_1) = some r := H
    have A59 := Az.mk A590
    clear A590
    have H' := Az.mk H
    clear H
    go_wp2_with (first | ((with_reducible refine gate_callee (f := 46) rfl ?_); refine goesL_ (some 38) rfl rfl Try.func46 (by kernel_rfl) rfl #[] rfl (by (try simp only [List.map_toArray, List.map_cons, List.map_nil]); first | done | rfl | (simp only [List.length_drop, List.length_take]; rfl)) ?_; (with_reducible refine (impl_builtNames.calls  t139 _ A59.out).mono ?_); rintro e w60 ⟨v140, rfl, ho0, hb⟩; refine ⟨_, rfl, ?_⟩; have n0_ := Az.mk (Kd.R_elder' (by (with_reducible repeat (first | apply Kd.R_alloc | apply Kd.R_drewN | apply Kd.R_drew)); exact HO_8.out) (Kd.R_base ho0) hb); have n1_ := Az.mk (Kd.S_elder' (by (with_reducible repeat (first | apply Kd.S_alloc | apply Kd.S_drewN | apply Kd.S_drew)); exact HO_110000.out) (Kd.R_base ho0) hb); have n2_ := Az.mk (Kd.R_lower (Kd.R_new' ho0 (Kd.R_lt (by (with_reducible repeat (first | apply Kd.R_alloc | apply Kd.R_drewN | apply Kd.R_drew)); exact HO_8.out))) (below_size (by repeat (first | (with_reducible first | exact HB.out | apply bal | apply bdN | apply bdr | refine bS ?_ GE108.out | refine bS ?_ GE109.out) | exact HB.out)))); have n3_ := Az.mk (blk_below (g := gb108) (o := .cells #[.slice none 0 0] 25 (0, 0)) (by (with_reducible repeat (first | refine blk_drewN ?_ _ | refine blk_drew ?_ | refine blk_alloc ?_ _)); exact BK108.out) hb); have n4_ := Az.mk (blk_below (g := gb109) (o := .cells #[u110000] 25 (0, 0)) (by (with_reducible repeat (first | refine blk_drewN ?_ _ | refine blk_drew ?_ | refine blk_alloc ?_ _)); exact BK109.out) hb); have n5_ := Az.mk (below_step (by repeat (first | (with_reducible first | exact HB.out | apply bal | apply bdN | apply bdr | refine bS ?_ GE108.out | refine bS ?_ GE109.out) | exact HB.out)) hb); clear HO_8; clear HO_110000; clear BK108; clear BK109; clear HB; have HO_8 := n0_; have HO_110000 := n1_; have HO141 := n2_; have BK108 := n3_; have BK109 := n4_; have HB := n5_; clear n0_ n1_ n2_ n3_ n4_ n5_; (try clear hb); (try clear hb2); (try clear hk); (try clear hi); (try clear ho0); obtain ⟨Ao61, co61, eo61⟩ := Kd.R_slice HO141.out; subst eo61))
    go_loopg [40] k1 (fun kq v40 w' => ∃ (x40_2 : Int) (x110000_2 : List (S79)) (u110000 : Value), v40 = .int .i64 x40_2 ∧ Az (impl_HeapNew.l1 kq t139 (t139.length : Int) x40_2 x110000_2 = some r) ∧ Az (kq ≤ k1) ∧ Az (Kd.R Kd.string 9 w' w.heap.size (fun _ => True) (.slice Ao61 t139.length co61) t139) ∧ Az (Kd.S k79 79 w' w.heap.size (fun k_ => some k_ ≠ ((.slice Ao61 t139.length co61) : Value).ownBlock) u110000 x110000_2) ∧ Az (w'.heap[gb108]? = some (.cells #[(.slice none 0 0)] 25 (0, 0))) ∧ Az (w'.heap[gb109]? = some (.cells #[u110000] 25 (0, 0))) ∧ Az (Below w.heap.size w w'))
    case atStart => exact ⟨(0), (x110000_1), (u110000), (by first | rfl | (simp; done) | (simp [*]; done)), H', ⟨Nat.le_refl _⟩, ⟨by (with_reducible repeat (first | apply Kd.R_alloc | apply Kd.R_drewN | apply Kd.R_drew)); exact Kd.R_mono HO141.out (fun _ hk => trivial)⟩, ⟨by (with_reducible repeat (first | apply Kd.S_alloc | apply Kd.S_drewN | apply Kd.S_drew)); exact Kd.S_mono HO_110000.out (fun _ hk => hk.2)⟩, ⟨by (with_reducible repeat (first | refine blk_drewN ?_ _ | refine blk_drew ?_ | refine blk_alloc ?_ _)); exact BK108.out⟩, ⟨by (with_reducible repeat (first | refine blk_drewN ?_ _ | refine blk_drew ?_ | refine blk_alloc ?_ _)); exact BK109.out⟩, ⟨by repeat (first | (with_reducible first | exact HB.out | apply bal | apply bdN | apply bdr | refine bS ?_ GE108.out | refine bS ?_ GE109.out) | exact HB.out)⟩⟩
    case round =>
     clear H'
     try clear c1
     try clear p1
     try clear q1
     try clear hx1
     try clear c2
     try clear p2
     try clear c3
     try clear c4
     try clear c5
     try clear p6
     try clear c8
     try clear c8b0
     try clear c9
     try clear c9b0
     try clear c10
     try clear c10b0
     try clear p11
     try clear q11
     try clear hx11
     try clear c12
     try clear c12b0
     try clear c15
     try clear c16
     try clear c22
     try clear c23
     try clear c37
     try clear c43
     try clear c44
     try clear c45
     try clear c46
     try clear c49
     try clear c50
     try clear c53
     try clear hcz24_0
     try clear hcz24_1
     try clear hcz24_2
     try clear hcz24_3
     try clear hcz24_4
     try clear hcz24_5
     try clear hcz24_6
     try clear hcz29_0
     try clear hcz29_1
     try clear hcz29_2
     try clear hcz29_3
     try clear hcz29_4
     try clear hcz29_5
     try clear hcz29_6
     try clear hcz38_0
     try clear hcz39_0
     try clear hcz39_1
     try clear hcz39_2
     try clear hcz39_3
     try clear hcz39_4
     try clear hcz39_5
     try clear hcz39_6
     try clear hcz42_0
     try clear hcz51_0
     try clear hcz51_1
     try clear hcz51_2
     try clear hcz51_3
     try clear hcz51_4
     try clear hcz51_5
     try clear hcz51_6
     try clear hcz54_0
     try clear hcz55_0
     try clear hcz55_1
     try clear hcz55_2
     try clear hcz55_3
     try clear hcz55_4
     try clear hcz55_5
     try clear hcz55_6
     try clear hcz58_0
     try clear hcz5_0
     try clear hfz24_0
     try clear hfz24_1
     try clear hfz24_2
     try clear hfz24_3
     try clear hfz24_4
     try clear hfz24_5
     try clear hfz24_6
     try clear hfz29_0
     try clear hfz29_1
     try clear hfz29_2
     try clear hfz29_3
     try clear hfz29_4
     try clear hfz29_5
     try clear hfz29_6
     try clear hfz38_0
     try clear hfz39_0
     try clear hfz39_1
     try clear hfz39_2
     try clear hfz39_3
     try clear hfz39_4
     try clear hfz39_5
     try clear hfz39_6
     try clear hfz42_0
     try clear hfz51_0
     try clear hfz51_1
     try clear hfz51_2
     try clear hfz51_3
     try clear hfz51_4
     try clear hfz51_5
     try clear hfz51_6
     try clear hfz54_0
     try clear hfz55_0
     try clear hfz55_1
     try clear hfz55_2
     try clear hfz55_3
     try clear hfz55_4
     try clear hfz55_5
     try clear hfz55_6
     try clear hfz58_0
     try clear hfz5_0
     try clear hx113_0
     try clear p113
     try clear p2
     try clear q113
     obtain ⟨x40_2, x110000_2, u110000, rfl, HA, HK2, HO_38, HO_110000, BK108, BK109, HB⟩ := hrel
     cases gk with
     | zero => exact absurd HA.out (by simp [impl_HeapNew.l1])
     | succ k2 =>
      have H := HA.out
      clear HA
      simp only [impl_HeapNew.l1] at H
      by_cases c62 : x40_2 < (t139.length : Int)
      ·rw [if_pos c62] at H
       have c62b0 : decide (x40_2 < (t139.length : Int)) = true := decide_eq_true c62
       clear c62
       by_cases c63 : 0 ≤ x40_2
       ·rw [if_pos c63] at H
        have c63b0 : decide (0 ≤ x40_2) = true := decide_eq_true c63
        clear c63
        by_cases c64 : x40_2 < (t139.length : Int)
        ·rw [if_pos c64] at H
         have c64b0 : decide (x40_2 < (t139.length : Int)) = true := decide_eq_true c64
         clear c64
         by_cases c65 : x110000_2.length < 1099511627776
         ·rw [if_pos c65] at H
          have LMc65 := Az.mk c65
          clear c65
          obtain ⟨y143, hy143⟩ : ∃ y_ : List (S79), y_ = (x110000_2 ++ [(⟨10, rdOf ByteArray.empty t139 x40_2, 0, ([] : List (S31)), ([] : List (S31)), ([] : List ByteArray), ([] : List (S31))⟩ : S79)]) := ⟨_, rfl⟩
          replace H : (impl_HeapNew.l1 k2 t139 (t139.length : Int) (wrap64 (x40_2 + 1)) y143) = some r := by first | (rw [hy143]; with_reducible exact H) | (have H2_ := (Option.bind_some _ _).symm.trans H; rw [hy143]; with_reducible exact H2_) | (have H2_ := (Option.bind_some _ _).symm.trans H; with_reducible exact H2_) | with_reducible exact H | (rw [hy143]; exact H) | exact H
          have Ny143 := Az.mk hy143
          clear hy143
          have H' := Az.mk H
          clear H
          have p142 : 0 ≤ (x40_2 : Int) := of_decide_eq_true (by first | (with_reducible assumption) | assumption)
          have q142 : x40_2 < (t139.length : Int) := of_decide_eq_true (by first | (with_reducible assumption) | assumption)
          obtain ⟨ad142, e142, hx142_0⟩ := Kd.at_string (Kd.R_reads' HO_38.out).2.2 x40_2 p142 q142
          cases e142
          replace p142 := eq_true p142
          replace q142 := eq_true q142
          have hnb66 := NB109_108.out
          have hnc66 := NB108_109.out
          have hcz67_0 : wr.cell? ⟨gb109, 0, none⟩ = some (u110000) := (bC BK109.out 0).trans rfl
          have hfz67_0 := bF BK109.out 0
          go_wp2_with (first | ((with_reducible refine gate_builtin (b := .append) (xs := #[.tmp 45, .tmp 48]) rfl ?_); at_builtin; refine Kd.S_append k79 (w0 := w) w.heap.size rfl (.tmp 45) (.tmp 48) 23 79 (.agg #[(.int .i64 0), (.string ⟨#[]⟩), (.int .i64 0), (.slice none 0 0), (.slice none 0 0), (.slice none 0 0), (.slice none 0 0)]) 128 rfl Try.underlying23 info79 rfl (by decide) (by omega) u110000 x110000_2 (⟨10, rdOf ByteArray.empty t139 x40_2, 0, ([] : List (S31)), ([] : List (S31)), ([] : List ByteArray), ([] : List (S31))⟩ : S79) [.int .i64 10, .string (rdOf ByteArray.empty t139 x40_2), .int .i64 0, .slice none 0 0, .slice none 0 0, .slice none 0 0, .slice none 0 0] (fun k_ => some k_ ≠ (.slice (some ad142) t139.length co61 : Value).ownBlock) (fun _ => False) rfl rfl ?aP (fun k_ hk_ => hk_.elim) ?aF ?aO ?aB ?aS ?aL ?_; (case aP => exact k79_mkM _ _ _ (⟨10, rdOf ByteArray.empty t139 x40_2, 0, ([] : List (S31)), ([] : List (S31)), ([] : List ByteArray), ([] : List (S31))⟩ : S79) (Kd.R_nil _ _ _ _ _) (Kd.R_nil _ _ _ _ _) (Kd.R_nil _ _ _ _ _) (Kd.R_nil _ _ _ _ _)); (case aB => exact (by repeat (first | (with_reducible first | exact HB.out | apply bal | apply bdN | apply bdr | refine bS ?_ GE108.out | refine bS ?_ GE109.out) | exact HB.out))); (case aF => exact (fun k_ hk => Kd.fresh' (Kd.R_lt (by (with_reducible repeat (first | apply Kd.R_alloc | apply Kd.R_drewN | apply Kd.R_drew)); exact HO_38.out)) k_ hk)); (case aO => exact (by (with_reducible repeat (first | apply Kd.S_alloc | apply Kd.S_drewN | apply Kd.S_drew)); exact Kd.S_mono HO_110000.out (fun k_ hk => ⟨hk, fun e_ => e_⟩))); (case aS => exact (below_size (by repeat (first | (with_reducible first | exact HB.out | apply bal | apply bdN | apply bdr | refine bS ?_ GE108.out | refine bS ?_ GE109.out) | exact HB.out)))); (case aL => have := LMc65.out; omega); intro v144 w68 ho hb hg hat; rw [← Ny143.out] at ho; have n0_ := Az.mk (Kd.R_over' (by (with_reducible repeat (first | apply Kd.R_alloc | apply Kd.R_drewN | apply Kd.R_drew)); exact HO_38.out) (Kd.S_typed (by (with_reducible repeat (first | apply Kd.S_alloc | apply Kd.S_drewN | apply Kd.S_drew)); exact HO_110000.out)) (by decide) hg); have n1_ := Az.mk (blk_grown (g := gb108) (o := .cells #[.slice none 0 0] 25 (0, 0)) (by (with_reducible repeat (first | refine blk_drewN ?_ _ | refine blk_drew ?_ | refine blk_alloc ?_ _)); exact BK108.out) hg (Kd.S_ne HO_110000.out BK108.out (by decide))); have n2_ := Az.mk (blk_grown (g := gb109) (o := .cells #[u110000] 25 (0, 0)) (by (with_reducible repeat (first | refine blk_drewN ?_ _ | refine blk_drew ?_ | refine blk_alloc ?_ _)); exact BK109.out) hg (Kd.S_ne HO_110000.out BK109.out (by decide))); have n3_ := Az.mk (hb); have n4_ := Az.mk (ho); clear HO_38; clear BK108; clear BK109; clear HB; clear HO_110000; have HO_38 := n0_; have BK108 := n1_; have BK109 := n2_; have HB := n3_; have HO145 := n4_; clear n0_ n1_ n2_ n3_ n4_; clear ho hb hg hat; obtain ⟨Ao69, co69, eo69⟩ := Kd.S_slice HO145.out; subst eo69; have hcz70_0 : w68.cell? ⟨gb109, 0, none⟩ = some (u110000) := (bC BK109.out 0).trans rfl; have hfz70_0 := bF BK109.out 0))
          go_roundg k2
          case measure => have := HK1.out; have := HK2.out; omega
          case rel => exact ⟨(wrap64 (x40_2 + 1)), (y143), (.slice Ao69 y143.length co69), (by first | rfl | (simp; done) | (simp [*]; done)), H', ⟨by have := HK1.out; have := HK2.out; omega⟩, ⟨by (with_reducible repeat (first | apply Kd.R_alloc | apply Kd.R_drewN | apply Kd.R_drew)); exact Kd.R_mono (Kd.R_far (p := ⟨gb109, 0, none⟩) (Kd.R_types HO_38.out BK109.out (by decide)) (fun _ hk => hk.2) (.slice Ao69 y143.length co69)) (fun _ hk => trivial)⟩, ⟨by (with_reducible repeat (first | apply Kd.S_alloc | apply Kd.S_drewN | apply Kd.S_drew)); exact Kd.S_mono (Kd.S_far (p := ⟨gb109, 0, none⟩) (Kd.S_types HO145.out BK109.out (by decide)) (fun _ hk => hk.2) (.slice Ao69 y143.length co69)) (fun _ hk => hk.1)⟩, ⟨by (with_reducible repeat (first | refine blk_drewN ?_ _ | refine blk_drew ?_ | refine blk_alloc ?_ _)); refine blk_far ?_ NB108_109.out _; (with_reducible repeat (first | refine blk_drewN ?_ _ | refine blk_drew ?_ | refine blk_alloc ?_ _)); exact BK108.out⟩, ⟨by (with_reducible repeat (first | refine blk_drewN ?_ _ | refine blk_drew ?_ | refine blk_alloc ?_ _)); refine blk_put (cs := #[u110000]) ?_ 0 _ rfl; (with_reducible repeat (first | refine blk_drewN ?_ _ | refine blk_drew ?_ | refine blk_alloc ?_ _)); exact BK109.out⟩, ⟨by repeat (first | (with_reducible first | exact HB.out | apply bal | apply bdN | apply bdr | refine bS ?_ GE108.out | refine bS ?_ GE109.out) | exact HB.out)⟩⟩
         ·rw [if_neg c65] at H
          exact absurd H (by simp)
        ·rw [if_neg c64] at H
         exact absurd H (by simp)
       ·rw [if_neg c63] at H
        exact absurd H (by simp)
      ·rw [if_neg c62] at H
       have c62b0 : decide (x40_2 < (t139.length : Int)) = false := decide_eq_false c62
       clear c62
       obtain rfl := Option.some.inj H
       have hnb71 := NB109_108.out
       have hnc71 := NB108_109.out
       have hcz72_0 : wr.cell? ⟨gb109, 0, none⟩ = some (u110000) := (bC BK109.out 0).trans rfl
       have hfz72_0 := bF BK109.out 0
       obtain ⟨Ao73, co73, eo73⟩ := Kd.S_slice HO_110000.out
       subst eo73
       have hcz74_0 : wr.cell? ⟨gb108, 0, none⟩ = some (.slice none 0 0) := (bC BK108.out 0).trans rfl
       have hfz74_0 := bF BK108.out 0
       go_wp2
       refine bodyPost_ret (results_cell_row rfl _ _ gb108 25 #[.slice Ao73 x110000_2.length co73] (0, 0) _ rfl (by (with_reducible repeat (first | refine blk_drewN ?_ _ | refine blk_drew ?_ | refine blk_alloc ?_ _)); refine blk_put (cs := #[.slice none 0 0]) ?_ 0 _ rfl; (with_reducible repeat (first | refine blk_drewN ?_ _ | refine blk_drew ?_ | refine blk_alloc ?_ _)); exact BK108.out) Try.underlying25 rfl (by kernel_rfl)) rfl ?_
       exact ⟨_, by first | rfl | (simp [errW_none, errW_some] <;> rfl) | (simp [*, errW_none, errW_some] <;> rfl), by (with_reducible repeat (first | apply Kd.S_alloc | apply Kd.S_drewN | apply Kd.S_drew)); exact Kd.S_mono (Kd.S_far (p := ⟨gb108, 0, none⟩) (Kd.S_types HO_110000.out BK108.out (by decide)) (fun _ hk => hk.2) (.slice Ao73 x110000_2.length co73)) (fun _ hk => trivial), by repeat (first | (with_reducible first | exact HB.out | apply bal | apply bdN | apply bdr | refine bS ?_ GE108.out | refine bS ?_ GE109.out) | exact HB.out)⟩
def spec_sameTexts.l0 : Nat → List ByteArray → List ByteArray → Int → Option (Bool)
 | 0, _, _, _ => none
 | k + 1, x0, x1, x5 => if x5 < (x0.length : Int) then (if 0 ≤ x5 then (if x5 < (x1.length : Int) then (if (rdOf ByteArray.empty x0 x5).toList = (rdOf ByteArray.empty x1 x5).toList then (spec_sameTexts.l0 k x0 x1 (wrap64 (x5 + 1))) else (some false)) else (none)) else (none)) else (some true)
def spec_sameTexts.f (k : Nat) (l0 : List ByteArray) (l1 : List ByteArray) : Option (Bool) := if (l0.length : Int) = (l1.length : Int) then (spec_sameTexts.l0 k l0 l1 0) else (some false)
theorem spec_sameTexts.calls (k : Nat) (A0 : Option Addr) (c0 : Nat) (l0 : List ByteArray) (A1 : Option Addr) (c1 : Nat) (l1 : List ByteArray) (r : Bool) (w : World) (hr0 : Kd.C Kd.string w A0 l0.length l0) (hc0 : l0.length ≤ c0) (hr1 : Kd.C Kd.string w A1 l1.length l1) (hc1 : l1.length ≤ c1) (h : spec_sameTexts.f k l0 l1 = some r) :
  Calls Try.prog 71 #[.slice A0 l0.length c0, .slice A1 l1.length c1] w fun e w' => e = .returned (.bool r) ∧ Drawn0 w w' := by
 have HR0 := Az.mk hr0
 have HC0 := Az.mk hc0
 clear hr0 hc0
 have HR1 := Az.mk hr1
 have HC1 := Az.mk hc1
 clear hr1 hc1
 have H : (if (l0.length : Int) = (l1.length : Int) then (spec_sameTexts.l0 k l0 l1 0) else (some false)) = some r := h
 clear h
 by_cases c3 : (l0.length : Int) = (l1.length : Int)
 ·rw [if_pos c3] at H
  have c3b0 : ((l0.length : Int) == (l1.length : Int)) = true := beq_iff_eq.mpr c3
  have c3b1 : ((l0.length : Int) != (l1.length : Int)) = false := bne_eq_false_iff_eq.mpr c3
  have c3b2 : (l0.length == l1.length) = true := by first | simpa using c3 | (simp at c3 ⊢; omega)
  clear c3
  have H' := Az.mk H
  clear H
  go_enter Try.func71, Try.ntmps71
  go_wp2
  repeat (go_quiet (fail); try go_wp2)
  go_loopg [5] k (fun kq v5 w' => ∃ (x5_1 : Int), v5 = .int .i64 x5_1 ∧ Az (spec_sameTexts.l0 kq l0 l1 x5_1 = some r) ∧ Az (kq ≤ k) ∧ Drawn0 w w')
  case atStart => exact ⟨(0), (by first | rfl | (simp; done) | (simp [*]; done)), H', ⟨Nat.le_refl _⟩, by repeat (first | exact Drawn0.refl _ | apply Drawn0.step)⟩
  case round =>
   clear H'
   try clear c1
   try clear p2
   try clear c3
   try clear c3b0
   try clear c3b1
   try clear c3b2
   obtain ⟨x5_1, rfl, HA, HK1, ⟨m1, rfl⟩⟩ := hrel
   cases gk with
   | zero => exact absurd HA.out (by simp [spec_sameTexts.l0])
   | succ k1 =>
    have H := HA.out
    clear HA
    simp only [spec_sameTexts.l0] at H
    by_cases c4 : x5_1 < (l0.length : Int)
    ·rw [if_pos c4] at H
     have c4b0 : decide (x5_1 < (l0.length : Int)) = true := decide_eq_true c4
     clear c4
     by_cases c5 : 0 ≤ x5_1
     ·rw [if_pos c5] at H
      have c5b0 : decide (0 ≤ x5_1) = true := decide_eq_true c5
      clear c5
      by_cases c6 : x5_1 < (l1.length : Int)
      ·rw [if_pos c6] at H
       have c6b0 : decide (x5_1 < (l1.length : Int)) = true := decide_eq_true c6
       clear c6
       by_cases c7 : (rdOf ByteArray.empty l0 x5_1).toList = (rdOf ByteArray.empty l1 x5_1).toList
       ·rw [if_pos c7] at H
        have c7b0 : ((rdOf ByteArray.empty l0 x5_1).toList == (rdOf ByteArray.empty l1 x5_1).toList) = true := beq_iff_eq.mpr c7
        have c7b1 : ((rdOf ByteArray.empty l0 x5_1).toList != (rdOf ByteArray.empty l1 x5_1).toList) = false := bne_eq_false_iff_eq.mpr c7
        clear c7
        have H' := Az.mk H
        clear H
        have p146 : 0 ≤ (x5_1 : Int) := of_decide_eq_true (by first | (with_reducible assumption) | assumption)
        have q146 : x5_1 < (l0.length : Int) := of_decide_eq_true (by first | (with_reducible assumption) | assumption)
        obtain ⟨ad146, e146, hx146_0⟩ := Kd.at_string HR0.out x5_1 p146 q146
        cases e146
        replace p146 := eq_true p146
        replace q146 := eq_true q146
        have p147 : 0 ≤ (x5_1 : Int) := of_decide_eq_true (by first | (with_reducible assumption) | assumption)
        have q147 : x5_1 < (l1.length : Int) := of_decide_eq_true (by first | (with_reducible assumption) | assumption)
        obtain ⟨ad147, e147, hx147_0⟩ := Kd.at_string HR1.out x5_1 p147 q147
        cases e147
        replace p147 := eq_true p147
        replace q147 := eq_true q147
        go_wp2
        repeat (go_quiet (fail); try go_wp2)
        go_roundg k1
        case measure => have := HK1.out; omega
        case rel => exact ⟨(wrap64 (x5_1 + 1)), (by first | rfl | (simp; done) | (simp [*]; done)), H', ⟨by have := HK1.out; omega⟩, by repeat (first | exact Drawn0.refl _ | apply Drawn0.step)⟩
       ·rw [if_neg c7] at H
        have c7b0 : ((rdOf ByteArray.empty l0 x5_1).toList == (rdOf ByteArray.empty l1 x5_1).toList) = false := beq_eq_false_iff_ne.mpr c7
        have c7b1 : ((rdOf ByteArray.empty l0 x5_1).toList != (rdOf ByteArray.empty l1 x5_1).toList) = true := bne_iff_ne.mpr c7
        obtain rfl := Option.some.inj H
        have p146 : 0 ≤ (x5_1 : Int) := of_decide_eq_true (by first | (with_reducible assumption) | assumption)
        have q146 : x5_1 < (l0.length : Int) := of_decide_eq_true (by first | (with_reducible assumption) | assumption)
        obtain ⟨ad146, e146, hx146_0⟩ := Kd.at_string HR0.out x5_1 p146 q146
        cases e146
        replace p146 := eq_true p146
        replace q146 := eq_true q146
        have p147 : 0 ≤ (x5_1 : Int) := of_decide_eq_true (by first | (with_reducible assumption) | assumption)
        have q147 : x5_1 < (l1.length : Int) := of_decide_eq_true (by first | (with_reducible assumption) | assumption)
        obtain ⟨ad147, e147, hx147_0⟩ := Kd.at_string HR1.out x5_1 p147 q147
        cases e147
        replace p147 := eq_true p147
        replace q147 := eq_true q147
        go_wp2
        repeat (go_quiet (fail); try go_wp2)
        go_ret
        exact ⟨by first | rfl | (simp; done) | (simp [*]; done), by repeat (first | exact Drawn0.refl _ | apply Drawn0.step)⟩
      ·rw [if_neg c6] at H
       exact absurd H (by simp)
     ·rw [if_neg c5] at H
      exact absurd H (by simp)
    ·rw [if_neg c4] at H
     have c4b0 : decide (x5_1 < (l0.length : Int)) = false := decide_eq_false c4
     clear c4
     obtain rfl := Option.some.inj H
     go_wp2
     repeat (go_quiet (fail); try go_wp2)
     go_ret
     exact ⟨by first | rfl | (simp; done) | (simp [*]; done), by repeat (first | exact Drawn0.refl _ | apply Drawn0.step)⟩
 ·rw [if_neg c3] at H
  have c3b0 : ((l0.length : Int) == (l1.length : Int)) = false := beq_eq_false_iff_ne.mpr c3
  have c3b1 : ((l0.length : Int) != (l1.length : Int)) = true := bne_iff_ne.mpr c3
  have c3b2 : (l0.length == l1.length) = false := by first | simpa using c3 | (simp at c3 ⊢; omega)
  obtain rfl := Option.some.inj H
  go_enter Try.func71, Try.ntmps71
  go_wp2
  repeat (go_quiet (fail); try go_wp2)
  go_ret
  exact ⟨by first | rfl | (simp; done) | (simp [*]; done), by repeat (first | exact Drawn0.refl _ | apply Drawn0.step)⟩
end Go.Proofs.Ytehhhlhedmfdiaa.PFnHeapNewShows
end
section
namespace Go.Proofs.Ytehhhlhedmfdiaa.PFnHeapNewShows
open Go.RowKit Go.Proofs.Yz0.PrintWords Go.Proofs.Yz0.PrintLast Go.Proofs.Yz0.PrintMore
attribute [local go_sem] max2_int min2_int max_two min_two max_three min_three max_four min_four
set_option linter.unusedVariables false
set_option linter.unusedSimpArgs false
theorem eqA31 (d : Nat) (w : World) (x0 y0 : Int) (x1 y1 : ByteArray) (x2 y2 : Int) :
  (Op.equalIn (d + 2) 31 (.agg #[.int .i64 x0, .string x1, .int .i64 x2]) (.agg #[.int .i64 y0, .string y1, .int .i64 y2])).run Try.prog w = .ok (x0 == y0 && (x1.toList == y1.toList && (x2 == y2))) w := by
 refine eqA_of Try.underlying31 (by kernel_rfl) ?_
 refine eqf_cons (by rfl) (by go_simp; rfl) (by go_simp; rfl) (by go_simp) ?_
 refine eqf_cons (by rfl) (by go_simp; rfl) (by go_simp; rfl) (by go_simp) ?_
 exact eqf_last (by rfl) (by go_simp; rfl) (by go_simp; rfl) (by go_simp)
end Go.Proofs.Ytehhhlhedmfdiaa.PFnHeapNewShows
end
section
namespace Go.Proofs.Ytehhhlhedmfdiaa.PFnHeapNewShows
open Go.RowKit Go.Proofs.Yz0.PrintWords Go.Proofs.Yz0.PrintLast Go.Proofs.Yz0.PrintMore
attribute [local go_sem] max2_int min2_int max_two min_two max_three min_three max_four min_four
set_option linter.unusedVariables false
set_option linter.unusedSimpArgs false
attribute [local go_sem high] eqA31
def spec_sameVals.l0 : Nat → List (S31) → List (S31) → Int → Option (Bool)
 | 0, _, _, _ => none
 | k + 1, x0, x1, x5 => if x5 < (x0.length : Int) then (if 0 ≤ x5 then (if x5 < (x1.length : Int) then (if (!(((rd_T31 x0 x5).f0) == ((rd_T31 x1 x5).f0)) || (!((((rd_T31 x0 x5).f1).toList) == (((rd_T31 x1 x5).f1).toList)) || (!(((rd_T31 x0 x5).f2) == ((rd_T31 x1 x5).f2))))) = true then (some false) else (spec_sameVals.l0 k x0 x1 (wrap64 (x5 + 1)))) else (none)) else (none)) else (some true)
def spec_sameVals.f (k : Nat) (l0 : List (S31)) (l1 : List (S31)) : Option (Bool) := if (l0.length : Int) = (l1.length : Int) then (spec_sameVals.l0 k l0 l1 0) else (some false)
theorem spec_sameVals.calls (k : Nat) (A0 : Option Addr) (c0 : Nat) (l0 : List (S31)) (A1 : Option Addr) (c1 : Nat) (l1 : List (S31)) (r : Bool) (w : World) (hr0 : Kd.C k31 w A0 l0.length l0) (hc0 : l0.length ≤ c0) (hr1 : Kd.C k31 w A1 l1.length l1) (hc1 : l1.length ≤ c1) (h : spec_sameVals.f k l0 l1 = some r) :
  Calls Try.prog 87 #[.slice A0 l0.length c0, .slice A1 l1.length c1] w fun e w' => e = .returned (.bool r) ∧ Drawn0 w w' := by
 have hu31 := Try.underlying31
 have HR0 := Az.mk hr0
 have HC0 := Az.mk hc0
 clear hr0 hc0
 have HR1 := Az.mk hr1
 have HC1 := Az.mk hc1
 clear hr1 hc1
 have H : (if (l0.length : Int) = (l1.length : Int) then (spec_sameVals.l0 k l0 l1 0) else (some false)) = some r := h
 clear h
 by_cases c3 : (l0.length : Int) = (l1.length : Int)
 ·rw [if_pos c3] at H
  have c3b0 : ((l0.length : Int) == (l1.length : Int)) = true := beq_iff_eq.mpr c3
  have c3b1 : ((l0.length : Int) != (l1.length : Int)) = false := bne_eq_false_iff_eq.mpr c3
  have c3b2 : (l0.length == l1.length) = true := by first | simpa using c3 | (simp at c3 ⊢; omega)
  clear c3
  have H' := Az.mk H
  clear H
  go_enter Try.func87, Try.ntmps87
  go_wp2
  repeat (go_quiet (fail); try go_wp2)
  go_loopg [5] k (fun kq v5 w' => ∃ (x5_1 : Int), v5 = .int .i64 x5_1 ∧ Az (spec_sameVals.l0 kq l0 l1 x5_1 = some r) ∧ Az (kq ≤ k) ∧ Drawn0 w w')
  case atStart => exact ⟨(0), (by first | rfl | (simp; done) | (simp [*]; done)), H', ⟨Nat.le_refl _⟩, by repeat (first | exact Drawn0.refl _ | apply Drawn0.step)⟩
  case round =>
   clear H'
   try clear c1
   try clear p2
   try clear c3
   try clear c3b0
   try clear c3b1
   try clear c3b2
   obtain ⟨x5_1, rfl, HA, HK1, ⟨m1, rfl⟩⟩ := hrel
   cases gk with
   | zero => exact absurd HA.out (by simp [spec_sameVals.l0])
   | succ k1 =>
    have H := HA.out
    clear HA
    simp only [spec_sameVals.l0] at H
    by_cases c4 : x5_1 < (l0.length : Int)
    ·rw [if_pos c4] at H
     have c4b0 : decide (x5_1 < (l0.length : Int)) = true := decide_eq_true c4
     clear c4
     by_cases c5 : 0 ≤ x5_1
     ·rw [if_pos c5] at H
      have c5b0 : decide (0 ≤ x5_1) = true := decide_eq_true c5
      clear c5
      by_cases c6 : x5_1 < (l1.length : Int)
      ·rw [if_pos c6] at H
       have c6b0 : decide (x5_1 < (l1.length : Int)) = true := decide_eq_true c6
       clear c6
       by_cases c7 : (!(((rd_T31 l0 x5_1).f0) == ((rd_T31 l1 x5_1).f0)) || (!((((rd_T31 l0 x5_1).f1).toList) == (((rd_T31 l1 x5_1).f1).toList)) || (!(((rd_T31 l0 x5_1).f2) == ((rd_T31 l1 x5_1).f2))))) = true
       ·rw [if_pos c7] at H
        have c7b0 : (!(((rd_T31 l0 x5_1).f0) == ((rd_T31 l1 x5_1).f0)) || (!((((rd_T31 l0 x5_1).f1).toList) == (((rd_T31 l1 x5_1).f1).toList)) || (!(((rd_T31 l0 x5_1).f2) == ((rd_T31 l1 x5_1).f2))))) = true := c7
        clear c7
        obtain rfl := Option.some.inj H
        have p148 : 0 ≤ (x5_1 : Int) := of_decide_eq_true (by first | (with_reducible assumption) | assumption)
        have q148 : x5_1 < (l0.length : Int) := of_decide_eq_true (by first | (with_reducible assumption) | assumption)
        obtain ⟨ad148, e148, hx148_0, hx148_1, hx148_2⟩ := at_T31 HR0.out x5_1 p148 q148
        cases e148
        replace p148 := eq_true p148
        replace q148 := eq_true q148
        have p149 : 0 ≤ (x5_1 : Int) := of_decide_eq_true (by first | (with_reducible assumption) | assumption)
        have q149 : x5_1 < (l1.length : Int) := of_decide_eq_true (by first | (with_reducible assumption) | assumption)
        obtain ⟨ad149, e149, hx149_0, hx149_1, hx149_2⟩ := at_T31 HR1.out x5_1 p149 q149
        cases e149
        replace p149 := eq_true p149
        replace q149 := eq_true q149
        go_wp2
        repeat (go_quiet (fail); try go_wp2)
        go_ret
        exact ⟨by first | rfl | (simp; done) | (simp [*]; done), by repeat (first | exact Drawn0.refl _ | apply Drawn0.step)⟩
       ·rw [if_neg c7] at H
        have c7b0 : (!(((rd_T31 l0 x5_1).f0) == ((rd_T31 l1 x5_1).f0)) || (!((((rd_T31 l0 x5_1).f1).toList) == (((rd_T31 l1 x5_1).f1).toList)) || (!(((rd_T31 l0 x5_1).f2) == ((rd_T31 l1 x5_1).f2))))) = false := by simpa using c7
        clear c7
        have H' := Az.mk H
        clear H
        have p148 : 0 ≤ (x5_1 : Int) := of_decide_eq_true (by first | (with_reducible assumption) | assumption)
        have q148 : x5_1 < (l0.length : Int) := of_decide_eq_true (by first | (with_reducible assumption) | assumption)
        obtain ⟨ad148, e148, hx148_0, hx148_1, hx148_2⟩ := at_T31 HR0.out x5_1 p148 q148
        cases e148
        replace p148 := eq_true p148
        replace q148 := eq_true q148
        have p149 : 0 ≤ (x5_1 : Int) := of_decide_eq_true (by first | (with_reducible assumption) | assumption)
        have q149 : x5_1 < (l1.length : Int) := of_decide_eq_true (by first | (with_reducible assumption) | assumption)
        obtain ⟨ad149, e149, hx149_0, hx149_1, hx149_2⟩ := at_T31 HR1.out x5_1 p149 q149
        cases e149
        replace p149 := eq_true p149
        replace q149 := eq_true q149
        go_wp2
        repeat (go_quiet (fail); try go_wp2)
        go_roundg k1
        case measure => have := HK1.out; omega
        case rel => exact ⟨(wrap64 (x5_1 + 1)), (by first | rfl | (simp; done) | (simp [*]; done)), H', ⟨by have := HK1.out; omega⟩, by repeat (first | exact Drawn0.refl _ | apply Drawn0.step)⟩
      ·rw [if_neg c6] at H
       exact absurd H (by simp)
     ·rw [if_neg c5] at H
      exact absurd H (by simp)
    ·rw [if_neg c4] at H
     have c4b0 : decide (x5_1 < (l0.length : Int)) = false := decide_eq_false c4
     clear c4
     obtain rfl := Option.some.inj H
     go_wp2
     repeat (go_quiet (fail); try go_wp2)
     go_ret
     exact ⟨by first | rfl | (simp; done) | (simp [*]; done), by repeat (first | exact Drawn0.refl _ | apply Drawn0.step)⟩
 ·rw [if_neg c3] at H
  have c3b0 : ((l0.length : Int) == (l1.length : Int)) = false := beq_eq_false_iff_ne.mpr c3
  have c3b1 : ((l0.length : Int) != (l1.length : Int)) = true := bne_iff_ne.mpr c3
  have c3b2 : (l0.length == l1.length) = false := by first | simpa using c3 | (simp at c3 ⊢; omega)
  obtain rfl := Option.some.inj H
  go_enter Try.func87, Try.ntmps87
  go_wp2
  repeat (go_quiet (fail); try go_wp2)
  go_ret
  exact ⟨by first | rfl | (simp; done) | (simp [*]; done), by repeat (first | exact Drawn0.refl _ | apply Drawn0.step)⟩
def spec_SameObject.f (k : Nat) (a0_0 : Int) (a0_1 : ByteArray) (a0_2 : Int) (l0_3 : List (S31)) (l0_4 : List (S31)) (l0_5 : List ByteArray) (l0_6 : List (S31)) (a1_0 : Int) (a1_1 : ByteArray) (a1_2 : Int) (l1_3 : List (S31)) (l1_4 : List (S31)) (l1_5 : List ByteArray) (l1_6 : List (S31)) : Option (Bool) := if a0_0 = a1_0 then (if a0_1.toList = a1_1.toList then (if a0_2 = a1_2 then ((spec_sameVals.f k l0_3 l1_3).bind fun t152 => (if t152 = true then ((spec_sameVals.f k l0_4 l1_4).bind fun t153 => (if t153 = true then ((spec_sameTexts.f k l0_5 l1_5).bind fun t154 => (if t154 = true then ((spec_sameVals.f k l0_6 l1_6).bind fun t155 => (some t155)) else (some false))) else (some false))) else (some false))) else (some false)) else (some false)) else (some false)
theorem spec_SameObject.calls (k : Nat) (a0_0 : Int) (a0_1 : ByteArray) (a0_2 : Int) (A0_3 : Option Addr) (c0_3 : Nat) (l0_3 : List (S31)) (A0_4 : Option Addr) (c0_4 : Nat) (l0_4 : List (S31)) (A0_5 : Option Addr) (c0_5 : Nat) (l0_5 : List ByteArray) (A0_6 : Option Addr) (c0_6 : Nat) (l0_6 : List (S31)) (a1_0 : Int) (a1_1 : ByteArray) (a1_2 : Int) (A1_3 : Option Addr) (c1_3 : Nat) (l1_3 : List (S31)) (A1_4 : Option Addr) (c1_4 : Nat) (l1_4 : List (S31)) (A1_5 : Option Addr) (c1_5 : Nat) (l1_5 : List ByteArray) (A1_6 : Option Addr) (c1_6 : Nat) (l1_6 : List (S31)) (r : Bool) (w : World) (hr0_3 : Kd.C k31 w A0_3 l0_3.length l0_3) (hc0_3 : l0_3.length ≤ c0_3) (hr0_4 : Kd.C k31 w A0_4 l0_4.length l0_4) (hc0_4 : l0_4.length ≤ c0_4) (hr0_5 : Kd.C Kd.string w A0_5 l0_5.length l0_5) (hc0_5 : l0_5.length ≤ c0_5) (hr0_6 : Kd.C k31 w A0_6 l0_6.length l0_6) (hc0_6 : l0_6.length ≤ c0_6) (hr1_3 : Kd.C k31 w A1_3 l1_3.length l1_3) (hc1_3 : l1_3.length ≤ c1_3) (hr1_4 : Kd.C k31 w A1_4 l1_4.length l1_4) (hc1_4 : l1_4.length ≤ c1_4) (hr1_5 : Kd.C Kd.string w A1_5 l1_5.length l1_5) (hc1_5 : l1_5.length ≤ c1_5) (hr1_6 : Kd.C k31 w A1_6 l1_6.length l1_6) (hc1_6 : l1_6.length ≤ c1_6) (h : spec_SameObject.f k a0_0 a0_1 a0_2 l0_3 l0_4 l0_5 l0_6 a1_0 a1_1 a1_2 l1_3 l1_4 l1_5 l1_6 = some r) :
  Calls Try.prog 47 #[.agg #[.int .i64 a0_0, .string a0_1, .int .i64 a0_2, .slice A0_3 l0_3.length c0_3, .slice A0_4 l0_4.length c0_4, .slice A0_5 l0_5.length c0_5, .slice A0_6 l0_6.length c0_6], .agg #[.int .i64 a1_0, .string a1_1, .int .i64 a1_2, .slice A1_3 l1_3.length c1_3, .slice A1_4 l1_4.length c1_4, .slice A1_5 l1_5.length c1_5, .slice A1_6 l1_6.length c1_6]] w fun e w' => e = .returned (.bool r) ∧ Below w.heap.size w w' := by
 have hu79 := Try.underlying79
 have HR0_3 := Az.mk hr0_3
 have HC0_3 := Az.mk hc0_3
 clear hr0_3 hc0_3
 have HR0_4 := Az.mk hr0_4
 have HC0_4 := Az.mk hc0_4
 clear hr0_4 hc0_4
 have HR0_5 := Az.mk hr0_5
 have HC0_5 := Az.mk hc0_5
 clear hr0_5 hc0_5
 have HR0_6 := Az.mk hr0_6
 have HC0_6 := Az.mk hc0_6
 clear hr0_6 hc0_6
 have HR1_3 := Az.mk hr1_3
 have HC1_3 := Az.mk hc1_3
 clear hr1_3 hc1_3
 have HR1_4 := Az.mk hr1_4
 have HC1_4 := Az.mk hc1_4
 clear hr1_4 hc1_4
 have HR1_5 := Az.mk hr1_5
 have HC1_5 := Az.mk hc1_5
 clear hr1_5 hc1_5
 have HR1_6 := Az.mk hr1_6
 have HC1_6 := Az.mk hc1_6
 clear hr1_6 hc1_6
 have HB := Az.mk (Below.refl w.heap.size w)
 have H : (if a0_0 = a1_0 then (if a0_1.toList = a1_1.toList then (if a0_2 = a1_2 then ((spec_sameVals.f k l0_3 l1_3).bind fun t152 => (if t152 = true then ((spec_sameVals.f k l0_4 l1_4).bind fun t153 => (if t153 = true then ((spec_sameTexts.f k l0_5 l1_5).bind fun t154 => (if t154 = true then ((spec_sameVals.f k l0_6 l1_6).bind fun t155 => (some t155)) else (some false))) else (some false))) else (some false))) else (some false)) else (some false)) else (some false)) = some r := h
 clear h
 by_cases c3 : a0_0 = a1_0
 ·rw [if_pos c3] at H
  have c3b0 : (a0_0 == a1_0) = true := beq_iff_eq.mpr c3
  have c3b1 : (a0_0 != a1_0) = false := bne_eq_false_iff_eq.mpr c3
  clear c3
  by_cases c4 : a0_1.toList = a1_1.toList
  ·rw [if_pos c4] at H
   have c4b0 : (a0_1.toList == a1_1.toList) = true := beq_iff_eq.mpr c4
   have c4b1 : (a0_1.toList != a1_1.toList) = false := bne_eq_false_iff_eq.mpr c4
   clear c4
   by_cases c5 : a0_2 = a1_2
   ·rw [if_pos c5] at H
    have c5b0 : (a0_2 == a1_2) = true := beq_iff_eq.mpr c5
    have c5b1 : (a0_2 != a1_2) = false := bne_eq_false_iff_eq.mpr c5
    clear c5
    replace H := Option.bind_eq_some_iff.mp H
    obtain ⟨t152, A60, H⟩ := H
    replace H : (if t152 = true then ((spec_sameVals.f k l0_4 l1_4).bind fun t153 => (if t153 = true then ((spec_sameTexts.f k l0_5 l1_5).bind fun t154 => (if t154 = true then ((spec_sameVals.f k l0_6 l1_6).bind fun t155 => (some t155)) else (some false))) else (some false))) else (some false)) = some r := H
    have A6 := Az.mk A60
    clear A60
    by_cases c7 : t152 = true
    ·subst c7
     have H1 : ((spec_sameVals.f k l0_4 l1_4).bind fun t153 => (if t153 = true then ((spec_sameTexts.f k l0_5 l1_5).bind fun t154 => (if t154 = true then ((spec_sameVals.f k l0_6 l1_6).bind fun t155 => (some t155)) else (some false))) else (some false))) = some r := by rw [if_pos rfl] at H; exact H
     clear H
     have H := H1
     clear H1
     replace H := Option.bind_eq_some_iff.mp H
     obtain ⟨t153, A80, H⟩ := H
     replace H : (if t153 = true then ((spec_sameTexts.f k l0_5 l1_5).bind fun t154 => (if t154 = true then ((spec_sameVals.f k l0_6 l1_6).bind fun t155 => (some t155)) else (some false))) else (some false)) = some r := H
     have A8 := Az.mk A80
     clear A80
     by_cases c9 : t153 = true
     ·subst c9
      have H1 : ((spec_sameTexts.f k l0_5 l1_5).bind fun t154 => (if t154 = true then ((spec_sameVals.f k l0_6 l1_6).bind fun t155 => (some t155)) else (some false))) = some r := by rw [if_pos rfl] at H; exact H
      clear H
      have H := H1
      clear H1
      replace H := Option.bind_eq_some_iff.mp H
      obtain ⟨t154, A100, H⟩ := H
      replace H : (if t154 = true then ((spec_sameVals.f k l0_6 l1_6).bind fun t155 => (some t155)) else (some false)) = some r := H
      have A10 := Az.mk A100
      clear A100
      by_cases c11 : t154 = true
      ·subst c11
       have H1 : ((spec_sameVals.f k l0_6 l1_6).bind fun t155 => (some t155)) = some r := by rw [if_pos rfl] at H; exact H
       clear H
       have H := H1
       clear H1
       replace H := Option.bind_eq_some_iff.mp H
       obtain ⟨t155, A120, H⟩ := H
       replace H : (some t155) = some r := H
       have A12 := Az.mk A120
       clear A120
       obtain rfl := Option.some.inj H
       go_enter Try.func47, Try.ntmps47
       go_wp2_with (first | ((with_reducible refine gate_dst (N := 2) rfl ?_); refine box_event ?hg (N := 2) ?hd (cs := #[.int .i64 a0_0, .string a0_1, .int .i64 a0_2, .slice A0_3 l0_3.length c0_3, .slice A0_4 l0_4.length c0_4, .slice A0_5 l0_5.length c0_5, .slice A0_6 l0_6.length c0_6]) (t := 79) ?hr ?_; (case hd => rfl); (case hg => rfl); (case hr => first | (go_simp; done) | (go_simp; rfl)); intro gb150 hg w13 hbox hb; have n0_ := Az.mk (below_step (by repeat (first | (with_reducible first | exact HB.out | apply bal | apply bdN | apply bdr) | exact HB.out)) hb); have n1_ := Az.mk (hbox); have n2_ := Az.mk ((by rw [hg]; exact (below_size (by repeat (first | (with_reducible first | exact HB.out | apply bal | apply bdN | apply bdr) | exact HB.out))) : w.heap.size ≤ gb150)); have n3_ := Az.mk ((by rw [hg]; exact (below_size (by repeat (first | (with_reducible first | exact HB.out | apply bal | apply bdN | apply bdr) | exact HB.out))) : w.heap.size ≤ gb150)); clear HB; have HB := n0_; have BK150 := n1_; have GW150 := n2_; have GE150 := n3_; clear n0_ n1_ n2_ n3_; clear hb hbox hg) | ((with_reducible refine gate_dst (N := 3) rfl ?_); refine box_event ?hg (N := 3) ?hd (cs := #[.int .i64 a1_0, .string a1_1, .int .i64 a1_2, .slice A1_3 l1_3.length c1_3, .slice A1_4 l1_4.length c1_4, .slice A1_5 l1_5.length c1_5, .slice A1_6 l1_6.length c1_6]) (t := 79) ?hr ?_; (case hd => rfl); (case hg => rfl); (case hr => first | (go_simp; done) | (go_simp; rfl)); intro gb151 hg w14 hbox hb; have n0_ := Az.mk (blk_below (g := gb150) (o := .cells #[.int .i64 a0_0, .string a0_1, .int .i64 a0_2, .slice A0_3 l0_3.length c0_3, .slice A0_4 l0_4.length c0_4, .slice A0_5 l0_5.length c0_5, .slice A0_6 l0_6.length c0_6] 79 (0, 0)) (by (with_reducible repeat (first | refine blk_drewN ?_ _ | refine blk_drew ?_ | refine blk_alloc ?_ _)); exact BK150.out) hb); have n1_ := Az.mk (below_step (by repeat (first | (with_reducible first | exact HB.out | apply bal | apply bdN | apply bdr | refine bS ?_ GE150.out) | exact HB.out)) hb); have n2_ := Az.mk (hbox); have n3_ := Az.mk ((by rw [hg]; exact (below_size (by repeat (first | (with_reducible first | exact HB.out | apply bal | apply bdN | apply bdr | refine bS ?_ GE150.out) | exact HB.out))) : w.heap.size ≤ gb151)); have n4_ := Az.mk ((by rw [hg]; exact (below_size (by repeat (first | (with_reducible first | exact HB.out | apply bal | apply bdN | apply bdr | refine bS ?_ GE150.out) | exact HB.out))) : w.heap.size ≤ gb151)); have n5_ := Az.mk ((by rw [hg]; exact Nat.ne_of_lt (blk_lt (g := gb150) (o := .cells #[.int .i64 a0_0, .string a0_1, .int .i64 a0_2, .slice A0_3 l0_3.length c0_3, .slice A0_4 l0_4.length c0_4, .slice A0_5 l0_5.length c0_5, .slice A0_6 l0_6.length c0_6] 79 (0, 0)) (by (with_reducible repeat (first | refine blk_drewN ?_ _ | refine blk_drew ?_ | refine blk_alloc ?_ _)); exact BK150.out)) : gb150 ≠ gb151)); have n6_ := Az.mk ((by rw [hg]; exact Nat.ne_of_gt (blk_lt (g := gb150) (o := .cells #[.int .i64 a0_0, .string a0_1, .int .i64 a0_2, .slice A0_3 l0_3.length c0_3, .slice A0_4 l0_4.length c0_4, .slice A0_5 l0_5.length c0_5, .slice A0_6 l0_6.length c0_6] 79 (0, 0)) (by (with_reducible repeat (first | refine blk_drewN ?_ _ | refine blk_drew ?_ | refine blk_alloc ?_ _)); exact BK150.out)) : gb151 ≠ gb150)); clear BK150; clear HB; have BK150 := n0_; have HB := n1_; have BK151 := n2_; have GW151 := n3_; have GE151 := n4_; have NB150_151 := n5_; have NB151_150 := n6_; clear n0_ n1_ n2_ n3_ n4_ n5_ n6_; clear hb hbox hg; have hnb15 := NB150_151.out; have hnc15 := NB151_150.out; have hcz16_0 : w14.cell? ⟨gb150, 0, none⟩ = some (.int .i64 a0_0) := (bC BK150.out 0).trans rfl; have hcz16_1 : w14.cell? ⟨gb150, 1, none⟩ = some (.string a0_1) := (bC BK150.out 1).trans rfl; have hcz16_2 : w14.cell? ⟨gb150, 2, none⟩ = some (.int .i64 a0_2) := (bC BK150.out 2).trans rfl; have hcz16_3 : w14.cell? ⟨gb150, 3, none⟩ = some (.slice A0_3 l0_3.length c0_3) := (bC BK150.out 3).trans rfl; have hcz16_4 : w14.cell? ⟨gb150, 4, none⟩ = some (.slice A0_4 l0_4.length c0_4) := (bC BK150.out 4).trans rfl; have hcz16_5 : w14.cell? ⟨gb150, 5, none⟩ = some (.slice A0_5 l0_5.length c0_5) := (bC BK150.out 5).trans rfl; have hcz16_6 : w14.cell? ⟨gb150, 6, none⟩ = some (.slice A0_6 l0_6.length c0_6) := (bC BK150.out 6).trans rfl; have hfz16_0 := bF BK150.out 0; have hfz16_1 := bF BK150.out 1; have hfz16_2 := bF BK150.out 2; have hfz16_3 := bF BK150.out 3; have hfz16_4 := bF BK150.out 4; have hfz16_5 := bF BK150.out 5; have hfz16_6 := bF BK150.out 6; have hcz17_0 : w14.cell? ⟨gb151, 0, none⟩ = some (.int .i64 a1_0) := (bC BK151.out 0).trans rfl; have hcz17_1 : w14.cell? ⟨gb151, 1, none⟩ = some (.string a1_1) := (bC BK151.out 1).trans rfl; have hcz17_2 : w14.cell? ⟨gb151, 2, none⟩ = some (.int .i64 a1_2) := (bC BK151.out 2).trans rfl; have hcz17_3 : w14.cell? ⟨gb151, 3, none⟩ = some (.slice A1_3 l1_3.length c1_3) := (bC BK151.out 3).trans rfl; have hcz17_4 : w14.cell? ⟨gb151, 4, none⟩ = some (.slice A1_4 l1_4.length c1_4) := (bC BK151.out 4).trans rfl; have hcz17_5 : w14.cell? ⟨gb151, 5, none⟩ = some (.slice A1_5 l1_5.length c1_5) := (bC BK151.out 5).trans rfl; have hcz17_6 : w14.cell? ⟨gb151, 6, none⟩ = some (.slice A1_6 l1_6.length c1_6) := (bC BK151.out 6).trans rfl; have hfz17_0 := bF BK151.out 0; have hfz17_1 := bF BK151.out 1; have hfz17_2 := bF BK151.out 2; have hfz17_3 := bF BK151.out 3; have hfz17_4 := bF BK151.out 4; have hfz17_5 := bF BK151.out 5; have hfz17_6 := bF BK151.out 6) | (go_at_call 87; (with_reducible refine (spec_sameVals.calls k _ _ l0_3 _ _ l1_3 true _ ?side1 ?side2 ?side3 ?side4 A6.out).mono ?_); (case side1 => repeat (first | exact (Kd.C_below HR0_3.out HB.out) | (with_reducible refine Kd.C_alloc ?_ _) | (with_reducible refine Kd.C_drewN ?_ _) | (with_reducible refine Kd.C_drew ?_))); (case side2 => exact HC0_3.out); (case side3 => repeat (first | exact (Kd.C_below HR1_3.out HB.out) | (with_reducible refine Kd.C_alloc ?_ _) | (with_reducible refine Kd.C_drewN ?_ _) | (with_reducible refine Kd.C_drew ?_))); (case side4 => exact HC1_3.out); rintro e w' ⟨rfl, ⟨nd, rfl⟩⟩) | (go_at_call 87; (with_reducible refine (spec_sameVals.calls k _ _ l0_4 _ _ l1_4 true _ ?side1 ?side2 ?side3 ?side4 A8.out).mono ?_); (case side1 => repeat (first | exact (Kd.C_below HR0_4.out (by repeat (first | (with_reducible first | exact HB.out | apply bal | apply bdN | apply bdr | refine bS ?_ GE150.out | refine bS ?_ GE151.out) | exact HB.out))) | (with_reducible refine Kd.C_alloc ?_ _) | (with_reducible refine Kd.C_drewN ?_ _) | (with_reducible refine Kd.C_drew ?_))); (case side2 => exact HC0_4.out); (case side3 => repeat (first | exact (Kd.C_below HR1_4.out (by repeat (first | (with_reducible first | exact HB.out | apply bal | apply bdN | apply bdr | refine bS ?_ GE150.out | refine bS ?_ GE151.out) | exact HB.out))) | (with_reducible refine Kd.C_alloc ?_ _) | (with_reducible refine Kd.C_drewN ?_ _) | (with_reducible refine Kd.C_drew ?_))); (case side4 => exact HC1_4.out); rintro e w' ⟨rfl, ⟨nd, rfl⟩⟩) | (go_at_call 71; (with_reducible refine (spec_sameTexts.calls k _ _ l0_5 _ _ l1_5 true _ ?side1 ?side2 ?side3 ?side4 A10.out).mono ?_); (case side1 => repeat (first | exact (Kd.C_below HR0_5.out (by repeat (first | (with_reducible first | exact HB.out | apply bal | apply bdN | apply bdr | refine bS ?_ GE150.out | refine bS ?_ GE151.out) | exact HB.out))) | (with_reducible refine Kd.C_alloc ?_ _) | (with_reducible refine Kd.C_drewN ?_ _) | (with_reducible refine Kd.C_drew ?_))); (case side2 => exact HC0_5.out); (case side3 => repeat (first | exact (Kd.C_below HR1_5.out (by repeat (first | (with_reducible first | exact HB.out | apply bal | apply bdN | apply bdr | refine bS ?_ GE150.out | refine bS ?_ GE151.out) | exact HB.out))) | (with_reducible refine Kd.C_alloc ?_ _) | (with_reducible refine Kd.C_drewN ?_ _) | (with_reducible refine Kd.C_drew ?_))); (case side4 => exact HC1_5.out); rintro e w' ⟨rfl, ⟨nd, rfl⟩⟩) | (go_at_call 87; (with_reducible refine (spec_sameVals.calls k _ _ l0_6 _ _ l1_6 t155 _ ?side1 ?side2 ?side3 ?side4 A12.out).mono ?_); (case side1 => repeat (first | exact (Kd.C_below HR0_6.out (by repeat (first | (with_reducible first | exact HB.out | apply bal | apply bdN | apply bdr | refine bS ?_ GE150.out | refine bS ?_ GE151.out) | exact HB.out))) | (with_reducible refine Kd.C_alloc ?_ _) | (with_reducible refine Kd.C_drewN ?_ _) | (with_reducible refine Kd.C_drew ?_))); (case side2 => exact HC0_6.out); (case side3 => repeat (first | exact (Kd.C_below HR1_6.out (by repeat (first | (with_reducible first | exact HB.out | apply bal | apply bdN | apply bdr | refine bS ?_ GE150.out | refine bS ?_ GE151.out) | exact HB.out))) | (with_reducible refine Kd.C_alloc ?_ _) | (with_reducible refine Kd.C_drewN ?_ _) | (with_reducible refine Kd.C_drew ?_))); (case side4 => exact HC1_6.out); rintro e w' ⟨rfl, ⟨nd, rfl⟩⟩))
       go_ret
       exact ⟨by first | rfl | (simp [errW_none, errW_some] <;> rfl) | (simp [*, errW_none, errW_some] <;> rfl), by repeat (first | (with_reducible first | exact HB.out | apply bal | apply bdN | apply bdr | refine bS ?_ GE150.out | refine bS ?_ GE151.out) | exact HB.out)⟩
      ·replace c11 := Bool.eq_false_iff.mpr c11
       subst c11
       have H1 : (some false) = some r := by rw [if_neg (show ¬ (false = true) by decide)] at H; exact H
       clear H
       have H := H1
       clear H1
       obtain rfl := Option.some.inj H
       go_enter Try.func47, Try.ntmps47
       go_wp2_with (first | ((with_reducible refine gate_dst (N := 2) rfl ?_); refine box_event ?hg (N := 2) ?hd (cs := #[.int .i64 a0_0, .string a0_1, .int .i64 a0_2, .slice A0_3 l0_3.length c0_3, .slice A0_4 l0_4.length c0_4, .slice A0_5 l0_5.length c0_5, .slice A0_6 l0_6.length c0_6]) (t := 79) ?hr ?_; (case hd => rfl); (case hg => rfl); (case hr => first | (go_simp; done) | (go_simp; rfl)); intro gb150 hg w18 hbox hb; have n0_ := Az.mk (below_step (by repeat (first | (with_reducible first | exact HB.out | apply bal | apply bdN | apply bdr) | exact HB.out)) hb); have n1_ := Az.mk (hbox); have n2_ := Az.mk ((by rw [hg]; exact (below_size (by repeat (first | (with_reducible first | exact HB.out | apply bal | apply bdN | apply bdr) | exact HB.out))) : w.heap.size ≤ gb150)); have n3_ := Az.mk ((by rw [hg]; exact (below_size (by repeat (first | (with_reducible first | exact HB.out | apply bal | apply bdN | apply bdr) | exact HB.out))) : w.heap.size ≤ gb150)); clear HB; have HB := n0_; have BK150 := n1_; have GW150 := n2_; have GE150 := n3_; clear n0_ n1_ n2_ n3_; clear hb hbox hg) | ((with_reducible refine gate_dst (N := 3) rfl ?_); refine box_event ?hg (N := 3) ?hd (cs := #[.int .i64 a1_0, .string a1_1, .int .i64 a1_2, .slice A1_3 l1_3.length c1_3, .slice A1_4 l1_4.length c1_4, .slice A1_5 l1_5.length c1_5, .slice A1_6 l1_6.length c1_6]) (t := 79) ?hr ?_; (case hd => rfl); (case hg => rfl); (case hr => first | (go_simp; done) | (go_simp; rfl)); intro gb151 hg w19 hbox hb; have n0_ := Az.mk (blk_below (g := gb150) (o := .cells #[.int .i64 a0_0, .string a0_1, .int .i64 a0_2, .slice A0_3 l0_3.length c0_3, .slice A0_4 l0_4.length c0_4, .slice A0_5 l0_5.length c0_5, .slice A0_6 l0_6.length c0_6] 79 (0, 0)) (by (with_reducible repeat (first | refine blk_drewN ?_ _ | refine blk_drew ?_ | refine blk_alloc ?_ _)); exact BK150.out) hb); have n1_ := Az.mk (below_step (by repeat (first | (with_reducible first | exact HB.out | apply bal | apply bdN | apply bdr | refine bS ?_ GE150.out) | exact HB.out)) hb); have n2_ := Az.mk (hbox); have n3_ := Az.mk ((by rw [hg]; exact (below_size (by repeat (first | (with_reducible first | exact HB.out | apply bal | apply bdN | apply bdr | refine bS ?_ GE150.out) | exact HB.out))) : w.heap.size ≤ gb151)); have n4_ := Az.mk ((by rw [hg]; exact (below_size (by repeat (first | (with_reducible first | exact HB.out | apply bal | apply bdN | apply bdr | refine bS ?_ GE150.out) | exact HB.out))) : w.heap.size ≤ gb151)); have n5_ := Az.mk ((by rw [hg]; exact Nat.ne_of_lt (blk_lt (g := gb150) (o := .cells #[.int .i64 a0_0, .string a0_1, .int .i64 a0_2, .slice A0_3 l0_3.length c0_3, .slice A0_4 l0_4.length c0_4, .slice A0_5 l0_5.length c0_5, .slice A0_6 l0_6.length c0_6] 79 (0, 0)) (by (with_reducible repeat (first | refine blk_drewN ?_ _ | refine blk_drew ?_ | refine blk_alloc ?_ _)); exact BK150.out)) : gb150 ≠ gb151)); have n6_ := Az.mk ((by rw [hg]; exact Nat.ne_of_gt (blk_lt (g := gb150) (o := .cells #[.int .i64 a0_0, .string a0_1, .int .i64 a0_2, .slice A0_3 l0_3.length c0_3, .slice A0_4 l0_4.length c0_4, .slice A0_5 l0_5.length c0_5, .slice A0_6 l0_6.length c0_6] 79 (0, 0)) (by (with_reducible repeat (first | refine blk_drewN ?_ _ | refine blk_drew ?_ | refine blk_alloc ?_ _)); exact BK150.out)) : gb151 ≠ gb150)); clear BK150; clear HB; have BK150 := n0_; have HB := n1_; have BK151 := n2_; have GW151 := n3_; have GE151 := n4_; have NB150_151 := n5_; have NB151_150 := n6_; clear n0_ n1_ n2_ n3_ n4_ n5_ n6_; clear hb hbox hg; have hnb20 := NB150_151.out; have hnc20 := NB151_150.out; have hcz21_0 : w19.cell? ⟨gb150, 0, none⟩ = some (.int .i64 a0_0) := (bC BK150.out 0).trans rfl; have hcz21_1 : w19.cell? ⟨gb150, 1, none⟩ = some (.string a0_1) := (bC BK150.out 1).trans rfl; have hcz21_2 : w19.cell? ⟨gb150, 2, none⟩ = some (.int .i64 a0_2) := (bC BK150.out 2).trans rfl; have hcz21_3 : w19.cell? ⟨gb150, 3, none⟩ = some (.slice A0_3 l0_3.length c0_3) := (bC BK150.out 3).trans rfl; have hcz21_4 : w19.cell? ⟨gb150, 4, none⟩ = some (.slice A0_4 l0_4.length c0_4) := (bC BK150.out 4).trans rfl; have hcz21_5 : w19.cell? ⟨gb150, 5, none⟩ = some (.slice A0_5 l0_5.length c0_5) := (bC BK150.out 5).trans rfl; have hcz21_6 : w19.cell? ⟨gb150, 6, none⟩ = some (.slice A0_6 l0_6.length c0_6) := (bC BK150.out 6).trans rfl; have hfz21_0 := bF BK150.out 0; have hfz21_1 := bF BK150.out 1; have hfz21_2 := bF BK150.out 2; have hfz21_3 := bF BK150.out 3; have hfz21_4 := bF BK150.out 4; have hfz21_5 := bF BK150.out 5; have hfz21_6 := bF BK150.out 6; have hcz22_0 : w19.cell? ⟨gb151, 0, none⟩ = some (.int .i64 a1_0) := (bC BK151.out 0).trans rfl; have hcz22_1 : w19.cell? ⟨gb151, 1, none⟩ = some (.string a1_1) := (bC BK151.out 1).trans rfl; have hcz22_2 : w19.cell? ⟨gb151, 2, none⟩ = some (.int .i64 a1_2) := (bC BK151.out 2).trans rfl; have hcz22_3 : w19.cell? ⟨gb151, 3, none⟩ = some (.slice A1_3 l1_3.length c1_3) := (bC BK151.out 3).trans rfl; have hcz22_4 : w19.cell? ⟨gb151, 4, none⟩ = some (.slice A1_4 l1_4.length c1_4) := (bC BK151.out 4).trans rfl; have hcz22_5 : w19.cell? ⟨gb151, 5, none⟩ = some (.slice A1_5 l1_5.length c1_5) := (bC BK151.out 5).trans rfl; have hcz22_6 : w19.cell? ⟨gb151, 6, none⟩ = some (.slice A1_6 l1_6.length c1_6) := (bC BK151.out 6).trans rfl; have hfz22_0 := bF BK151.out 0; have hfz22_1 := bF BK151.out 1; have hfz22_2 := bF BK151.out 2; have hfz22_3 := bF BK151.out 3; have hfz22_4 := bF BK151.out 4; have hfz22_5 := bF BK151.out 5; have hfz22_6 := bF BK151.out 6) | (go_at_call 87; (with_reducible refine (spec_sameVals.calls k _ _ l0_3 _ _ l1_3 true _ ?side1 ?side2 ?side3 ?side4 A6.out).mono ?_); (case side1 => repeat (first | exact (Kd.C_below HR0_3.out HB.out) | (with_reducible refine Kd.C_alloc ?_ _) | (with_reducible refine Kd.C_drewN ?_ _) | (with_reducible refine Kd.C_drew ?_))); (case side2 => exact HC0_3.out); (case side3 => repeat (first | exact (Kd.C_below HR1_3.out HB.out) | (with_reducible refine Kd.C_alloc ?_ _) | (with_reducible refine Kd.C_drewN ?_ _) | (with_reducible refine Kd.C_drew ?_))); (case side4 => exact HC1_3.out); rintro e w' ⟨rfl, ⟨nd, rfl⟩⟩) | (go_at_call 87; (with_reducible refine (spec_sameVals.calls k _ _ l0_4 _ _ l1_4 true _ ?side1 ?side2 ?side3 ?side4 A8.out).mono ?_); (case side1 => repeat (first | exact (Kd.C_below HR0_4.out (by repeat (first | (with_reducible first | exact HB.out | apply bal | apply bdN | apply bdr | refine bS ?_ GE150.out | refine bS ?_ GE151.out) | exact HB.out))) | (with_reducible refine Kd.C_alloc ?_ _) | (with_reducible refine Kd.C_drewN ?_ _) | (with_reducible refine Kd.C_drew ?_))); (case side2 => exact HC0_4.out); (case side3 => repeat (first | exact (Kd.C_below HR1_4.out (by repeat (first | (with_reducible first | exact HB.out | apply bal | apply bdN | apply bdr | refine bS ?_ GE150.out | refine bS ?_ GE151.out) | exact HB.out))) | (with_reducible refine Kd.C_alloc ?_ _) | (with_reducible refine Kd.C_drewN ?_ _) | (with_reducible refine Kd.C_drew ?_))); (case side4 => exact HC1_4.out); rintro e w' ⟨rfl, ⟨nd, rfl⟩⟩) | (go_at_call 71; (with_reducible refine (spec_sameTexts.calls k _ _ l0_5 _ _ l1_5 false _ ?side1 ?side2 ?side3 ?side4 A10.out).mono ?_); (case side1 => repeat (first | exact (Kd.C_below HR0_5.out (by repeat (first | (with_reducible first | exact HB.out | apply bal | apply bdN | apply bdr | refine bS ?_ GE150.out | refine bS ?_ GE151.out) | exact HB.out))) | (with_reducible refine Kd.C_alloc ?_ _) | (with_reducible refine Kd.C_drewN ?_ _) | (with_reducible refine Kd.C_drew ?_))); (case side2 => exact HC0_5.out); (case side3 => repeat (first | exact (Kd.C_below HR1_5.out (by repeat (first | (with_reducible first | exact HB.out | apply bal | apply bdN | apply bdr | refine bS ?_ GE150.out | refine bS ?_ GE151.out) | exact HB.out))) | (with_reducible refine Kd.C_alloc ?_ _) | (with_reducible refine Kd.C_drewN ?_ _) | (with_reducible refine Kd.C_drew ?_))); (case side4 => exact HC1_5.out); rintro e w' ⟨rfl, ⟨nd, rfl⟩⟩))
       go_ret
       exact ⟨by first | rfl | (simp [errW_none, errW_some] <;> rfl) | (simp [*, errW_none, errW_some] <;> rfl), by repeat (first | (with_reducible first | exact HB.out | apply bal | apply bdN | apply bdr | refine bS ?_ GE150.out | refine bS ?_ GE151.out) | exact HB.out)⟩
     ·replace c9 := Bool.eq_false_iff.mpr c9
      subst c9
      have H1 : (some false) = some r := by rw [if_neg (show ¬ (false = true) by decide)] at H; exact H
      clear H
      have H := H1
      clear H1
      obtain rfl := Option.some.inj H
      go_enter Try.func47, Try.ntmps47
      go_wp2_with (first | ((with_reducible refine gate_dst (N := 2) rfl ?_); refine box_event ?hg (N := 2) ?hd (cs := #[.int .i64 a0_0, .string a0_1, .int .i64 a0_2, .slice A0_3 l0_3.length c0_3, .slice A0_4 l0_4.length c0_4, .slice A0_5 l0_5.length c0_5, .slice A0_6 l0_6.length c0_6]) (t := 79) ?hr ?_; (case hd => rfl); (case hg => rfl); (case hr => first | (go_simp; done) | (go_simp; rfl)); intro gb150 hg w23 hbox hb; have n0_ := Az.mk (below_step (by repeat (first | (with_reducible first | exact HB.out | apply bal | apply bdN | apply bdr) | exact HB.out)) hb); have n1_ := Az.mk (hbox); have n2_ := Az.mk ((by rw [hg]; exact (below_size (by repeat (first | (with_reducible first | exact HB.out | apply bal | apply bdN | apply bdr) | exact HB.out))) : w.heap.size ≤ gb150)); have n3_ := Az.mk ((by rw [hg]; exact (below_size (by repeat (first | (with_reducible first | exact HB.out | apply bal | apply bdN | apply bdr) | exact HB.out))) : w.heap.size ≤ gb150)); clear HB; have HB := n0_; have BK150 := n1_; have GW150 := n2_; have GE150 := n3_; clear n0_ n1_ n2_ n3_; clear hb hbox hg) | ((with_reducible refine gate_dst (N := 3) rfl ?_); refine box_event ?hg (N := 3) ?hd (cs := #[.int .i64 a1_0, .string a1_1, .int .i64 a1_2, .slice A1_3 l1_3.length c1_3, .slice A1_4 l1_4.length c1_4, .slice A1_5 l1_5.length c1_5, .slice A1_6 l1_6.length c1_6]) (t := 79) ?hr ?_; (case hd => rfl); (case hg => rfl); (case hr => first | (go_simp; done) | (go_simp; rfl)); intro gb151 hg w24 hbox hb; have n0_ := Az.mk (blk_below (g := gb150) (o := .cells #[.int .i64 a0_0, .string a0_1, .int .i64 a0_2, .slice A0_3 l0_3.length c0_3, .slice A0_4 l0_4.length c0_4, .slice A0_5 l0_5.length c0_5, .slice A0_6 l0_6.length c0_6] 79 (0, 0)) (by (with_reducible repeat (first | refine blk_drewN ?_ _ | refine blk_drew ?_ | refine blk_alloc ?_ _)); exact BK150.out) hb); have n1_ := Az.mk (below_step (by repeat (first | (with_reducible first | exact HB.out | apply bal | apply bdN | apply bdr | refine bS ?_ GE150.out) | exact HB.out)) hb); have n2_ := Az.mk (hbox); have n3_ := Az.mk ((by rw [hg]; exact (below_size (by repeat (first | (with_reducible first | exact HB.out | apply bal | apply bdN | apply bdr | refine bS ?_ GE150.out) | exact HB.out))) : w.heap.size ≤ gb151)); have n4_ := Az.mk ((by rw [hg]; exact (below_size (by repeat (first | (with_reducible first | exact HB.out | apply bal | apply bdN | apply bdr | refine bS ?_ GE150.out) | exact HB.out))) : w.heap.size ≤ gb151)); have n5_ := Az.mk ((by rw [hg]; exact Nat.ne_of_lt (blk_lt (g := gb150) (o := .cells #[.int .i64 a0_0, .string a0_1, .int .i64 a0_2, .slice A0_3 l0_3.length c0_3, .slice A0_4 l0_4.length c0_4, .slice A0_5 l0_5.length c0_5, .slice A0_6 l0_6.length c0_6] 79 (0, 0)) (by (with_reducible repeat (first | refine blk_drewN ?_ _ | refine blk_drew ?_ | refine blk_alloc ?_ _)); exact BK150.out)) : gb150 ≠ gb151)); have n6_ := Az.mk ((by rw [hg]; exact Nat.ne_of_gt (blk_lt (g := gb150) (o := .cells #[.int .i64 a0_0, .string a0_1, .int .i64 a0_2, .slice A0_3 l0_3.length c0_3, .slice A0_4 l0_4.length c0_4, .slice A0_5 l0_5.length c0_5, .slice A0_6 l0_6.length c0_6] 79 (0, 0)) (by (with_reducible repeat (first | refine blk_drewN ?_ _ | refine blk_drew ?_ | refine blk_alloc ?_ _)); exact BK150.out)) : gb151 ≠ gb150)); clear BK150; clear HB; have BK150 := n0_; have HB := n1_; have BK151 := n2_; have GW151 := n3_; have GE151 := n4_; have NB150_151 := n5_; have NB151_150 := n6_; clear n0_ n1_ n2_ n3_ n4_ n5_ n6_; clear hb hbox hg; have hnb25 := NB150_151.out; have hnc25 := NB151_150.out; have hcz26_0 : w24.cell? ⟨gb150, 0, none⟩ = some (.int .i64 a0_0) := (bC BK150.out 0).trans rfl; have hcz26_1 : w24.cell? ⟨gb150, 1, none⟩ = some (.string a0_1) := (bC BK150.out 1).trans rfl; have hcz26_2 : w24.cell? ⟨gb150, 2, none⟩ = some (.int .i64 a0_2) := (bC BK150.out 2).trans rfl; have hcz26_3 : w24.cell? ⟨gb150, 3, none⟩ = some (.slice A0_3 l0_3.length c0_3) := (bC BK150.out 3).trans rfl; have hcz26_4 : w24.cell? ⟨gb150, 4, none⟩ = some (.slice A0_4 l0_4.length c0_4) := (bC BK150.out 4).trans rfl; have hcz26_5 : w24.cell? ⟨gb150, 5, none⟩ = some (.slice A0_5 l0_5.length c0_5) := (bC BK150.out 5).trans rfl; have hcz26_6 : w24.cell? ⟨gb150, 6, none⟩ = some (.slice A0_6 l0_6.length c0_6) := (bC BK150.out 6).trans rfl; have hfz26_0 := bF BK150.out 0; have hfz26_1 := bF BK150.out 1; have hfz26_2 := bF BK150.out 2; have hfz26_3 := bF BK150.out 3; have hfz26_4 := bF BK150.out 4; have hfz26_5 := bF BK150.out 5; have hfz26_6 := bF BK150.out 6; have hcz27_0 : w24.cell? ⟨gb151, 0, none⟩ = some (.int .i64 a1_0) := (bC BK151.out 0).trans rfl; have hcz27_1 : w24.cell? ⟨gb151, 1, none⟩ = some (.string a1_1) := (bC BK151.out 1).trans rfl; have hcz27_2 : w24.cell? ⟨gb151, 2, none⟩ = some (.int .i64 a1_2) := (bC BK151.out 2).trans rfl; have hcz27_3 : w24.cell? ⟨gb151, 3, none⟩ = some (.slice A1_3 l1_3.length c1_3) := (bC BK151.out 3).trans rfl; have hcz27_4 : w24.cell? ⟨gb151, 4, none⟩ = some (.slice A1_4 l1_4.length c1_4) := (bC BK151.out 4).trans rfl; have hcz27_5 : w24.cell? ⟨gb151, 5, none⟩ = some (.slice A1_5 l1_5.length c1_5) := (bC BK151.out 5).trans rfl; have hcz27_6 : w24.cell? ⟨gb151, 6, none⟩ = some (.slice A1_6 l1_6.length c1_6) := (bC BK151.out 6).trans rfl; have hfz27_0 := bF BK151.out 0; have hfz27_1 := bF BK151.out 1; have hfz27_2 := bF BK151.out 2; have hfz27_3 := bF BK151.out 3; have hfz27_4 := bF BK151.out 4; have hfz27_5 := bF BK151.out 5; have hfz27_6 := bF BK151.out 6) | (go_at_call 87; (with_reducible refine (spec_sameVals.calls k _ _ l0_3 _ _ l1_3 true _ ?side1 ?side2 ?side3 ?side4 A6.out).mono ?_); (case side1 => repeat (first | exact (Kd.C_below HR0_3.out HB.out) | (with_reducible refine Kd.C_alloc ?_ _) | (with_reducible refine Kd.C_drewN ?_ _) | (with_reducible refine Kd.C_drew ?_))); (case side2 => exact HC0_3.out); (case side3 => repeat (first | exact (Kd.C_below HR1_3.out HB.out) | (with_reducible refine Kd.C_alloc ?_ _) | (with_reducible refine Kd.C_drewN ?_ _) | (with_reducible refine Kd.C_drew ?_))); (case side4 => exact HC1_3.out); rintro e w' ⟨rfl, ⟨nd, rfl⟩⟩) | (go_at_call 87; (with_reducible refine (spec_sameVals.calls k _ _ l0_4 _ _ l1_4 false _ ?side1 ?side2 ?side3 ?side4 A8.out).mono ?_); (case side1 => repeat (first | exact (Kd.C_below HR0_4.out (by repeat (first | (with_reducible first | exact HB.out | apply bal | apply bdN | apply bdr | refine bS ?_ GE150.out | refine bS ?_ GE151.out) | exact HB.out))) | (with_reducible refine Kd.C_alloc ?_ _) | (with_reducible refine Kd.C_drewN ?_ _) | (with_reducible refine Kd.C_drew ?_))); (case side2 => exact HC0_4.out); (case side3 => repeat (first | exact (Kd.C_below HR1_4.out (by repeat (first | (with_reducible first | exact HB.out | apply bal | apply bdN | apply bdr | refine bS ?_ GE150.out | refine bS ?_ GE151.out) | exact HB.out))) | (with_reducible refine Kd.C_alloc ?_ _) | (with_reducible refine Kd.C_drewN ?_ _) | (with_reducible refine Kd.C_drew ?_))); (case side4 => exact HC1_4.out); rintro e w' ⟨rfl, ⟨nd, rfl⟩⟩))
      go_ret
      exact ⟨by first | rfl | (simp [errW_none, errW_some] <;> rfl) | (simp [*, errW_none, errW_some] <;> rfl), by repeat (first | (with_reducible first | exact HB.out | apply bal | apply bdN | apply bdr | refine bS ?_ GE150.out | refine bS ?_ GE151.out) | exact HB.out)⟩
    ·replace c7 := Bool.eq_false_iff.mpr c7
     subst c7
     have H1 : (some false) = some r := by rw [if_neg (show ¬ (false = true) by decide)] at H; exact H
     clear H
     have H := H1
     clear H1
     obtain rfl := Option.some.inj H
     go_enter Try.func47, Try.ntmps47
     go_wp2_with (first | ((with_reducible refine gate_dst (N := 2) rfl ?_); refine box_event ?hg (N := 2) ?hd (cs := #[.int .i64 a0_0, .string a0_1, .int .i64 a0_2, .slice A0_3 l0_3.length c0_3, .slice A0_4 l0_4.length c0_4, .slice A0_5 l0_5.length c0_5, .slice A0_6 l0_6.length c0_6]) (t := 79) ?hr ?_; (case hd => rfl); (case hg => rfl); (case hr => first | (go_simp; done) | (go_simp; rfl)); intro gb150 hg w28 hbox hb; have n0_ := Az.mk (below_step (by repeat (first | (with_reducible first | exact HB.out | apply bal | apply bdN | apply bdr) | exact HB.out)) hb); have n1_ := Az.mk (hbox); have n2_ := Az.mk ((by rw [hg]; exact (below_size (by repeat (first | (with_reducible first | exact HB.out | apply bal | apply bdN | apply bdr) | exact HB.out))) : w.heap.size ≤ gb150)); have n3_ := Az.mk ((by rw [hg]; exact (below_size (by repeat (first | (with_reducible first | exact HB.out | apply bal | apply bdN | apply bdr) | exact HB.out))) : w.heap.size ≤ gb150)); clear HB; have HB := n0_; have BK150 := n1_; have GW150 := n2_; have GE150 := n3_; clear n0_ n1_ n2_ n3_; clear hb hbox hg) | ((with_reducible refine gate_dst (N := 3) rfl ?_); refine box_event ?hg (N := 3) ?hd (cs := #[.int .i64 a1_0, .string a1_1, .int .i64 a1_2, .slice A1_3 l1_3.length c1_3, .slice A1_4 l1_4.length c1_4, .slice A1_5 l1_5.length c1_5, .slice A1_6 l1_6.length c1_6]) (t := 79) ?hr ?_; (case hd => rfl); (case hg => rfl); (case hr => first | (go_simp; done) | (go_simp; rfl)); intro gb151 hg w29 hbox hb; have n0_ := Az.mk (blk_below (g := gb150) (o := .cells #[.int .i64 a0_0, .string a0_1, .int .i64 a0_2, .slice A0_3 l0_3.length c0_3, .slice A0_4 l0_4.length c0_4, .slice A0_5 l0_5.length c0_5, .slice A0_6 l0_6.length c0_6] 79 (0, 0)) (by (with_reducible repeat (first | refine blk_drewN ?_ _ | refine blk_drew ?_ | refine blk_alloc ?_ _)); exact BK150.out) hb); have n1_ := Az.mk (below_step (by repeat (first | (with_reducible first | exact HB.out | apply bal | apply bdN | apply bdr | refine bS ?_ GE150.out) | exact HB.out)) hb); have n2_ := Az.mk (hbox); have n3_ := Az.mk ((by rw [hg]; exact (below_size (by repeat (first | (with_reducible first | exact HB.out | apply bal | apply bdN | apply bdr | refine bS ?_ GE150.out) | exact HB.out))) : w.heap.size ≤ gb151)); have n4_ := Az.mk ((by rw [hg]; exact (below_size (by repeat (first | (with_reducible first | exact HB.out | apply bal | apply bdN | apply bdr | refine bS ?_ GE150.out) | exact HB.out))) : w.heap.size ≤ gb151)); have n5_ := Az.mk ((by rw [hg]; exact Nat.ne_of_lt (blk_lt (g := gb150) (o := .cells #[.int .i64 a0_0, .string a0_1, .int .i64 a0_2, .slice A0_3 l0_3.length c0_3, .slice A0_4 l0_4.length c0_4, .slice A0_5 l0_5.length c0_5, .slice A0_6 l0_6.length c0_6] 79 (0, 0)) (by (with_reducible repeat (first | refine blk_drewN ?_ _ | refine blk_drew ?_ | refine blk_alloc ?_ _)); exact BK150.out)) : gb150 ≠ gb151)); have n6_ := Az.mk ((by rw [hg]; exact Nat.ne_of_gt (blk_lt (g := gb150) (o := .cells #[.int .i64 a0_0, .string a0_1, .int .i64 a0_2, .slice A0_3 l0_3.length c0_3, .slice A0_4 l0_4.length c0_4, .slice A0_5 l0_5.length c0_5, .slice A0_6 l0_6.length c0_6] 79 (0, 0)) (by (with_reducible repeat (first | refine blk_drewN ?_ _ | refine blk_drew ?_ | refine blk_alloc ?_ _)); exact BK150.out)) : gb151 ≠ gb150)); clear BK150; clear HB; have BK150 := n0_; have HB := n1_; have BK151 := n2_; have GW151 := n3_; have GE151 := n4_; have NB150_151 := n5_; have NB151_150 := n6_; clear n0_ n1_ n2_ n3_ n4_ n5_ n6_; clear hb hbox hg; have hnb30 := NB150_151.out; have hnc30 := NB151_150.out; have hcz31_0 : w29.cell? ⟨gb150, 0, none⟩ = some (.int .i64 a0_0) := (bC BK150.out 0).trans rfl; have hcz31_1 : w29.cell? ⟨gb150, 1, none⟩ = some (.string a0_1) := (bC BK150.out 1).trans rfl; have hcz31_2 : w29.cell? ⟨gb150, 2, none⟩ = some (.int .i64 a0_2) := (bC BK150.out 2).trans rfl; have hcz31_3 : w29.cell? ⟨gb150, 3, none⟩ = some (.slice A0_3 l0_3.length c0_3) := (bC BK150.out 3).trans rfl; have hcz31_4 : w29.cell? ⟨gb150, 4, none⟩ = some (.slice A0_4 l0_4.length c0_4) := (bC BK150.out 4).trans rfl; have hcz31_5 : w29.cell? ⟨gb150, 5, none⟩ = some (.slice A0_5 l0_5.length c0_5) := (bC BK150.out 5).trans rfl; have hcz31_6 : w29.cell? ⟨gb150, 6, none⟩ = some (.slice A0_6 l0_6.length c0_6) := (bC BK150.out 6).trans rfl; have hfz31_0 := bF BK150.out 0; have hfz31_1 := bF BK150.out 1; have hfz31_2 := bF BK150.out 2; have hfz31_3 := bF BK150.out 3; have hfz31_4 := bF BK150.out 4; have hfz31_5 := bF BK150.out 5; have hfz31_6 := bF BK150.out 6; have hcz32_0 : w29.cell? ⟨gb151, 0, none⟩ = some (.int .i64 a1_0) := (bC BK151.out 0).trans rfl; have hcz32_1 : w29.cell? ⟨gb151, 1, none⟩ = some (.string a1_1) := (bC BK151.out 1).trans rfl; have hcz32_2 : w29.cell? ⟨gb151, 2, none⟩ = some (.int .i64 a1_2) := (bC BK151.out 2).trans rfl; have hcz32_3 : w29.cell? ⟨gb151, 3, none⟩ = some (.slice A1_3 l1_3.length c1_3) := (bC BK151.out 3).trans rfl; have hcz32_4 : w29.cell? ⟨gb151, 4, none⟩ = some (.slice A1_4 l1_4.length c1_4) := (bC BK151.out 4).trans rfl; have hcz32_5 : w29.cell? ⟨gb151, 5, none⟩ = some (.slice A1_5 l1_5.length c1_5) := (bC BK151.out 5).trans rfl; have hcz32_6 : w29.cell? ⟨gb151, 6, none⟩ = some (.slice A1_6 l1_6.length c1_6) := (bC BK151.out 6).trans rfl; have hfz32_0 := bF BK151.out 0; have hfz32_1 := bF BK151.out 1; have hfz32_2 := bF BK151.out 2; have hfz32_3 := bF BK151.out 3; have hfz32_4 := bF BK151.out 4; have hfz32_5 := bF BK151.out 5; have hfz32_6 := bF BK151.out 6) | (go_at_call 87; (with_reducible refine (spec_sameVals.calls k _ _ l0_3 _ _ l1_3 false _ ?side1 ?side2 ?side3 ?side4 A6.out).mono ?_); (case side1 => repeat (first | exact (Kd.C_below HR0_3.out HB.out) | (with_reducible refine Kd.C_alloc ?_ _) | (with_reducible refine Kd.C_drewN ?_ _) | (with_reducible refine Kd.C_drew ?_))); (case side2 => exact HC0_3.out); (case side3 => repeat (first | exact (Kd.C_below HR1_3.out HB.out) | (with_reducible refine Kd.C_alloc ?_ _) | (with_reducible refine Kd.C_drewN ?_ _) | (with_reducible refine Kd.C_drew ?_))); (case side4 => exact HC1_3.out); rintro e w' ⟨rfl, ⟨nd, rfl⟩⟩))
     go_ret
     exact ⟨by first | rfl | (simp [errW_none, errW_some] <;> rfl) | (simp [*, errW_none, errW_some] <;> rfl), by repeat (first | (with_reducible first | exact HB.out | apply bal | apply bdN | apply bdr | refine bS ?_ GE150.out | refine bS ?_ GE151.out) | exact HB.out)⟩
   ·rw [if_neg c5] at H
    have c5b0 : (a0_2 == a1_2) = false := beq_eq_false_iff_ne.mpr c5
    have c5b1 : (a0_2 != a1_2) = true := bne_iff_ne.mpr c5
    obtain rfl := Option.some.inj H
    go_enter Try.func47, Try.ntmps47
    go_wp2_with (first | ((with_reducible refine gate_dst (N := 2) rfl ?_); refine box_event ?hg (N := 2) ?hd (cs := #[.int .i64 a0_0, .string a0_1, .int .i64 a0_2, .slice A0_3 l0_3.length c0_3, .slice A0_4 l0_4.length c0_4, .slice A0_5 l0_5.length c0_5, .slice A0_6 l0_6.length c0_6]) (t := 79) ?hr ?_; (case hd => rfl); (case hg => rfl); (case hr => first | (go_simp; done) | (go_simp; rfl)); intro gb150 hg w33 hbox hb; have n0_ := Az.mk (below_step (by repeat (first | (with_reducible first | exact HB.out | apply bal | apply bdN | apply bdr) | exact HB.out)) hb); have n1_ := Az.mk (hbox); have n2_ := Az.mk ((by rw [hg]; exact (below_size (by repeat (first | (with_reducible first | exact HB.out | apply bal | apply bdN | apply bdr) | exact HB.out))) : w.heap.size ≤ gb150)); have n3_ := Az.mk ((by rw [hg]; exact (below_size (by repeat (first | (with_reducible first | exact HB.out | apply bal | apply bdN | apply bdr) | exact HB.out))) : w.heap.size ≤ gb150)); clear HB; have HB := n0_; have BK150 := n1_; have GW150 := n2_; have GE150 := n3_; clear n0_ n1_ n2_ n3_; clear hb hbox hg) | ((with_reducible refine gate_dst (N := 3) rfl ?_); refine box_event ?hg (N := 3) ?hd (cs := #[.int .i64 a1_0, .string a1_1, .int .i64 a1_2, .slice A1_3 l1_3.length c1_3, .slice A1_4 l1_4.length c1_4, .slice A1_5 l1_5.length c1_5, .slice A1_6 l1_6.length c1_6]) (t := 79) ?hr ?_; (case hd => rfl); (case hg => rfl); (case hr => first | (go_simp; done) | (go_simp; rfl)); intro gb151 hg w34 hbox hb; have n0_ := Az.mk (blk_below (g := gb150) (o := .cells #[.int .i64 a0_0, .string a0_1, .int .i64 a0_2, .slice A0_3 l0_3.length c0_3, .slice A0_4 l0_4.length c0_4, .slice A0_5 l0_5.length c0_5, .slice A0_6 l0_6.length c0_6] 79 (0, 0)) (by (with_reducible repeat (first | refine blk_drewN ?_ _ | refine blk_drew ?_ | refine blk_alloc ?_ _)); exact BK150.out) hb); have n1_ := Az.mk (below_step (by repeat (first | (with_reducible first | exact HB.out | apply bal | apply bdN | apply bdr | refine bS ?_ GE150.out) | exact HB.out)) hb); have n2_ := Az.mk (hbox); have n3_ := Az.mk ((by rw [hg]; exact (below_size (by repeat (first | (with_reducible first | exact HB.out | apply bal | apply bdN | apply bdr | refine bS ?_ GE150.out) | exact HB.out))) : w.heap.size ≤ gb151)); have n4_ := Az.mk ((by rw [hg]; exact (below_size (by repeat (first | (with_reducible first | exact HB.out | apply bal | apply bdN | apply bdr | refine bS ?_ GE150.out) | exact HB.out))) : w.heap.size ≤ gb151)); have n5_ := Az.mk ((by rw [hg]; exact Nat.ne_of_lt (blk_lt (g := gb150) (o := .cells #[.int .i64 a0_0, .string a0_1, .int .i64 a0_2, .slice A0_3 l0_3.length c0_3, .slice A0_4 l0_4.length c0_4, .slice A0_5 l0_5.length c0_5, .slice A0_6 l0_6.length c0_6] 79 (0, 0)) (by (with_reducible repeat (first | refine blk_drewN ?_ _ | refine blk_drew ?_ | refine blk_alloc ?_ _)); exact BK150.out)) : gb150 ≠ gb151)); have n6_ := Az.mk ((by rw [hg]; exact Nat.ne_of_gt (blk_lt (g := gb150) (o := .cells #[.int .i64 a0_0, .string a0_1, .int .i64 a0_2, .slice A0_3 l0_3.length c0_3, .slice A0_4 l0_4.length c0_4, .slice A0_5 l0_5.length c0_5, .slice A0_6 l0_6.length c0_6] 79 (0, 0)) (by (with_reducible repeat (first | refine blk_drewN ?_ _ | refine blk_drew ?_ | refine blk_alloc ?_ _)); exact BK150.out)) : gb151 ≠ gb150)); clear BK150; clear HB; have BK150 := n0_; have HB := n1_; have BK151 := n2_; have GW151 := n3_; have GE151 := n4_; have NB150_151 := n5_; have NB151_150 := n6_; clear n0_ n1_ n2_ n3_ n4_ n5_ n6_; clear hb hbox hg; have hnb35 := NB150_151.out; have hnc35 := NB151_150.out; have hcz36_0 : w34.cell? ⟨gb150, 0, none⟩ = some (.int .i64 a0_0) := (bC BK150.out 0).trans rfl; have hcz36_1 : w34.cell? ⟨gb150, 1, none⟩ = some (.string a0_1) := (bC BK150.out 1).trans rfl; have hcz36_2 : w34.cell? ⟨gb150, 2, none⟩ = some (.int .i64 a0_2) := (bC BK150.out 2).trans rfl; have hcz36_3 : w34.cell? ⟨gb150, 3, none⟩ = some (.slice A0_3 l0_3.length c0_3) := (bC BK150.out 3).trans rfl; have hcz36_4 : w34.cell? ⟨gb150, 4, none⟩ = some (.slice A0_4 l0_4.length c0_4) := (bC BK150.out 4).trans rfl; have hcz36_5 : w34.cell? ⟨gb150, 5, none⟩ = some (.slice A0_5 l0_5.length c0_5) := (bC BK150.out 5).trans rfl; have hcz36_6 : w34.cell? ⟨gb150, 6, none⟩ = some (.slice A0_6 l0_6.length c0_6) := (bC BK150.out 6).trans rfl; have hfz36_0 := bF BK150.out 0; have hfz36_1 := bF BK150.out 1; have hfz36_2 := bF BK150.out 2; have hfz36_3 := bF BK150.out 3; have hfz36_4 := bF BK150.out 4; have hfz36_5 := bF BK150.out 5; have hfz36_6 := bF BK150.out 6; have hcz37_0 : w34.cell? ⟨gb151, 0, none⟩ = some (.int .i64 a1_0) := (bC BK151.out 0).trans rfl; have hcz37_1 : w34.cell? ⟨gb151, 1, none⟩ = some (.string a1_1) := (bC BK151.out 1).trans rfl; have hcz37_2 : w34.cell? ⟨gb151, 2, none⟩ = some (.int .i64 a1_2) := (bC BK151.out 2).trans rfl; have hcz37_3 : w34.cell? ⟨gb151, 3, none⟩ = some (.slice A1_3 l1_3.length c1_3) := (bC BK151.out 3).trans rfl; have hcz37_4 : w34.cell? ⟨gb151, 4, none⟩ = some (.slice A1_4 l1_4.length c1_4) := (bC BK151.out 4).trans rfl; have hcz37_5 : w34.cell? ⟨gb151, 5, none⟩ = some (.slice A1_5 l1_5.length c1_5) := (bC BK151.out 5).trans rfl; have hcz37_6 : w34.cell? ⟨gb151, 6, none⟩ = some (.slice A1_6 l1_6.length c1_6) := (bC BK151.out 6).trans rfl; have hfz37_0 := bF BK151.out 0; have hfz37_1 := bF BK151.out 1; have hfz37_2 := bF BK151.out 2; have hfz37_3 := bF BK151.out 3; have hfz37_4 := bF BK151.out 4; have hfz37_5 := bF BK151.out 5; have hfz37_6 := bF BK151.out 6))
    go_ret
    exact ⟨by first | rfl | (simp [errW_none, errW_some] <;> rfl) | (simp [*, errW_none, errW_some] <;> rfl), by repeat (first | (with_reducible first | exact HB.out | apply bal | apply bdN | apply bdr | refine bS ?_ GE150.out | refine bS ?_ GE151.out) | exact HB.out)⟩
  ·rw [if_neg c4] at H
   have c4b0 : (a0_1.toList == a1_1.toList) = false := beq_eq_false_iff_ne.mpr c4
   have c4b1 : (a0_1.toList != a1_1.toList) = true := bne_iff_ne.mpr c4
   obtain rfl := Option.some.inj H
   go_enter Try.func47, Try.ntmps47
   go_wp2_with (first | ((with_reducible refine gate_dst (N := 2) rfl ?_); refine box_event ?hg (N := 2) ?hd (cs := #[.int .i64 a0_0, .string a0_1, .int .i64 a0_2, .slice A0_3 l0_3.length c0_3, .slice A0_4 l0_4.length c0_4, .slice A0_5 l0_5.length c0_5, .slice A0_6 l0_6.length c0_6]) (t := 79) ?hr ?_; (case hd => rfl); (case hg => rfl); (case hr => first | (go_simp; done) | (go_simp; rfl)); intro gb150 hg w38 hbox hb; have n0_ := Az.mk (below_step (by repeat (first | (with_reducible first | exact HB.out | apply bal | apply bdN | apply bdr) | exact HB.out)) hb); have n1_ := Az.mk (hbox); have n2_ := Az.mk ((by rw [hg]; exact (below_size (by repeat (first | (with_reducible first | exact HB.out | apply bal | apply bdN | apply bdr) | exact HB.out))) : w.heap.size ≤ gb150)); have n3_ := Az.mk ((by rw [hg]; exact (below_size (by repeat (first | (with_reducible first | exact HB.out | apply bal | apply bdN | apply bdr) | exact HB.out))) : w.heap.size ≤ gb150)); clear HB; have HB := n0_; have BK150 := n1_; have GW150 := n2_; have GE150 := n3_; clear n0_ n1_ n2_ n3_; clear hb hbox hg) | ((with_reducible refine gate_dst (N := 3) rfl ?_); refine box_event ?hg (N := 3) ?hd (cs := #[.int .i64 a1_0, .string a1_1, .int .i64 a1_2, .slice A1_3 l1_3.length c1_3, .slice A1_4 l1_4.length c1_4, .slice A1_5 l1_5.length c1_5, .slice A1_6 l1_6.length c1_6]) (t := 79) ?hr ?_; (case hd => rfl); (case hg => rfl); (case hr => first | (go_simp; done) | (go_simp; rfl)); intro gb151 hg w39 hbox hb; have n0_ := Az.mk (blk_below (g := gb150) (o := .cells #[.int .i64 a0_0, .string a0_1, .int .i64 a0_2, .slice A0_3 l0_3.length c0_3, .slice A0_4 l0_4.length c0_4, .slice A0_5 l0_5.length c0_5, .slice A0_6 l0_6.length c0_6] 79 (0, 0)) (by (with_reducible repeat (first | refine blk_drewN ?_ _ | refine blk_drew ?_ | refine blk_alloc ?_ _)); exact BK150.out) hb); have n1_ := Az.mk (below_step (by repeat (first | (with_reducible first | exact HB.out | apply bal | apply bdN | apply bdr | refine bS ?_ GE150.out) | exact HB.out)) hb); have n2_ := Az.mk (hbox); have n3_ := Az.mk ((by rw [hg]; exact (below_size (by repeat (first | (with_reducible first | exact HB.out | apply bal | apply bdN | apply bdr | refine bS ?_ GE150.out) | exact HB.out))) : w.heap.size ≤ gb151)); have n4_ := Az.mk ((by rw [hg]; exact (below_size (by repeat (first | (with_reducible first | exact HB.out | apply bal | apply bdN | apply bdr | refine bS ?_ GE150.out) | exact HB.out))) : w.heap.size ≤ gb151)); have n5_ := Az.mk ((by rw [hg]; exact Nat.ne_of_lt (blk_lt (g := gb150) (o := .cells #[.int .i64 a0_0, .string a0_1, .int .i64 a0_2, .slice A0_3 l0_3.length c0_3, .slice A0_4 l0_4.length c0_4, .slice A0_5 l0_5.length c0_5, .slice A0_6 l0_6.length c0_6] 79 (0, 0)) (by (with_reducible repeat (first | refine blk_drewN ?_ _ | refine blk_drew ?_ | refine blk_alloc ?_ _)); exact BK150.out)) : gb150 ≠ gb151)); have n6_ := Az.mk ((by rw [hg]; exact Nat.ne_of_gt (blk_lt (g := gb150) (o := .cells #[.int .i64 a0_0, .string a0_1, .int .i64 a0_2, .slice A0_3 l0_3.length c0_3, .slice A0_4 l0_4.length c0_4, .slice A0_5 l0_5.length c0_5, .slice A0_6 l0_6.length c0_6] 79 (0, 0)) (by (with_reducible repeat (first | refine blk_drewN ?_ _ | refine blk_drew ?_ | refine blk_alloc ?_ _)); exact BK150.out)) : gb151 ≠ gb150)); clear BK150; clear HB; have BK150 := n0_; have HB := n1_; have BK151 := n2_; have GW151 := n3_; have GE151 := n4_; have NB150_151 := n5_; have NB151_150 := n6_; clear n0_ n1_ n2_ n3_ n4_ n5_ n6_; clear hb hbox hg; have hnb40 := NB150_151.out; have hnc40 := NB151_150.out; have hcz41_0 : w39.cell? ⟨gb150, 0, none⟩ = some (.int .i64 a0_0) := (bC BK150.out 0).trans rfl; have hcz41_1 : w39.cell? ⟨gb150, 1, none⟩ = some (.string a0_1) := (bC BK150.out 1).trans rfl; have hcz41_2 : w39.cell? ⟨gb150, 2, none⟩ = some (.int .i64 a0_2) := (bC BK150.out 2).trans rfl; have hcz41_3 : w39.cell? ⟨gb150, 3, none⟩ = some (.slice A0_3 l0_3.length c0_3) := (bC BK150.out 3).trans rfl; have hcz41_4 : w39.cell? ⟨gb150, 4, none⟩ = some (.slice A0_4 l0_4.length c0_4) := (bC BK150.out 4).trans rfl; have hcz41_5 : w39.cell? ⟨gb150, 5, none⟩ = some (.slice A0_5 l0_5.length c0_5) := (bC BK150.out 5).trans rfl; have hcz41_6 : w39.cell? ⟨gb150, 6, none⟩ = some (.slice A0_6 l0_6.length c0_6) := (bC BK150.out 6).trans rfl; have hfz41_0 := bF BK150.out 0; have hfz41_1 := bF BK150.out 1; have hfz41_2 := bF BK150.out 2; have hfz41_3 := bF BK150.out 3; have hfz41_4 := bF BK150.out 4; have hfz41_5 := bF BK150.out 5; have hfz41_6 := bF BK150.out 6; have hcz42_0 : w39.cell? ⟨gb151, 0, none⟩ = some (.int .i64 a1_0) := (bC BK151.out 0).trans rfl; have hcz42_1 : w39.cell? ⟨gb151, 1, none⟩ = some (.string a1_1) := (bC BK151.out 1).trans rfl; have hcz42_2 : w39.cell? ⟨gb151, 2, none⟩ = some (.int .i64 a1_2) := (bC BK151.out 2).trans rfl; have hcz42_3 : w39.cell? ⟨gb151, 3, none⟩ = some (.slice A1_3 l1_3.length c1_3) := (bC BK151.out 3).trans rfl; have hcz42_4 : w39.cell? ⟨gb151, 4, none⟩ = some (.slice A1_4 l1_4.length c1_4) := (bC BK151.out 4).trans rfl; have hcz42_5 : w39.cell? ⟨gb151, 5, none⟩ = some (.slice A1_5 l1_5.length c1_5) := (bC BK151.out 5).trans rfl; have hcz42_6 : w39.cell? ⟨gb151, 6, none⟩ = some (.slice A1_6 l1_6.length c1_6) := (bC BK151.out 6).trans rfl; have hfz42_0 := bF BK151.out 0; have hfz42_1 := bF BK151.out 1; have hfz42_2 := bF BK151.out 2; have hfz42_3 := bF BK151.out 3; have hfz42_4 := bF BK151.out 4; have hfz42_5 := bF BK151.out 5; have hfz42_6 := bF BK151.out 6))
   go_ret
   exact ⟨by first | rfl | (simp [errW_none, errW_some] <;> rfl) | (simp [*, errW_none, errW_some] <;> rfl), by repeat (first | (with_reducible first | exact HB.out | apply bal | apply bdN | apply bdr | refine bS ?_ GE150.out | refine bS ?_ GE151.out) | exact HB.out)⟩
 ·rw [if_neg c3] at H
  have c3b0 : (a0_0 == a1_0) = false := beq_eq_false_iff_ne.mpr c3
  have c3b1 : (a0_0 != a1_0) = true := bne_iff_ne.mpr c3
  obtain rfl := Option.some.inj H
  go_enter Try.func47, Try.ntmps47
  go_wp2_with (first | ((with_reducible refine gate_dst (N := 2) rfl ?_); refine box_event ?hg (N := 2) ?hd (cs := #[.int .i64 a0_0, .string a0_1, .int .i64 a0_2, .slice A0_3 l0_3.length c0_3, .slice A0_4 l0_4.length c0_4, .slice A0_5 l0_5.length c0_5, .slice A0_6 l0_6.length c0_6]) (t := 79) ?hr ?_; (case hd => rfl); (case hg => rfl); (case hr => first | (go_simp; done) | (go_simp; rfl)); intro gb150 hg w43 hbox hb; have n0_ := Az.mk (below_step (by repeat (first | (with_reducible first | exact HB.out | apply bal | apply bdN | apply bdr) | exact HB.out)) hb); have n1_ := Az.mk (hbox); have n2_ := Az.mk ((by rw [hg]; exact (below_size (by repeat (first | (with_reducible first | exact HB.out | apply bal | apply bdN | apply bdr) | exact HB.out))) : w.heap.size ≤ gb150)); have n3_ := Az.mk ((by rw [hg]; exact (below_size (by repeat (first | (with_reducible first | exact HB.out | apply bal | apply bdN | apply bdr) | exact HB.out))) : w.heap.size ≤ gb150)); clear HB; have HB := n0_; have BK150 := n1_; have GW150 := n2_; have GE150 := n3_; clear n0_ n1_ n2_ n3_; clear hb hbox hg) | ((with_reducible refine gate_dst (N := 3) rfl ?_); refine box_event ?hg (N := 3) ?hd (cs := #[.int .i64 a1_0, .string a1_1, .int .i64 a1_2, .slice A1_3 l1_3.length c1_3, .slice A1_4 l1_4.length c1_4, .slice A1_5 l1_5.length c1_5, .slice A1_6 l1_6.length c1_6]) (t := 79) ?hr ?_; (case hd => rfl); (case hg => rfl); (case hr => first | (go_simp; done) | (go_simp; rfl)); intro gb151 hg w44 hbox hb; have n0_ := Az.mk (blk_below (g := gb150) (o := .cells #[.int .i64 a0_0, .string a0_1, .int .i64 a0_2, .slice A0_3 l0_3.length c0_3, .slice A0_4 l0_4.length c0_4, .slice A0_5 l0_5.length c0_5, .slice A0_6 l0_6.length c0_6] 79 (0, 0)) (by (with_reducible repeat (first | refine blk_drewN ?_ _ | refine blk_drew ?_ | refine blk_alloc ?_ _)); exact BK150.out) hb); have n1_ := Az.mk (below_step (by repeat (first | (with_reducible first | exact HB.out | apply bal | apply bdN | apply bdr | refine bS ?_ GE150.out) | exact HB.out)) hb); have n2_ := Az.mk (hbox); have n3_ := Az.mk ((by rw [hg]; exact (below_size (by repeat (first | (with_reducible first | exact HB.out | apply bal | apply bdN | apply bdr | refine bS ?_ GE150.out) | exact HB.out))) : w.heap.size ≤ gb151)); have n4_ := Az.mk ((by rw [hg]; exact (below_size (by repeat (first | (with_reducible first | exact HB.out | apply bal | apply bdN | apply bdr | refine bS ?_ GE150.out) | exact HB.out))) : w.heap.size ≤ gb151)); have n5_ := Az.mk ((by rw [hg]; exact Nat.ne_of_lt (blk_lt (g := gb150) (o := .cells #[.int .i64 a0_0, .string a0_1, .int .i64 a0_2, .slice A0_3 l0_3.length c0_3, .slice A0_4 l0_4.length c0_4, .slice A0_5 l0_5.length c0_5, .slice A0_6 l0_6.length c0_6] 79 (0, 0)) (by (with_reducible repeat (first | refine blk_drewN ?_ _ | refine blk_drew ?_ | refine blk_alloc ?_ _)); exact BK150.out)) : gb150 ≠ gb151)); have n6_ := Az.mk ((by rw [hg]; exact Nat.ne_of_gt (blk_lt (g := gb150) (o := .cells #[.int .i64 a0_0, .string a0_1, .int .i64 a0_2, .slice A0_3 l0_3.length c0_3, .slice A0_4 l0_4.length c0_4, .slice A0_5 l0_5.length c0_5, .slice A0_6 l0_6.length c0_6] 79 (0, 0)) (by (with_reducible repeat (first | refine blk_drewN ?_ _ | refine blk_drew ?_ | refine blk_alloc ?_ _)); exact BK150.out)) : gb151 ≠ gb150)); clear BK150; clear HB; have BK150 := n0_; have HB := n1_; have BK151 := n2_; have GW151 := n3_; have GE151 := n4_; have NB150_151 := n5_; have NB151_150 := n6_; clear n0_ n1_ n2_ n3_ n4_ n5_ n6_; clear hb hbox hg; have hnb45 := NB150_151.out; have hnc45 := NB151_150.out; have hcz46_0 : w44.cell? ⟨gb150, 0, none⟩ = some (.int .i64 a0_0) := (bC BK150.out 0).trans rfl; have hcz46_1 : w44.cell? ⟨gb150, 1, none⟩ = some (.string a0_1) := (bC BK150.out 1).trans rfl; have hcz46_2 : w44.cell? ⟨gb150, 2, none⟩ = some (.int .i64 a0_2) := (bC BK150.out 2).trans rfl; have hcz46_3 : w44.cell? ⟨gb150, 3, none⟩ = some (.slice A0_3 l0_3.length c0_3) := (bC BK150.out 3).trans rfl; have hcz46_4 : w44.cell? ⟨gb150, 4, none⟩ = some (.slice A0_4 l0_4.length c0_4) := (bC BK150.out 4).trans rfl; have hcz46_5 : w44.cell? ⟨gb150, 5, none⟩ = some (.slice A0_5 l0_5.length c0_5) := (bC BK150.out 5).trans rfl; have hcz46_6 : w44.cell? ⟨gb150, 6, none⟩ = some (.slice A0_6 l0_6.length c0_6) := (bC BK150.out 6).trans rfl; have hfz46_0 := bF BK150.out 0; have hfz46_1 := bF BK150.out 1; have hfz46_2 := bF BK150.out 2; have hfz46_3 := bF BK150.out 3; have hfz46_4 := bF BK150.out 4; have hfz46_5 := bF BK150.out 5; have hfz46_6 := bF BK150.out 6; have hcz47_0 : w44.cell? ⟨gb151, 0, none⟩ = some (.int .i64 a1_0) := (bC BK151.out 0).trans rfl; have hcz47_1 : w44.cell? ⟨gb151, 1, none⟩ = some (.string a1_1) := (bC BK151.out 1).trans rfl; have hcz47_2 : w44.cell? ⟨gb151, 2, none⟩ = some (.int .i64 a1_2) := (bC BK151.out 2).trans rfl; have hcz47_3 : w44.cell? ⟨gb151, 3, none⟩ = some (.slice A1_3 l1_3.length c1_3) := (bC BK151.out 3).trans rfl; have hcz47_4 : w44.cell? ⟨gb151, 4, none⟩ = some (.slice A1_4 l1_4.length c1_4) := (bC BK151.out 4).trans rfl; have hcz47_5 : w44.cell? ⟨gb151, 5, none⟩ = some (.slice A1_5 l1_5.length c1_5) := (bC BK151.out 5).trans rfl; have hcz47_6 : w44.cell? ⟨gb151, 6, none⟩ = some (.slice A1_6 l1_6.length c1_6) := (bC BK151.out 6).trans rfl; have hfz47_0 := bF BK151.out 0; have hfz47_1 := bF BK151.out 1; have hfz47_2 := bF BK151.out 2; have hfz47_3 := bF BK151.out 3; have hfz47_4 := bF BK151.out 4; have hfz47_5 := bF BK151.out 5; have hfz47_6 := bF BK151.out 6))
  go_ret
  exact ⟨by first | rfl | (simp [errW_none, errW_some] <;> rfl) | (simp [*, errW_none, errW_some] <;> rfl), by repeat (first | (with_reducible first | exact HB.out | apply bal | apply bdN | apply bdr | refine bS ?_ GE150.out | refine bS ?_ GE151.out) | exact HB.out)⟩
def spec_SameHeap.l0 : Nat → Int → List (S79) → List (S79) → Option (Bool)
 | 0, _, _, _ => none
 | k + 1, x5, x157000, x158000 => if x5 < (x157000.length : Int) then (if 0 ≤ x5 then (if x5 < (x158000.length : Int) then ((spec_SameObject.f k ((rd_T79 x157000 x5).f0) ((rd_T79 x157000 x5).f1) ((rd_T79 x157000 x5).f2) ((rd_T79 x157000 x5).f3) ((rd_T79 x157000 x5).f4) ((rd_T79 x157000 x5).f5) ((rd_T79 x157000 x5).f6) ((rd_T79 x158000 x5).f0) ((rd_T79 x158000 x5).f1) ((rd_T79 x158000 x5).f2) ((rd_T79 x158000 x5).f3) ((rd_T79 x158000 x5).f4) ((rd_T79 x158000 x5).f5) ((rd_T79 x158000 x5).f6)).bind fun t160 => (if t160 = true then (spec_SameHeap.l0 k (wrap64 (x5 + 1)) x157000 x158000) else (some false))) else (none)) else (none)) else (some true)
def spec_SameHeap.f (k : Nat) (l0_0 : List (S79)) (l1_0 : List (S79)) : Option (Bool) := if (l0_0.length : Int) = (l1_0.length : Int) then (spec_SameHeap.l0 k 0 l0_0 l1_0) else (some false)
def spec_SameHeap.T6 : Bool × List (List Nat × List Nat) := (true, [([], []), ([0], [0]), ([], []), ([1, 2], [1, 2]), ([3], [3]), ([], []), ([5], [5]), ([], []), ([6, 7], [6, 7]), ([8], [8]), ([4, 9], [4, 9]), ([10], [10])])
def spec_SameHeap.B6 : List Nat := [0, 1, 0, 7, 15, 0, 32, 0, 224, 480, 1023, 2047]
theorem spec_SameHeap.tab6 : rtab .any (opsOf Try.f10 6) = spec_SameHeap.T6 := by kernel_rfl
theorem spec_SameHeap.bits6 : waitsOk spec_SameHeap.T6.2 spec_SameHeap.B6 = true := by kernel_rfl
theorem spec_SameHeap.calls (k : Nat) (A0_0 : Option Addr) (c0_0 : Nat) (l0_0 : List (S79)) (A1_0 : Option Addr) (c1_0 : Nat) (l1_0 : List (S79)) (r : Bool) (w : World) (hr0_0 : Kd.C k79 w A0_0 l0_0.length l0_0) (hc0_0 : l0_0.length ≤ c0_0) (hr1_0 : Kd.C k79 w A1_0 l1_0.length l1_0) (hc1_0 : l1_0.length ≤ c1_0) (h : spec_SameHeap.f k l0_0 l1_0 = some r) :
  Calls Try.prog 10 #[.agg #[.slice A0_0 l0_0.length c0_0], .agg #[.slice A1_0 l1_0.length c1_0]] w fun e w' => e = .returned (.bool r) ∧ Below w.heap.size w w' := by
 have hu25 := Try.underlying25
 have hu79 := Try.underlying79
 have HR0_0 := Az.mk hr0_0
 have HC0_0 := Az.mk hc0_0
 clear hr0_0 hc0_0
 have HR1_0 := Az.mk hr1_0
 have HC1_0 := Az.mk hc1_0
 clear hr1_0 hc1_0
 have HB := Az.mk (Below.refl w.heap.size w)
 have H : (if (l0_0.length : Int) = (l1_0.length : Int) then (spec_SameHeap.l0 k 0 l0_0 l1_0) else (some false)) = some r := h
 clear h
 by_cases c3 : (l0_0.length : Int) = (l1_0.length : Int)
 ·rw [if_pos c3] at H
  have c3b0 : ((l0_0.length : Int) == (l1_0.length : Int)) = true := beq_iff_eq.mpr c3
  have c3b1 : ((l0_0.length : Int) != (l1_0.length : Int)) = false := bne_eq_false_iff_eq.mpr c3
  have c3b2 : (l0_0.length == l1_0.length) = true := by first | simpa using c3 | (simp at c3 ⊢; omega)
  clear c3
  have H' := Az.mk H
  clear H
  go_enter Try.func10, Try.ntmps10
  go_wp2_with (first | ((with_reducible refine gate_dst (N := 2) rfl ?_); refine box_event ?hg (N := 2) ?hd (cs := #[.slice A0_0 l0_0.length c0_0]) (t := 25) ?hr ?_; (case hd => rfl); (case hg => rfl); (case hr => first | (go_simp; done) | (go_simp; rfl)); intro gb156 hg w4 hbox hb; have n0_ := Az.mk (below_step (by repeat (first | (with_reducible first | exact HB.out | apply bal | apply bdN | apply bdr) | exact HB.out)) hb); have n1_ := Az.mk (hbox); have n2_ := Az.mk ((by rw [hg]; exact (below_size (by repeat (first | (with_reducible first | exact HB.out | apply bal | apply bdN | apply bdr) | exact HB.out))) : w.heap.size ≤ gb156)); have n3_ := Az.mk ((by rw [hg]; exact (below_size (by repeat (first | (with_reducible first | exact HB.out | apply bal | apply bdN | apply bdr) | exact HB.out))) : w.heap.size ≤ gb156)); clear HB; have HB := n0_; have BK156 := n1_; have GW156 := n2_; have GE156 := n3_; clear n0_ n1_ n2_ n3_; clear hb hbox hg) | ((with_reducible refine gate_dst (N := 3) rfl ?_); refine box_event ?hg (N := 3) ?hd (cs := #[.slice A1_0 l1_0.length c1_0]) (t := 25) ?hr ?_; (case hd => rfl); (case hg => rfl); (case hr => first | (go_simp; done) | (go_simp; rfl)); intro gb157 hg w5 hbox hb; have n0_ := Az.mk (blk_below (g := gb156) (o := .cells #[.slice A0_0 l0_0.length c0_0] 25 (0, 0)) (by (with_reducible repeat (first | refine blk_drewN ?_ _ | refine blk_drew ?_ | refine blk_alloc ?_ _)); exact BK156.out) hb); have n1_ := Az.mk (below_step (by repeat (first | (with_reducible first | exact HB.out | apply bal | apply bdN | apply bdr | refine bS ?_ GE156.out) | exact HB.out)) hb); have n2_ := Az.mk (hbox); have n3_ := Az.mk ((by rw [hg]; exact (below_size (by repeat (first | (with_reducible first | exact HB.out | apply bal | apply bdN | apply bdr | refine bS ?_ GE156.out) | exact HB.out))) : w.heap.size ≤ gb157)); have n4_ := Az.mk ((by rw [hg]; exact (below_size (by repeat (first | (with_reducible first | exact HB.out | apply bal | apply bdN | apply bdr | refine bS ?_ GE156.out) | exact HB.out))) : w.heap.size ≤ gb157)); have n5_ := Az.mk ((by rw [hg]; exact Nat.ne_of_lt (blk_lt (g := gb156) (o := .cells #[.slice A0_0 l0_0.length c0_0] 25 (0, 0)) (by (with_reducible repeat (first | refine blk_drewN ?_ _ | refine blk_drew ?_ | refine blk_alloc ?_ _)); exact BK156.out)) : gb156 ≠ gb157)); have n6_ := Az.mk ((by rw [hg]; exact Nat.ne_of_gt (blk_lt (g := gb156) (o := .cells #[.slice A0_0 l0_0.length c0_0] 25 (0, 0)) (by (with_reducible repeat (first | refine blk_drewN ?_ _ | refine blk_drew ?_ | refine blk_alloc ?_ _)); exact BK156.out)) : gb157 ≠ gb156)); clear BK156; clear HB; have BK156 := n0_; have HB := n1_; have BK157 := n2_; have GW157 := n3_; have GE157 := n4_; have NB156_157 := n5_; have NB157_156 := n6_; clear n0_ n1_ n2_ n3_ n4_ n5_ n6_; clear hb hbox hg; have hnb6 := NB156_157.out; have hnc6 := NB157_156.out; have hcz7_0 : w5.cell? ⟨gb156, 0, none⟩ = some (.slice A0_0 l0_0.length c0_0) := (bC BK156.out 0).trans rfl; have hfz7_0 := bF BK156.out 0; have hcz8_0 : w5.cell? ⟨gb157, 0, none⟩ = some (.slice A1_0 l1_0.length c1_0) := (bC BK157.out 0).trans rfl; have hfz8_0 := bF BK157.out 0))
  go_loopg [5] k (fun kq v5 w' => ∃ (x5_1 : Int), v5 = .int .i64 x5_1 ∧ Az (spec_SameHeap.l0 kq x5_1 l0_0 l1_0 = some r) ∧ Az (kq ≤ k) ∧ Az (w'.heap[gb156]? = some (.cells #[(.slice A0_0 l0_0.length c0_0)] 25 (0, 0))) ∧ Az (w'.heap[gb157]? = some (.cells #[(.slice A1_0 l1_0.length c1_0)] 25 (0, 0))) ∧ Az (Below w.heap.size w w'))
  case atStart => exact ⟨(0), (by first | rfl | (simp; done) | (simp [*]; done)), H', ⟨Nat.le_refl _⟩, ⟨by (with_reducible repeat (first | refine blk_drewN ?_ _ | refine blk_drew ?_ | refine blk_alloc ?_ _)); exact BK156.out⟩, ⟨by (with_reducible repeat (first | refine blk_drewN ?_ _ | refine blk_drew ?_ | refine blk_alloc ?_ _)); exact BK157.out⟩, ⟨by repeat (first | (with_reducible first | exact HB.out | apply bal | apply bdN | apply bdr | refine bS ?_ GE156.out | refine bS ?_ GE157.out) | exact HB.out)⟩⟩
  case round =>
   clear H'
   try clear c1
   try clear p2
   try clear c3
   try clear c3b0
   try clear c3b1
   try clear c3b2
   try clear c6
   try clear hcz7_0
   try clear hcz8_0
   try clear hfz7_0
   try clear hfz8_0
   obtain ⟨x5_1, rfl, HA, HK1, BK156, BK157, HB⟩ := hrel
   cases gk with
   | zero => exact absurd HA.out (by simp [spec_SameHeap.l0])
   | succ k1 =>
    have H := HA.out
    clear HA
    simp only [spec_SameHeap.l0] at H
    by_cases c9 : x5_1 < (l0_0.length : Int)
    ·rw [if_pos c9] at H
     have c9b0 : decide (x5_1 < (l0_0.length : Int)) = true := decide_eq_true c9
     clear c9
     by_cases c10 : 0 ≤ x5_1
     ·rw [if_pos c10] at H
      have c10b0 : decide (0 ≤ x5_1) = true := decide_eq_true c10
      clear c10
      by_cases c11 : x5_1 < (l1_0.length : Int)
      ·rw [if_pos c11] at H
       have c11b0 : decide (x5_1 < (l1_0.length : Int)) = true := decide_eq_true c11
       clear c11
       replace H := Option.bind_eq_some_iff.mp H
       obtain ⟨t160, A120, H⟩ := H
       replace H : (if t160 = true then (spec_SameHeap.l0 k1 (wrap64 (x5_1 + 1)) l0_0 l1_0) else (some false)) = some r := H
       have A12 := Az.mk A120
       clear A120
       by_cases c13 : t160 = true
       ·subst c13
        have H1 : (spec_SameHeap.l0 k1 (wrap64 (x5_1 + 1)) l0_0 l1_0) = some r := by rw [if_pos rfl] at H; exact H
        clear H
        have H := H1
        clear H1
        have H' := Az.mk H
        clear H
        have hnb14 := NB156_157.out
        have hnc14 := NB157_156.out
        have hcz15_0 : wr.cell? ⟨gb156, 0, none⟩ = some (.slice A0_0 l0_0.length c0_0) := (bC BK156.out 0).trans rfl
        have hfz15_0 := bF BK156.out 0
        try go_wp2
        have n0_ := Az.mk (blk_drew BK156.out)
        have n1_ := Az.mk (blk_drew BK157.out)
        have n2_ := Az.mk (bdr HB.out)
        clear BK156
        clear BK157
        clear HB
        have BK156 := n0_
        have BK157 := n1_
        have HB := n2_
        clear n0_ n1_ n2_
        have p158 : 0 ≤ (x5_1 : Int) := of_decide_eq_true (by first | (with_reducible assumption) | assumption)
        have q158 : x5_1 < (l0_0.length : Int) := of_decide_eq_true (by first | (with_reducible assumption) | assumption)
        obtain ⟨ad158, A158_3, c158_3, A158_4, c158_4, A158_5, c158_5, A158_6, c158_6, e158, hx158_0, hx158_1, hx158_2, hx158_3, hx158_4, hx158_5, hx158_6, hl158_3, hi158_3, hl158_4, hi158_4, hl158_5, hi158_5, hl158_6, hi158_6⟩ := at_T79 HR0_0.out x5_1 p158 q158
        have hw158_6 := hx158_6
        have hw158_5 := hx158_5
        have hw158_4 := hx158_4
        have hw158_3 := hx158_3
        have hw158_2 := hx158_2
        have hw158_1 := hx158_1
        have hw158_0 := hx158_0
        cases e158
        replace hx158_0 := (HB.out.cell (World.block_lt_of_cell? w _ hx158_0)).trans hx158_0
        replace hx158_1 := (HB.out.cell (World.block_lt_of_cell? w _ hx158_1)).trans hx158_1
        replace hx158_2 := (HB.out.cell (World.block_lt_of_cell? w _ hx158_2)).trans hx158_2
        replace hx158_3 := (HB.out.cell (World.block_lt_of_cell? w _ hx158_3)).trans hx158_3
        replace hx158_4 := (HB.out.cell (World.block_lt_of_cell? w _ hx158_4)).trans hx158_4
        replace hx158_5 := (HB.out.cell (World.block_lt_of_cell? w _ hx158_5)).trans hx158_5
        replace hx158_6 := (HB.out.cell (World.block_lt_of_cell? w _ hx158_6)).trans hx158_6
        have HR158_3 := Az.mk hi158_3
        have HC158_3 := Az.mk hl158_3
        clear hi158_3 hl158_3
        have HR158_4 := Az.mk hi158_4
        have HC158_4 := Az.mk hl158_4
        clear hi158_4 hl158_4
        have HR158_5 := Az.mk hi158_5
        have HC158_5 := Az.mk hl158_5
        clear hi158_5 hl158_5
        have HR158_6 := Az.mk hi158_6
        have HC158_6 := Az.mk hl158_6
        clear hi158_6 hl158_6
        replace p158 := eq_true p158
        replace q158 := eq_true q158
        have p159 : 0 ≤ (x5_1 : Int) := of_decide_eq_true (by first | (with_reducible assumption) | assumption)
        have q159 : x5_1 < (l1_0.length : Int) := of_decide_eq_true (by first | (with_reducible assumption) | assumption)
        obtain ⟨ad159, A159_3, c159_3, A159_4, c159_4, A159_5, c159_5, A159_6, c159_6, e159, hx159_0, hx159_1, hx159_2, hx159_3, hx159_4, hx159_5, hx159_6, hl159_3, hi159_3, hl159_4, hi159_4, hl159_5, hi159_5, hl159_6, hi159_6⟩ := at_T79 HR1_0.out x5_1 p159 q159
        have hw159_6 := hx159_6
        have hw159_5 := hx159_5
        have hw159_4 := hx159_4
        have hw159_3 := hx159_3
        have hw159_2 := hx159_2
        have hw159_1 := hx159_1
        have hw159_0 := hx159_0
        cases e159
        replace hx159_0 := (HB.out.cell (World.block_lt_of_cell? w _ hx159_0)).trans hx159_0
        replace hx159_1 := (HB.out.cell (World.block_lt_of_cell? w _ hx159_1)).trans hx159_1
        replace hx159_2 := (HB.out.cell (World.block_lt_of_cell? w _ hx159_2)).trans hx159_2
        replace hx159_3 := (HB.out.cell (World.block_lt_of_cell? w _ hx159_3)).trans hx159_3
        replace hx159_4 := (HB.out.cell (World.block_lt_of_cell? w _ hx159_4)).trans hx159_4
        replace hx159_5 := (HB.out.cell (World.block_lt_of_cell? w _ hx159_5)).trans hx159_5
        replace hx159_6 := (HB.out.cell (World.block_lt_of_cell? w _ hx159_6)).trans hx159_6
        have HR159_3 := Az.mk hi159_3
        have HC159_3 := Az.mk hl159_3
        clear hi159_3 hl159_3
        have HR159_4 := Az.mk hi159_4
        have HC159_4 := Az.mk hl159_4
        clear hi159_4 hl159_4
        have HR159_5 := Az.mk hi159_5
        have HC159_5 := Az.mk hl159_5
        clear hi159_5 hl159_5
        have HR159_6 := Az.mk hi159_6
        have HC159_6 := Az.mk hl159_6
        clear hi159_6 hl159_6
        replace p159 := eq_true p159
        replace q159 := eq_true q159
        refine start_ (n := 12) (S := fun w' => w'.cell? ⟨gb156, 0, none⟩ = some (.slice (some ad158) l0_0.length c0_0) ∧ w'.cell? ⟨gb157, 0, none⟩ = some (.slice (some ad159) l1_0.length c1_0) ∧ w'.cell? (ad158.add ((x5_1).toNat * 7)) = some (.int .i64 ((rd_T79 l0_0 x5_1).f0)) ∧ w'.cell? ⟨(ad158.add ((x5_1).toNat * 7)).block, (ad158.add ((x5_1).toNat * 7)).off + 1, none⟩ = some (.string ((rd_T79 l0_0 x5_1).f1)) ∧ w'.cell? ⟨(ad158.add ((x5_1).toNat * 7)).block, (ad158.add ((x5_1).toNat * 7)).off + 2, none⟩ = some (.int .i64 ((rd_T79 l0_0 x5_1).f2)) ∧ w'.cell? ⟨(ad158.add ((x5_1).toNat * 7)).block, (ad158.add ((x5_1).toNat * 7)).off + 3, none⟩ = some (.slice A158_3 ((rd_T79 l0_0 x5_1).f3).length c158_3) ∧ w'.cell? ⟨(ad158.add ((x5_1).toNat * 7)).block, (ad158.add ((x5_1).toNat * 7)).off + 4, none⟩ = some (.slice A158_4 ((rd_T79 l0_0 x5_1).f4).length c158_4) ∧ w'.cell? ⟨(ad158.add ((x5_1).toNat * 7)).block, (ad158.add ((x5_1).toNat * 7)).off + 5, none⟩ = some (.slice A158_5 ((rd_T79 l0_0 x5_1).f5).length c158_5) ∧ w'.cell? ⟨(ad158.add ((x5_1).toNat * 7)).block, (ad158.add ((x5_1).toNat * 7)).off + 6, none⟩ = some (.slice A158_6 ((rd_T79 l0_0 x5_1).f6).length c158_6) ∧ w'.cell? (ad159.add ((x5_1).toNat * 7)) = some (.int .i64 ((rd_T79 l1_0 x5_1).f0)) ∧ w'.cell? ⟨(ad159.add ((x5_1).toNat * 7)).block, (ad159.add ((x5_1).toNat * 7)).off + 1, none⟩ = some (.string ((rd_T79 l1_0 x5_1).f1)) ∧ w'.cell? ⟨(ad159.add ((x5_1).toNat * 7)).block, (ad159.add ((x5_1).toNat * 7)).off + 2, none⟩ = some (.int .i64 ((rd_T79 l1_0 x5_1).f2)) ∧ w'.cell? ⟨(ad159.add ((x5_1).toNat * 7)).block, (ad159.add ((x5_1).toNat * 7)).off + 3, none⟩ = some (.slice A159_3 ((rd_T79 l1_0 x5_1).f3).length c159_3) ∧ w'.cell? ⟨(ad159.add ((x5_1).toNat * 7)).block, (ad159.add ((x5_1).toNat * 7)).off + 4, none⟩ = some (.slice A159_4 ((rd_T79 l1_0 x5_1).f4).length c159_4) ∧ w'.cell? ⟨(ad159.add ((x5_1).toNat * 7)).block, (ad159.add ((x5_1).toNat * 7)).off + 5, none⟩ = some (.slice A159_5 ((rd_T79 l1_0 x5_1).f5).length c159_5) ∧ w'.cell? ⟨(ad159.add ((x5_1).toNat * 7)).block, (ad159.add ((x5_1).toNat * 7)).off + 6, none⟩ = some (.slice A159_6 ((rd_T79 l1_0 x5_1).f6).length c159_6)) (ds := []) #[false, false, false, false, false, false, false, false, false, false, false, false] (by kernel_rfl) rfl rfl ⟨(bC BK156.out 0).trans rfl, (bC BK157.out 0).trans rfl, ((HB.out.cell (World.block_lt_of_cell? w _ hw158_0)).trans hw158_0), ((HB.out.cell (World.block_lt_of_cell? w _ hw158_1)).trans hw158_1), ((HB.out.cell (World.block_lt_of_cell? w _ hw158_2)).trans hw158_2), ((HB.out.cell (World.block_lt_of_cell? w _ hw158_3)).trans hw158_3), ((HB.out.cell (World.block_lt_of_cell? w _ hw158_4)).trans hw158_4), ((HB.out.cell (World.block_lt_of_cell? w _ hw158_5)).trans hw158_5), ((HB.out.cell (World.block_lt_of_cell? w _ hw158_6)).trans hw158_6), ((HB.out.cell (World.block_lt_of_cell? w _ hw159_0)).trans hw159_0), ((HB.out.cell (World.block_lt_of_cell? w _ hw159_1)).trans hw159_1), ((HB.out.cell (World.block_lt_of_cell? w _ hw159_2)).trans hw159_2), ((HB.out.cell (World.block_lt_of_cell? w _ hw159_3)).trans hw159_3), ((HB.out.cell (World.block_lt_of_cell? w _ hw159_4)).trans hw159_4), ((HB.out.cell (World.block_lt_of_cell? w _ hw159_5)).trans hw159_5), ((HB.out.cell (World.block_lt_of_cell? w _ hw159_6)).trans hw159_6)⟩ (fun hHeld => ?_); refine with_tabW spec_SameHeap.tab6 spec_SameHeap.bits6 (fun HT_ HW_ => ?_)
        generalize wr.drew = w16 at BK156 BK157 HB HR158_3 HR158_4 HR158_5 HR158_6 HR159_3 HR159_4 HR159_5 HR159_6 hx158_0 hx158_1 hx158_2 hx158_3 hx158_4 hx158_5 hx158_6 hx159_0 hx159_1 hx159_2 hx159_3 hx159_4 hx159_5 hx159_6 hHeld ⊢
        refine pure_ (i := 0) (N := some 20) (v := ?_) (a' := ?_) #[true, false, false, false, false, false, false, false, false, false, false, false] rfl rfl (any_of HT_.out (by kernel_rfl)) (fun _ _ _ h => h) (Or.inl ⟨by rfl, ?_⟩) ?_ ?_
        rotate_left
        ·intro w'
         go_simp
         with_reducible rfl
        rotate_left
        ·simp only [Act.put, List.setIfInBounds_toArray, List.set_cons_zero, List.set_cons_succ, i64_w, i32_w]
         rfl
        refine pure_ (i := 2) (N := some 22) (v := ?_) (a' := ?_) #[true, false, true, false, false, false, false, false, false, false, false, false] rfl rfl (any_of HT_.out (by kernel_rfl)) (fun _ _ _ h => h) (Or.inl ⟨by rfl, ?_⟩) ?_ ?_
        rotate_left
        ·intro w'
         go_simp
         with_reducible rfl
        rotate_left
        ·simp only [Act.put, List.setIfInBounds_toArray, List.set_cons_zero, List.set_cons_succ, i64_w, i32_w]
         rfl
        refine pure_ (i := 5) (N := some 25) (v := ?_) (a' := ?_) #[true, false, true, false, false, true, false, false, false, false, false, false] rfl rfl (any_of HT_.out (by kernel_rfl)) (fun _ _ _ h => h) (Or.inl ⟨by rfl, ?_⟩) ?_ ?_
        rotate_left
        ·intro w'
         go_simp
         with_reducible rfl
        rotate_left
        ·simp only [Act.put, List.setIfInBounds_toArray, List.set_cons_zero, List.set_cons_succ, i64_w, i32_w]
         rfl
        refine pure_ (i := 7) (N := some 27) (v := ?_) (a' := ?_) #[true, false, true, false, false, true, false, true, false, false, false, false] rfl rfl (any_of HT_.out (by kernel_rfl)) (fun _ _ _ h => h) (Or.inl ⟨by rfl, ?_⟩) ?_ ?_
        rotate_left
        ·intro w'
         go_simp
         with_reducible rfl
        rotate_left
        ·simp only [Act.put, List.setIfInBounds_toArray, List.set_cons_zero, List.set_cons_succ, i64_w, i32_w]
         rfl
        refine take_ (i := 1) (N := some 21) (v := ?_) (a' := ?_) #[true, true, true, false, false, true, false, true, false, false, false, false] rfl rfl (take_ofW HT_.out HW_.out (by kernel_rfl)) (fun _ _ _ h => h) (Or.inl ⟨by rfl, ?_⟩) hHeld ?_ ?_
        rotate_left
        ·rintro w' ⟨s0, s1, s2, s3, s4, s5, s6, s7, s8, s9, s10, s11, s12, s13, s14, s15⟩
         go_simp
         with_reducible rfl
        rotate_left
        ·simp only [Act.put, List.setIfInBounds_toArray, List.set_cons_zero, List.set_cons_succ, i64_w, i32_w]
         rfl
        refine pure_ (i := 3) (N := some 23) (v := ?_) (a' := ?_) #[true, true, true, true, false, true, false, true, false, false, false, false] rfl rfl (any_of HT_.out (by kernel_rfl)) (fun _ _ _ h => h) (Or.inl ⟨by rfl, ?_⟩) ?_ ?_
        rotate_left
        ·intro w'
         go_simp
         with_reducible rfl
        rotate_left
        ·simp only [Act.put, List.setIfInBounds_toArray, List.set_cons_zero, List.set_cons_succ, i64_w, i32_w]
         rfl
        refine take_ (i := 4) (N := some 24) (v := ?_) (a' := ?_) #[true, true, true, true, true, true, false, true, false, false, false, false] rfl rfl (take_ofW HT_.out HW_.out (by kernel_rfl)) (fun _ _ _ h => h) (Or.inl ⟨by rfl, ?_⟩) hHeld ?_ ?_
        rotate_left
        ·rintro w' ⟨s0, s1, s2, s3, s4, s5, s6, s7, s8, s9, s10, s11, s12, s13, s14, s15⟩
         go_simp
         with_reducible rfl
        rotate_left
        ·simp only [Act.put, List.setIfInBounds_toArray, List.set_cons_zero, List.set_cons_succ, i64_w, i32_w]
         rfl
        refine take_ (i := 6) (N := some 26) (v := ?_) (a' := ?_) #[true, true, true, true, true, true, true, true, false, false, false, false] rfl rfl (take_ofW HT_.out HW_.out (by kernel_rfl)) (fun _ _ _ h => h) (Or.inl ⟨by rfl, ?_⟩) hHeld ?_ ?_
        rotate_left
        ·rintro w' ⟨s0, s1, s2, s3, s4, s5, s6, s7, s8, s9, s10, s11, s12, s13, s14, s15⟩
         go_simp
         with_reducible rfl
        rotate_left
        ·simp only [Act.put, List.setIfInBounds_toArray, List.set_cons_zero, List.set_cons_succ, i64_w, i32_w]
         rfl
        refine pure_ (i := 8) (N := some 28) (v := ?_) (a' := ?_) #[true, true, true, true, true, true, true, true, true, false, false, false] rfl rfl (any_of HT_.out (by kernel_rfl)) (fun _ _ _ h => h) (Or.inl ⟨by rfl, ?_⟩) ?_ ?_
        rotate_left
        ·intro w'
         go_simp
         with_reducible rfl
        rotate_left
        ·simp only [Act.put, List.setIfInBounds_toArray, List.set_cons_zero, List.set_cons_succ, i64_w, i32_w]
         rfl
        refine take_ (i := 9) (N := some 29) (v := ?_) (a' := ?_) #[true, true, true, true, true, true, true, true, true, true, false, false] rfl rfl (take_ofW HT_.out HW_.out (by kernel_rfl)) (fun _ _ _ h => h) (Or.inl ⟨by rfl, ?_⟩) hHeld ?_ ?_
        rotate_left
        ·rintro w' ⟨s0, s1, s2, s3, s4, s5, s6, s7, s8, s9, s10, s11, s12, s13, s14, s15⟩
         go_simp
         with_reducible rfl
        rotate_left
        ·simp only [Act.put, List.setIfInBounds_toArray, List.set_cons_zero, List.set_cons_succ, i64_w, i32_w]
         rfl
        refine one_ (i := 10) (N := some 30) #[true, true, true, true, true, true, true, true, true, true, true, false] rfl rfl (one_of HT_.out (by kernel_rfl)) (by decide) (fun K hK => ?_)
        refine goes_ Try.func47 (by kernel_rfl) rfl #[.agg #[.int .i64 ((rd_T79 l0_0 x5_1).f0), .string ((rd_T79 l0_0 x5_1).f1), .int .i64 ((rd_T79 l0_0 x5_1).f2), .slice A158_3 ((rd_T79 l0_0 x5_1).f3).length c158_3, .slice A158_4 ((rd_T79 l0_0 x5_1).f4).length c158_4, .slice A158_5 ((rd_T79 l0_0 x5_1).f5).length c158_5, .slice A158_6 ((rd_T79 l0_0 x5_1).f6).length c158_6], .agg #[.int .i64 ((rd_T79 l1_0 x5_1).f0), .string ((rd_T79 l1_0 x5_1).f1), .int .i64 ((rd_T79 l1_0 x5_1).f2), .slice A159_3 ((rd_T79 l1_0 x5_1).f3).length c159_3, .slice A159_4 ((rd_T79 l1_0 x5_1).f4).length c159_4, .slice A159_5 ((rd_T79 l1_0 x5_1).f5).length c159_5, .slice A159_6 ((rd_T79 l1_0 x5_1).f6).length c159_6]] (by rfl) rfl rfl (by (try simp only [List.map_toArray, List.map_cons, List.map_nil]); first | done | rfl | (simp only [List.length_drop, List.length_take]; rfl)) ?_
        with_reducible refine (spec_SameObject.calls k1 ((rd_T79 l0_0 x5_1).f0) ((rd_T79 l0_0 x5_1).f1) ((rd_T79 l0_0 x5_1).f2) _ _ ((rd_T79 l0_0 x5_1).f3) _ _ ((rd_T79 l0_0 x5_1).f4) _ _ ((rd_T79 l0_0 x5_1).f5) _ _ ((rd_T79 l0_0 x5_1).f6) ((rd_T79 l1_0 x5_1).f0) ((rd_T79 l1_0 x5_1).f1) ((rd_T79 l1_0 x5_1).f2) _ _ ((rd_T79 l1_0 x5_1).f3) _ _ ((rd_T79 l1_0 x5_1).f4) _ _ ((rd_T79 l1_0 x5_1).f5) _ _ ((rd_T79 l1_0 x5_1).f6) true _ ?side1 ?side2 ?side3 ?side4 ?side5 ?side6 ?side7 ?side8 ?side9 ?side10 ?side11 ?side12 ?side13 ?side14 ?side15 ?side16 A12.out).mono ?_
        (case side1 => repeat (first | exact (Kd.C_below HR158_3.out HB.out) | (with_reducible refine Kd.C_alloc ?_ _) | (with_reducible refine Kd.C_drewN ?_ _) | (with_reducible refine Kd.C_drew ?_)))
        (case side2 => exact HC158_3.out)
        (case side3 => repeat (first | exact (Kd.C_below HR158_4.out HB.out) | (with_reducible refine Kd.C_alloc ?_ _) | (with_reducible refine Kd.C_drewN ?_ _) | (with_reducible refine Kd.C_drew ?_)))
        (case side4 => exact HC158_4.out)
        (case side5 => repeat (first | exact (Kd.C_below HR158_5.out HB.out) | (with_reducible refine Kd.C_alloc ?_ _) | (with_reducible refine Kd.C_drewN ?_ _) | (with_reducible refine Kd.C_drew ?_)))
        (case side6 => exact HC158_5.out)
        (case side7 => repeat (first | exact (Kd.C_below HR158_6.out HB.out) | (with_reducible refine Kd.C_alloc ?_ _) | (with_reducible refine Kd.C_drewN ?_ _) | (with_reducible refine Kd.C_drew ?_)))
        (case side8 => exact HC158_6.out)
        (case side9 => repeat (first | exact (Kd.C_below HR159_3.out HB.out) | (with_reducible refine Kd.C_alloc ?_ _) | (with_reducible refine Kd.C_drewN ?_ _) | (with_reducible refine Kd.C_drew ?_)))
        (case side10 => exact HC159_3.out)
        (case side11 => repeat (first | exact (Kd.C_below HR159_4.out HB.out) | (with_reducible refine Kd.C_alloc ?_ _) | (with_reducible refine Kd.C_drewN ?_ _) | (with_reducible refine Kd.C_drew ?_)))
        (case side12 => exact HC159_4.out)
        (case side13 => repeat (first | exact (Kd.C_below HR159_5.out HB.out) | (with_reducible refine Kd.C_alloc ?_ _) | (with_reducible refine Kd.C_drewN ?_ _) | (with_reducible refine Kd.C_drew ?_)))
        (case side14 => exact HC159_5.out)
        (case side15 => repeat (first | exact (Kd.C_below HR159_6.out HB.out) | (with_reducible refine Kd.C_alloc ?_ _) | (with_reducible refine Kd.C_drewN ?_ _) | (with_reducible refine Kd.C_drew ?_)))
        (case side16 => exact HC159_6.out)
        rintro e w17 ⟨rfl, hb⟩
        refine ⟨_, rfl, ?_⟩
        have n0_ := Az.mk (blk_below (g := gb156) (o := .cells #[.slice (some ad158) l0_0.length c0_0] 25 (0, 0)) (by (with_reducible repeat (first | refine blk_drewN ?_ _ | refine blk_drew ?_ | refine blk_alloc ?_ _)); exact BK156.out) hb)
        have n1_ := Az.mk (blk_below (g := gb157) (o := .cells #[.slice (some ad159) l1_0.length c1_0] 25 (0, 0)) (by (with_reducible repeat (first | refine blk_drewN ?_ _ | refine blk_drew ?_ | refine blk_alloc ?_ _)); exact BK157.out) hb)
        have n2_ := Az.mk (below_step (by repeat (first | (with_reducible first | exact HB.out | apply bal | apply bdN | apply bdr | refine bS ?_ GE156.out | refine bS ?_ GE157.out) | exact HB.out)) hb)
        clear BK156
        clear BK157
        clear HB
        have BK156 := n0_
        have BK157 := n1_
        have HB := n2_
        clear n0_ n1_ n2_
        (try clear hb)
        (try clear hb2)
        (try clear hk)
        (try clear hi)
        refine hK.out _ _ ⟨(bC BK156.out 0).trans rfl, (bC BK157.out 0).trans rfl, ((HB.out.cell (World.block_lt_of_cell? w _ hw158_0)).trans hw158_0), ((HB.out.cell (World.block_lt_of_cell? w _ hw158_1)).trans hw158_1), ((HB.out.cell (World.block_lt_of_cell? w _ hw158_2)).trans hw158_2), ((HB.out.cell (World.block_lt_of_cell? w _ hw158_3)).trans hw158_3), ((HB.out.cell (World.block_lt_of_cell? w _ hw158_4)).trans hw158_4), ((HB.out.cell (World.block_lt_of_cell? w _ hw158_5)).trans hw158_5), ((HB.out.cell (World.block_lt_of_cell? w _ hw158_6)).trans hw158_6), ((HB.out.cell (World.block_lt_of_cell? w _ hw159_0)).trans hw159_0), ((HB.out.cell (World.block_lt_of_cell? w _ hw159_1)).trans hw159_1), ((HB.out.cell (World.block_lt_of_cell? w _ hw159_2)).trans hw159_2), ((HB.out.cell (World.block_lt_of_cell? w _ hw159_3)).trans hw159_3), ((HB.out.cell (World.block_lt_of_cell? w _ hw159_4)).trans hw159_4), ((HB.out.cell (World.block_lt_of_cell? w _ hw159_5)).trans hw159_5), ((HB.out.cell (World.block_lt_of_cell? w _ hw159_6)).trans hw159_6)⟩ (fun hHeld => ?_)
        clear hK K
        refine norm_ (a' := ?_) ?_ ?_
        rotate_left
        ·show Act.put _ (some 30) _ = _
         simp only [Act.put, List.setIfInBounds_toArray, List.set_cons_zero, List.set_cons_succ, i64_w, i32_w]
         rfl
        refine pure_ (i := 11) (N := some 31) (v := ?_) (a' := ?_) #[true, true, true, true, true, true, true, true, true, true, true, true] rfl rfl (any_of HT_.out (by kernel_rfl)) (fun _ _ _ h => h) (Or.inl ⟨by rfl, ?_⟩) ?_ ?_
        rotate_left
        ·intro w'
         go_simp
         with_reducible rfl
        rotate_left
        ·simp only [Act.put, List.setIfInBounds_toArray, List.set_cons_zero, List.set_cons_succ, i64_w, i32_w]
         rfl
        refine done_ (done_of HT_.out (by kernel_rfl)) ?_
        try go_wp2
        go_roundg k1
        case measure => have := HK1.out; omega
        case rel => exact ⟨(wrap64 (x5_1 + 1)), (by first | rfl | (simp; done) | (simp [*]; done)), H', ⟨by have := HK1.out; omega⟩, ⟨by (with_reducible repeat (first | refine blk_drewN ?_ _ | refine blk_drew ?_ | refine blk_alloc ?_ _)); exact BK156.out⟩, ⟨by (with_reducible repeat (first | refine blk_drewN ?_ _ | refine blk_drew ?_ | refine blk_alloc ?_ _)); exact BK157.out⟩, ⟨by repeat (first | (with_reducible first | exact HB.out | apply bal | apply bdN | apply bdr | refine bS ?_ GE156.out | refine bS ?_ GE157.out) | exact HB.out)⟩⟩
       ·replace c13 := Bool.eq_false_iff.mpr c13
        subst c13
        have H1 : (some false) = some r := by rw [if_neg (show ¬ (false = true) by decide)] at H; exact H
        clear H
        have H := H1
        clear H1
        obtain rfl := Option.some.inj H
        have hnb18 := NB156_157.out
        have hnc18 := NB157_156.out
        have hcz19_0 : wr.cell? ⟨gb156, 0, none⟩ = some (.slice A0_0 l0_0.length c0_0) := (bC BK156.out 0).trans rfl
        have hfz19_0 := bF BK156.out 0
        try go_wp2
        have n0_ := Az.mk (blk_drew BK156.out)
        have n1_ := Az.mk (blk_drew BK157.out)
        have n2_ := Az.mk (bdr HB.out)
        clear BK156
        clear BK157
        clear HB
        have BK156 := n0_
        have BK157 := n1_
        have HB := n2_
        clear n0_ n1_ n2_
        have p158 : 0 ≤ (x5_1 : Int) := of_decide_eq_true (by first | (with_reducible assumption) | assumption)
        have q158 : x5_1 < (l0_0.length : Int) := of_decide_eq_true (by first | (with_reducible assumption) | assumption)
        obtain ⟨ad158, A158_3, c158_3, A158_4, c158_4, A158_5, c158_5, A158_6, c158_6, e158, hx158_0, hx158_1, hx158_2, hx158_3, hx158_4, hx158_5, hx158_6, hl158_3, hi158_3, hl158_4, hi158_4, hl158_5, hi158_5, hl158_6, hi158_6⟩ := at_T79 HR0_0.out x5_1 p158 q158
        have hw158_6 := hx158_6
        have hw158_5 := hx158_5
        have hw158_4 := hx158_4
        have hw158_3 := hx158_3
        have hw158_2 := hx158_2
        have hw158_1 := hx158_1
        have hw158_0 := hx158_0
        cases e158
        replace hx158_0 := (HB.out.cell (World.block_lt_of_cell? w _ hx158_0)).trans hx158_0
        replace hx158_1 := (HB.out.cell (World.block_lt_of_cell? w _ hx158_1)).trans hx158_1
        replace hx158_2 := (HB.out.cell (World.block_lt_of_cell? w _ hx158_2)).trans hx158_2
        replace hx158_3 := (HB.out.cell (World.block_lt_of_cell? w _ hx158_3)).trans hx158_3
        replace hx158_4 := (HB.out.cell (World.block_lt_of_cell? w _ hx158_4)).trans hx158_4
        replace hx158_5 := (HB.out.cell (World.block_lt_of_cell? w _ hx158_5)).trans hx158_5
        replace hx158_6 := (HB.out.cell (World.block_lt_of_cell? w _ hx158_6)).trans hx158_6
        have HR158_3 := Az.mk hi158_3
        have HC158_3 := Az.mk hl158_3
        clear hi158_3 hl158_3
        have HR158_4 := Az.mk hi158_4
        have HC158_4 := Az.mk hl158_4
        clear hi158_4 hl158_4
        have HR158_5 := Az.mk hi158_5
        have HC158_5 := Az.mk hl158_5
        clear hi158_5 hl158_5
        have HR158_6 := Az.mk hi158_6
        have HC158_6 := Az.mk hl158_6
        clear hi158_6 hl158_6
        replace p158 := eq_true p158
        replace q158 := eq_true q158
        have p159 : 0 ≤ (x5_1 : Int) := of_decide_eq_true (by first | (with_reducible assumption) | assumption)
        have q159 : x5_1 < (l1_0.length : Int) := of_decide_eq_true (by first | (with_reducible assumption) | assumption)
        obtain ⟨ad159, A159_3, c159_3, A159_4, c159_4, A159_5, c159_5, A159_6, c159_6, e159, hx159_0, hx159_1, hx159_2, hx159_3, hx159_4, hx159_5, hx159_6, hl159_3, hi159_3, hl159_4, hi159_4, hl159_5, hi159_5, hl159_6, hi159_6⟩ := at_T79 HR1_0.out x5_1 p159 q159
        have hw159_6 := hx159_6
        have hw159_5 := hx159_5
        have hw159_4 := hx159_4
        have hw159_3 := hx159_3
        have hw159_2 := hx159_2
        have hw159_1 := hx159_1
        have hw159_0 := hx159_0
        cases e159
        replace hx159_0 := (HB.out.cell (World.block_lt_of_cell? w _ hx159_0)).trans hx159_0
        replace hx159_1 := (HB.out.cell (World.block_lt_of_cell? w _ hx159_1)).trans hx159_1
        replace hx159_2 := (HB.out.cell (World.block_lt_of_cell? w _ hx159_2)).trans hx159_2
        replace hx159_3 := (HB.out.cell (World.block_lt_of_cell? w _ hx159_3)).trans hx159_3
        replace hx159_4 := (HB.out.cell (World.block_lt_of_cell? w _ hx159_4)).trans hx159_4
        replace hx159_5 := (HB.out.cell (World.block_lt_of_cell? w _ hx159_5)).trans hx159_5
        replace hx159_6 := (HB.out.cell (World.block_lt_of_cell? w _ hx159_6)).trans hx159_6
        have HR159_3 := Az.mk hi159_3
        have HC159_3 := Az.mk hl159_3
        clear hi159_3 hl159_3
        have HR159_4 := Az.mk hi159_4
        have HC159_4 := Az.mk hl159_4
        clear hi159_4 hl159_4
        have HR159_5 := Az.mk hi159_5
        have HC159_5 := Az.mk hl159_5
        clear hi159_5 hl159_5
        have HR159_6 := Az.mk hi159_6
        have HC159_6 := Az.mk hl159_6
        clear hi159_6 hl159_6
        replace p159 := eq_true p159
        replace q159 := eq_true q159
        refine start_ (n := 12) (S := fun w' => w'.cell? ⟨gb156, 0, none⟩ = some (.slice (some ad158) l0_0.length c0_0) ∧ w'.cell? ⟨gb157, 0, none⟩ = some (.slice (some ad159) l1_0.length c1_0) ∧ w'.cell? (ad158.add ((x5_1).toNat * 7)) = some (.int .i64 ((rd_T79 l0_0 x5_1).f0)) ∧ w'.cell? ⟨(ad158.add ((x5_1).toNat * 7)).block, (ad158.add ((x5_1).toNat * 7)).off + 1, none⟩ = some (.string ((rd_T79 l0_0 x5_1).f1)) ∧ w'.cell? ⟨(ad158.add ((x5_1).toNat * 7)).block, (ad158.add ((x5_1).toNat * 7)).off + 2, none⟩ = some (.int .i64 ((rd_T79 l0_0 x5_1).f2)) ∧ w'.cell? ⟨(ad158.add ((x5_1).toNat * 7)).block, (ad158.add ((x5_1).toNat * 7)).off + 3, none⟩ = some (.slice A158_3 ((rd_T79 l0_0 x5_1).f3).length c158_3) ∧ w'.cell? ⟨(ad158.add ((x5_1).toNat * 7)).block, (ad158.add ((x5_1).toNat * 7)).off + 4, none⟩ = some (.slice A158_4 ((rd_T79 l0_0 x5_1).f4).length c158_4) ∧ w'.cell? ⟨(ad158.add ((x5_1).toNat * 7)).block, (ad158.add ((x5_1).toNat * 7)).off + 5, none⟩ = some (.slice A158_5 ((rd_T79 l0_0 x5_1).f5).length c158_5) ∧ w'.cell? ⟨(ad158.add ((x5_1).toNat * 7)).block, (ad158.add ((x5_1).toNat * 7)).off + 6, none⟩ = some (.slice A158_6 ((rd_T79 l0_0 x5_1).f6).length c158_6) ∧ w'.cell? (ad159.add ((x5_1).toNat * 7)) = some (.int .i64 ((rd_T79 l1_0 x5_1).f0)) ∧ w'.cell? ⟨(ad159.add ((x5_1).toNat * 7)).block, (ad159.add ((x5_1).toNat * 7)).off + 1, none⟩ = some (.string ((rd_T79 l1_0 x5_1).f1)) ∧ w'.cell? ⟨(ad159.add ((x5_1).toNat * 7)).block, (ad159.add ((x5_1).toNat * 7)).off + 2, none⟩ = some (.int .i64 ((rd_T79 l1_0 x5_1).f2)) ∧ w'.cell? ⟨(ad159.add ((x5_1).toNat * 7)).block, (ad159.add ((x5_1).toNat * 7)).off + 3, none⟩ = some (.slice A159_3 ((rd_T79 l1_0 x5_1).f3).length c159_3) ∧ w'.cell? ⟨(ad159.add ((x5_1).toNat * 7)).block, (ad159.add ((x5_1).toNat * 7)).off + 4, none⟩ = some (.slice A159_4 ((rd_T79 l1_0 x5_1).f4).length c159_4) ∧ w'.cell? ⟨(ad159.add ((x5_1).toNat * 7)).block, (ad159.add ((x5_1).toNat * 7)).off + 5, none⟩ = some (.slice A159_5 ((rd_T79 l1_0 x5_1).f5).length c159_5) ∧ w'.cell? ⟨(ad159.add ((x5_1).toNat * 7)).block, (ad159.add ((x5_1).toNat * 7)).off + 6, none⟩ = some (.slice A159_6 ((rd_T79 l1_0 x5_1).f6).length c159_6)) (ds := []) #[false, false, false, false, false, false, false, false, false, false, false, false] (by kernel_rfl) rfl rfl ⟨(bC BK156.out 0).trans rfl, (bC BK157.out 0).trans rfl, ((HB.out.cell (World.block_lt_of_cell? w _ hw158_0)).trans hw158_0), ((HB.out.cell (World.block_lt_of_cell? w _ hw158_1)).trans hw158_1), ((HB.out.cell (World.block_lt_of_cell? w _ hw158_2)).trans hw158_2), ((HB.out.cell (World.block_lt_of_cell? w _ hw158_3)).trans hw158_3), ((HB.out.cell (World.block_lt_of_cell? w _ hw158_4)).trans hw158_4), ((HB.out.cell (World.block_lt_of_cell? w _ hw158_5)).trans hw158_5), ((HB.out.cell (World.block_lt_of_cell? w _ hw158_6)).trans hw158_6), ((HB.out.cell (World.block_lt_of_cell? w _ hw159_0)).trans hw159_0), ((HB.out.cell (World.block_lt_of_cell? w _ hw159_1)).trans hw159_1), ((HB.out.cell (World.block_lt_of_cell? w _ hw159_2)).trans hw159_2), ((HB.out.cell (World.block_lt_of_cell? w _ hw159_3)).trans hw159_3), ((HB.out.cell (World.block_lt_of_cell? w _ hw159_4)).trans hw159_4), ((HB.out.cell (World.block_lt_of_cell? w _ hw159_5)).trans hw159_5), ((HB.out.cell (World.block_lt_of_cell? w _ hw159_6)).trans hw159_6)⟩ (fun hHeld => ?_); refine with_tabW spec_SameHeap.tab6 spec_SameHeap.bits6 (fun HT_ HW_ => ?_)
        generalize wr.drew = w20 at BK156 BK157 HB HR158_3 HR158_4 HR158_5 HR158_6 HR159_3 HR159_4 HR159_5 HR159_6 hx158_0 hx158_1 hx158_2 hx158_3 hx158_4 hx158_5 hx158_6 hx159_0 hx159_1 hx159_2 hx159_3 hx159_4 hx159_5 hx159_6 hHeld ⊢
        refine pure_ (i := 0) (N := some 20) (v := ?_) (a' := ?_) #[true, false, false, false, false, false, false, false, false, false, false, false] rfl rfl (any_of HT_.out (by kernel_rfl)) (fun _ _ _ h => h) (Or.inl ⟨by rfl, ?_⟩) ?_ ?_
        rotate_left
        ·intro w'
         go_simp
         with_reducible rfl
        rotate_left
        ·simp only [Act.put, List.setIfInBounds_toArray, List.set_cons_zero, List.set_cons_succ, i64_w, i32_w]
         rfl
        refine pure_ (i := 2) (N := some 22) (v := ?_) (a' := ?_) #[true, false, true, false, false, false, false, false, false, false, false, false] rfl rfl (any_of HT_.out (by kernel_rfl)) (fun _ _ _ h => h) (Or.inl ⟨by rfl, ?_⟩) ?_ ?_
        rotate_left
        ·intro w'
         go_simp
         with_reducible rfl
        rotate_left
        ·simp only [Act.put, List.setIfInBounds_toArray, List.set_cons_zero, List.set_cons_succ, i64_w, i32_w]
         rfl
        refine pure_ (i := 5) (N := some 25) (v := ?_) (a' := ?_) #[true, false, true, false, false, true, false, false, false, false, false, false] rfl rfl (any_of HT_.out (by kernel_rfl)) (fun _ _ _ h => h) (Or.inl ⟨by rfl, ?_⟩) ?_ ?_
        rotate_left
        ·intro w'
         go_simp
         with_reducible rfl
        rotate_left
        ·simp only [Act.put, List.setIfInBounds_toArray, List.set_cons_zero, List.set_cons_succ, i64_w, i32_w]
         rfl
        refine pure_ (i := 7) (N := some 27) (v := ?_) (a' := ?_) #[true, false, true, false, false, true, false, true, false, false, false, false] rfl rfl (any_of HT_.out (by kernel_rfl)) (fun _ _ _ h => h) (Or.inl ⟨by rfl, ?_⟩) ?_ ?_
        rotate_left
        ·intro w'
         go_simp
         with_reducible rfl
        rotate_left
        ·simp only [Act.put, List.setIfInBounds_toArray, List.set_cons_zero, List.set_cons_succ, i64_w, i32_w]
         rfl
        refine take_ (i := 1) (N := some 21) (v := ?_) (a' := ?_) #[true, true, true, false, false, true, false, true, false, false, false, false] rfl rfl (take_ofW HT_.out HW_.out (by kernel_rfl)) (fun _ _ _ h => h) (Or.inl ⟨by rfl, ?_⟩) hHeld ?_ ?_
        rotate_left
        ·rintro w' ⟨s0, s1, s2, s3, s4, s5, s6, s7, s8, s9, s10, s11, s12, s13, s14, s15⟩
         go_simp
         with_reducible rfl
        rotate_left
        ·simp only [Act.put, List.setIfInBounds_toArray, List.set_cons_zero, List.set_cons_succ, i64_w, i32_w]
         rfl
        refine pure_ (i := 3) (N := some 23) (v := ?_) (a' := ?_) #[true, true, true, true, false, true, false, true, false, false, false, false] rfl rfl (any_of HT_.out (by kernel_rfl)) (fun _ _ _ h => h) (Or.inl ⟨by rfl, ?_⟩) ?_ ?_
        rotate_left
        ·intro w'
         go_simp
         with_reducible rfl
        rotate_left
        ·simp only [Act.put, List.setIfInBounds_toArray, List.set_cons_zero, List.set_cons_succ, i64_w, i32_w]
         rfl
        refine take_ (i := 4) (N := some 24) (v := ?_) (a' := ?_) #[true, true, true, true, true, true, false, true, false, false, false, false] rfl rfl (take_ofW HT_.out HW_.out (by kernel_rfl)) (fun _ _ _ h => h) (Or.inl ⟨by rfl, ?_⟩) hHeld ?_ ?_
        rotate_left
        ·rintro w' ⟨s0, s1, s2, s3, s4, s5, s6, s7, s8, s9, s10, s11, s12, s13, s14, s15⟩
         go_simp
         with_reducible rfl
        rotate_left
        ·simp only [Act.put, List.setIfInBounds_toArray, List.set_cons_zero, List.set_cons_succ, i64_w, i32_w]
         rfl
        refine take_ (i := 6) (N := some 26) (v := ?_) (a' := ?_) #[true, true, true, true, true, true, true, true, false, false, false, false] rfl rfl (take_ofW HT_.out HW_.out (by kernel_rfl)) (fun _ _ _ h => h) (Or.inl ⟨by rfl, ?_⟩) hHeld ?_ ?_
        rotate_left
        ·rintro w' ⟨s0, s1, s2, s3, s4, s5, s6, s7, s8, s9, s10, s11, s12, s13, s14, s15⟩
         go_simp
         with_reducible rfl
        rotate_left
        ·simp only [Act.put, List.setIfInBounds_toArray, List.set_cons_zero, List.set_cons_succ, i64_w, i32_w]
         rfl
        refine pure_ (i := 8) (N := some 28) (v := ?_) (a' := ?_) #[true, true, true, true, true, true, true, true, true, false, false, false] rfl rfl (any_of HT_.out (by kernel_rfl)) (fun _ _ _ h => h) (Or.inl ⟨by rfl, ?_⟩) ?_ ?_
        rotate_left
        ·intro w'
         go_simp
         with_reducible rfl
        rotate_left
        ·simp only [Act.put, List.setIfInBounds_toArray, List.set_cons_zero, List.set_cons_succ, i64_w, i32_w]
         rfl
        refine take_ (i := 9) (N := some 29) (v := ?_) (a' := ?_) #[true, true, true, true, true, true, true, true, true, true, false, false] rfl rfl (take_ofW HT_.out HW_.out (by kernel_rfl)) (fun _ _ _ h => h) (Or.inl ⟨by rfl, ?_⟩) hHeld ?_ ?_
        rotate_left
        ·rintro w' ⟨s0, s1, s2, s3, s4, s5, s6, s7, s8, s9, s10, s11, s12, s13, s14, s15⟩
         go_simp
         with_reducible rfl
        rotate_left
        ·simp only [Act.put, List.setIfInBounds_toArray, List.set_cons_zero, List.set_cons_succ, i64_w, i32_w]
         rfl
        refine one_ (i := 10) (N := some 30) #[true, true, true, true, true, true, true, true, true, true, true, false] rfl rfl (one_of HT_.out (by kernel_rfl)) (by decide) (fun K hK => ?_)
        refine goes_ Try.func47 (by kernel_rfl) rfl #[.agg #[.int .i64 ((rd_T79 l0_0 x5_1).f0), .string ((rd_T79 l0_0 x5_1).f1), .int .i64 ((rd_T79 l0_0 x5_1).f2), .slice A158_3 ((rd_T79 l0_0 x5_1).f3).length c158_3, .slice A158_4 ((rd_T79 l0_0 x5_1).f4).length c158_4, .slice A158_5 ((rd_T79 l0_0 x5_1).f5).length c158_5, .slice A158_6 ((rd_T79 l0_0 x5_1).f6).length c158_6], .agg #[.int .i64 ((rd_T79 l1_0 x5_1).f0), .string ((rd_T79 l1_0 x5_1).f1), .int .i64 ((rd_T79 l1_0 x5_1).f2), .slice A159_3 ((rd_T79 l1_0 x5_1).f3).length c159_3, .slice A159_4 ((rd_T79 l1_0 x5_1).f4).length c159_4, .slice A159_5 ((rd_T79 l1_0 x5_1).f5).length c159_5, .slice A159_6 ((rd_T79 l1_0 x5_1).f6).length c159_6]] (by rfl) rfl rfl (by (try simp only [List.map_toArray, List.map_cons, List.map_nil]); first | done | rfl | (simp only [List.length_drop, List.length_take]; rfl)) ?_
        with_reducible refine (spec_SameObject.calls k1 ((rd_T79 l0_0 x5_1).f0) ((rd_T79 l0_0 x5_1).f1) ((rd_T79 l0_0 x5_1).f2) _ _ ((rd_T79 l0_0 x5_1).f3) _ _ ((rd_T79 l0_0 x5_1).f4) _ _ ((rd_T79 l0_0 x5_1).f5) _ _ ((rd_T79 l0_0 x5_1).f6) ((rd_T79 l1_0 x5_1).f0) ((rd_T79 l1_0 x5_1).f1) ((rd_T79 l1_0 x5_1).f2) _ _ ((rd_T79 l1_0 x5_1).f3) _ _ ((rd_T79 l1_0 x5_1).f4) _ _ ((rd_T79 l1_0 x5_1).f5) _ _ ((rd_T79 l1_0 x5_1).f6) false _ ?side1 ?side2 ?side3 ?side4 ?side5 ?side6 ?side7 ?side8 ?side9 ?side10 ?side11 ?side12 ?side13 ?side14 ?side15 ?side16 A12.out).mono ?_
        (case side1 => repeat (first | exact (Kd.C_below HR158_3.out HB.out) | (with_reducible refine Kd.C_alloc ?_ _) | (with_reducible refine Kd.C_drewN ?_ _) | (with_reducible refine Kd.C_drew ?_)))
        (case side2 => exact HC158_3.out)
        (case side3 => repeat (first | exact (Kd.C_below HR158_4.out HB.out) | (with_reducible refine Kd.C_alloc ?_ _) | (with_reducible refine Kd.C_drewN ?_ _) | (with_reducible refine Kd.C_drew ?_)))
        (case side4 => exact HC158_4.out)
        (case side5 => repeat (first | exact (Kd.C_below HR158_5.out HB.out) | (with_reducible refine Kd.C_alloc ?_ _) | (with_reducible refine Kd.C_drewN ?_ _) | (with_reducible refine Kd.C_drew ?_)))
        (case side6 => exact HC158_5.out)
        (case side7 => repeat (first | exact (Kd.C_below HR158_6.out HB.out) | (with_reducible refine Kd.C_alloc ?_ _) | (with_reducible refine Kd.C_drewN ?_ _) | (with_reducible refine Kd.C_drew ?_)))
        (case side8 => exact HC158_6.out)
        (case side9 => repeat (first | exact (Kd.C_below HR159_3.out HB.out) | (with_reducible refine Kd.C_alloc ?_ _) | (with_reducible refine Kd.C_drewN ?_ _) | (with_reducible refine Kd.C_drew ?_)))
        (case side10 => exact HC159_3.out)
        (case side11 => repeat (first | exact (Kd.C_below HR159_4.out HB.out) | (with_reducible refine Kd.C_alloc ?_ _) | (with_reducible refine Kd.C_drewN ?_ _) | (with_reducible refine Kd.C_drew ?_)))
        (case side12 => exact HC159_4.out)
        (case side13 => repeat (first | exact (Kd.C_below HR159_5.out HB.out) | (with_reducible refine Kd.C_alloc ?_ _) | (with_reducible refine Kd.C_drewN ?_ _) | (with_reducible refine Kd.C_drew ?_)))
        (case side14 => exact HC159_5.out)
        (case side15 => repeat (first | exact (Kd.C_below HR159_6.out HB.out) | (with_reducible refine Kd.C_alloc ?_ _) | (with_reducible refine Kd.C_drewN ?_ _) | (with_reducible refine Kd.C_drew ?_)))
        (case side16 => exact HC159_6.out)
        rintro e w21 ⟨rfl, hb⟩
        refine ⟨_, rfl, ?_⟩
        have n0_ := Az.mk (blk_below (g := gb156) (o := .cells #[.slice (some ad158) l0_0.length c0_0] 25 (0, 0)) (by (with_reducible repeat (first | refine blk_drewN ?_ _ | refine blk_drew ?_ | refine blk_alloc ?_ _)); exact BK156.out) hb)
        have n1_ := Az.mk (blk_below (g := gb157) (o := .cells #[.slice (some ad159) l1_0.length c1_0] 25 (0, 0)) (by (with_reducible repeat (first | refine blk_drewN ?_ _ | refine blk_drew ?_ | refine blk_alloc ?_ _)); exact BK157.out) hb)
        have n2_ := Az.mk (below_step (by repeat (first | (with_reducible first | exact HB.out | apply bal | apply bdN | apply bdr | refine bS ?_ GE156.out | refine bS ?_ GE157.out) | exact HB.out)) hb)
        clear BK156
        clear BK157
        clear HB
        have BK156 := n0_
        have BK157 := n1_
        have HB := n2_
        clear n0_ n1_ n2_
        (try clear hb)
        (try clear hb2)
        (try clear hk)
        (try clear hi)
        refine hK.out _ _ ⟨(bC BK156.out 0).trans rfl, (bC BK157.out 0).trans rfl, ((HB.out.cell (World.block_lt_of_cell? w _ hw158_0)).trans hw158_0), ((HB.out.cell (World.block_lt_of_cell? w _ hw158_1)).trans hw158_1), ((HB.out.cell (World.block_lt_of_cell? w _ hw158_2)).trans hw158_2), ((HB.out.cell (World.block_lt_of_cell? w _ hw158_3)).trans hw158_3), ((HB.out.cell (World.block_lt_of_cell? w _ hw158_4)).trans hw158_4), ((HB.out.cell (World.block_lt_of_cell? w _ hw158_5)).trans hw158_5), ((HB.out.cell (World.block_lt_of_cell? w _ hw158_6)).trans hw158_6), ((HB.out.cell (World.block_lt_of_cell? w _ hw159_0)).trans hw159_0), ((HB.out.cell (World.block_lt_of_cell? w _ hw159_1)).trans hw159_1), ((HB.out.cell (World.block_lt_of_cell? w _ hw159_2)).trans hw159_2), ((HB.out.cell (World.block_lt_of_cell? w _ hw159_3)).trans hw159_3), ((HB.out.cell (World.block_lt_of_cell? w _ hw159_4)).trans hw159_4), ((HB.out.cell (World.block_lt_of_cell? w _ hw159_5)).trans hw159_5), ((HB.out.cell (World.block_lt_of_cell? w _ hw159_6)).trans hw159_6)⟩ (fun hHeld => ?_)
        clear hK K
        refine norm_ (a' := ?_) ?_ ?_
        rotate_left
        ·show Act.put _ (some 30) _ = _
         simp only [Act.put, List.setIfInBounds_toArray, List.set_cons_zero, List.set_cons_succ, i64_w, i32_w]
         rfl
        refine pure_ (i := 11) (N := some 31) (v := ?_) (a' := ?_) #[true, true, true, true, true, true, true, true, true, true, true, true] rfl rfl (any_of HT_.out (by kernel_rfl)) (fun _ _ _ h => h) (Or.inl ⟨by rfl, ?_⟩) ?_ ?_
        rotate_left
        ·intro w'
         go_simp
         with_reducible rfl
        rotate_left
        ·simp only [Act.put, List.setIfInBounds_toArray, List.set_cons_zero, List.set_cons_succ, i64_w, i32_w]
         rfl
        refine done_ (done_of HT_.out (by kernel_rfl)) ?_
        try go_wp2
        go_ret
        exact ⟨by first | rfl | (simp [errW_none, errW_some] <;> rfl) | (simp [*, errW_none, errW_some] <;> rfl), by repeat (first | (with_reducible first | exact HB.out | apply bal | apply bdN | apply bdr | refine bS ?_ GE156.out | refine bS ?_ GE157.out) | exact HB.out)⟩
      ·rw [if_neg c11] at H
       exact absurd H (by simp)
     ·rw [if_neg c10] at H
      exact absurd H (by simp)
    ·rw [if_neg c9] at H
     have c9b0 : decide (x5_1 < (l0_0.length : Int)) = false := decide_eq_false c9
     clear c9
     obtain rfl := Option.some.inj H
     have hnb22 := NB156_157.out
     have hnc22 := NB157_156.out
     have hcz23_0 : wr.cell? ⟨gb156, 0, none⟩ = some (.slice A0_0 l0_0.length c0_0) := (bC BK156.out 0).trans rfl
     have hfz23_0 := bF BK156.out 0
     go_wp2
     go_ret
     exact ⟨by first | rfl | (simp [errW_none, errW_some] <;> rfl) | (simp [*, errW_none, errW_some] <;> rfl), by repeat (first | (with_reducible first | exact HB.out | apply bal | apply bdN | apply bdr | refine bS ?_ GE156.out | refine bS ?_ GE157.out) | exact HB.out)⟩
 ·rw [if_neg c3] at H
  have c3b0 : ((l0_0.length : Int) == (l1_0.length : Int)) = false := beq_eq_false_iff_ne.mpr c3
  have c3b1 : ((l0_0.length : Int) != (l1_0.length : Int)) = true := bne_iff_ne.mpr c3
  have c3b2 : (l0_0.length == l1_0.length) = false := by first | simpa using c3 | (simp at c3 ⊢; omega)
  obtain rfl := Option.some.inj H
  go_enter Try.func10, Try.ntmps10
  go_wp2_with (first | ((with_reducible refine gate_dst (N := 2) rfl ?_); refine box_event ?hg (N := 2) ?hd (cs := #[.slice A0_0 l0_0.length c0_0]) (t := 25) ?hr ?_; (case hd => rfl); (case hg => rfl); (case hr => first | (go_simp; done) | (go_simp; rfl)); intro gb156 hg w24 hbox hb; have n0_ := Az.mk (below_step (by repeat (first | (with_reducible first | exact HB.out | apply bal | apply bdN | apply bdr) | exact HB.out)) hb); have n1_ := Az.mk (hbox); have n2_ := Az.mk ((by rw [hg]; exact (below_size (by repeat (first | (with_reducible first | exact HB.out | apply bal | apply bdN | apply bdr) | exact HB.out))) : w.heap.size ≤ gb156)); have n3_ := Az.mk ((by rw [hg]; exact (below_size (by repeat (first | (with_reducible first | exact HB.out | apply bal | apply bdN | apply bdr) | exact HB.out))) : w.heap.size ≤ gb156)); clear HB; have HB := n0_; have BK156 := n1_; have GW156 := n2_; have GE156 := n3_; clear n0_ n1_ n2_ n3_; clear hb hbox hg) | ((with_reducible refine gate_dst (N := 3) rfl ?_); refine box_event ?hg (N := 3) ?hd (cs := #[.slice A1_0 l1_0.length c1_0]) (t := 25) ?hr ?_; (case hd => rfl); (case hg => rfl); (case hr => first | (go_simp; done) | (go_simp; rfl)); intro gb157 hg w25 hbox hb; have n0_ := Az.mk (blk_below (g := gb156) (o := .cells #[.slice A0_0 l0_0.length c0_0] 25 (0, 0)) (by (with_reducible repeat (first | refine blk_drewN ?_ _ | refine blk_drew ?_ | refine blk_alloc ?_ _)); exact BK156.out) hb); have n1_ := Az.mk (below_step (by repeat (first | (with_reducible first | exact HB.out | apply bal | apply bdN | apply bdr | refine bS ?_ GE156.out) | exact HB.out)) hb); have n2_ := Az.mk (hbox); have n3_ := Az.mk ((by rw [hg]; exact (below_size (by repeat (first | (with_reducible first | exact HB.out | apply bal | apply bdN | apply bdr | refine bS ?_ GE156.out) | exact HB.out))) : w.heap.size ≤ gb157)); have n4_ := Az.mk ((by rw [hg]; exact (below_size (by repeat (first | (with_reducible first | exact HB.out | apply bal | apply bdN | apply bdr | refine bS ?_ GE156.out) | exact HB.out))) : w.heap.size ≤ gb157)); have n5_ := Az.mk ((by rw [hg]; exact Nat.ne_of_lt (blk_lt (g := gb156) (o := .cells #[.slice A0_0 l0_0.length c0_0] 25 (0, 0)) (by (with_reducible repeat (first | refine blk_drewN ?_ _ | refine blk_drew ?_ | refine blk_alloc ?_ _)); exact BK156.out)) : gb156 ≠ gb157)); have n6_ := Az.mk ((by rw [hg]; exact Nat.ne_of_gt (blk_lt (g := gb156) (o := .cells #[.slice A0_0 l0_0.length c0_0] 25 (0, 0)) (by (with_reducible repeat (first | refine blk_drewN ?_ _ | refine blk_drew ?_ | refine blk_alloc ?_ _)); exact BK156.out)) : gb157 ≠ gb156)); clear BK156; clear HB; have BK156 := n0_; have HB := n1_; have BK157 := n2_; have GW157 := n3_; have GE157 := n4_; have NB156_157 := n5_; have NB157_156 := n6_; clear n0_ n1_ n2_ n3_ n4_ n5_ n6_; clear hb hbox hg; have hnb26 := NB156_157.out; have hnc26 := NB157_156.out; have hcz27_0 : w25.cell? ⟨gb156, 0, none⟩ = some (.slice A0_0 l0_0.length c0_0) := (bC BK156.out 0).trans rfl; have hfz27_0 := bF BK156.out 0; have hcz28_0 : w25.cell? ⟨gb157, 0, none⟩ = some (.slice A1_0 l1_0.length c1_0) := (bC BK157.out 0).trans rfl; have hfz28_0 := bF BK157.out 0))
  go_ret
  exact ⟨by first | rfl | (simp [errW_none, errW_some] <;> rfl) | (simp [*, errW_none, errW_some] <;> rfl), by repeat (first | (with_reducible first | exact HB.out | apply bal | apply bdN | apply bdr | refine bS ?_ GE156.out | refine bS ?_ GE157.out) | exact HB.out)⟩
end Go.Proofs.Ytehhhlhedmfdiaa.PFnHeapNewShows
end
section
namespace Go.Proofs.Ytehhhlhedmfdiaa.PFnHeapNewShows
open Go.RowKit Go.Proofs.Yz0.PrintWords Go.Proofs.Yz0.PrintLast Go.Proofs.Yz0.PrintMore
attribute [local go_sem] max2_int min2_int max_two min_two max_three min_three max_four min_four
set_option linter.unusedVariables false
set_option linter.unusedSimpArgs false
def spec_errorNames.f  : Option (List ByteArray) := some (([(⟨#[69, 114, 114, 111, 114]⟩ : ByteArray), (⟨#[84, 121, 112, 101, 69, 114, 114, 111, 114]⟩ : ByteArray), (⟨#[78, 97, 109, 101, 69, 114, 114, 111, 114]⟩ : ByteArray), (⟨#[86, 97, 108, 117, 101, 69, 114, 114, 111, 114]⟩ : ByteArray), (⟨#[73, 110, 100, 101, 120, 69, 114, 114, 111, 114]⟩ : ByteArray), (⟨#[75, 101, 121, 69, 114, 114, 111, 114]⟩ : ByteArray), (⟨#[90, 101, 114, 111, 69, 114, 114, 111, 114]⟩ : ByteArray), (⟨#[65, 116, 116, 114, 69, 114, 114, 111, 114]⟩ : ByteArray), (⟨#[83, 105, 122, 101, 69, 114, 114, 111, 114]⟩ : ByteArray), (⟨#[83, 116, 111, 112, 69, 114, 114, 111, 114]⟩ : ByteArray), (⟨#[82, 117, 110, 69, 114, 114, 111, 114]⟩ : ByteArray), (⟨#[73, 109, 112, 111, 114, 116, 69, 114, 114, 111, 114]⟩ : ByteArray), (⟨#[65, 115, 115, 101, 114, 116, 69, 114, 114, 111, 114]⟩ : ByteArray)] : List ByteArray))
theorem spec_errorNames.calls  (r : List ByteArray) (w : World) (h : spec_errorNames.f  = some r) :
  Calls Try.prog 88 #[] w fun e w' => ∃ v0_ : Value, e = .returned (v0_) ∧ Kd.R Kd.string 9 w' w.heap.size (fun _ => True) v0_ r ∧ Below w.heap.size w w' := by
 have HB := Az.mk (Below.refl w.heap.size w)
 have H : (some (([(⟨#[69, 114, 114, 111, 114]⟩ : ByteArray), (⟨#[84, 121, 112, 101, 69, 114, 114, 111, 114]⟩ : ByteArray), (⟨#[78, 97, 109, 101, 69, 114, 114, 111, 114]⟩ : ByteArray), (⟨#[86, 97, 108, 117, 101, 69, 114, 114, 111, 114]⟩ : ByteArray), (⟨#[73, 110, 100, 101, 120, 69, 114, 114, 111, 114]⟩ : ByteArray), (⟨#[75, 101, 121, 69, 114, 114, 111, 114]⟩ : ByteArray), (⟨#[90, 101, 114, 111, 69, 114, 114, 111, 114]⟩ : ByteArray), (⟨#[65, 116, 116, 114, 69, 114, 114, 111, 114]⟩ : ByteArray), (⟨#[83, 105, 122, 101, 69, 114, 114, 111, 114]⟩ : ByteArray), (⟨#[83, 116, 111, 112, 69, 114, 114, 111, 114]⟩ : ByteArray), (⟨#[82, 117, 110, 69, 114, 114, 111, 114]⟩ : ByteArray), (⟨#[73, 109, 112, 111, 114, 116, 69, 114, 114, 111, 114]⟩ : ByteArray), (⟨#[65, 115, 115, 101, 114, 116, 69, 114, 114, 111, 114]⟩ : ByteArray)] : List ByteArray))) = some r := h
 clear h
 obtain ⟨y161, hy161⟩ : ∃ y_ : List ByteArray, y_ = (([(⟨#[69, 114, 114, 111, 114]⟩ : ByteArray), (⟨#[84, 121, 112, 101, 69, 114, 114, 111, 114]⟩ : ByteArray), (⟨#[78, 97, 109, 101, 69, 114, 114, 111, 114]⟩ : ByteArray), (⟨#[86, 97, 108, 117, 101, 69, 114, 114, 111, 114]⟩ : ByteArray), (⟨#[73, 110, 100, 101, 120, 69, 114, 114, 111, 114]⟩ : ByteArray), (⟨#[75, 101, 121, 69, 114, 114, 111, 114]⟩ : ByteArray), (⟨#[90, 101, 114, 111, 69, 114, 114, 111, 114]⟩ : ByteArray), (⟨#[65, 116, 116, 114, 69, 114, 114, 111, 114]⟩ : ByteArray), (⟨#[83, 105, 122, 101, 69, 114, 114, 111, 114]⟩ : ByteArray), (⟨#[83, 116, 111, 112, 69, 114, 114, 111, 114]⟩ : ByteArray), (⟨#[82, 117, 110, 69, 114, 114, 111, 114]⟩ : ByteArray), (⟨#[73, 109, 112, 111, 114, 116, 69, 114, 114, 111, 114]⟩ : ByteArray), (⟨#[65, 115, 115, 101, 114, 116, 69, 114, 114, 111, 114]⟩ : ByteArray)] : List ByteArray)) := ⟨_, rfl⟩
 replace H : (some y161) = some r := by first | (rw [hy161]; with_reducible exact H) | (have H2_ := (Option.bind_some _ _).symm.trans H; rw [hy161]; with_reducible exact H2_) | (have H2_ := (Option.bind_some _ _).symm.trans H; with_reducible exact H2_) | with_reducible exact H | (rw [hy161]; exact H) | exact H
 have Ny161 := Az.mk hy161
 clear hy161
 obtain rfl := Option.some.inj H
 go_enter Try.func88, Try.ntmps88
 go_wp2_with (first | ((with_reducible refine gate_dst (N := 1) rfl ?_); refine Kd.R_lit Kd.string _ 9 ?hg (N := 1) ?hd (xs := ([(⟨#[69, 114, 114, 111, 114]⟩ : ByteArray), (⟨#[84, 121, 112, 101, 69, 114, 114, 111, 114]⟩ : ByteArray), (⟨#[78, 97, 109, 101, 69, 114, 114, 111, 114]⟩ : ByteArray), (⟨#[86, 97, 108, 117, 101, 69, 114, 114, 111, 114]⟩ : ByteArray), (⟨#[73, 110, 100, 101, 120, 69, 114, 114, 111, 114]⟩ : ByteArray), (⟨#[75, 101, 121, 69, 114, 114, 111, 114]⟩ : ByteArray), (⟨#[90, 101, 114, 111, 69, 114, 114, 111, 114]⟩ : ByteArray), (⟨#[65, 116, 116, 114, 69, 114, 114, 111, 114]⟩ : ByteArray), (⟨#[83, 105, 122, 101, 69, 114, 114, 111, 114]⟩ : ByteArray), (⟨#[83, 116, 111, 112, 69, 114, 114, 111, 114]⟩ : ByteArray), (⟨#[82, 117, 110, 69, 114, 114, 111, 114]⟩ : ByteArray), (⟨#[73, 109, 112, 111, 114, 116, 69, 114, 114, 111, 114]⟩ : ByteArray), (⟨#[65, 115, 115, 101, 114, 116, 69, 114, 114, 111, 114]⟩ : ByteArray)] : List ByteArray)) (inner := [.string (⟨#[69, 114, 114, 111, 114]⟩ : ByteArray), .string (⟨#[84, 121, 112, 101, 69, 114, 114, 111, 114]⟩ : ByteArray), .string (⟨#[78, 97, 109, 101, 69, 114, 114, 111, 114]⟩ : ByteArray), .string (⟨#[86, 97, 108, 117, 101, 69, 114, 114, 111, 114]⟩ : ByteArray), .string (⟨#[73, 110, 100, 101, 120, 69, 114, 114, 111, 114]⟩ : ByteArray), .string (⟨#[75, 101, 121, 69, 114, 114, 111, 114]⟩ : ByteArray), .string (⟨#[90, 101, 114, 111, 69, 114, 114, 111, 114]⟩ : ByteArray), .string (⟨#[65, 116, 116, 114, 69, 114, 114, 111, 114]⟩ : ByteArray), .string (⟨#[83, 105, 122, 101, 69, 114, 114, 111, 114]⟩ : ByteArray), .string (⟨#[83, 116, 111, 112, 69, 114, 114, 111, 114]⟩ : ByteArray), .string (⟨#[82, 117, 110, 69, 114, 114, 111, 114]⟩ : ByteArray), .string (⟨#[73, 109, 112, 111, 114, 116, 69, 114, 114, 111, 114]⟩ : ByteArray), .string (⟨#[65, 115, 115, 101, 114, 116, 69, 114, 114, 111, 114]⟩ : ByteArray)]) (ok := fun _ => True) (okp := fun _ => True) ?hr ?hp (fun _ hk => hk) trivial (Below.refl _ _) (Nat.le_refl _) (by simp) ?_; (case hd => rfl); (case hg => rfl); (case hr => first | (go_simp; done) | (go_simp; rfl)); (case hp => exact (Reps.one (show Kd.M Kd.string _ _ _ (⟨#[69, 114, 114, 111, 114]⟩ : ByteArray) [.string (⟨#[69, 114, 114, 111, 114]⟩ : ByteArray)] from rfl) (Reps.one (show Kd.M Kd.string _ _ _ (⟨#[84, 121, 112, 101, 69, 114, 114, 111, 114]⟩ : ByteArray) [.string (⟨#[84, 121, 112, 101, 69, 114, 114, 111, 114]⟩ : ByteArray)] from rfl) (Reps.one (show Kd.M Kd.string _ _ _ (⟨#[78, 97, 109, 101, 69, 114, 114, 111, 114]⟩ : ByteArray) [.string (⟨#[78, 97, 109, 101, 69, 114, 114, 111, 114]⟩ : ByteArray)] from rfl) (Reps.one (show Kd.M Kd.string _ _ _ (⟨#[86, 97, 108, 117, 101, 69, 114, 114, 111, 114]⟩ : ByteArray) [.string (⟨#[86, 97, 108, 117, 101, 69, 114, 114, 111, 114]⟩ : ByteArray)] from rfl) (Reps.one (show Kd.M Kd.string _ _ _ (⟨#[73, 110, 100, 101, 120, 69, 114, 114, 111, 114]⟩ : ByteArray) [.string (⟨#[73, 110, 100, 101, 120, 69, 114, 114, 111, 114]⟩ : ByteArray)] from rfl) (Reps.one (show Kd.M Kd.string _ _ _ (⟨#[75, 101, 121, 69, 114, 114, 111, 114]⟩ : ByteArray) [.string (⟨#[75, 101, 121, 69, 114, 114, 111, 114]⟩ : ByteArray)] from rfl) (Reps.one (show Kd.M Kd.string _ _ _ (⟨#[90, 101, 114, 111, 69, 114, 114, 111, 114]⟩ : ByteArray) [.string (⟨#[90, 101, 114, 111, 69, 114, 114, 111, 114]⟩ : ByteArray)] from rfl) (Reps.one (show Kd.M Kd.string _ _ _ (⟨#[65, 116, 116, 114, 69, 114, 114, 111, 114]⟩ : ByteArray) [.string (⟨#[65, 116, 116, 114, 69, 114, 114, 111, 114]⟩ : ByteArray)] from rfl) (Reps.one (show Kd.M Kd.string _ _ _ (⟨#[83, 105, 122, 101, 69, 114, 114, 111, 114]⟩ : ByteArray) [.string (⟨#[83, 105, 122, 101, 69, 114, 114, 111, 114]⟩ : ByteArray)] from rfl) (Reps.one (show Kd.M Kd.string _ _ _ (⟨#[83, 116, 111, 112, 69, 114, 114, 111, 114]⟩ : ByteArray) [.string (⟨#[83, 116, 111, 112, 69, 114, 114, 111, 114]⟩ : ByteArray)] from rfl) (Reps.one (show Kd.M Kd.string _ _ _ (⟨#[82, 117, 110, 69, 114, 114, 111, 114]⟩ : ByteArray) [.string (⟨#[82, 117, 110, 69, 114, 114, 111, 114]⟩ : ByteArray)] from rfl) (Reps.one (show Kd.M Kd.string _ _ _ (⟨#[73, 109, 112, 111, 114, 116, 69, 114, 114, 111, 114]⟩ : ByteArray) [.string (⟨#[73, 109, 112, 111, 114, 116, 69, 114, 114, 111, 114]⟩ : ByteArray)] from rfl) (Reps.one (show Kd.M Kd.string _ _ _ (⟨#[65, 115, 115, 101, 114, 116, 69, 114, 114, 111, 114]⟩ : ByteArray) [.string (⟨#[65, 115, 115, 101, 114, 116, 69, 114, 114, 111, 114]⟩ : ByteArray)] from rfl) (Reps.none _ _))))))))))))))); intro v162 w1 ho2 hb hg_ hnew_; clear hg_ hnew_; (first | rw [← Ny161.out] at ho2 | (simp only [Int.reduceToNat] at ho2; rw [← Ny161.out] at ho2)); have n0_ := Az.mk (Kd.R_lower ho2 (below_size (by repeat (first | (with_reducible first | exact HB.out | apply bal | apply bdN | apply bdr) | exact HB.out)))); have n1_ := Az.mk (below_step (by repeat (first | (with_reducible first | exact HB.out | apply bal | apply bdN | apply bdr) | exact HB.out)) hb); clear HB; have HO163 := n0_; have HB := n1_; clear n0_ n1_; clear hb ho2))
 go_ret
 exact ⟨_, by first | rfl | (simp [errW_none, errW_some] <;> rfl) | (simp [*, errW_none, errW_some] <;> rfl), by (with_reducible repeat (first | apply Kd.R_alloc | apply Kd.R_drewN | apply Kd.R_drew)); exact HO163.out, by repeat (first | (with_reducible first | exact HB.out | apply bal | apply bdN | apply bdr) | exact HB.out)⟩
def spec_refTo.f (a0 : Int) : Option (Int × ByteArray × Int) := some (4, (⟨#[]⟩ : ByteArray), a0)
theorem spec_refTo.calls (a0 : Int) (r1 : Int) (r2 : ByteArray) (r3 : Int) (w : World) (h : spec_refTo.f a0 = some (r1, r2, r3)) :
  Calls Try.prog 89 #[.int .i64 a0] w fun e w' => e = .returned (.agg #[.int .i64 r1, .string r2, .int .i64 r3]) ∧ Below w.heap.size w w' := by
 have hu31 := Try.underlying31
 have HB := Az.mk (Below.refl w.heap.size w)
 have H : (some (4, (⟨#[]⟩ : ByteArray), a0)) = some (r1, r2, r3) := h
 clear h
 simp only [Option.some.injEq, Prod.mk.injEq] at H
 obtain ⟨rfl, rfl, rfl⟩ := H
 go_enter Try.func89, Try.ntmps89
 go_wp2_with (first | ((with_reducible refine gate_dst (N := 2) rfl ?_); refine box_event ?hg (N := 2) ?hd (cs := #[.int .i64 0, .string (⟨#[]⟩ : ByteArray), .int .i64 0]) (t := 31) ?hr ?_; (case hd => rfl); (case hg => rfl); (case hr => first | (go_simp; done) | (go_simp; rfl)); intro gb164 hg w2 hbox hb; have n0_ := Az.mk (below_step (by repeat (first | (with_reducible first | exact HB.out | apply bal | apply bdN | apply bdr) | exact HB.out)) hb); have n1_ := Az.mk (hbox); have n2_ := Az.mk ((by rw [hg]; exact (below_size (by repeat (first | (with_reducible first | exact HB.out | apply bal | apply bdN | apply bdr) | exact HB.out))) : w.heap.size ≤ gb164)); have n3_ := Az.mk ((by rw [hg]; exact (below_size (by repeat (first | (with_reducible first | exact HB.out | apply bal | apply bdN | apply bdr) | exact HB.out))) : w.heap.size ≤ gb164)); clear HB; have HB := n0_; have BK164 := n1_; have GW164 := n2_; have GE164 := n3_; clear n0_ n1_ n2_ n3_; clear hb hbox hg; have hcz3_0 : w2.cell? ⟨gb164, 0, none⟩ = some (.int .i64 0) := (bC BK164.out 0).trans rfl; have hcz3_1 : w2.cell? ⟨gb164, 1, none⟩ = some (.string (⟨#[]⟩ : ByteArray)) := (bC BK164.out 1).trans rfl; have hcz3_2 : w2.cell? ⟨gb164, 2, none⟩ = some (.int .i64 0) := (bC BK164.out 2).trans rfl; have hfz3_0 := bF BK164.out 0; have hfz3_1 := bF BK164.out 1; have hfz3_2 := bF BK164.out 2))
 refine bodyPost_ret (results_cell_row rfl _ _ gb164 31 #[.int .i64 4, .string (⟨#[]⟩ : ByteArray), .int .i64 a0] (0, 0) _ rfl (by (with_reducible repeat (first | refine blk_drewN ?_ _ | refine blk_drew ?_ | refine blk_alloc ?_ _)); refine blk_put (cs := #[.int .i64 4, .string (⟨#[]⟩ : ByteArray), .int .i64 0]) ?_ 2 _ rfl; (with_reducible repeat (first | refine blk_drewN ?_ _ | refine blk_drew ?_ | refine blk_alloc ?_ _)); refine blk_put (cs := #[.int .i64 4, .string (⟨#[]⟩ : ByteArray), .int .i64 0]) ?_ 1 _ rfl; (with_reducible repeat (first | refine blk_drewN ?_ _ | refine blk_drew ?_ | refine blk_alloc ?_ _)); refine blk_put (cs := #[.int .i64 0, .string (⟨#[]⟩ : ByteArray), .int .i64 0]) ?_ 0 _ rfl; (with_reducible repeat (first | refine blk_drewN ?_ _ | refine blk_drew ?_ | refine blk_alloc ?_ _)); exact BK164.out) Try.underlying31 rfl (by kernel_rfl)) rfl ?_
 exact ⟨by first | rfl | (simp [errW_none, errW_some] <;> rfl) | (simp [*, errW_none, errW_some] <;> rfl), by repeat (first | (with_reducible first | exact HB.out | apply bal | apply bdN | apply bdr | refine bS ?_ GE164.out) | exact HB.out)⟩
def spec_builtNames.f  : Option (List ByteArray) := some (([(⟨#[112, 114, 105, 110, 116]⟩ : ByteArray), (⟨#[108, 101, 110]⟩ : ByteArray), (⟨#[114, 97, 110, 103, 101]⟩ : ByteArray), (⟨#[115, 116, 114]⟩ : ByteArray), (⟨#[110, 101, 120, 116]⟩ : ByteArray), (⟨#[105, 115, 97]⟩ : ByteArray)] : List ByteArray))
theorem spec_builtNames.calls  (r : List ByteArray) (w : World) (h : spec_builtNames.f  = some r) :
  Calls Try.prog 90 #[] w fun e w' => ∃ v0_ : Value, e = .returned (v0_) ∧ Kd.R Kd.string 9 w' w.heap.size (fun _ => True) v0_ r ∧ Below w.heap.size w w' := by
 have HB := Az.mk (Below.refl w.heap.size w)
 have H : (some (([(⟨#[112, 114, 105, 110, 116]⟩ : ByteArray), (⟨#[108, 101, 110]⟩ : ByteArray), (⟨#[114, 97, 110, 103, 101]⟩ : ByteArray), (⟨#[115, 116, 114]⟩ : ByteArray), (⟨#[110, 101, 120, 116]⟩ : ByteArray), (⟨#[105, 115, 97]⟩ : ByteArray)] : List ByteArray))) = some r := h
 clear h
 obtain ⟨y165, hy165⟩ : ∃ y_ : List ByteArray, y_ = (([(⟨#[112, 114, 105, 110, 116]⟩ : ByteArray), (⟨#[108, 101, 110]⟩ : ByteArray), (⟨#[114, 97, 110, 103, 101]⟩ : ByteArray), (⟨#[115, 116, 114]⟩ : ByteArray), (⟨#[110, 101, 120, 116]⟩ : ByteArray), (⟨#[105, 115, 97]⟩ : ByteArray)] : List ByteArray)) := ⟨_, rfl⟩
 replace H : (some y165) = some r := by first | (rw [hy165]; with_reducible exact H) | (have H2_ := (Option.bind_some _ _).symm.trans H; rw [hy165]; with_reducible exact H2_) | (have H2_ := (Option.bind_some _ _).symm.trans H; with_reducible exact H2_) | with_reducible exact H | (rw [hy165]; exact H) | exact H
 have Ny165 := Az.mk hy165
 clear hy165
 obtain rfl := Option.some.inj H
 go_enter Try.func90, Try.ntmps90
 go_wp2_with (first | ((with_reducible refine gate_dst (N := 1) rfl ?_); refine Kd.R_lit Kd.string _ 9 ?hg (N := 1) ?hd (xs := ([(⟨#[112, 114, 105, 110, 116]⟩ : ByteArray), (⟨#[108, 101, 110]⟩ : ByteArray), (⟨#[114, 97, 110, 103, 101]⟩ : ByteArray), (⟨#[115, 116, 114]⟩ : ByteArray), (⟨#[110, 101, 120, 116]⟩ : ByteArray), (⟨#[105, 115, 97]⟩ : ByteArray)] : List ByteArray)) (inner := [.string (⟨#[112, 114, 105, 110, 116]⟩ : ByteArray), .string (⟨#[108, 101, 110]⟩ : ByteArray), .string (⟨#[114, 97, 110, 103, 101]⟩ : ByteArray), .string (⟨#[115, 116, 114]⟩ : ByteArray), .string (⟨#[110, 101, 120, 116]⟩ : ByteArray), .string (⟨#[105, 115, 97]⟩ : ByteArray)]) (ok := fun _ => True) (okp := fun _ => True) ?hr ?hp (fun _ hk => hk) trivial (Below.refl _ _) (Nat.le_refl _) (by simp) ?_; (case hd => rfl); (case hg => rfl); (case hr => first | (go_simp; done) | (go_simp; rfl)); (case hp => exact (Reps.one (show Kd.M Kd.string _ _ _ (⟨#[112, 114, 105, 110, 116]⟩ : ByteArray) [.string (⟨#[112, 114, 105, 110, 116]⟩ : ByteArray)] from rfl) (Reps.one (show Kd.M Kd.string _ _ _ (⟨#[108, 101, 110]⟩ : ByteArray) [.string (⟨#[108, 101, 110]⟩ : ByteArray)] from rfl) (Reps.one (show Kd.M Kd.string _ _ _ (⟨#[114, 97, 110, 103, 101]⟩ : ByteArray) [.string (⟨#[114, 97, 110, 103, 101]⟩ : ByteArray)] from rfl) (Reps.one (show Kd.M Kd.string _ _ _ (⟨#[115, 116, 114]⟩ : ByteArray) [.string (⟨#[115, 116, 114]⟩ : ByteArray)] from rfl) (Reps.one (show Kd.M Kd.string _ _ _ (⟨#[110, 101, 120, 116]⟩ : ByteArray) [.string (⟨#[110, 101, 120, 116]⟩ : ByteArray)] from rfl) (Reps.one (show Kd.M Kd.string _ _ _ (⟨#[105, 115, 97]⟩ : ByteArray) [.string (⟨#[105, 115, 97]⟩ : ByteArray)] from rfl) (Reps.none _ _)))))))); intro v166 w1 ho2 hb hg_ hnew_; clear hg_ hnew_; (first | rw [← Ny165.out] at ho2 | (simp only [Int.reduceToNat] at ho2; rw [← Ny165.out] at ho2)); have n0_ := Az.mk (Kd.R_lower ho2 (below_size (by repeat (first | (with_reducible first | exact HB.out | apply bal | apply bdN | apply bdr) | exact HB.out)))); have n1_ := Az.mk (below_step (by repeat (first | (with_reducible first | exact HB.out | apply bal | apply bdN | apply bdr) | exact HB.out)) hb); clear HB; have HO167 := n0_; have HB := n1_; clear n0_ n1_; clear hb ho2))
 go_ret
 exact ⟨_, by first | rfl | (simp [errW_none, errW_some] <;> rfl) | (simp [*, errW_none, errW_some] <;> rfl), by (with_reducible repeat (first | apply Kd.R_alloc | apply Kd.R_drewN | apply Kd.R_drew)); exact HO167.out, by repeat (first | (with_reducible first | exact HB.out | apply bal | apply bdN | apply bdr) | exact HB.out)⟩
end Go.Proofs.Ytehhhlhedmfdiaa.PFnHeapNewShows
end
