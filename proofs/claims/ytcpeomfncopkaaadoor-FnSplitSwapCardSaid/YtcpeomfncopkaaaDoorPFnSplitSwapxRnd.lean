/- The draws: no panic, and within their bounds. -/
import Derived.Test.YtcpeomfncopkaaaDoorPFnSplitSwapx
import Derived.OpenShut
import Derived.Laws.BitsLemmas
namespace Go.Proofs.YtcpeomfncopkaaaDoor.PFnSplitSwap
open Go.RowKit Go.Proofs.YtcpeomfncopkaaaDoorW.PrintWords Go.Proofs.YtcpeomfncopkaaaDoorW.PrintLast Go.Proofs.YtcpeomfncopkaaaDoorW.PrintMore
set_option linter.unusedVariables false

def Bytes (l : List Int) : Prop := ∀ x ∈ l, 0 ≤ x ∧ x ≤ 255
theorem rnd_rd {l : List Int} (h : Bytes l) (i : Int) : 0 ≤ rd l i ∧ rd l i ≤ 255 := by
  unfold rd
  rw [List.getD_eq_getElem?_getD]
  cases e : l[i.toNat]? with
  | none => simp
  | some x => exact h x (List.mem_of_getElem? e)
theorem rnd_wr {a : Int} (h0 : 0 ≤ a) (h : a < 4611686018427387904) : wrap64 a = a := by unfold wrap64; omega
theorem xor_nn {a b : Int} (ha : 0 ≤ a) (ha2 : a < 4611686018427387904) (hb : 0 ≤ b) (hb2 : b < 4611686018427387904) : 0 ≤ Go.bits .xor .i64 a b := by
  obtain ⟨x, rfl⟩ := Int.eq_ofNat_of_zero_le ha
  obtain ⟨y, rfl⟩ := Int.eq_ofNat_of_zero_le hb
  have hx : x < 2 ^ 62 := by omega
  have hy : y < 2 ^ 62 := by omega
  have hxy : x ^^^ y < 2 ^ 62 := Nat.xor_lt_two_pow hx hy
  have ex : x % 2 ^ 64 = x := Nat.mod_eq_of_lt (by omega)
  have ey : y % 2 ^ 64 = y := Nat.mod_eq_of_lt (by omega)
  have e : ((BitVec.ofInt 64 (x : Int)) ^^^ (BitVec.ofInt 64 (y : Int))).toNat = x ^^^ y := by
    rw [BitVec.toNat_xor, BitVec.ofInt_natCast, BitVec.ofInt_natCast, BitVec.toNat_ofNat, BitVec.toNat_ofNat, ex, ey]
  show 0 ≤ IntKind.i64.wrap ((((BitVec.ofInt 64 (x : Int)) ^^^ (BitVec.ofInt 64 (y : Int))).toNat : Nat) : Int)
  rw [e, IntKind.wrap_i64]
  omega
theorem mixed_nn {r1 r2 pos q : Int} (h1 : 0 ≤ r1 ∧ r1 ≤ 255) (h2 : 0 ≤ r2 ∧ r2 ≤ 255) (hp : 0 ≤ pos ∧ pos ≤ 1000000000) (hq : 0 ≤ q ∧ q ≤ 1000000000) :
    0 ≤ Go.bits .xor .i64 (wrap64 ((wrap64 ((wrap64 ((wrap64 ((wrap64 r1) * 131)) + (wrap64 ((wrap64 r2) * 1117)))) + (wrap64 (pos * 29)))) + (wrap64 ((wrap64 q) * 53))))
      (wrap64 (Int.tdiv (wrap64 ((wrap64 ((wrap64 ((wrap64 ((wrap64 r1) * 131)) + (wrap64 ((wrap64 r2) * 1117)))) + (wrap64 (pos * 29)))) + (wrap64 ((wrap64 q) * 53)))) 64)) := by
  rw [rnd_wr (a := r1) (by omega) (by omega), rnd_wr (a := r2) (by omega) (by omega), rnd_wr (a := q) (by omega) (by omega), rnd_wr (a := r1 * 131) (by omega) (by omega), rnd_wr (a := r2 * 1117) (by omega) (by omega),
    rnd_wr (a := pos * 29) (by omega) (by omega), rnd_wr (a := q * 53) (by omega) (by omega), rnd_wr (a := r1 * 131 + r2 * 1117) (by omega) (by omega), rnd_wr (a := r1 * 131 + r2 * 1117 + pos * 29) (by omega) (by omega),
    rnd_wr (a := r1 * 131 + r2 * 1117 + pos * 29 + q * 53) (by omega) (by omega)]
  have e : Int.tdiv (r1 * 131 + r2 * 1117 + pos * 29 + q * 53) 64 = (r1 * 131 + r2 * 1117 + pos * 29 + q * 53) / 64 := Int.tdiv_eq_ediv_of_nonneg (by omega)
  rw [e, rnd_wr (by omega) (by omega)]
  exact xor_nn (by omega) (by omega) (by omega) (by omega)

/-- A pick: within 0 and n, and the place in the code moves on by one at most. -/
theorem pick_ok {l : List Int} (hb : Bytes l) {pos n : Int} (h0 : 0 ≤ pos) (h1 : pos < 1000000) : ∃ r p', spec_rnd_pick.f l pos n = some (r, p') ∧ 0 ≤ r ∧ (n < 2 ∧ r = 0 ∨ r < n) ∧ pos ≤ p' ∧ p' ≤ pos + 1 := by
  unfold spec_rnd_pick.f
  by_cases hn : n < 2
  · rw [if_pos hn]; exact ⟨0, pos, rfl, by omega, Or.inl ⟨hn, rfl⟩, by omega, by omega⟩
  rw [if_neg hn]
  have hw : wrap64 (pos + 1) = pos + 1 := rnd_wr (by omega) (by omega)
  have hn0 : ¬ n = 0 := by omega
  by_cases hl : (l.length : Int) > 0
  · have i0 : 0 ≤ Int.tmod pos (l.length : Int) := Int.tmod_nonneg _ h0
    have i1 : Int.tmod pos (l.length : Int) < (l.length : Int) := Int.tmod_lt_of_pos _ hl
    have ej : wrap64 ((wrap64 (pos * 7)) + 3) = pos * 7 + 3 := by rw [rnd_wr (a := pos * 7) (by omega) (by omega), rnd_wr (by omega) (by omega)]
    have j0 : 0 ≤ Int.tmod (wrap64 ((wrap64 (pos * 7)) + 3)) (l.length : Int) := by rw [ej]; exact Int.tmod_nonneg _ (by omega)
    have j1 : Int.tmod (wrap64 ((wrap64 (pos * 7)) + 3)) (l.length : Int) < (l.length : Int) := Int.tmod_lt_of_pos _ hl
    have q0 : 0 ≤ Int.tdiv pos (l.length : Int) := Int.tdiv_nonneg h0 (by omega)
    have q1 : Int.tdiv pos (l.length : Int) ≤ pos := Int.tdiv_le_self _ h0
    have hm := mixed_nn (rnd_rd hb (Int.tmod pos (l.length : Int))) (rnd_rd hb (Int.tmod (wrap64 ((wrap64 (pos * 7)) + 3)) (l.length : Int))) ⟨h0, by omega⟩ ⟨q0, by omega⟩
    have hr := rnd_rd hb (Int.tmod pos (l.length : Int))
    rw [if_pos hl, if_neg (by omega), if_pos i0, if_pos i1]
    by_cases hbig : n > 256
    · rw [if_pos hbig, if_pos j0, if_pos j1, if_neg hn0, hw]
      exact ⟨_, _, rfl, Int.tmod_nonneg _ hm, Or.inr (Int.tmod_lt_of_pos _ (by omega)), by omega, by omega⟩
    · rw [if_neg hbig]
      by_cases hp : pos ≥ (l.length : Int)
      · rw [if_pos hp, if_pos j0, if_pos j1, if_neg hn0, hw]
        exact ⟨_, _, rfl, Int.tmod_nonneg _ hm, Or.inr (Int.tmod_lt_of_pos _ (by omega)), by omega, by omega⟩
      · rw [if_neg hp, if_neg hn0, hw, rnd_wr (a := rd l (Int.tmod pos (l.length : Int))) (by omega) (by omega)]
        exact ⟨_, _, rfl, Int.tmod_nonneg _ hr.1, Or.inr (Int.tmod_lt_of_pos _ (by omega)), by omega, by omega⟩
  · rw [if_neg hl, if_neg hn0, hw, Int.zero_emod]
    exact ⟨0, pos + 1, rfl, by omega, Or.inr (by omega), by omega, by omega⟩
theorem newRnd_ok (l : List Int) (h : ∀ x ∈ l, (Lit.int .u8 x).wf = true) : ∃ c, spec_newRnd.f l = some (c, 0) ∧ Bytes c ∧ c.length ≤ 4000 := by
  unfold spec_newRnd.f
  have h1 : 0 ≤ mn (l.length : Int) 4000 := by unfold mn; split <;> omega
  have h2 : mn (l.length : Int) 4000 ≤ (l.length : Int) := by unfold mn; split <;> omega
  have h3 : mn (l.length : Int) 4000 ≤ 4000 := by unfold mn; split <;> omega
  rw [if_pos h1, if_pos h2]
  refine ⟨_, rfl, fun x hx => bounds_u8 (h x (List.mem_of_mem_take hx)), ?_⟩
  rw [List.length_take]; omega
end Go.Proofs.YtcpeomfncopkaaaDoor.PFnSplitSwap
