/- Cutting a text at a part and joining it again: plain Lean over the library's index, splitB and join; no program. -/
import Derived.Lib.SplitLaws
import Derived.Lib.Join
import Derived.Lib.RabinKarpLaws
namespace Go.Proofs.YtcpeomfncopkaaaDoor.Plain
open Go.Lib
set_option linter.unusedVariables false

def pieces (s p : ByteArray) : List ByteArray := splitB p 0 (countB s p) s
def dat (l : List ByteArray) : List (List UInt8) := l.map (·.data.toList)
def joinB (l : List ByteArray) (q : ByteArray) : ByteArray := ⟨(join (dat l) q.data.toList).toArray⟩

theorem pieces_miss {s p : ByteArray} (h : indexB s p = -1) : pieces s p = [s] := by unfold pieces; rw [splitB_miss _ _ _ _ h]
theorem pieces_hit {s p : ByteArray} {i : Nat} (hp : 1 ≤ p.size) (h : indexB s p = i) : pieces s p = s.extract 0 i :: pieces (s.extract (i + p.size) s.size) p := by
  unfold pieces; rw [countB_hit s p i hp h, Nat.add_comm 1, splitB_hit _ _ _ _ i h]; rfl
theorem pieces_ne (s p : ByteArray) (hp : 1 ≤ p.size) : pieces s p ≠ [] := by
  rcases indexB_cases s p with h | ⟨i, h, _⟩
  · rw [pieces_miss h]; simp
  · rw [pieces_hit hp h]; simp
theorem pieces_len (s p : ByteArray) (hp : 1 ≤ p.size) : (pieces s p).length ≤ s.size + 1 := by
  have := countB_le p hp s.size s (Nat.le_refl _)
  unfold pieces
  rw [splitB_all p hp 0 _ s rfl]; omega
theorem rest_size (s p : ByteArray) (i : Nat) : (s.extract (i + p.size) s.size).size = s.size - (i + p.size) := by rw [ByteArray.size_extract]; omega

theorem pieces_size (p : ByteArray) (hp : 1 ≤ p.size) : ∀ (n : Nat) (s : ByteArray), s.size ≤ n → ∀ x ∈ pieces s p, x.size ≤ s.size
  | n, s, hn, x, hx => by
    rcases indexB_cases s p with h | ⟨i, h, hr⟩
    · rw [pieces_miss h] at hx; rw [List.mem_singleton.1 hx]; exact Nat.le_refl _
    · rw [pieces_hit hp h] at hx
      rcases List.mem_cons.1 hx with rfl | hx
      · rw [ByteArray.size_extract]; omega
      · cases n with
        | zero => omega
        | succ n =>
          have := pieces_size p hp n _ (by rw [rest_size]; omega) x hx
          rw [rest_size] at this; omega
theorem pieces_lens (p : ByteArray) (hp : 1 ≤ p.size) : ∀ (n : Nat) (s : ByteArray), s.size ≤ n → lens (dat (pieces s p)) ≤ s.size
  | n, s, hn => by
    rcases indexB_cases s p with h | ⟨i, h, hr⟩
    · rw [pieces_miss h]; simp [lens, dat]
    · rw [pieces_hit hp h]
      cases n with
      | zero => omega
      | succ n =>
        have := pieces_lens p hp n (s.extract (i + p.size) s.size) (by rw [rest_size]; omega)
        rw [rest_size] at this
        unfold lens dat at this ⊢
        simp only [List.map_cons, List.sum_cons]
        have e : (s.extract 0 i).data.toList.length = i := by rw [← size_eq, ByteArray.size_extract]; omega
        rw [e]; omega

theorem ext_of_data {a b : ByteArray} (h : a.data.toList = b.data.toList) : a = b := by
  obtain ⟨⟨x⟩⟩ := a; obtain ⟨⟨y⟩⟩ := b
  have : x = y := h
  rw [this]
theorem join_two (x : List UInt8) (r : List (List UInt8)) (q : List UInt8) (h : r ≠ []) : join (x :: r) q = x ++ q ++ join r q := by
  cases r with
  | nil => exact absurd rfl h
  | cons y r => rw [join_cons, join_cons]; unfold joinTail; simp [List.append_assoc]

/-- Joined with what it was cut at, a text is itself. -/
theorem join_pieces (p : ByteArray) (hp : 1 ≤ p.size) : ∀ (n : Nat) (s : ByteArray), s.size ≤ n → join (dat (pieces s p)) p.data.toList = s.data.toList
  | n, s, hn => by
    rcases indexB_cases s p with h | ⟨i, h, hr⟩
    · rw [pieces_miss h]; exact join_one _ _
    · rw [pieces_hit hp h]
      cases n with
      | zero => omega
      | succ n =>
        have ih := join_pieces p hp n (s.extract (i + p.size) s.size) (by rw [rest_size]; omega)
        have hne := pieces_ne (s.extract (i + p.size) s.size) p hp
        show join ((s.extract 0 i).data.toList :: dat (pieces (s.extract (i + p.size) s.size) p)) p.data.toList = _
        rw [join_two _ _ _ (by unfold dat; simpa using hne), ih, extract_from_zero, extract_to_end]
        have ho : occAt s.data.toList p.data.toList i = true := by
          have hx : index s.data.toList p.data.toList = i := h
          rcases index_spec s.data.toList p.data.toList with ⟨h1, _⟩ | ⟨j, h1, _, h3, _⟩
          · omega
          · have : j = i := by omega
            rw [← this]; exact h3
        rw [occAt_iff_take _ _ _ (by rw [← size_eq, ← size_eq]; exact hr)] at ho
        have e : (s.data.toList.drop i).take p.data.toList.length = p.data.toList := by simpa using ho
        rw [size_eq p]
        have hd : s.data.toList.drop (i + p.data.toList.length) = (s.data.toList.drop i).drop p.data.toList.length := by rw [List.drop_drop]
        rw [hd]
        conv => lhs; lhs; rhs; rw [← e]
        rw [List.append_assoc, List.take_append_drop, List.take_append_drop]

/-- No piece holds the part. -/
theorem pieces_no (p : ByteArray) (hp : 1 ≤ p.size) : ∀ (n : Nat) (s : ByteArray), s.size ≤ n → ∀ x ∈ pieces s p, indexB x p = -1
  | n, s, hn, x, hx => by
    rcases indexB_cases s p with h | ⟨i, h, hr⟩
    · rw [pieces_miss h] at hx; rw [List.mem_singleton.1 hx]; exact h
    · rw [pieces_hit hp h] at hx
      rcases List.mem_cons.1 hx with rfl | hx
      · have hx : index s.data.toList p.data.toList = i := h
        have hno : NoOcc s.data.toList p.data.toList i := by
          rcases index_spec s.data.toList p.data.toList with ⟨h1, _⟩ | ⟨j, h1, _, _, h4⟩
          · omega
          · have : j = i := by omega
            rw [← this]; exact h4
        show index (s.extract 0 i).data.toList p.data.toList = -1
        rw [extract_from_zero]
        refine index_none (fun j hj => ?_)
        by_cases ho : occAt (s.data.toList.take i) p.data.toList j = true
        · have hroom := occAt_room ho
          rw [List.length_take, ← size_eq] at hroom
          have hpl : p.data.toList.length = p.size := (size_eq p).symm
          have hj : j < i := by
            rcases hroom with h | h
            · omega
            · rw [h] at hpl; simp at hpl; omega
          have := hno j hj
          unfold occAt at ho this
          rw [List.isPrefixOf_iff_prefix] at ho
          have h2 : p.data.toList <+: s.data.toList.drop j := ho.trans (by rw [List.drop_take]; exact List.take_prefix _ _)
          rw [← List.isPrefixOf_iff_prefix] at h2
          rw [h2] at this; cases this
        · exact Bool.eq_false_iff.2 ho
      · cases n with
        | zero => omega
        | succ n => exact pieces_no p hp n _ (by rw [rest_size]; omega) x hx

theorem joinB_data (l : List ByteArray) (q : ByteArray) : (joinB l q).data.toList = join (dat l) q.data.toList := rfl
theorem joinB_pieces (s p : ByteArray) (hp : 1 ≤ p.size) : joinB (pieces s p) p = s := ext_of_data (join_pieces p hp s.size s (Nat.le_refl _))
theorem join_len (l : List (List UInt8)) (q : List UInt8) : (join l q).length ≤ lens l + q.length * l.length := by
  cases l with
  | nil => simp [join_nil]
  | cons x r =>
    rw [join_cons, List.length_append, joinTail_length]
    have hl : lens (x :: r) = x.length + lens r := by simp [lens]
    rw [hl, List.length_cons, Nat.mul_succ]; omega
theorem toList_nil {p : ByteArray} : p.toList = ([] : List UInt8) ↔ p.size = 0 := by
  rw [toList_data, size_eq]; exact List.length_eq_zero_iff.symm
end Go.Proofs.YtcpeomfncopkaaaDoor.Plain
