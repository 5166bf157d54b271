/- FnExactImportNeeds: sizes, copies, comparisons and marks of modules; all that the law's walk asks. -/
import Derived.Test.YtehhhlhedmfdiaaPFnExactImportNeedsxNeedsSame
import Derived.Test.YtehhhlhedmfdiaaPFnExactImportNeedsxInts
import Derived.Test.YtehhhlhedmfdiaaPFnExactImportNeedsxLaw
namespace Go.Proofs.Ytehhhlhedmfdiaa.PFnExactImportNeeds
open Go.RowKit Go.Proofs.YtehhhlhedmfdiaaW.PrintWords Go.Proofs.YtehhhlhedmfdiaaW.PrintLast Go.Proofs.YtehhhlhedmfdiaaW.PrintMore
set_option linter.unusedVariables false
theorem keep64 {x : Int} (h0 : -9223372036854775808 ≤ x) (h1 : x ≤ 9223372036854775807) : wrap64 x = x := by unfold wrap64; omega

/-- What the size functions come to: at most what was left; and if it is no fault, what was counted is small. -/
theorem szStepS_from (l : List S164) (hl : l.length ≤ 9223372036854775807) (hn : ∀ s ∈ l, s.f2.size ≤ 9223372036854775807) (d : Nat) : ∀ (x j : Int), 0 ≤ x → x ≤ 1048576 → 0 ≤ j → j ≤ l.length → (l.length : Int) - j = d → l.length ≤ 1048576 →
    ∃ t, Ev (fun k => laws_szModStepS.l0 k l x j) t ∧ t ≤ 1048576 ∧ (0 ≤ t → ∀ s ∈ l.drop j.toNat, s.f2.size ≤ 1048576) := by
  induction d with
  | zero =>
    intro x j hx hx2 h0 h1 hd hb
    refine ⟨x, Ev.step (f := fun _ => some x) (fun k => by simp only [laws_szModStepS.l0]; rw [if_neg (by omega)]) (Ev.now _), hx2, fun _ => ?_⟩
    rw [List.drop_eq_nil_of_le (by omega)]; simp
  | succ d ih =>
    intro x j hx hx2 h0 h1 hd hb
    have hj : j < (l.length : Int) := by omega
    have hsz := hn _ (at_mem z164 h0 hj)
    have hw : wrap64 (x - ((rd_T164 l j).f2.size : Int)) = x - ((rd_T164 l j).f2.size : Int) := keep64 (by unfold rd_T164; omega) (by omega)
    by_cases hlt : x - ((rd_T164 l j).f2.size : Int) < 0
    · refine ⟨-1, Ev.step (f := fun _ => some (-1)) (fun k => ?_) (Ev.now _), by omega, fun h => by omega⟩
      simp only [laws_szModStepS.l0]
      rw [if_pos hj, if_pos h0]
      unfold laws_szModStep.f
      rw [hw, if_pos hlt]
      rfl
    · obtain ⟨t, e, ht, hts⟩ := ih (x - ((rd_T164 l j).f2.size : Int)) (j + 1) (by omega) (by omega) (by omega) (by omega) (by omega) hb
      refine ⟨t, Ev.step (fun k => ?_) e, ht, fun h => ?_⟩
      · simp only [laws_szModStepS.l0]
        rw [if_pos hj, if_pos h0]
        unfold laws_szModStep.f
        rw [hw, if_neg hlt]
        simp only [Option.bind_some]
        rw [if_neg hlt, up1 h0 (by omega)]
      · rw [at_cons z164 h0 hj, all_cons]
        exact ⟨by unfold rd_T164 at hlt; omega, hts h⟩
theorem szStepS_ev (l : List S164) (hl : l.length ≤ 9223372036854775807) (hn : ∀ s ∈ l, s.f2.size ≤ 9223372036854775807) (x : Int) (hx : 0 ≤ x) (hx2 : x ≤ 1048576) :
    ∃ t, Ev (fun k => laws_szMod.f k l x) t ∧ t ≤ 1048576 ∧ (0 ≤ t → l.length ≤ 1048576 ∧ ∀ s ∈ l, s.f2.size ≤ 1048576) := by
  have hw : wrap64 (x - (l.length : Int)) = x - (l.length : Int) := keep64 (by omega) (by omega)
  have fin : ∀ t, Ev (fun k => laws_szModStepS.f k l x) t → t ≤ 1048576 → Ev (fun k => laws_szMod.f k l x) (if t < 0 then -1 else t) := fun t e _ => by
    refine Ev.bind (f := fun _ t105 => (if t105 < 0 then (some (-1)) else (some t105))) e ?_
    split
    · exact Ev.now _
    · exact Ev.now _
  by_cases h : x - (l.length : Int) < 0
  · refine ⟨_, fin (-1) (Ev.congr (f := fun _ => some (-1)) (fun k => by unfold laws_szModStepS.f; rw [hw, if_pos h]) (Ev.now _)) (by omega), by simp, fun h => by simp at h⟩
  · obtain ⟨t, e, ht, hts⟩ := szStepS_from l hl hn l.length (x - (l.length : Int)) 0 (by omega) (by omega) (by omega) (by omega) (by omega) (by omega)
    refine ⟨_, fin t (Ev.congr (fun k => by unfold laws_szModStepS.f; rw [hw, if_neg h]) e) ht, by split <;> omega, fun h2 => ⟨by omega, ?_⟩⟩
    have h3 : 0 ≤ t := by split at h2 <;> omega
    have := hts h3
    rwa [show (0 : Int).toNat = 0 from rfl, List.drop_zero] at this
theorem szModS_from (l : List S87) (hl : l.length ≤ 1048576) (hi : ∀ x ∈ l, x.f0.length ≤ 9223372036854775807 ∧ ∀ s ∈ x.f0, s.f2.size ≤ 9223372036854775807) (d : Nat) : ∀ (x j : Int), 0 ≤ x → x ≤ 1048576 → 0 ≤ j → j ≤ l.length → (l.length : Int) - j = d →
    ∃ t, Ev (fun k => laws_szModS.l0 k l x j) t ∧ (0 ≤ t → ∀ x ∈ l.drop j.toNat, x.f0.length ≤ 1048576 ∧ ∀ s ∈ x.f0, s.f2.size ≤ 1048576) := by
  induction d with
  | zero =>
    intro x j hx hx2 h0 h1 hd
    refine ⟨x, Ev.step (f := fun _ => some x) (fun k => by simp only [laws_szModS.l0]; rw [if_neg (by omega)]) (Ev.now _), fun _ => ?_⟩
    rw [List.drop_eq_nil_of_le (by omega)]; simp
  | succ d ih =>
    intro x j hx hx2 h0 h1 hd
    have hj : j < (l.length : Int) := by omega
    have hm := hi _ (at_mem z87 h0 hj)
    obtain ⟨t, e, ht, hts⟩ := szStepS_ev (rd_T87 l j).f0 hm.1 hm.2 x hx hx2
    by_cases hlt : t < 0
    · refine ⟨-1, Ev.step (f := fun k => (laws_szMod.f k ((rd_T87 l j).f0) x).bind fun t107 => (if t107 < 0 then (some (-1)) else (laws_szModS.l0 k l t107 (wrap64 (j + 1))))) (fun k => by simp only [laws_szModS.l0]; rw [if_pos hj, if_pos h0]) (Ev.bind (f := fun k t107 => (if t107 < 0 then (some (-1)) else (laws_szModS.l0 k l t107 (wrap64 (j + 1))))) e (Ev.congr (f := fun _ => some (-1)) (fun k => by rw [if_pos hlt]) (Ev.now _))), fun h => by omega⟩
    · obtain ⟨t2, e2, ht2⟩ := ih t (j + 1) (by omega) ht (by omega) (by omega) (by omega)
      refine ⟨t2, Ev.step (f := fun k => (laws_szMod.f k ((rd_T87 l j).f0) x).bind fun t107 => (if t107 < 0 then (some (-1)) else (laws_szModS.l0 k l t107 (wrap64 (j + 1))))) (fun k => by simp only [laws_szModS.l0]; rw [if_pos hj, if_pos h0]) (Ev.bind (f := fun k t107 => (if t107 < 0 then (some (-1)) else (laws_szModS.l0 k l t107 (wrap64 (j + 1))))) e (Ev.congr (fun k => by rw [if_neg hlt, up1 h0 (by omega)]) e2)), fun h => ?_⟩
      rw [at_cons z87 h0 hj, all_cons]
      exact ⟨hts (by omega), ht2 h⟩
theorem szModS_ev (l : List S87) (hl : l.length ≤ 9223372036854775807) (hi : ∀ x ∈ l, x.f0.length ≤ 9223372036854775807 ∧ ∀ s ∈ x.f0, s.f2.size ≤ 9223372036854775807) :
    ∃ t, Ev (fun k => laws_szModS.f k l 1048576) t ∧ (0 ≤ t → l.length ≤ 1048576 ∧ ∀ x ∈ l, x.f0.length ≤ 1048576 ∧ ∀ s ∈ x.f0, s.f2.size ≤ 1048576) := by
  have hw : wrap64 (1048576 - (l.length : Int)) = 1048576 - (l.length : Int) := keep64 (by omega) (by omega)
  by_cases h : 1048576 - (l.length : Int) < 0
  · exact ⟨-1, Ev.congr (f := fun _ => some (-1)) (fun k => by unfold laws_szModS.f; rw [hw, if_pos h]) (Ev.now _), fun h => by omega⟩
  · obtain ⟨t, e, ht⟩ := szModS_from l (by omega) hi l.length (1048576 - (l.length : Int)) 0 (by omega) (by omega) (by omega) (by omega) (by omega)
    refine ⟨t, Ev.congr (fun k => by unfold laws_szModS.f; rw [hw, if_neg h]) e, fun h2 => ⟨by omega, ?_⟩⟩
    have := ht h2
    rwa [show (0 : Int).toNat = 0 from rfl, List.drop_zero] at this

def conv (s : S164) : S74 := ⟨s.f0, s.f1, s.f2⟩
def convM (x : S87) : S72 := ⟨x.f0.map conv⟩
theorem toStepS_from (l : List S164) (hl : l.length ≤ 1048576) (d : Nat) : ∀ j : Int, 0 ≤ j → j ≤ l.length → (l.length : Int) - j = d →
    Ev (fun k => laws_toModStepS.l0 k l ((l.take j.toNat).map conv ++ List.replicate d z74) j) (l.map conv) := by
  induction d with
  | zero =>
    intro j h0 h1 hd
    refine Ev.step (f := fun _ => some (l.map conv)) (fun k => ?_) (Ev.now _)
    simp only [laws_toModStepS.l0]
    rw [if_neg (by omega), List.take_of_length_le (by omega)]
    simp
  | succ d ih =>
    intro j h0 h1 hd
    have hj : j < (l.length : Int) := by omega
    have hlen : ((l.take j.toNat).map conv).length = j.toNat := by rw [List.length_map, List.length_take]; omega
    have h := ih (j + 1) (by omega) (by omega) (by omega)
    have et : (l.take (j + 1).toNat).map conv = (l.take j.toNat).map conv ++ [conv (rd_T164 l j)] := by
      have hl2 : j.toNat < l.length := by omega
      rw [show (j + 1).toNat = j.toNat + 1 from by omega, List.take_succ_eq_append_getElem hl2, List.map_append]
      unfold rd_T164
      rw [List.getD_eq_getElem?_getD, List.getElem?_eq_getElem hl2]; rfl
    rw [et] at h
    refine Ev.step (fun k => ?_) h
    have hs := set_mid ((l.take j.toNat).map conv) z74 d (conv (rd_T164 l j))
    rw [hlen] at hs
    simp only [laws_toModStepS.l0]
    rw [if_pos hj, if_pos h0]
    unfold laws_toModStep.f
    simp only [Option.bind_some]
    rw [if_pos (by rw [List.length_append, hlen, List.length_replicate]; omega), up1 h0 (by omega)]
    rw [show (⟨(rd_T164 l j).f0, (rd_T164 l j).f1, (rd_T164 l j).f2⟩ : S74) = conv (rd_T164 l j) from rfl, hs]
theorem toMod_ev (l : List S164) (hl : l.length ≤ 1048576) : Ev (fun k => laws_toMod.f k l) (l.map conv) := by
  have h := toStepS_from l hl l.length 0 (by omega) (by omega) (by omega)
  rw [show (0 : Int).toNat = 0 from rfl, List.take_zero, List.map_nil, List.nil_append] at h
  refine Ev.congr (fun k => ?_) h
  unfold laws_toMod.f laws_toModStepS.f
  rw [if_pos (by omega), if_pos (by omega), bindSome, Int.toNat_natCast]
theorem toModS_from (l : List S87) (hl : l.length ≤ 1048576) (hi : ∀ x ∈ l, x.f0.length ≤ 1048576) (d : Nat) : ∀ j : Int, 0 ≤ j → j ≤ l.length → (l.length : Int) - j = d →
    Ev (fun k => laws_toModS.l0 k l ((l.take j.toNat).map convM ++ List.replicate d z72) j) (l.map convM) := by
  induction d with
  | zero =>
    intro j h0 h1 hd
    refine Ev.step (f := fun _ => some (l.map convM)) (fun k => ?_) (Ev.now _)
    simp only [laws_toModS.l0]
    rw [if_neg (by omega), List.take_of_length_le (by omega)]
    simp
  | succ d ih =>
    intro j h0 h1 hd
    have hj : j < (l.length : Int) := by omega
    have hlen : ((l.take j.toNat).map convM).length = j.toNat := by rw [List.length_map, List.length_take]; omega
    have h := ih (j + 1) (by omega) (by omega) (by omega)
    have et : (l.take (j + 1).toNat).map convM = (l.take j.toNat).map convM ++ [convM (rd_T87 l j)] := by
      have hl2 : j.toNat < l.length := by omega
      rw [show (j + 1).toNat = j.toNat + 1 from by omega, List.take_succ_eq_append_getElem hl2, List.map_append]
      unfold rd_T87
      rw [List.getD_eq_getElem?_getD, List.getElem?_eq_getElem hl2]; rfl
    rw [et] at h
    have hs := set_mid ((l.take j.toNat).map convM) z72 d (convM (rd_T87 l j))
    rw [hlen] at hs
    refine Ev.step (f := fun k => (laws_toMod.f k ((rd_T87 l j).f0)).bind fun t208 => (if j < ((((l.take j.toNat).map convM ++ List.replicate (d + 1) z72).length : Nat) : Int) then (laws_toModS.l0 k l (((l.take j.toNat).map convM ++ List.replicate (d + 1) z72).set (j : Int).toNat (⟨t208⟩ : S72)) (wrap64 (j + 1))) else (none))) (fun k => by simp only [laws_toModS.l0]; rw [if_pos hj, if_pos h0])
      (Ev.bind (f := fun k t208 => (if j < ((((l.take j.toNat).map convM ++ List.replicate (d + 1) z72).length : Nat) : Int) then (laws_toModS.l0 k l (((l.take j.toNat).map convM ++ List.replicate (d + 1) z72).set (j : Int).toNat (⟨t208⟩ : S72)) (wrap64 (j + 1))) else (none))) (toMod_ev (rd_T87 l j).f0 (hi _ (at_mem z87 h0 hj))) (Ev.congr (fun k => ?_) h))
    rw [if_pos (by rw [List.length_append, hlen, List.length_replicate]; omega), up1 h0 (by omega)]
    rw [show (⟨(rd_T87 l j).f0.map conv⟩ : S72) = convM (rd_T87 l j) from rfl, hs]
theorem toModS_ev (l : List S87) (hl : l.length ≤ 1048576) (hi : ∀ x ∈ l, x.f0.length ≤ 1048576) : Ev (fun k => laws_toModS.f k l) (l.map convM) := by
  have h := toModS_from l hl hi l.length 0 (by omega) (by omega) (by omega)
  rw [show (0 : Int).toNat = 0 from rfl, List.take_zero, List.map_nil, List.nil_append] at h
  refine Ev.congr (fun k => ?_) h
  unfold laws_toModS.f
  rw [if_pos (by omega), if_pos (by omega), Int.toNat_natCast]

theorem eqStepS_from (l : List S74) (hl : l.length ≤ 1048576) (d : Nat) : ∀ i : Int, 0 ≤ i → i ≤ l.length → (l.length : Int) - i = d → Ev (fun k => laws_eqModStepS.l0 k l l i) true := by
  induction d with
  | zero => intro i h0 h1 hd; exact Ev.step (f := fun _ => some true) (fun k => by simp only [laws_eqModStepS.l0]; rw [if_neg (by omega)]) (Ev.now _)
  | succ d ih =>
    intro i h0 h1 hd
    refine Ev.step (fun k => ?_) (ih (i + 1) (by omega) (by omega) (by omega))
    simp only [laws_eqModStepS.l0]
    rw [if_pos (by omega), if_pos h0, if_pos (by omega)]
    unfold laws_eqModStep.f
    simp only [if_true, Option.bind_some]
    rw [up1 h0 (by omega)]
theorem eqMod_ev (l : List S74) (hl : l.length ≤ 1048576) : Ev (fun k => laws_eqMod.f k l l) true := by
  have h : Ev (fun k => laws_eqModStepS.f k l l) true := Ev.congr (fun k => by unfold laws_eqModStepS.f; rw [if_pos rfl]) (eqStepS_from l hl l.length 0 (by omega) (by omega) (by omega))
  exact Ev.bind (f := fun _ t => if t = true then some true else some false) h (Ev.now _)
theorem eqModS_from (l : List S72) (hl : l.length ≤ 1048576) (hi : ∀ x ∈ l, x.f0.length ≤ 1048576) (d : Nat) : ∀ i : Int, 0 ≤ i → i ≤ l.length → (l.length : Int) - i = d → Ev (fun k => laws_eqModS.l0 k l l i) true := by
  induction d with
  | zero => intro i h0 h1 hd; exact Ev.step (f := fun _ => some true) (fun k => by simp only [laws_eqModS.l0]; rw [if_neg (by omega)]) (Ev.now _)
  | succ d ih =>
    intro i h0 h1 hd
    refine Ev.step (f := fun k => (laws_eqMod.f k ((rd_T72 l i).f0) ((rd_T72 l i).f0)).bind fun t => (if t = true then (laws_eqModS.l0 k l l (wrap64 (i + 1))) else (some false))) (fun k => ?_)
      (Ev.bind (f := fun k t => (if t = true then (laws_eqModS.l0 k l l (wrap64 (i + 1))) else (some false))) (eqMod_ev _ (hi _ (at_mem z72 h0 (by omega)))) (Ev.congr (fun k => by rw [if_pos rfl, up1 h0 (by omega)]) (ih (i + 1) (by omega) (by omega) (by omega))))
    simp only [laws_eqModS.l0]
    rw [if_pos (by omega), if_pos h0, if_pos (by omega)]
theorem eqModS_ev (l : List S72) (hl : l.length ≤ 1048576) (hi : ∀ x ∈ l, x.f0.length ≤ 1048576) : Ev (fun k => laws_eqModS.f k l l) true :=
  Ev.congr (fun k => by unfold laws_eqModS.f; rw [if_pos rfl]) (eqModS_from l hl hi l.length 0 (by omega) (by omega) (by omega))

/-- The text of a mark: some text, whatever it is. -/
theorem markText_from (n : Nat) : ∀ (x : Int) (s : ByteArray), x ≤ 9223372036854775807 → x < 10 ^ n → s.size + n ≤ 1000 → ∃ r, Ev (fun k => laws_markText.l0 k x s) r := by
  induction n with
  | zero =>
    intro x s hx0 hx hs
    refine ⟨_, Ev.step (f := fun _ => some ((⟨#[109]⟩ : ByteArray) ++ s)) (fun k => ?_) (Ev.now _)⟩
    simp only [laws_markText.l0]
    rw [if_neg (by simp at hx; omega), if_pos (by omega)]
  | succ n ih =>
    intro x s hx0 hx hs
    by_cases h : x > 0
    · have hq : wrap64 (Int.tdiv x 10) = x / 10 := by
        rw [Int.tdiv_eq_ediv_of_nonneg (by omega)]; exact keep64 (by omega) (by omega)
      have hp : (10 : Int) ^ (n + 1) = 10 * 10 ^ n := by rw [Int.pow_succ]; omega
      rw [hp] at hx
      obtain ⟨r, e⟩ := ih (x / 10) ((strOfNums [(wrap64 (48 + (Int.tmod x 10))) % 256]) ++ s) (by omega) (by omega) (by
        rw [ByteArray.size_append, strOfNums_size, List.length_singleton]; omega)
      refine ⟨r, Ev.step (fun k => ?_) e⟩
      simp only [laws_markText.l0]
      rw [if_pos h]
      simp only [Option.bind_some]
      rw [if_pos (by rw [strOfNums_size, List.length_singleton]; omega), hq]
    · refine ⟨_, Ev.step (f := fun _ => some ((⟨#[109]⟩ : ByteArray) ++ s)) (fun k => ?_) (Ev.now _)⟩
      simp only [laws_markText.l0]
      rw [if_neg h, if_pos (by omega)]
theorem markText_ev (x : Int) (hx : x ≤ 9223372036854775807) : ∃ r, Ev (fun k => laws_markText.f k x) r := by
  by_cases h : x ≤ 0
  · exact ⟨_, Ev.congr (f := fun _ => some (⟨#[109, 48]⟩ : ByteArray)) (fun k => by unfold laws_markText.f; rw [if_pos h]) (Ev.now _)⟩
  · obtain ⟨r, e⟩ := markText_from 19 x ⟨#[]⟩ hx (by omega) (by decide)
    exact ⟨r, Ev.congr (fun k => by unfold laws_markText.f; rw [if_neg h]) e⟩
theorem markStepS_from (d : Nat) : ∀ (l : List S74) (a j : Int), l.length ≤ 1048576 → 0 ≤ a → a + 3 * d ≤ 4611686018427387000 → 0 ≤ j → j ≤ l.length → (l.length : Int) - j = d →
    ∃ l', Ev (fun k => laws_markModStepS.l0 k l a j) (a + 3 * d, l') := by
  induction d with
  | zero =>
    intro l a j hl ha ha2 h0 h1 hd
    refine ⟨l, Ev.step (f := fun _ => some (a + 3 * ((0 : Nat) : Int), l)) (fun k => ?_) (Ev.now _)⟩
    simp only [laws_markModStepS.l0]
    rw [if_neg (by omega)]
    simp
  | succ d ih =>
    intro l a j hl ha ha2 h0 h1 hd
    have hj : j < (l.length : Int) := by omega
    obtain ⟨t, et⟩ := markText_ev (a + 1 + 1) (by omega)
    have w1 : wrap64 (a + 1) = a + 1 := keep64 (by omega) (by omega)
    have w2 : wrap64 (a + 1 + 1) = a + 1 + 1 := keep64 (by omega) (by omega)
    have w3 : wrap64 (a + 1 + 1 + 1) = a + 1 + 1 + 1 := keep64 (by omega) (by omega)
    have wj : wrap64 (j + 1) = j + 1 := up1 h0 (by omega)
    obtain ⟨l', e⟩ := ih (((l.set j.toNat ⟨a, (rd_T74 l j).f1, (rd_T74 l j).f2⟩).set j.toNat ⟨(rd_T74 (l.set j.toNat ⟨a, (rd_T74 l j).f1, (rd_T74 l j).f2⟩) j).f0, a + 1, (rd_T74 (l.set j.toNat ⟨a, (rd_T74 l j).f1, (rd_T74 l j).f2⟩) j).f2⟩).set j.toNat
      ⟨(rd_T74 ((l.set j.toNat ⟨a, (rd_T74 l j).f1, (rd_T74 l j).f2⟩).set j.toNat ⟨(rd_T74 (l.set j.toNat ⟨a, (rd_T74 l j).f1, (rd_T74 l j).f2⟩) j).f0, a + 1, (rd_T74 (l.set j.toNat ⟨a, (rd_T74 l j).f1, (rd_T74 l j).f2⟩) j).f2⟩) j).f0, (rd_T74 ((l.set j.toNat ⟨a, (rd_T74 l j).f1, (rd_T74 l j).f2⟩).set j.toNat ⟨(rd_T74 (l.set j.toNat ⟨a, (rd_T74 l j).f1, (rd_T74 l j).f2⟩) j).f0, a + 1, (rd_T74 (l.set j.toNat ⟨a, (rd_T74 l j).f1, (rd_T74 l j).f2⟩) j).f2⟩) j).f1, t⟩)
      (a + 1 + 1 + 1) (j + 1) (by simp only [List.length_set]; exact hl) (by omega) (by omega) (by omega) (by simp only [List.length_set]; omega) (by simp only [List.length_set]; omega)
    rw [show a + 1 + 1 + 1 + 3 * (d : Int) = a + 3 * ((d + 1 : Nat) : Int) from by omega] at e
    refine ⟨l', Ev.step (fun k => ?_) (Ev.bind (f := fun k t302 => laws_markModStepS.l0 k (((l.set j.toNat ⟨a, (rd_T74 l j).f1, (rd_T74 l j).f2⟩).set j.toNat ⟨(rd_T74 (l.set j.toNat ⟨a, (rd_T74 l j).f1, (rd_T74 l j).f2⟩) j).f0, a + 1, (rd_T74 (l.set j.toNat ⟨a, (rd_T74 l j).f1, (rd_T74 l j).f2⟩) j).f2⟩).set j.toNat
      ⟨(rd_T74 ((l.set j.toNat ⟨a, (rd_T74 l j).f1, (rd_T74 l j).f2⟩).set j.toNat ⟨(rd_T74 (l.set j.toNat ⟨a, (rd_T74 l j).f1, (rd_T74 l j).f2⟩) j).f0, a + 1, (rd_T74 (l.set j.toNat ⟨a, (rd_T74 l j).f1, (rd_T74 l j).f2⟩) j).f2⟩) j).f0, (rd_T74 ((l.set j.toNat ⟨a, (rd_T74 l j).f1, (rd_T74 l j).f2⟩).set j.toNat ⟨(rd_T74 (l.set j.toNat ⟨a, (rd_T74 l j).f1, (rd_T74 l j).f2⟩) j).f0, a + 1, (rd_T74 (l.set j.toNat ⟨a, (rd_T74 l j).f1, (rd_T74 l j).f2⟩) j).f2⟩) j).f1, t302⟩)
      (a + 1 + 1 + 1) (j + 1)) et e)⟩
    simp only [laws_markModStepS.l0]
    rw [if_pos hj, if_pos h0]
    simp only [Option.bind_some, w1, w2, w3, wj]
theorem markModS_from (d : Nat) : ∀ (l : List S72) (a j : Int), l.length ≤ 1048576 → (∀ x ∈ l.drop j.toNat, x.f0.length ≤ 1048576) → 0 ≤ a → a + 3145728 * d ≤ 4611686018427387000 → 0 ≤ j → j ≤ l.length → (l.length : Int) - j = d →
    ∃ r, Ev (fun k => laws_markModS.l0 k l a j) r ∧ a ≤ r := by
  induction d with
  | zero =>
    intro l a j hl hi ha ha2 h0 h1 hd
    refine ⟨a, Ev.step (f := fun _ => some a) (fun k => ?_) (Ev.now _), Int.le_refl _⟩
    simp only [laws_markModS.l0]
    rw [if_neg (by omega)]
  | succ d ih =>
    intro l a j hl hi ha ha2 h0 h1 hd
    have hj : j < (l.length : Int) := by omega
    have hjl : j.toNat < l.length := by omega
    rw [at_cons z72 h0 hj, all_cons] at hi
    have hx : (rd_T72 l j).f0.length ≤ 1048576 := hi.1
    obtain ⟨l', e⟩ := markStepS_from (rd_T72 l j).f0.length (rd_T72 l j).f0 a 0 hx ha (by omega) (by omega) (by omega) (by omega)
    have e' : Ev (fun k => laws_markModStepS.f k (rd_T72 l j).f0 a) (a + 3 * ((rd_T72 l j).f0.length : Nat), l') := e
    obtain ⟨r, e2, hr⟩ := ih (l.set j.toNat ⟨l'⟩) (a + 3 * ((rd_T72 l j).f0.length : Nat)) (j + 1) (by rw [List.length_set]; exact hl)
      (by rw [show (j + 1).toNat = j.toNat + 1 from by omega, List.drop_set_of_lt (by omega), show j.toNat + 1 = (j + 1).toNat from by omega]; exact hi.2) (by omega) (by omega) (by omega) (by rw [List.length_set]; omega) (by rw [List.length_set]; omega)
    refine ⟨r, Ev.step (f := fun k => (laws_markModStepS.f k (rd_T72 l j).f0 a).bind fun b => laws_markModS.l0 k (l.set j.toNat ⟨b.2⟩) b.1 (wrap64 (j + 1))) (fun k => by simp only [laws_markModS.l0]; rw [if_pos hj, if_pos h0])
      (Ev.bind (f := fun k b => laws_markModS.l0 k (l.set j.toNat ⟨b.2⟩) b.1 (wrap64 (j + 1))) e' (Ev.congr (fun k => by rw [up1 h0 (by omega)]) e2)), by omega⟩
theorem markModS_ev (l : List S72) (hl : l.length ≤ 1048576) (hi : ∀ x ∈ l, x.f0.length ≤ 1048576) : ∃ r, Ev (fun k => laws_markModS.f k l 1) r ∧ ¬ r < 0 := by
  obtain ⟨r, e, hr⟩ := markModS_from l.length l 1 0 hl (by rw [show (0 : Int).toNat = 0 from rfl, List.drop_zero]; exact hi) (by omega) (by omega) (by omega) (by omega) (by omega)
  exact ⟨r, e, by omega⟩

/-- All that the walk of the law asks. -/
theorem law_facts (l : List S87) (a : Int) (hl : l.length ≤ 9223372036854775807) (hi : ∀ x ∈ l, x.f0.length ≤ 9223372036854775807 ∧ ∀ s ∈ x.f0, s.f2.size ≤ 9223372036854775807) :
    (∃ k t, laws_szModS.f k l 1048576 = some t ∧ t < 0) ∨
    ∃ (k : Nat) (t : Int) (m : List S72) (s s2 : List Int) (kk mm : Int), laws_szModS.f k l 1048576 = some t ∧ ¬ t < 0 ∧ laws_toModS.f k l = some m ∧ spec_ImportNeeds.f k m a = some s ∧ impl_ImportNeeds.f k m a = some s ∧
      laws_eqIntS.f k s s = some true ∧ laws_eqModS.f k m m = some true ∧ laws_markModS.f k m 1 = some kk ∧ ¬ kk < 0 ∧ laws_markIntS.f k s 1 = some (mm, s2) ∧ laws_heldIntS.f k s2 1 = some mm ∧ ¬ mm < 0 := by
  obtain ⟨t, ⟨K0, e0⟩, ht⟩ := szModS_ev l hl hi
  by_cases hn : t < 0
  · exact .inl ⟨K0, t, e0 K0 (Nat.le_refl _), hn⟩
  right
  obtain ⟨hl2, hi2⟩ := ht (by omega)
  have hl3 : (l.map convM).length ≤ 1048576 := by rw [List.length_map]; exact hl2
  have hi3 : ∀ x ∈ l.map convM, x.f0.length ≤ 1048576 := fun x hx => by
    obtain ⟨y, hy, rfl⟩ := List.mem_map.1 hx
    show (y.f0.map conv).length ≤ _
    rw [List.length_map]; exact (hi2 y hy).1
  have hsm : Small (l.map convM) := ⟨by omega, fun x hx => ⟨by have := hi3 x hx; omega, fun s hs => by
    obtain ⟨y, hy, rfl⟩ := List.mem_map.1 hx
    obtain ⟨z, hz, rfl⟩ := List.mem_map.1 hs
    have := (hi2 y hy).2 z hz
    show z.f2.size ≤ _
    omega⟩⟩
  obtain ⟨K1, e1⟩ := toModS_ev l hl2 (fun x hx => (hi2 x hx).1)
  obtain ⟨s, ⟨K2, e2⟩, ⟨K3, e3⟩, hs⟩ := needs_same (l.map convM) hsm a
  obtain ⟨K4, e4⟩ := eqInt_self s (by omega)
  obtain ⟨K5, e5⟩ := eqModS_ev _ hl3 hi3
  obtain ⟨kk, ⟨K6, e6⟩, hkk⟩ := markModS_ev _ hl3 hi3
  obtain ⟨K7, e7⟩ := mark_ev s 1 (by omega) (by omega) (by omega)
  obtain ⟨K8, e8⟩ := held_ev s.length 1 (by omega) (by omega) (by omega)
  refine ⟨K0 + K1 + K2 + K3 + K4 + K5 + K6 + K7 + K8, t, l.map convM, s, marks 1 s.length, kk, 1 + s.length, e0 _ (by omega), hn, e1 _ (by omega), e2 _ (by omega), e3 _ (by omega), e4 _ (by omega), e5 _ (by omega), e6 _ (by omega), hkk, e7 _ (by omega), e8 _ (by omega), by omega⟩
end Go.Proofs.Ytehhhlhedmfdiaa.PFnExactImportNeeds
