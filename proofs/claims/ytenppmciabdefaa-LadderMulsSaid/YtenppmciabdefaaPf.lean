/- Canonical bytes of sixteen limbs. No condition. -/
import Derived.Test.YtenppmciabdefaaWk
namespace Go.Proofs.Ytenppmciabdefaa
open Go.RowKit
/-- Limbs that are 16 bits each. -/
def Fit16 (L : List Int) : Prop := L.length = 16 ∧ ∀ x ∈ L, 0 ≤ x ∧ x < 65536
theorem valL_lim : ∀ (L : List Int) (m : Int), (∀ x ∈ L, -m ≤ x ∧ x ≤ m) → -(m * valL (L.map fun _ => 1)) ≤ valL L ∧ valL L ≤ m * valL (L.map fun _ => 1)
  | [], m, _ => by simp [valL]
  | x :: L, m, h => by
    have ih := valL_lim L m fun y hy => h y (by simp [hy])
    have hx := h x (by simp)
    simp only [List.map_cons, valL]
    have e : m * (1 + 65536 * valL (L.map fun _ => 1)) = m + 65536 * (m * valL (L.map fun _ => 1)) := by grind
    rw [e]
    omega
/-- Three carries of small limbs: each of 16 bits, the number below 2^256, the same mod p. -/
theorem carR_thrice {L M M' M'' : List Int} (hL : L.length = 16) (hs : ∀ x ∈ L, -1024 ≤ x ∧ x ≤ 66560) (h1 : CarR L M) (h2 : CarR M M') (h3 : CarR M' M'') :
    Fit16 M'' ∧ valL M'' < 115792089237316195423570985008687907853269984665640564039457584007913129639936 ∧ ∃ k, valL M'' = valL L - PP * k := by
  obtain ⟨q, e, hl, hq, hb, hx⟩ := carR_in h1
  obtain ⟨q', e', hl', hq', hb', hx'⟩ := carR_in h2
  obtain ⟨q'', e'', hl'', hq'', hb'', hx''⟩ := carR_in h3
  have hv := valL_lim L 66560 fun x hm => by have := hs x hm; omega
  have h1s : valL (L.map fun _ => (1 : Int)) = 1766874025136433896750911497805568136923323180981774075523881651146915841 := by
    obtain ⟨x0, x1, x2, x3, x4, x5, x6, x7, x8, x9, x10, x11, x12, x13, x14, x15, rfl⟩ := list16 hL
    rfl
  rw [h1s] at hv
  unfold PP at *
  have hq0 : -2 ≤ q ∧ q ≤ 2 := by omega
  have hq1 : -1 ≤ q' ∧ q' ≤ 1 := by omega
  have hq2 : q'' = 0 := by omega
  subst hq2
  refine ⟨⟨hl'', fun x hm => ?_⟩, by omega, 2 * q + 2 * q', by omega⟩
  have := hx'' x hm
  simp at this
  omega
/-- One step of taking p away: the limb ahead may lend. -/
def most (i : Nat) : Int := if i = 15 then 32767 else 65535
def sstep (S : List Int) (j : Nat) : List Int :=
  if S.getD j 0 < 0 then (S.set j (S.getD j 0 + 65536)).set (j + 1) (S.getD (j + 1) 0 - most (j + 1) - 1) else S.set (j + 1) (S.getD (j + 1) 0 - most (j + 1))
def srow (L : List Int) : Nat → List Int
  | 0 => L.set 0 (L.getD 0 0 - 65517)
  | j + 1 => sstep (srow L j) j
structure SOk (L S : List Int) (j : Nat) : Prop where
  len : S.length = 16
  low : ∀ i, i < j → 0 ≤ S.getD i 0 ∧ S.getD i 0 < 65536
  cur : -65536 ≤ S.getD j 0 ∧ S.getD j 0 < 65536
  rest : ∀ i, j < i → S.getD i 0 = L.getD i 0
theorem srow_ok (L : List Int) (h : Fit16 L) (j : Nat) (hj : j < 16) : SOk L (srow L j) j := by
  have hg : ∀ i, 0 ≤ L.getD i 0 ∧ L.getD i 0 < 65536 := fun i => by
    rw [List.getD_eq_getElem?_getD]
    by_cases hi : i < L.length
    · simp only [List.getElem?_eq_getElem hi, Option.getD_some]; exact h.2 _ (List.getElem_mem hi)
    · simp [List.getElem?_eq_none (Nat.le_of_not_lt hi)]
  have hl := h.1
  induction j with
  | zero =>
    refine ⟨by simp [srow, hl], fun i hi => by omega, ?_, fun i hi => ?_⟩
    · have := hg 0
      rw [srow, set_getD, if_pos ⟨rfl, by omega⟩]; omega
    · rw [srow, set_getD, if_neg (by omega)]
  | succ j ih =>
    obtain ⟨i1, i2, i3, i4⟩ := ih (by omega)
    have h4 := i4 (j + 1) (by omega)
    have h5 := hg (j + 1)
    have hm : 32767 ≤ most (j + 1) ∧ most (j + 1) ≤ 65535 := by unfold most; split <;> omega
    rw [srow]
    unfold sstep
    split
    · rename_i hneg
      refine ⟨by simp [i1], fun i hi => ?_, ?_, fun i hi => ?_⟩
      · rw [set_getD, if_neg (by omega), set_getD]
        by_cases e : j = i
        · rw [if_pos ⟨e, by omega⟩]; omega
        · rw [if_neg (by omega)]; exact i2 i (by omega)
      · rw [set_getD, if_pos ⟨rfl, by simp [i1]; omega⟩]; omega
      · rw [set_getD, if_neg (by omega), set_getD, if_neg (by omega)]; exact i4 i (by omega)
    · rename_i hneg
      refine ⟨by simp [i1], fun i hi => ?_, ?_, fun i hi => ?_⟩
      · rw [set_getD, if_neg (by omega)]
        by_cases e : j = i
        · subst e; omega
        · exact i2 i (by omega)
      · rw [set_getD, if_pos ⟨rfl, by omega⟩]; omega
      · rw [set_getD, if_neg (by omega)]; exact i4 i (by omega)
def lessP : Nat → Int
  | 0 => 65517
  | j + 1 => lessP j + 65536 ^ (j + 1) * most (j + 1)
theorem valL_put (T : List Int) (j : Nat) (x : Int) (h : j < T.length) : valL (T.set j x) = valL T + 65536 ^ j * (x - T.getD j 0) := by
  have := valL_set T j (x - T.getD j 0) h
  rw [show T.getD j 0 + (x - T.getD j 0) = x by omega] at this
  exact this
theorem srow_val (L : List Int) (h : Fit16 L) (j : Nat) (hj : j < 16) : valL (srow L j) = valL L - lessP j := by
  induction j with
  | zero =>
    have := h.1
    rw [srow, valL_put _ _ _ (by omega)]
    simp only [lessP, Int.pow_zero]
    omega
  | succ j ih =>
    have ih := ih (by omega)
    obtain ⟨i1, _, _, _⟩ := srow_ok L h j (by omega)
    rw [srow]
    unfold sstep
    split
    · rw [valL_put _ _ _ (by simp [i1]; omega), valL_put _ _ _ (by omega), set_getD, if_neg (by omega), ih, lessP, Int.pow_succ]
      grind
    · rw [valL_put _ _ _ (by omega), ih, lessP]
      grind
theorem lessP_all : lessP 15 = PP := by rfl
/-- All of p taken away: the last limb tells whether the number was p or more. -/
theorem srow_end (L : List Int) (h : Fit16 L) : (srow L 15).length = 16 ∧ valL (srow L 15) = valL L - PP ∧ (0 ≤ (srow L 15).getD 15 0 → Fit16 (srow L 15)) ∧ ((srow L 15).getD 15 0 < 0 → valL L < PP) := by
  obtain ⟨i1, i2, i3, _⟩ := srow_ok L h 15 (by omega)
  have hv := srow_val L h 15 (by omega)
  rw [lessP_all] at hv
  refine ⟨i1, hv, fun h0 => ⟨i1, fun x hx => ?_⟩, fun h0 => ?_⟩
  · obtain ⟨i, hi, rfl⟩ := List.mem_iff_getElem.1 hx
    rcases Nat.lt_or_ge i 15 with hlt | hge
    · have := i2 i hlt
      rw [List.getD_eq_getElem?_getD, List.getElem?_eq_getElem hi] at this
      exact this
    · have e : i = 15 := by omega
      subst e
      rw [List.getD_eq_getElem?_getD, List.getElem?_eq_getElem hi] at h0 i3
      simp at h0 i3 ⊢
      omega
  · have g : ∀ i, i < 15 → 0 ≤ (srow L 15).getD i 0 ∧ (srow L 15).getD i 0 < 65536 := i2
    generalize hS : srow L 15 = S at *
    obtain ⟨x0, x1, x2, x3, x4, x5, x6, x7, x8, x9, x10, x11, x12, x13, x14, x15, rfl⟩ := list16 i1
    have g0 : 0 ≤ x0 ∧ x0 < 65536 := g 0 (by omega)
    have g1 : 0 ≤ x1 ∧ x1 < 65536 := g 1 (by omega)
    have g2 : 0 ≤ x2 ∧ x2 < 65536 := g 2 (by omega)
    have g3 : 0 ≤ x3 ∧ x3 < 65536 := g 3 (by omega)
    have g4 : 0 ≤ x4 ∧ x4 < 65536 := g 4 (by omega)
    have g5 : 0 ≤ x5 ∧ x5 < 65536 := g 5 (by omega)
    have g6 : 0 ≤ x6 ∧ x6 < 65536 := g 6 (by omega)
    have g7 : 0 ≤ x7 ∧ x7 < 65536 := g 7 (by omega)
    have g8 : 0 ≤ x8 ∧ x8 < 65536 := g 8 (by omega)
    have g9 : 0 ≤ x9 ∧ x9 < 65536 := g 9 (by omega)
    have g10 : 0 ≤ x10 ∧ x10 < 65536 := g 10 (by omega)
    have g11 : 0 ≤ x11 ∧ x11 < 65536 := g 11 (by omega)
    have g12 : 0 ≤ x12 ∧ x12 < 65536 := g 12 (by omega)
    have g13 : 0 ≤ x13 ∧ x13 < 65536 := g 13 (by omega)
    have g14 : 0 ≤ x14 ∧ x14 < 65536 := g 14 (by omega)
    have g15 : x15 < 0 := h0
    simp only [valL] at hv
    omega
/-- The bytes of limbs, two each. -/
def bytesL : List Int → List Int
  | [] => []
  | x :: l => x % 256 :: x / 256 :: bytesL l
end Go.Proofs.Ytenppmciabdefaa
