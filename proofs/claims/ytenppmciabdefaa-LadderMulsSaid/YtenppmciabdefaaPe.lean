/- Products of limbs, row by row. No condition. -/
import Derived.Test.YtenppmciabdefaaWj
namespace Go.Proofs.Ytenppmciabdefaa
open Go.RowKit
theorem valL_set : ∀ (T : List Int) (j : Nat) (x : Int), j < T.length → valL (T.set j (T.getD j 0 + x)) = valL T + 65536 ^ j * x
  | [], j, x, h => by simp at h
  | a :: T, 0, x, _ => by simp only [List.set_cons_zero, valL, List.getD_cons_zero, Int.pow_zero]; omega
  | a :: T, j + 1, x, h => by
    have ih := valL_set T j x (by simpa using h)
    simp only [List.set_cons_succ, valL, List.getD_cons_succ, ih, Int.pow_succ]
    grind
def tstep (A B T : List Int) (i k : Nat) : List Int := T.set (i + k) (T.getD (i + k) 0 + A.getD i 0 * B.getD k 0)
def trow (A B T : List Int) (i : Nat) : Nat → List Int
  | 0 => T
  | k + 1 => tstep A B (trow A B T i k) i k
def tall (A B : List Int) : Nat → List Int
  | 0 => List.replicate 31 0
  | i + 1 => trow A B (tall A B i) i 16
theorem trow_length (A B T : List Int) (i k : Nat) : (trow A B T i k).length = T.length := by
  induction k with
  | zero => rfl
  | succ k ih => simp [trow, tstep, ih]
theorem tall_length (A B : List Int) (i : Nat) : (tall A B i).length = 31 := by
  induction i with
  | zero => rfl
  | succ i ih => rw [tall, trow_length, ih]
theorem take_succ_val (B : List Int) (k : Nat) (h : k < B.length) : valL (B.take (k + 1)) = valL (B.take k) + 65536 ^ k * B.getD k 0 := by
  induction B generalizing k with
  | nil => simp at h
  | cons b B ih =>
    cases k with
    | zero => simp [valL]
    | succ k =>
      have := ih k (by simpa using h)
      simp only [List.take_succ_cons, valL, this, List.getD_cons_succ, Int.pow_succ]
      grind
theorem trow_val (A B T : List Int) (i k : Nat) (hT : T.length = 31) (hi : i < 16) (hB : B.length = 16) (hk : k ≤ 16) :
    valL (trow A B T i k) = valL T + 65536 ^ i * (A.getD i 0 * valL (B.take k)) := by
  induction k with
  | zero => simp [trow, valL]
  | succ k ih =>
    have ih := ih (by omega)
    have hl : (trow A B T i k).length = 31 := by rw [trow_length, hT]
    rw [trow, tstep, valL_set _ _ _ (by omega), ih, take_succ_val B k (by omega), Int.pow_add]
    grind
theorem tall_val (A B : List Int) (i : Nat) (hA : A.length = 16) (hB : B.length = 16) (hi : i ≤ 16) : valL (tall A B i) = valL (A.take i) * valL B := by
  induction i with
  | zero => simp [tall, valL, List.replicate]
  | succ i ih =>
    have ih := ih (by omega)
    rw [tall, trow_val A B _ i 16 (tall_length A B i) (by omega) hB (by omega), ih, take_succ_val A i (by omega), List.take_of_length_le (l := B) (by omega)]
    grind
/-- What a limb of a factor may be. -/
def Lim (m : Int) (L : List Int) : Prop := ∀ j, -m ≤ L.getD j 0 ∧ L.getD j 0 ≤ m
theorem set_getD (T : List Int) (j n : Nat) (x : Int) : (T.set j x).getD n 0 = if j = n ∧ j < T.length then x else T.getD n 0 := by
  rw [List.getD_eq_getElem?_getD, List.getElem?_set, List.getD_eq_getElem?_getD]
  by_cases h : j = n
  · subst h
    by_cases h2 : j < T.length
    · simp [h2]
    · simp [h2]
  · simp [h]
theorem prod_lim (x y : Int) (hx : -131072 ≤ x ∧ x ≤ 131072) (hy : -131072 ≤ y ∧ y ≤ 131072) : -17179869184 ≤ x * y ∧ x * y ≤ 17179869184 := by
  have h1 : 0 ≤ (131072 - x) * (131072 - y) := Int.mul_nonneg (by omega) (by omega)
  have h2 : 0 ≤ (131072 + x) * (131072 + y) := Int.mul_nonneg (by omega) (by omega)
  have h3 : 0 ≤ (131072 - x) * (131072 + y) := Int.mul_nonneg (by omega) (by omega)
  have h4 : 0 ≤ (131072 + x) * (131072 - y) := Int.mul_nonneg (by omega) (by omega)
  have e1 : (131072 - x) * (131072 - y) = 17179869184 - 131072 * x - 131072 * y + x * y := by grind
  have e2 : (131072 + x) * (131072 + y) = 17179869184 + 131072 * x + 131072 * y + x * y := by grind
  have e3 : (131072 - x) * (131072 + y) = 17179869184 - 131072 * x + 131072 * y - x * y := by grind
  have e4 : (131072 + x) * (131072 - y) = 17179869184 + 131072 * x - 131072 * y - x * y := by grind
  omega
theorem trow_lim (A B T : List Int) (i k : Nat) (m : Int) (hT : Lim m T) (hA : Lim 131072 A) (hB : Lim 131072 B) : Lim (m + 17179869184 * k) (trow A B T i k) := by
  induction k with
  | zero => simpa [trow] using hT
  | succ k ih =>
    intro j
    rw [trow, tstep, set_getD]
    have h1 := ih j
    have h2 := ih (i + k)
    have h3 := prod_lim _ _ (hA i) (hB k)
    generalize (trow A B T i k).getD j 0 = u at *
    generalize (trow A B T i k).getD (i + k) 0 = v at *
    generalize A.getD i 0 * B.getD k 0 = p at *
    split <;> omega
theorem tall_lim (A B : List Int) (i : Nat) (hA : Lim 131072 A) (hB : Lim 131072 B) : Lim (274877906944 * i) (tall A B i) := by
  induction i with
  | zero =>
    intro j
    have : (List.replicate 31 (0 : Int)).getD j 0 = 0 := by
      rw [List.getD_eq_getElem?_getD, List.getElem?_replicate]
      split <;> rfl
    rw [tall, this]
    omega
  | succ i ih =>
    have := trow_lim A B _ i 16 _ ih hA hB
    intro j
    have h := this j
    rw [tall]
    omega
/-- What a limb is when the upper half has come back 38-fold. -/
def nf (T : List Int) (i : Nat) : Int := if i < 15 then T.getD i 0 + 38 * T.getD (i + 16) 0 else T.getD i 0
def nrow (T : List Int) (k : Nat) : List Int := (List.range 16).map fun i => if i < k then nf T i else 0
theorem nrow_length (T : List Int) (k : Nat) : (nrow T k).length = 16 := by simp [nrow]
theorem nrow_step (T : List Int) (k : Nat) : (nrow T k).set k (nf T k) = nrow T (k + 1) := by
  apply List.ext_getElem
  · simp [nrow]
  · intro i h1 h2
    simp only [nrow, List.getElem_set, List.getElem_map, List.getElem_range]
    by_cases h : k = i
    · subst h; simp
    · rw [if_neg h]
      by_cases h3 : i < k
      · rw [if_pos h3, if_pos (by omega)]
      · rw [if_neg h3, if_neg (by omega)]
theorem list31 {l : List Int} (h : l.length = 31) : ∃ t0 t1 t2 t3 t4 t5 t6 t7 t8 t9 t10 t11 t12 t13 t14 t15 t16 t17 t18 t19 t20 t21 t22 t23 t24 t25 t26 t27 t28 t29 t30 : Int, l = [t0, t1, t2, t3, t4, t5, t6, t7, t8, t9, t10, t11, t12, t13, t14, t15, t16, t17, t18, t19, t20, t21, t22, t23, t24, t25, t26, t27, t28, t29, t30] := by
  match l, h with
  | [t0, t1, t2, t3, t4, t5, t6, t7, t8, t9, t10, t11, t12, t13, t14, t15, t16, t17, t18, t19, t20, t21, t22, t23, t24, t25, t26, t27, t28, t29, t30], _ => exact ⟨_, _, _, _, _, _, _, _, _, _, _, _, _, _, _, _, _, _, _, _, _, _, _, _, _, _, _, _, _, _, _, rfl⟩
theorem nrow_val (T : List Int) (h : T.length = 31) : ∃ k, valL (nrow T 16) = valL T - PP * k := by
  obtain ⟨t0, t1, t2, t3, t4, t5, t6, t7, t8, t9, t10, t11, t12, t13, t14, t15, t16, t17, t18, t19, t20, t21, t22, t23, t24, t25, t26, t27, t28, t29, t30, rfl⟩ := list31 h
  refine ⟨2 * valL [t16, t17, t18, t19, t20, t21, t22, t23, t24, t25, t26, t27, t28, t29, t30], ?_⟩
  have e : nrow [t0, t1, t2, t3, t4, t5, t6, t7, t8, t9, t10, t11, t12, t13, t14, t15, t16, t17, t18, t19, t20, t21, t22, t23, t24, t25, t26, t27, t28, t29, t30] 16 = [t0 + 38 * t16, t1 + 38 * t17, t2 + 38 * t18, t3 + 38 * t19, t4 + 38 * t20, t5 + 38 * t21, t6 + 38 * t22, t7 + 38 * t23, t8 + 38 * t24, t9 + 38 * t25, t10 + 38 * t26, t11 + 38 * t27, t12 + 38 * t28, t13 + 38 * t29, t14 + 38 * t30, t15] := rfl
  rw [e]
  simp only [valL, PP]
  omega
theorem nrow_lim (T : List Int) (m : Int) (h : Lim m T) : ∀ x ∈ nrow T 16, -(39 * m) ≤ x ∧ x ≤ 39 * m := by
  intro x hx
  simp only [nrow, List.mem_map, List.mem_range] at hx
  obtain ⟨i, hi, rfl⟩ := hx
  rw [if_pos hi]
  have h1 := h i
  have h2 := h (i + 16)
  unfold nf
  split <;> omega
/-- Limbs of a Number that was carried: small, and N mod p. -/
def NumP (L : List Int) (N : Int) : Prop := L.length = 16 ∧ (∀ x ∈ L, -1024 ≤ x ∧ x ≤ 66560) ∧ PP ∣ valL L - N
theorem NumP.lim {L : List Int} {N : Int} (h : NumP L N) : Lim 131072 L := by
  intro j
  rw [List.getD_eq_getElem?_getD]
  by_cases hj : j < L.length
  · have := h.2.1 L[j] (List.getElem_mem hj)
    simp only [List.getElem?_eq_getElem hj, Option.getD_some]
    omega
  · simp [List.getElem?_eq_none (Nat.le_of_not_lt hj)]
theorem valL_in : ∀ (L : List Int), (∀ x ∈ L, 0 ≤ x ∧ x < 65536) → 0 ≤ valL L ∧ valL L < 65536 ^ L.length
  | [], _ => by simp [valL]
  | x :: L, h => by
    have ih := valL_in L fun y hy => h y (by simp [hy])
    have hx := h x (by simp)
    simp only [valL, List.length_cons, Int.pow_succ]
    omega
theorem carR_in {L M : List Int} (h : CarR L M) : ∃ q, valL M = valL L - PP * (2 * q) ∧ M.length = 16 ∧ (-35184372088832 ≤ q ∧ q ≤ 35184372088832) ∧
    (0 ≤ valL M - 38 * q ∧ valL M - 38 * q < 115792089237316195423570985008687907853269984665640564039457584007913129639936) ∧ (∀ x ∈ M, 0 - 38 * (if q < 0 then -q else 0) ≤ x ∧ x ≤ 65535 + 38 * (if 0 < q then q else 0)) := by
  obtain ⟨q, r, T, rfl, hT, hr, hall, hv, hq⟩ := h
  have hin := valL_in (r :: T) (by
    intro x hx
    rcases List.mem_cons.1 hx with rfl | hx
    · exact hr
    · exact hall x hx)
  have hl : (65536 : Int) ^ (r :: T).length = 115792089237316195423570985008687907853269984665640564039457584007913129639936 := by
    rw [List.length_cons, hT]; rfl
  rw [hl] at hin
  have e : valL ((r + 38 * q) :: T) = valL (r :: T) + 38 * q := by simp only [valL]; omega
  refine ⟨q, ?_, by simp [hT], hq, ?_, ?_⟩
  · rw [e]; unfold PP; omega
  · rw [e]; omega
  · intro x hx
    rcases List.mem_cons.1 hx with rfl | hx
    · split <;> split <;> omega
    · have := hall x hx
      split <;> split <;> omega
/-- Two carries of any limbs. -/
theorem carR_twice {L M M' : List Int} {N : Int} (h1 : CarR L M) (h2 : CarR M M') (hN : PP ∣ valL L - N) : NumP M' N := by
  obtain ⟨q, e, hl, hq, hb, hx⟩ := carR_in h1
  obtain ⟨q', e', hl', hq', hb', hx'⟩ := carR_in h2
  have hq2 : -1 ≤ q' ∧ q' ≤ 1 := by unfold PP at *; omega
  refine ⟨hl', fun x hm => ?_, ?_⟩
  · have := hx' x hm
    split at this <;> split at this <;> omega
  · obtain ⟨k, hk⟩ := hN
    exact ⟨k - 2 * q - 2 * q', by rw [e', e]; grind⟩
end Go.Proofs.Ytenppmciabdefaa
