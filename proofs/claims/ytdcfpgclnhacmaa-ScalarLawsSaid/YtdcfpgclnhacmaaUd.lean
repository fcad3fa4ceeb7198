/- Digits to a base: the number that digits are, and the digits of a number. No condition. -/
import Derived.Test.YtdcfpgclnhacmaaRb
namespace Go.Proofs.Ytdcfpgclnhacmaa
/-- The number that digits to the base β are, the lowest first. -/
def vd (β : Int) : List Int → Int
  | [] => 0
  | x :: l => x + β * vd β l
/-- The n lowest digits of a number. -/
def dg (β : Int) : Nat → Int → List Int
  | 0, _ => []
  | n + 1, V => V % β :: dg β n (V / β)
/-- Digits in their range. -/
def Dr (β : Int) (L : List Int) : Prop := ∀ j, 0 ≤ L.getD j 0 ∧ L.getD j 0 < β
theorem dg_length (β : Int) (n : Nat) (V : Int) : (dg β n V).length = n := by
  induction n generalizing V with
  | zero => rfl
  | succ n ih => simp [dg, ih]
theorem dg_in {β : Int} (hβ : 0 < β) (n : Nat) (V : Int) : Dr β (dg β n V) := by
  intro j
  induction n generalizing V j with
  | zero => simp [dg]; omega
  | succ n ih =>
    cases j with
    | zero => simp only [dg, List.getD_cons_zero]; exact ⟨Int.emod_nonneg _ (by omega), Int.emod_lt_of_pos _ hβ⟩
    | succ j => simp only [dg, List.getD_cons_succ]; exact ih _ _
theorem Dr.cons {β x : Int} {L : List Int} (h : Dr β (x :: L)) : (0 ≤ x ∧ x < β) ∧ Dr β L := ⟨h 0, fun j => h (j + 1)⟩
theorem Dr.of_mem {β : Int} (hβ : 0 < β) {L : List Int} (h : ∀ x ∈ L, 0 ≤ x ∧ x < β) : Dr β L := by
  intro j
  rw [List.getD_eq_getElem?_getD]
  by_cases hj : j < L.length
  · rw [List.getElem?_eq_getElem hj, Option.getD_some]; exact h _ (List.getElem_mem hj)
  · rw [List.getElem?_eq_none (by omega), Option.getD_none]; omega
theorem Dr.mem {β : Int} {L : List Int} (h : Dr β L) : ∀ x ∈ L, 0 ≤ x ∧ x < β := by
  intro x hx
  obtain ⟨j, hj, rfl⟩ := List.getElem_of_mem hx
  have := h j
  rw [List.getD_eq_getElem?_getD, List.getElem?_eq_getElem hj, Option.getD_some] at this
  exact this
theorem div_div {β p V : Int} (h : 0 < β) : V / β / p = V / (β * p) := by
  rw [Int.ediv_ediv, if_neg (by omega)]; omega
theorem vd_in {β : Int} (hβ : 0 < β) : ∀ {L : List Int}, Dr β L → 0 ≤ vd β L ∧ vd β L < β ^ L.length
  | [], _ => by simp [vd]
  | x :: L, h => by
    obtain ⟨h1, h2⟩ := vd_in hβ h.cons.2
    have h0 := h.cons.1
    simp only [vd, List.length_cons, Int.pow_succ]
    generalize β ^ L.length = p at *
    have h3 : β * (vd β L + 1) ≤ β * p := Int.mul_le_mul_of_nonneg_left (by omega) (by omega)
    have h4 : 0 ≤ β * vd β L := Int.mul_nonneg (by omega) h1
    rw [Int.mul_add, Int.mul_one] at h3
    rw [Int.mul_comm p β]
    omega
/-- What digits in their range are. -/
theorem dg_of {β : Int} (hβ : 0 < β) : ∀ {L : List Int}, Dr β L → L = dg β L.length (vd β L)
  | [], _ => rfl
  | x :: L, h => by
    have ih := dg_of hβ h.cons.2
    have h0 := h.cons.1
    have e1 : (x + β * vd β L) % β = x := by rw [Int.add_mul_emod_self_left]; exact Int.emod_eq_of_lt h0.1 h0.2
    have e2 : (x + β * vd β L) / β = vd β L := by rw [Int.add_mul_ediv_left _ _ (by omega), Int.ediv_eq_zero_of_lt h0.1 h0.2]; omega
    simp only [List.length_cons, dg, vd, e1, e2]
    rw [← ih]
theorem vd_dg {β : Int} (hβ : 0 < β) (n : Nat) (V : Int) (h : 0 ≤ V) (h1 : V < β ^ n) : vd β (dg β n V) = V := by
  induction n generalizing V with
  | zero => simp [dg, vd] at *; omega
  | succ n ih =>
    rw [Int.pow_succ] at h1
    simp only [dg, vd]
    rw [ih (V / β) (Int.ediv_nonneg h (by omega)) (Int.ediv_lt_of_lt_mul hβ h1)]
    exact Int.emod_add_mul_ediv V β
theorem vd_set (β : Int) : ∀ (L : List Int) (j : Nat) (x : Int), j < L.length → vd β (L.set j x) = vd β L + β ^ j * (x - L.getD j 0)
  | [], j, x, h => by simp at h
  | a :: L, 0, x, _ => by simp only [List.set_cons_zero, vd, List.getD_cons_zero, Int.pow_zero]; omega
  | a :: L, j + 1, x, h => by
    have ih := vd_set β L j x (by simpa using h)
    simp only [List.set_cons_succ, vd, List.getD_cons_succ, ih, Int.pow_succ]
    grind
theorem vd_take_succ (β : Int) (B : List Int) (k : Nat) (h : k < B.length) : vd β (B.take (k + 1)) = vd β (B.take k) + β ^ k * B.getD k 0 := by
  induction B generalizing k with
  | nil => simp at h
  | cons b B ih =>
    cases k with
    | zero => simp [vd]
    | succ k =>
      have := ih k (by simpa using h)
      simp only [List.take_succ_cons, vd, this, List.getD_cons_succ, Int.pow_succ]
      grind
theorem Dr.take {β : Int} (hβ : 0 < β) {L : List Int} (h : Dr β L) (k : Nat) : Dr β (L.take k) := Dr.of_mem hβ fun x hx => h.mem x (List.mem_of_mem_take hx)
theorem getD_set (L : List Int) (k : Nat) (x : Int) (j : Nat) (hk : k < L.length) : (L.set k x).getD j 0 = if j = k then x else L.getD j 0 := by
  rw [List.getD_eq_getElem?_getD, List.getElem?_set]
  by_cases h : j = k
  · subst h; simp [hk]
  · rw [if_neg (Ne.symm h), if_neg h, List.getD_eq_getElem?_getD]
theorem Dr.set {β : Int} {L : List Int} (h : Dr β L) (k : Nat) {x : Int} (hx : 0 ≤ x ∧ x < β) (hk : k < L.length) : Dr β (L.set k x) := by
  intro j
  rw [getD_set _ _ _ _ hk]
  split
  · exact hx
  · exact h j
/-- Digits from the place k on are 0 where the number is below β^k. -/
theorem dg_at {β : Int} (hβ : 0 < β) (n : Nat) (V : Int) (k : Nat) (hk : k < n) : (dg β n V).getD k 0 = V / β ^ k % β := by
  induction n generalizing V k with
  | zero => omega
  | succ n ih =>
    cases k with
    | zero => simp [dg]
    | succ k =>
      simp only [dg, List.getD_cons_succ]
      rw [ih _ _ (by omega), Int.pow_succ, Int.mul_comm, div_div hβ]
theorem dg_take {β : Int} (n : Nat) (V : Int) (k : Nat) (hk : k ≤ n) : (dg β n V).take k = dg β k V := by
  induction n generalizing V k with
  | zero => simp [dg, show k = 0 by omega]
  | succ n ih =>
    cases k with
    | zero => rfl
    | succ k => simp only [dg, List.take_succ_cons]; rw [ih _ _ (by omega)]
/-- What is added at the place k, where there is room. -/
theorem dg_add {β : Int} (hβ : 0 < β) (n : Nat) (V : Int) (k : Nat) (c : Int) (hk : k < n) (h0 : 0 ≤ V) (h1 : V < β ^ n) (hc : 0 ≤ (dg β n V).getD k 0 + c ∧ (dg β n V).getD k 0 + c < β) :
    (dg β n V).set k ((dg β n V).getD k 0 + c) = dg β n (V + β ^ k * c) := by
  have hl := dg_length β n V
  have hd := (dg_in hβ n V).set k hc (by omega)
  have e := dg_of hβ hd
  rw [vd_set _ _ _ _ (by omega), vd_dg hβ n V h0 h1, List.length_set, hl] at e
  rw [e, show (dg β n V).getD k 0 + c - (dg β n V).getD k 0 = c by omega]
/-- Numbers in range with the same digits. -/
theorem dg_mod {β : Int} (hβ : 0 < β) (n : Nat) (V : Int) : dg β n (V % β ^ n) = dg β n V := by
  induction n generalizing V with
  | zero => rfl
  | succ n ih =>
    have e1 : V % β ^ (n + 1) % β = V % β := Int.emod_emod_of_dvd _ ⟨β ^ n, by rw [Int.pow_succ, Int.mul_comm]⟩
    have e2 : V % β ^ (n + 1) / β = V / β % β ^ n := by
      rw [Int.pow_succ, Int.mul_comm]
      have hp : (0 : Int) < β ^ n := Int.pow_pos hβ
      have a := Int.emod_add_mul_ediv V (β * β ^ n)
      have b := Int.emod_add_mul_ediv (V / β) (β ^ n)
      have c := Int.emod_add_mul_ediv V β
      have d := div_div (V := V) (p := β ^ n) hβ
      have r0 := Int.emod_nonneg (V / β) (b := β ^ n) (by omega)
      have r2 := Int.emod_nonneg V (b := β) (by omega)
      have r3 := Int.emod_lt_of_pos V hβ
      have e : V % (β * β ^ n) = V % β + β * (V / β % β ^ n) := by
        rw [← d] at a
        have : β * (V / β) = β * (V / β % β ^ n) + β * β ^ n * (V / β / β ^ n) := by
          conv => lhs; rw [← b]
          rw [Int.mul_add, Int.mul_assoc]
        omega
      rw [e, Int.add_mul_ediv_left _ _ (by omega), Int.ediv_eq_zero_of_lt r2 r3]
      omega
    simp only [dg, e1, e2, ih]
end Go.Proofs.Ytdcfpgclnhacmaa
