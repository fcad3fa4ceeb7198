/- Digits of differences, of doubles and of sums, place by place. No condition. -/
import Derived.Test.YtdcfpgclnhacmaaUe
namespace Go.Proofs.Ytdcfpgclnhacmaa
/-- The first k of L, the rest of M. -/
def mix (L M : List Int) (k : Nat) : List Int := L.take k ++ M.drop k
theorem mix_length (L M : List Int) (k : Nat) (h : L.length = M.length) (hk : k ≤ M.length) : (mix L M k).length = M.length := by simp [mix]; omega
theorem mix_zero (L M : List Int) : mix L M 0 = M := by simp [mix]
theorem mix_all (L M : List Int) (h : L.length = M.length) : mix L M M.length = L := by simp [mix, ← h]
theorem mix_at (L M : List Int) (k : Nat) (h : L.length = M.length) (hk : k < M.length) : (mix L M k).getD k 0 = M.getD k 0 := by
  simp only [mix, List.getD_eq_getElem?_getD]
  rw [List.getElem?_append_right (by simp; omega)]
  simp [show min k L.length = k by omega]
theorem mix_set (L M : List Int) (k : Nat) (h : L.length = M.length) (hk : k < M.length) : (mix L M k).set k (L.getD k 0) = mix L M (k + 1) := by
  apply List.ext_getElem?
  intro j
  rw [List.getElem?_set]
  simp only [mix, List.getElem?_append, List.length_append, List.length_take, List.length_drop, List.getElem?_take, List.getElem?_drop]
  rw [show min k L.length = k by omega, show min (k + 1) L.length = k + 1 by omega]
  by_cases h1 : k = j
  · subst h1
    rw [if_pos rfl, if_pos (by omega), if_pos (by omega), if_pos (by omega)]
    simp [show k < L.length by omega]
  · rw [if_neg h1]
    by_cases h2 : j < k
    · rw [if_pos h2, if_pos h2, if_pos (by omega), if_pos (by omega)]
    · rw [if_neg h2, if_neg (by omega)]
      congr 1; omega
theorem Dr.mix {β : Int} (hβ : 0 < β) {L M : List Int} (hL : Dr β L) (hM : Dr β M) (k : Nat) : Dr β (mix L M k) := Dr.of_mem hβ fun x hx => by
  rcases List.mem_append.1 hx with h | h
  · exact hL.mem x (List.mem_of_mem_take h)
  · exact hM.mem x (List.mem_of_mem_drop h)
section
variable {β : Int} (hβ : 0 < β)
theorem powβ (k : Nat) (hβ : 0 < β) : 0 < β ^ k := Int.pow_pos hβ
include hβ
theorem mod_succ (V : Int) (k : Nat) : V % β ^ (k + 1) = V % β ^ k + β ^ k * (V / β ^ k % β) := by
  have hp : 0 < β ^ k := powβ k hβ
  have a := Int.emod_add_mul_ediv V (β ^ k)
  have b := Int.emod_add_mul_ediv (V / β ^ k) β
  have c := Int.emod_add_mul_ediv V (β ^ (k + 1))
  have d := div_div (V := V) (p := β) hp
  rw [← Int.pow_succ] at d
  rw [← d] at c
  have e : β ^ k * (V / β ^ k) = β ^ k * (V / β ^ k % β) + β ^ (k + 1) * (V / β ^ k / β) := by
    conv => lhs; rw [← b]
    rw [Int.mul_add, ← Int.mul_assoc, ← Int.pow_succ]
  omega
/-- The borrow at the place k. -/
def brw (β A B : Int) (k : Nat) : Int := -((A % β ^ k - B % β ^ k) / β ^ k)
omit hβ in
theorem brw_zero (A B : Int) : brw β A B 0 = 0 := by simp [brw]
theorem brw_in (A B : Int) (k : Nat) : 0 ≤ brw β A B k ∧ brw β A B k ≤ 1 := by
  have hp := powβ k hβ
  have a0 := Int.emod_nonneg A (b := β ^ k) (by omega)
  have a1 := Int.emod_lt_of_pos A hp
  have b0 := Int.emod_nonneg B (b := β ^ k) (by omega)
  have b1 := Int.emod_lt_of_pos B hp
  unfold brw
  have h1 : -1 ≤ (A % β ^ k - B % β ^ k) / β ^ k := Int.le_ediv_of_mul_le hp (by omega)
  have h2 : (A % β ^ k - B % β ^ k) / β ^ k < 1 := Int.ediv_lt_of_lt_mul hp (by omega)
  omega
theorem brw_digit (A B : Int) (k : Nat) : A / β ^ k % β - B / β ^ k % β - brw β A B k = (A % β ^ (k + 1) - B % β ^ (k + 1)) / β ^ k := by
  have hp := powβ k hβ
  rw [mod_succ hβ A k, mod_succ hβ B k]
  unfold brw
  have : A % β ^ k + β ^ k * (A / β ^ k % β) - (B % β ^ k + β ^ k * (B / β ^ k % β)) = A % β ^ k - B % β ^ k + β ^ k * (A / β ^ k % β - B / β ^ k % β) := by grind
  rw [this, Int.add_mul_ediv_left _ _ (by omega)]
  omega
theorem brw_out (A B : Int) (k : Nat) : (A / β ^ k % β - B / β ^ k % β - brw β A B k) % β = (A - B) / β ^ k % β := by
  have hp := powβ k hβ
  rw [brw_digit hβ]
  have a := Int.emod_add_mul_ediv A (β ^ (k + 1))
  have b := Int.emod_add_mul_ediv B (β ^ (k + 1))
  have : A - B = A % β ^ (k + 1) - B % β ^ (k + 1) + β ^ k * (β * (A / β ^ (k + 1) - B / β ^ (k + 1))) := by
    rw [← Int.mul_assoc, show β ^ k * β = β ^ (k + 1) from (Int.pow_succ _ _).symm, Int.mul_sub]; omega
  conv => rhs; rw [this]
  rw [Int.add_mul_ediv_left _ _ (by omega), Int.add_mul_emod_self_left]
theorem brw_next (A B : Int) (k : Nat) : -((A / β ^ k % β - B / β ^ k % β - brw β A B k) / β) = brw β A B (k + 1) := by
  rw [brw_digit hβ, brw, Int.pow_succ, div_div (powβ k hβ)]
theorem brw_all (A B : Int) (n : Nat) (hA : 0 ≤ A ∧ A < β ^ n) (hB : 0 ≤ B ∧ B < β ^ n) : (brw β A B n == 0) = decide (B ≤ A) := by
  have hp := powβ n hβ
  unfold brw
  rw [Int.emod_eq_of_lt hA.1 hA.2, Int.emod_eq_of_lt hB.1 hB.2]
  by_cases h : B ≤ A
  · rw [Int.ediv_eq_zero_of_lt (by omega) (by omega)]; simp [h]
  · have h1 : (A - B) / β ^ n < 0 := Int.ediv_neg_of_neg_of_pos (by omega) hp
    have h2 : (-((A - B) / β ^ n) == 0) = false := by simp; omega
    rw [h2]; simp [h]
/-- The carry at the place k of twice V and b. -/
def cry (β V b : Int) (k : Nat) : Int := (2 * (V % β ^ k) + b) / β ^ k
omit hβ in
theorem cry_zero (V b : Int) : cry β V b 0 = b := by simp [cry]
theorem cry_digit (V b : Int) (k : Nat) : 2 * (V / β ^ k % β) + cry β V b k = (2 * (V % β ^ (k + 1)) + b) / β ^ k := by
  have hp := powβ k hβ
  rw [mod_succ hβ V k, cry]
  have : 2 * (V % β ^ k + β ^ k * (V / β ^ k % β)) + b = 2 * (V % β ^ k) + b + β ^ k * (2 * (V / β ^ k % β)) := by grind
  rw [this, Int.add_mul_ediv_left _ _ (by omega)]
  omega
theorem cry_out (V b : Int) (k : Nat) : (2 * (V / β ^ k % β) + cry β V b k) % β = (2 * V + b) / β ^ k % β := by
  have hp := powβ k hβ
  rw [cry_digit hβ]
  have a := Int.emod_add_mul_ediv V (β ^ (k + 1))
  have : 2 * V + b = 2 * (V % β ^ (k + 1)) + b + β ^ k * (β * (2 * (V / β ^ (k + 1)))) := by
    rw [← Int.mul_assoc, show β ^ k * β = β ^ (k + 1) from (Int.pow_succ _ _).symm, Int.mul_left_comm]; omega
  conv => rhs; rw [this]
  rw [Int.add_mul_ediv_left _ _ (by omega), Int.add_mul_emod_self_left]
theorem cry_next (V b : Int) (k : Nat) : (2 * (V / β ^ k % β) + cry β V b k) / β = cry β V b (k + 1) := by
  rw [cry_digit hβ, cry, Int.pow_succ, div_div (powβ k hβ)]
theorem cry_in (V b : Int) (k : Nat) (hb : 0 ≤ b ∧ b ≤ 1) : 0 ≤ cry β V b k ∧ cry β V b k ≤ 1 := by
  have hp := powβ k hβ
  have a0 := Int.emod_nonneg V (b := β ^ k) (by omega)
  have a1 := Int.emod_lt_of_pos V hp
  unfold cry
  have h1 : 0 ≤ (2 * (V % β ^ k) + b) / β ^ k := Int.ediv_nonneg (by omega) (by omega)
  have h2 : (2 * (V % β ^ k) + b) / β ^ k < 2 := Int.ediv_lt_of_lt_mul hp (by omega)
  omega
/-- Digits at the place where a number ends. -/
theorem digit_lt (V : Int) (q : Nat) (p : Int) (h0 : 0 ≤ V) (h : V < β ^ q * p) : 0 ≤ V / β ^ q % β ∧ V / β ^ q % β < p ∧ (p ≤ β → V / β ^ q % β = V / β ^ q) := by
  have hp := powβ q hβ
  have h1 : 0 ≤ V / β ^ q := Int.ediv_nonneg h0 (by omega)
  have h2 : V / β ^ q < p := Int.ediv_lt_of_lt_mul hp (by rw [Int.mul_comm]; exact h)
  have h3 : V / β ^ q % β ≤ V / β ^ q := by
    have a := Int.emod_add_mul_ediv (V / β ^ q) β
    have b := Int.mul_nonneg (show 0 ≤ β by omega) (Int.ediv_nonneg h1 (show 0 ≤ β by omega))
    omega
  exact ⟨Int.emod_nonneg _ (by omega), by omega, fun hpβ => Int.emod_eq_of_lt h1 (by omega)⟩
/-- One place of a sum: the digit and the carry. -/
theorem place_add (n : Nat) (V : Int) (j : Nat) (a : Int) (hj : j < n) (h0 : 0 ≤ V) (h1 : V < β ^ n) :
    (dg β n V).set j (((dg β n V).getD j 0 + a) % β) = dg β n (V + β ^ j * (((dg β n V).getD j 0 + a) % β - (dg β n V).getD j 0)) ∧
    V + β ^ j * (((dg β n V).getD j 0 + a) % β - (dg β n V).getD j 0) + β ^ (j + 1) * (((dg β n V).getD j 0 + a) / β) = V + β ^ j * a := by
  generalize hd : (dg β n V).getD j 0 = d
  have e := Int.emod_add_mul_ediv (d + a) β
  have r0 := Int.emod_nonneg (d + a) (b := β) (by omega)
  have r1 := Int.emod_lt_of_pos (d + a) hβ
  constructor
  · have := dg_add hβ n V j ((d + a) % β - d) hj h0 h1 (by rw [hd]; omega)
    rw [hd] at this
    rw [← this]
    congr 1
    omega
  · generalize (d + a) % β = r at *
    generalize (d + a) / β = q at *
    rw [Int.pow_succ]
    have : d + a = r + β * q := e.symm
    obtain rfl : a = r + β * q - d := by omega
    grind
end
end Go.Proofs.Ytdcfpgclnhacmaa
