/- Nine words: difference, shifts, the rest. No condition. -/
import Derived.Test.YtdcfpgclnhacmaaUa
namespace Go.Proofs.Ytdcfpgclnhacmaa
theorem msubs_in (A B : List Int) (k : Nat) (hA : Wd A) (hB : Wd B) : Wd (msubs A B k).1 ∧ 0 ≤ (msubs A B k).2 ∧ (msubs A B k).2 ≤ 1 := by
  induction k with
  | zero => exact ⟨hA, by simp [msubs], by simp [msubs]⟩
  | succ k ih =>
    obtain ⟨h1, h2, h3⟩ := ih
    have hx := h1 k
    have hy := hB k
    simp only [msubs, msub]
    refine ⟨fun j => ?_, by omega, by omega⟩
    rw [List.getD_eq_getElem?_getD, List.getElem?_set]
    split
    · split
      · simp only [Option.getD_some]; omega
      · simp
    · rw [← List.getD_eq_getElem?_getD]; exact h1 j
/-- The order of the group. -/
def LL : Int := 7237005577332262213973186563042994240857116359379907606001950938285454250989
/-- Nine words. -/
abbrev w9 (V : Int) : List Int := dg 18446744073709551616 9 V
def M9 : Int := 18446744073709551616 ^ 9
theorem w9_length (V : Int) : (w9 V).length = 9 := dg_length _ _ _
theorem w9_in (V : Int) : Wd (w9 V) := dg_in (by omega) _ _
theorem minus_w9 (A B : Int) (hA : 0 ≤ A ∧ A < M9) (hB : 0 ≤ B ∧ B < M9) :
    (msubs (w9 A) (w9 B) 9).1 = w9 (A - B) ∧ ((msubs (w9 A) (w9 B) 9).2 == 0) = decide (B ≤ A) := by
  have h0 := msubs_in (w9 A) (w9 B) 9 (w9_in A) (w9_in B)
  have h1 := msubs_val (w9 A) (w9 B) 9 (w9_length A) (w9_length B) (by omega)
  have h2 := msubs_length (w9 A) (w9 B) 9
  rw [w9_length] at h2
  rw [List.take_of_length_le (by rw [w9_length]; omega), vd_dg (by omega) 9 A hA.1 hA.2, vd_dg (by omega) 9 B hB.1 hB.2] at h1
  have h3 := vd_in (by omega) h0.1
  have h4 := dg_of (by omega) h0.1
  rw [h2] at h3 h4
  have hM : (18446744073709551616 : Int) ^ 9 = M9 := rfl
  rw [hM] at h1 h3
  generalize (msubs (w9 A) (w9 B) 9).2 = c at *
  generalize hX : vd 18446744073709551616 (msubs (w9 A) (w9 B) 9).1 = X at *
  have hc : c = 0 ∨ c = 1 := by omega
  constructor
  · show _ = dg 18446744073709551616 9 (A - B)
    rw [h4, ← dg_mod (β := 18446744073709551616) (by omega) 9 X, ← dg_mod (β := 18446744073709551616) (by omega) 9 (A - B), hM, h1, Int.add_mul_emod_self_left]
  · rcases hc with rfl | rfl
    · have : B ≤ A := by omega
      simp [this]
    · have : ¬ B ≤ A := by omega
      simp [this]

theorem LL_pos : 0 < LL := by unfold LL; omega
theorem pow2_pos (n : Nat) : (0 : Int) < 2 ^ n := Int.pow_pos (by omega)
theorem pow2_le {n m : Nat} (h : n ≤ m) : (2 : Int) ^ n ≤ 2 ^ m := by exact_mod_cast Nat.pow_le_pow_right (show 0 < 2 by omega) h
theorem LLn_lt (n : Nat) (h : n ≤ 264) : 0 ≤ LL * 2 ^ n ∧ LL * 2 ^ n < M9 := by
  have h1 := pow2_le h
  have h2 := pow2_pos n
  have h3 : LL * 2 ^ n ≤ LL * 2 ^ 264 := Int.mul_le_mul_of_nonneg_left h1 (by unfold LL; omega)
  have h4 : LL * 2 ^ 264 < M9 := by unfold LL M9; decide +kernel
  exact ⟨Int.mul_nonneg (by unfold LL; omega) (by omega), by omega⟩
/-- One round of the rest. -/
def rst (n : Nat) (V : Int) : Int := if LL * 2 ^ n ≤ V then V - LL * 2 ^ n else V
theorem rst_fact (n : Nat) (V : Int) (h0 : 0 ≤ V) (h1 : V < LL * 2 ^ (n + 1)) : 0 ≤ rst n V ∧ rst n V < LL * 2 ^ n ∧ rst n V % LL = V % LL := by
  rw [Int.pow_succ] at h1
  unfold rst
  split
  · next h =>
    refine ⟨by omega, ?_, ?_⟩
    · rw [← Int.mul_assoc] at h1; omega
    · rw [Int.sub_mul_emod_self_left]
  · exact ⟨h0, by omega, rfl⟩
/-- What two words become of one that is shifted. -/
theorem shl_parts (x : Int) (r : Nat) (hr : r < 64) (hr0 : 0 < r) : x / 2 ^ (64 - r) = x * 2 ^ r / 18446744073709551616 := by
  have e : (18446744073709551616 : Int) = 2 ^ (64 - r) * 2 ^ r := by rw [← Int.pow_add, show 64 - r + r = 64 by omega]; decide
  rw [e, Int.mul_ediv_mul_of_pos_left _ _ (pow2_pos r)]
end Go.Proofs.Ytdcfpgclnhacmaa
