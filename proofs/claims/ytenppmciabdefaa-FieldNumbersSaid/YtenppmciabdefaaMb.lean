/- Small numbers as canonical bytes; when canonical bytes are the same; undoing twice. No condition. -/
import Derived.Test.YtenppmciabdefaaMa
namespace Go.Proofs.Ytenppmciabdefaa
open Go Go.RowKit
theorem small_can0 : leB (0 % PP) = 0 :: zl31 := by decide +kernel
theorem small_can1 : leB (1 % PP) = 1 :: zl31 := by decide +kernel
theorem leB_inj {N M : Int} (hN : 0 ≤ N ∧ N < PP) (hM : 0 ≤ M ∧ M < PP) (h : leB N = leB M) : N = M := by
  have e := congrArg valB h
  unfold PP at *
  rwa [valB_leB N hN.1 (by omega), valB_leB M hM.1 (by omega)] at e
theorem mod_in (N : Int) : 0 ≤ N % PP ∧ N % PP < PP := ⟨Int.emod_nonneg _ (by decide), Int.emod_lt_of_pos N (by decide)⟩
theorem str_yes {N M : Int} (h : PP ∣ N - M) : ((strOfNums (leB (N % PP))).toList == (strOfNums (leB (M % PP))).toList) = true := by
  rw [mod_of h]
  exact beq_self_eq_true _
theorem str_no {N M : Int} (h : ¬ PP ∣ N - M) : ((strOfNums (leB (N % PP))).toList == (strOfNums (leB (M % PP))).toList) = false := by
  rw [beq_eq_false_iff_ne, ByteArray.toList_eq, ByteArray.toList_eq]
  intro he
  exact h (Int.dvd_of_emod_eq_zero (Int.emod_eq_emod_iff_emod_sub_eq_zero.1 (leB_inj (mod_in N) (mod_in M) (strOfNums_inj _ _ (leB_in _) (leB_in _) (Go.WideShapes.bytes_inj he)))))
theorem pinv_twice (A : Int) : PP ∣ pinv (pinv A) - A := by
  by_cases h : PP ∣ A
  · obtain ⟨x, hx⟩ := pinv_zero (pinv_zero h)
    obtain ⟨y, hy⟩ := h
    exact ⟨x - y, by grind⟩
  · have h1 := inv_mul h
    have h2 : ¬ PP ∣ pinv A := by
      intro hd
      obtain ⟨x, hx⟩ := h1
      obtain ⟨y, hy⟩ := hd
      have h3 : PP ∣ 1 := ⟨A * y - x, by grind⟩
      exact absurd h3 (by decide)
    have h3 := inv_mul h2
    generalize pinv (pinv A) = K at *
    generalize pinv A = J at *
    obtain ⟨x, hx⟩ := h1
    obtain ⟨y, hy⟩ := h3
    exact ⟨A * y - K * x, by grind⟩
theorem dvd_zero {A : Int} (h : PP ∣ A) : PP ∣ A - 0 := by simpa using h
theorem str_zero {A : Int} (h : PP ∣ A) : ((strOfNums (leB (A % PP))).toList == (strOfNums (leB 0)).toList) = true := by
  have := str_yes (N := A) (M := 0) (by simpa using h)
  rwa [Int.zero_emod] at this
theorem str_nonzero {A : Int} (h : ¬ PP ∣ A) : ((strOfNums (leB (A % PP))).toList == (strOfNums (leB 0)).toList) = false := by
  have := str_no (N := A) (M := 0) (by simpa using h)
  rwa [Int.zero_emod] at this
end Go.Proofs.Ytenppmciabdefaa
