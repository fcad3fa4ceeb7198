/- The walk of scalar.shifted. No condition. -/
import Derived.Test.YtdcfpgclnhacmaaUi
namespace Go.Proofs.Ytdcfpgclnhacmaa
open Go Go.RowKit
/-- The order's words. -/
def LW : List Int := [6346243789798364141, 1503914060200516822, 0, 1152921504606846976]
theorem LW_val : vd 18446744073709551616 LW = LL := by decide +kernel
theorem LW_in : Dr 18446744073709551616 LW := Dr.of_mem (by omega) (by decide +kernel)
/-- What is reached behind i words. -/
def shv (n i : Nat) : Int := vd 18446744073709551616 (LW.take i) * 2 ^ n
theorem pow_n (n : Nat) : (2 : Int) ^ n = 18446744073709551616 ^ (n / 64) * 2 ^ (n % 64) := by
  rw [pow64, ← Int.pow_add]; congr 1; omega
theorem shl_low (x : Int) (r : Nat) (hr : r < 64) : IntKind.u64.wrap (x * 2 ^ r) = x % 2 ^ (64 - r) * 2 ^ r := by
  rw [IntKind.wrap_u64, show (18446744073709551616 : Int) = 2 ^ (64 - r) * 2 ^ r from by rw [← Int.pow_add, show 64 - r + r = 64 by omega]; decide, Int.mul_comm x, Int.mul_comm (2 ^ (64 - r)), Int.mul_emod_mul_of_pos _ _ (pow2_pos r), Int.mul_comm]
theorem shv_in (n i : Nat) (hi : i ≤ 4) : 0 ≤ shv n i ∧ shv n i < 18446744073709551616 ^ (i + n / 64) * 2 ^ (n % 64) := by
  have h := vd_take_in (by omega) LW_in i (by simpa [LW] using hi)
  have hp := pow2_pos n
  refine ⟨Int.mul_nonneg h.1 (by omega), ?_⟩
  rw [Int.pow_add, Int.mul_assoc, ← pow_n]
  exact Int.mul_lt_mul_of_pos_right h.2 hp
theorem shv_next (n i : Nat) (hi : i < 4) : shv n (i + 1) = shv n i + 18446744073709551616 ^ (i + n / 64) * (2 ^ (n % 64) * LW.getD i 0) := by
  unfold shv
  rw [vd_take_succ _ _ _ (by simpa [LW] using hi), Int.add_mul, Int.pow_add]
  conv => lhs; rhs; rw [pow_n]
  grind
/-- The first word of one that is shifted. -/
def shm (n i : Nat) : Int := shv n i + 18446744073709551616 ^ (i + n / 64) * (2 ^ (n % 64) * (LW.getD i 0 % 2 ^ (64 - n % 64)))
theorem sh_one (n i : Nat) (hi : i < 4) (hn : n ≤ 264) :
    (arrU (w9 (shv n i))).setIfInBounds (i + n / 64) (.int .u64 (bits .or .u64 ((w9 (shv n i)).getD (i + n / 64) 0) (IntKind.u64.wrap (LW.getD i 0 * 2 ^ (n % 64))))) = arrU (w9 (shm n i)) := by
  have h := shv_in n i (by omega)
  have hx := LW_in i
  rw [arrU_set, shl_low _ _ (by omega), or_place _ (i + n / 64) (n % 64) (64 - n % 64) _ (by omega) (by omega) h.1 h.2 ⟨Int.emod_nonneg _ (by have := pow2_pos (64 - n % 64); omega), Int.emod_lt_of_pos _ (pow2_pos _)⟩]
  rfl
theorem sh_none (n i : Nat) (hi : i < 4) (h0 : n % 64 = 0) : shm n i = shv n (i + 1) := by
  have hx := LW_in i
  rw [shv_next n i hi, shm, h0, Int.emod_eq_of_lt hx.1 (by have := hx.2; simpa using this)]
theorem sh_two (n i : Nat) (hi : i < 4) (hn : n ≤ 264) (h0 : 0 < n % 64) :
    (arrU (w9 (shm n i))).setIfInBounds (i + n / 64 + 1) (.int .u64 (bits .or .u64 ((w9 (shm n i)).getD (i + n / 64 + 1) 0) (LW.getD i 0 / 2 ^ (64 - n % 64)))) = arrU (w9 (shv n (i + 1))) := by
  have h := shv_in n i (by omega)
  have hx := LW_in i
  have hp := pow2_pos (64 - n % 64)
  have hp2 := pow2_pos (n % 64)
  have hp3 := powβ (β := 18446744073709551616) (i + n / 64) (by omega)
  have m0 := Int.emod_nonneg (LW.getD i 0) (b := 2 ^ (64 - n % 64)) (by omega)
  have m1 := Int.emod_lt_of_pos (LW.getD i 0) hp
  have e : (18446744073709551616 : Int) = 2 ^ (n % 64) * 2 ^ (64 - n % 64) := by rw [← Int.pow_add, show n % 64 + (64 - n % 64) = 64 by omega]; decide
  have hlt : shm n i < 18446744073709551616 ^ (i + n / 64 + 1) * 2 ^ 0 := by
    rw [Int.pow_zero, Int.mul_one, Int.pow_succ, shm]
    have a1 : 2 ^ (n % 64) * (LW.getD i 0 % 2 ^ (64 - n % 64) + 1) ≤ 2 ^ (n % 64) * 2 ^ (64 - n % 64) := Int.mul_le_mul_of_nonneg_left (by omega) (by omega)
    rw [← e, Int.mul_add, Int.mul_one] at a1
    have a2 := Int.mul_le_mul_of_nonneg_left a1 (show 0 ≤ (18446744073709551616 : Int) ^ (i + n / 64) by omega)
    rw [Int.mul_add] at a2
    omega
  have h00 : 0 ≤ shm n i := by
    have : 0 ≤ 18446744073709551616 ^ (i + n / 64) * (2 ^ (n % 64) * (LW.getD i 0 % 2 ^ (64 - n % 64))) := Int.mul_nonneg (by omega) (Int.mul_nonneg (by omega) m0)
    unfold shm; omega
  have d0 : 0 ≤ LW.getD i 0 / 2 ^ (64 - n % 64) := Int.ediv_nonneg hx.1 (by omega)
  have d1 : LW.getD i 0 / 2 ^ (64 - n % 64) < 2 ^ 64 := by
    refine Int.ediv_lt_of_lt_mul hp ?_
    have := Int.mul_le_mul_of_nonneg_left (show (1 : Int) ≤ 2 ^ (64 - n % 64) by omega) (show (0 : Int) ≤ 2 ^ 64 by decide)
    have := hx.2
    omega
  have o := or_place (shm n i) (i + n / 64 + 1) 0 64 _ (by omega) (by omega) h00 hlt ⟨d0, d1⟩
  rw [Int.pow_zero, Int.mul_one, Int.one_mul] at o
  rw [arrU_set, o, shv_next n i hi, shm, Int.add_assoc]
  congr 3
  have e2 := Int.emod_add_mul_ediv (LW.getD i 0) (2 ^ (64 - n % 64))
  rw [Int.pow_succ]
  generalize LW.getD i 0 % 2 ^ (64 - n % 64) = a at *
  generalize LW.getD i 0 / 2 ^ (64 - n % 64) = b at *
  rw [← e2, e]
  generalize (2 : Int) ^ (64 - n % 64) = P at *
  generalize (2 : Int) ^ (n % 64) = R at *
  rw [← e]
  generalize (18446744073709551616 : Int) ^ (i + n / 64) = T at *
  grind
end Go.Proofs.Ytdcfpgclnhacmaa
