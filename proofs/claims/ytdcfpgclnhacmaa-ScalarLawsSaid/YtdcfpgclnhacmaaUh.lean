/- Bits that are set in words of a wide number. No condition. -/
import Derived.Test.YtdcfpgclnhacmaaUb
import Derived.Test.YtdcfpgclnhacmaaSa
namespace Go.Proofs.Ytdcfpgclnhacmaa
open Go Go.RowKit
theorem or_low (a : Int) (b : Int) (c k : Nat) (hck : c + k = 64) (ha0 : 0 ≤ a) (ha : a < 2 ^ k) (hb0 : 0 ≤ b) :
    bits .or .u64 a (IntKind.u64.wrap (b * 2 ^ k)) = a + 2 ^ k * (b % 2 ^ c) := by
  obtain ⟨x, rfl⟩ := Int.eq_ofNat_of_zero_le ha0
  obtain ⟨y, rfl⟩ := Int.eq_ofNat_of_zero_le hb0
  have ha' : x < 2 ^ k := by exact_mod_cast ha
  have hp : (18446744073709551616 : Nat) = 2 ^ c * 2 ^ k := by rw [← Nat.pow_add, hck]
  have e : IntKind.u64.wrap ((y : Int) * 2 ^ k) = (((y % 2 ^ c) * 2 ^ k : Nat) : Int) := by
    rw [IntKind.wrap_u64]
    have : ((y : Int) * 2 ^ k) = ((y * 2 ^ k : Nat) : Int) := by push_cast; rfl
    rw [this, show (18446744073709551616 : Int) = ((18446744073709551616 : Nat) : Int) from rfl, ← Int.natCast_emod, hp, Nat.mul_mod_mul_right]
  rw [e]
  have hlt : y % 2 ^ c < 2 ^ c := Nat.mod_lt _ (Nat.two_pow_pos c)
  have hm : (y % 2 ^ c) * 2 ^ k < 18446744073709551616 := by rw [hp]; exact Nat.mul_lt_mul_of_pos_right hlt (Nat.two_pow_pos k)
  have hx : x < 18446744073709551616 := by
    rw [hp]
    exact Nat.lt_of_lt_of_le ha' (Nat.le_mul_of_pos_left _ (Nat.two_pow_pos c))
  rw [bits_or_u64_nat _ _ hx hm, Nat.or_comm, Nat.mul_comm, ← Nat.two_pow_add_eq_or_of_lt ha']
  push_cast
  omega
theorem or_part (a b : Int) (c k : Nat) (hck : c + k = 64) (ha0 : 0 ≤ a) (ha : a < 2 ^ k) (hb0 : 0 ≤ b) (hb : b < 2 ^ c) : bits .or .u64 a (b * 2 ^ k) = a + 2 ^ k * b := by
  have h := or_low a b c k hck ha0 ha hb0
  have hp : (18446744073709551616 : Int) = 2 ^ c * 2 ^ k := by rw [← Int.pow_add, hck]; rfl
  have hk : (0 : Int) < 2 ^ k := Int.pow_pos (by omega)
  rw [IntKind.wrap_u64, Int.emod_eq_of_lt (Int.mul_nonneg hb0 (by omega)) (by rw [hp]; exact Int.mul_lt_mul_of_pos_right hb hk), Int.emod_eq_of_lt hb0 hb] at h
  exact h
theorem pow64 (q : Nat) : (18446744073709551616 : Int) ^ q = 2 ^ (64 * q) := by
  rw [show (18446744073709551616 : Int) = 2 ^ 64 from by decide, ← Int.pow_mul]
theorem pow8 (k : Nat) : (256 : Int) ^ k = 2 ^ (8 * k) := by
  rw [show (256 : Int) = 2 ^ 8 from by decide, ← Int.pow_mul]
theorem pow_place (k : Nat) : (256 : Int) ^ k = 18446744073709551616 ^ (k / 8) * 2 ^ (8 * (k % 8)) := by
  rw [pow8, pow64, ← Int.pow_add]
  congr 1; omega
/-- Bits set above a number's end. -/
theorem or_place (V : Int) (q m c : Nat) (x : Int) (hq : q < 9) (hm : m + c = 64) (h0 : 0 ≤ V) (h1 : V < 18446744073709551616 ^ q * 2 ^ m) (hx : 0 ≤ x ∧ x < 2 ^ c) :
    (w9 V).set q (bits .or .u64 ((w9 V).getD q 0) (x * 2 ^ m)) = w9 (V + 18446744073709551616 ^ q * (2 ^ m * x)) := by
  have hp := powβ (β := 18446744073709551616) q (by omega)
  have hm2 := pow2_pos m
  have hM : (18446744073709551616 : Int) ^ q * 2 ^ m ≤ 18446744073709551616 ^ 9 := by
    rw [pow64, pow64, ← Int.pow_add]
    exact pow2_le (by omega)
  have e := digit_lt (β := 18446744073709551616) (by omega) V q (2 ^ m) h0 h1
  have hd := dg_at (β := 18446744073709551616) (by omega) 9 V q hq
  have hor := or_part ((w9 V).getD q 0) x c m (by omega) (by rw [hd]; exact e.1) (by rw [hd]; exact e.2.1) hx.1 hx.2
  rw [hor]
  have hc : (2 : Int) ^ m * 2 ^ c = 18446744073709551616 := by rw [← Int.pow_add, hm]; decide
  have hb : 2 ^ m * x + 2 ^ m ≤ 18446744073709551616 := by
    have := Int.mul_le_mul_of_nonneg_left (show x + 1 ≤ 2 ^ c by omega) (show (0 : Int) ≤ 2 ^ m by omega)
    rw [hc, Int.mul_add] at this
    omega
  have h2 : 0 ≤ 2 ^ m * x := Int.mul_nonneg (by omega) hx.1
  exact dg_add (by omega) 9 V q (2 ^ m * x) hq h0 (by omega) (by rw [hd]; omega)
theorem vd_take_in {β : Int} (hβ : 0 < β) {l : List Int} (h : Dr β l) (k : Nat) (hk : k ≤ l.length) : 0 ≤ vd β (l.take k) ∧ vd β (l.take k) < β ^ k := by
  have := vd_in hβ (h.take hβ k)
  rw [List.length_take, Nat.min_eq_left hk] at this
  exact this
theorem get_step (l : List Int) (k : Nat) (hk : k < l.length) (hn : l.length ≤ 64) (hl : ∀ x ∈ l, 0 ≤ x ∧ x < 256) :
    (arrU (w9 (vd 256 (l.take k)))).setIfInBounds (k / 8) (.int .u64 (bits .or .u64 ((w9 (vd 256 (l.take k))).getD (k / 8) 0) (IntKind.u64.wrap (l.getD k 0 * 2 ^ (8 * (k % 8)))))) = arrU (w9 (vd 256 (l.take (k + 1)))) := by
  have hd := Dr.of_mem (β := 256) (by omega) hl
  have hc := hd k
  have hV := vd_take_in (by omega) hd k (by omega)
  have hr : k % 8 < 8 := by omega
  rw [pow_place] at hV
  have hp : l.getD k 0 * 2 ^ (8 * (k % 8)) < 18446744073709551616 := by
    have h1 : l.getD k 0 * 2 ^ (8 * (k % 8)) ≤ 255 * 2 ^ (8 * (k % 8)) := Int.mul_le_mul_of_nonneg_right (by omega) (Int.le_of_lt (pow2_pos _))
    have h2 : (2 : Int) ^ (8 * (k % 8)) ≤ 2 ^ 56 := pow2_le (by omega)
    omega
  rw [IntKind.wrap_u64, Int.emod_eq_of_lt (Int.mul_nonneg hc.1 (Int.le_of_lt (pow2_pos _))) hp, arrU_set,
    or_place _ (k / 8) (8 * (k % 8)) (64 - 8 * (k % 8)) _ (by omega) (by omega) hV.1 hV.2 ⟨hc.1, by
      have : (2 : Int) ^ 8 ≤ 2 ^ (64 - 8 * (k % 8)) := pow2_le (by omega)
      omega⟩, vd_take_succ _ _ _ hk, pow_place, Int.mul_assoc]
end Go.Proofs.Ytdcfpgclnhacmaa
