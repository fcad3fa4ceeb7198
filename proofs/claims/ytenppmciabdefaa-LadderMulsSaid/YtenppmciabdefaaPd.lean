/- 32 bytes as four words, and as five limbs. No condition. -/
import Derived.Test.YtenppmciabdefaaPc
namespace Go.Proofs.Ytenppmciabdefaa
open Go.RowKit
/-- The number that bytes are, the lowest first. -/
def valB : List Int → Int
  | [] => 0
  | x :: l => x + 256 * valB l
theorem or_part (a b : Int) (c k : Nat) (hck : c + k = 64) (ha0 : 0 ≤ a) (ha : a < 2 ^ k) (hb0 : 0 ≤ b) (hb : b < 2 ^ c) : bits .or .u64 a (b * 2 ^ k) = a + 2 ^ k * b := by
  have h := or_low a b c k hck ha0 ha hb0
  have hp : (18446744073709551616 : Int) = 2 ^ c * 2 ^ k := by rw [← Int.pow_add, hck]; rfl
  have hk : (0 : Int) < 2 ^ k := Int.pow_pos (by omega)
  rw [IntKind.wrap_u64, Int.emod_eq_of_lt (Int.mul_nonneg hb0 (by omega)) (by rw [hp]; exact Int.mul_lt_mul_of_pos_right hb hk), Int.emod_eq_of_lt hb0 hb] at h
  exact h
theorem or_zero (a : Int) (ha : 0 ≤ a ∧ a < 256) : bits .or .u64 0 a = a := by
  have h := or_part 0 a 64 0 rfl (by omega) (by omega) ha.1 (by omega)
  simpa using h
theorem word8 (a0 a1 a2 a3 a4 a5 a6 a7 : Int) (g0 : 0 ≤ a0 ∧ a0 < 256) (g1 : 0 ≤ a1 ∧ a1 < 256) (g2 : 0 ≤ a2 ∧ a2 < 256) (g3 : 0 ≤ a3 ∧ a3 < 256) (g4 : 0 ≤ a4 ∧ a4 < 256) (g5 : 0 ≤ a5 ∧ a5 < 256) (g6 : 0 ≤ a6 ∧ a6 < 256) (g7 : 0 ≤ a7 ∧ a7 < 256) :
    bits .or .u64 (bits .or .u64 (bits .or .u64 (bits .or .u64 (bits .or .u64 (bits .or .u64 (bits .or .u64 (bits .or .u64 0 a0) (a1 * 256)) (a2 * 65536)) (a3 * 16777216)) (a4 * 4294967296)) (a5 * 1099511627776)) (a6 * 281474976710656)) (a7 * 72057594037927936) =
      a0 + 256 * a1 + 65536 * a2 + 16777216 * a3 + 4294967296 * a4 + 1099511627776 * a5 + 281474976710656 * a6 + 72057594037927936 * a7 := by
  have e1 := or_part a0 a1 56 8 rfl (by omega) (by omega) g1.1 (by omega)
  have e2 := or_part (a0 + 256 * a1) a2 48 16 rfl (by omega) (by omega) g2.1 (by omega)
  have e3 := or_part (a0 + 256 * a1 + 65536 * a2) a3 40 24 rfl (by omega) (by omega) g3.1 (by omega)
  have e4 := or_part (a0 + 256 * a1 + 65536 * a2 + 16777216 * a3) a4 32 32 rfl (by omega) (by omega) g4.1 (by omega)
  have e5 := or_part (a0 + 256 * a1 + 65536 * a2 + 16777216 * a3 + 4294967296 * a4) a5 24 40 rfl (by omega) (by omega) g5.1 (by omega)
  have e6 := or_part (a0 + 256 * a1 + 65536 * a2 + 16777216 * a3 + 4294967296 * a4 + 1099511627776 * a5) a6 16 48 rfl (by omega) (by omega) g6.1 (by omega)
  have e7 := or_part (a0 + 256 * a1 + 65536 * a2 + 16777216 * a3 + 4294967296 * a4 + 1099511627776 * a5 + 281474976710656 * a6) a7 8 56 rfl (by omega) (by omega) g7.1 (by omega)
  simp only [show (2 : Int) ^ 8 = 256 from rfl, show (2 : Int) ^ 16 = 65536 from rfl, show (2 : Int) ^ 24 = 16777216 from rfl, show (2 : Int) ^ 32 = 4294967296 from rfl, show (2 : Int) ^ 40 = 1099511627776 from rfl, show (2 : Int) ^ 48 = 281474976710656 from rfl, show (2 : Int) ^ 56 = 72057594037927936 from rfl] at e1 e2 e3 e4 e5 e6 e7
  rw [or_zero a0 g0, e1, e2, e3, e4, e5, e6, e7]
theorem word8s (a0 a1 a2 a3 a4 a5 a6 a7 : Int) (g0 : 0 ≤ a0 ∧ a0 < 256) (g1 : 0 ≤ a1 ∧ a1 < 256) (g2 : 0 ≤ a2 ∧ a2 < 256) (g3 : 0 ≤ a3 ∧ a3 < 256) (g4 : 0 ≤ a4 ∧ a4 < 256) (g5 : 0 ≤ a5 ∧ a5 < 256) (g6 : 0 ≤ a6 ∧ a6 < 256) (g7 : 0 ≤ a7 ∧ a7 < 256) :
    ∃ p1 p2 p3 p4 p5 p6 p7 : Int, bits .or .u64 0 a0 = a0 ∧ bits .or .u64 a0 (a1 * 256) = p1 ∧ bits .or .u64 p1 (a2 * 65536) = p2 ∧ bits .or .u64 p2 (a3 * 16777216) = p3 ∧ bits .or .u64 p3 (a4 * 4294967296) = p4 ∧ bits .or .u64 p4 (a5 * 1099511627776) = p5 ∧ bits .or .u64 p5 (a6 * 281474976710656) = p6 ∧ bits .or .u64 p6 (a7 * 72057594037927936) = p7 ∧ p7 = a0 + 256 * a1 + 65536 * a2 + 16777216 * a3 + 4294967296 * a4 + 1099511627776 * a5 + 281474976710656 * a6 + 72057594037927936 * a7 :=
  ⟨(bits .or .u64 a0 (a1 * 256)), (bits .or .u64 (bits .or .u64 a0 (a1 * 256)) (a2 * 65536)), (bits .or .u64 (bits .or .u64 (bits .or .u64 a0 (a1 * 256)) (a2 * 65536)) (a3 * 16777216)), (bits .or .u64 (bits .or .u64 (bits .or .u64 (bits .or .u64 a0 (a1 * 256)) (a2 * 65536)) (a3 * 16777216)) (a4 * 4294967296)), (bits .or .u64 (bits .or .u64 (bits .or .u64 (bits .or .u64 (bits .or .u64 a0 (a1 * 256)) (a2 * 65536)) (a3 * 16777216)) (a4 * 4294967296)) (a5 * 1099511627776)), (bits .or .u64 (bits .or .u64 (bits .or .u64 (bits .or .u64 (bits .or .u64 (bits .or .u64 a0 (a1 * 256)) (a2 * 65536)) (a3 * 16777216)) (a4 * 4294967296)) (a5 * 1099511627776)) (a6 * 281474976710656)), (bits .or .u64 (bits .or .u64 (bits .or .u64 (bits .or .u64 (bits .or .u64 (bits .or .u64 (bits .or .u64 a0 (a1 * 256)) (a2 * 65536)) (a3 * 16777216)) (a4 * 4294967296)) (a5 * 1099511627776)) (a6 * 281474976710656)) (a7 * 72057594037927936)), or_zero a0 g0, rfl, rfl, rfl, rfl, rfl, rfl, rfl, by have h := word8 a0 a1 a2 a3 a4 a5 a6 a7 g0 g1 g2 g3 g4 g5 g6 g7; rw [or_zero a0 g0] at h; exact h⟩
/-- The words' bits, parted anew. -/
theorem limbs_fact (W0 W1 W2 W3 : Int) (h0 : 0 ≤ W0 ∧ W0 < 18446744073709551616) (h1 : 0 ≤ W1 ∧ W1 < 18446744073709551616) (h2 : 0 ≤ W2 ∧ W2 < 18446744073709551616) (h3 : 0 ≤ W3 ∧ W3 < 18446744073709551616) :
    ∃ V1 V2 V3 : Int, bits .or .u64 (W0 / 2251799813685248) (IntKind.u64.wrap (W1 * 8192)) = V1 ∧ bits .or .u64 (W1 / 274877906944) (IntKind.u64.wrap (W2 * 67108864)) = V2 ∧ bits .or .u64 (W2 / 33554432) (IntKind.u64.wrap (W3 * 549755813888)) = V3 ∧
      v5 (W0 % 2251799813685248 + 19 * (W3 / 9223372036854775808)) (V1 % 2251799813685248) (V2 % 2251799813685248) (V3 % 2251799813685248) (W3 / 4096 % 2251799813685248) + PP * (W3 / 9223372036854775808) =
        W0 + 18446744073709551616 * W1 + 340282366920938463463374607431768211456 * W2 + 6277101735386680763835789423207666416102355444464034512896 * W3 := by
  refine ⟨_, _, _, rfl, rfl, rfl, ?_⟩
  have e1 := or_low (W0 / 2251799813685248) W1 51 13 rfl (by omega) (by omega) h1.1
  have e2 := or_low (W1 / 274877906944) W2 38 26 rfl (by omega) (by omega) h2.1
  have e3 := or_low (W2 / 33554432) W3 25 39 rfl (by omega) (by omega) h3.1
  simp only [show (2 : Int) ^ 51 = 2251799813685248 from rfl, show (2 : Int) ^ 38 = 274877906944 from rfl, show (2 : Int) ^ 25 = 33554432 from rfl, show (2 : Int) ^ 13 = 8192 from rfl, show (2 : Int) ^ 26 = 67108864 from rfl, show (2 : Int) ^ 39 = 549755813888 from rfl] at e1 e2 e3
  rw [e1, e2, e3]
  unfold v5 PP
  omega
theorem list32 {l : List Int} (h : l.length = 32) : ∃ b0 b1 b2 b3 b4 b5 b6 b7 b8 b9 b10 b11 b12 b13 b14 b15 b16 b17 b18 b19 b20 b21 b22 b23 b24 b25 b26 b27 b28 b29 b30 b31 : Int, l = [b0, b1, b2, b3, b4, b5, b6, b7, b8, b9, b10, b11, b12, b13, b14, b15, b16, b17, b18, b19, b20, b21, b22, b23, b24, b25, b26, b27, b28, b29, b30, b31] := by
  match l, h with
  | [b0, b1, b2, b3, b4, b5, b6, b7, b8, b9, b10, b11, b12, b13, b14, b15, b16, b17, b18, b19, b20, b21, b22, b23, b24, b25, b26, b27, b28, b29, b30, b31], _ => exact ⟨_, _, _, _, _, _, _, _, _, _, _, _, _, _, _, _, _, _, _, _, _, _, _, _, _, _, _, _, _, _, _, _, rfl⟩
theorem valB_words (b0 b1 b2 b3 b4 b5 b6 b7 b8 b9 b10 b11 b12 b13 b14 b15 b16 b17 b18 b19 b20 b21 b22 b23 b24 b25 b26 b27 b28 b29 b30 b31 : Int) : valB [b0, b1, b2, b3, b4, b5, b6, b7, b8, b9, b10, b11, b12, b13, b14, b15, b16, b17, b18, b19, b20, b21, b22, b23, b24, b25, b26, b27, b28, b29, b30, b31] = (b0 + 256 * b1 + 65536 * b2 + 16777216 * b3 + 4294967296 * b4 + 1099511627776 * b5 + 281474976710656 * b6 + 72057594037927936 * b7) + 18446744073709551616 * (b8 + 256 * b9 + 65536 * b10 + 16777216 * b11 + 4294967296 * b12 + 1099511627776 * b13 + 281474976710656 * b14 + 72057594037927936 * b15) + 340282366920938463463374607431768211456 * (b16 + 256 * b17 + 65536 * b18 + 16777216 * b19 + 4294967296 * b20 + 1099511627776 * b21 + 281474976710656 * b22 + 72057594037927936 * b23) + 6277101735386680763835789423207666416102355444464034512896 * (b24 + 256 * b25 + 65536 * b26 + 16777216 * b27 + 4294967296 * b28 + 1099511627776 * b29 + 281474976710656 * b30 + 72057594037927936 * b31) := by
  simp only [valB]
  omega
end Go.Proofs.Ytenppmciabdefaa
