/- Five products of limbs add up to a number of 128 bits. No condition. -/
import Derived.Test.YtenppmciabdefaaWb
namespace Go.Proofs.Ytenppmciabdefaa
open Go.RowKit
theorem prod56 (x z : Int) (hx : 0 ≤ x ∧ x < 4503599627370496) (hz : 0 ≤ z ∧ z < 85568392920039424) : 0 ≤ x * z ∧ x * z ≤ 385365782469381738054997774434304 := by
  refine ⟨Int.mul_nonneg hx.1 hz.1, ?_⟩
  have := Int.mul_le_mul (by omega : x ≤ 4503599627370496) (by omega : z ≤ 85568392920039424) hz.1 (by omega : (0 : Int) ≤ 4503599627370496)
  simpa using this
theorem prod52 (x z : Int) (hx : 0 ≤ x ∧ x < 4503599627370496) (hz : 0 ≤ z ∧ z < 4503599627370496) : 0 ≤ x * z ∧ x * z ≤ 20282409603651670423947251286016 := by
  refine ⟨Int.mul_nonneg hx.1 hz.1, ?_⟩
  have := Int.mul_le_mul (by omega : x ≤ 4503599627370496) (by omega : z ≤ 4503599627370496) hz.1 (by omega : (0 : Int) ≤ 4503599627370496)
  simpa using this
theorem setRow_self {w : World} {g : Nat} {old : Array Value} {t : TypeId} (h : w.heap[g]? = some (.cells old t (0, 0))) (cs : Array Value) : (w.setRow g cs).heap[g]? = some (.cells cs t (0, 0)) :=
  setRow_heap w g _ cs t _ h
theorem five (x0 z0 x1 z1 x2 z2 x3 z3 x4 z4 : Int) (a0 : 0 ≤ x0 ∧ x0 < 4503599627370496) (b0 : 0 ≤ z0 ∧ z0 < 85568392920039424) (a1 : 0 ≤ x1 ∧ x1 < 4503599627370496) (b1 : 0 ≤ z1 ∧ z1 < 85568392920039424) (a2 : 0 ≤ x2 ∧ x2 < 4503599627370496) (b2 : 0 ≤ z2 ∧ z2 < 85568392920039424) (a3 : 0 ≤ x3 ∧ x3 < 4503599627370496) (b3 : 0 ≤ z3 ∧ z3 < 85568392920039424) (a4 : 0 ≤ x4 ∧ x4 < 4503599627370496) (b4 : 0 ≤ z4 ∧ z4 < 85568392920039424) :
    ∃ h l : Int, h = ph (ph (ph (ph (ph 0 0 x0 z0) (pl 0 0 x0 z0) x1 z1) (pl (ph 0 0 x0 z0) (pl 0 0 x0 z0) x1 z1) x2 z2) (pl (ph (ph 0 0 x0 z0) (pl 0 0 x0 z0) x1 z1) (pl (ph 0 0 x0 z0) (pl 0 0 x0 z0) x1 z1) x2 z2) x3 z3) (pl (ph (ph (ph 0 0 x0 z0) (pl 0 0 x0 z0) x1 z1) (pl (ph 0 0 x0 z0) (pl 0 0 x0 z0) x1 z1) x2 z2) (pl (ph (ph 0 0 x0 z0) (pl 0 0 x0 z0) x1 z1) (pl (ph 0 0 x0 z0) (pl 0 0 x0 z0) x1 z1) x2 z2) x3 z3) x4 z4 ∧ l = pl (ph (ph (ph (ph 0 0 x0 z0) (pl 0 0 x0 z0) x1 z1) (pl (ph 0 0 x0 z0) (pl 0 0 x0 z0) x1 z1) x2 z2) (pl (ph (ph 0 0 x0 z0) (pl 0 0 x0 z0) x1 z1) (pl (ph 0 0 x0 z0) (pl 0 0 x0 z0) x1 z1) x2 z2) x3 z3) (pl (ph (ph (ph 0 0 x0 z0) (pl 0 0 x0 z0) x1 z1) (pl (ph 0 0 x0 z0) (pl 0 0 x0 z0) x1 z1) x2 z2) (pl (ph (ph 0 0 x0 z0) (pl 0 0 x0 z0) x1 z1) (pl (ph 0 0 x0 z0) (pl 0 0 x0 z0) x1 z1) x2 z2) x3 z3) x4 z4 ∧
      (0 ≤ l ∧ l < 18446744073709551616 ∧ 0 ≤ h ∧ h < 1125899906842624 ∧ h * 18446744073709551616 + l = x0 * z0 + x1 * z1 + x2 * z2 + x3 * z3 + x4 * z4) := by
  refine ⟨_, _, rfl, rfl, ?_⟩
  have p0 := prod56 x0 z0 a0 b0
  have p1 := prod56 x1 z1 a1 b1
  have p2 := prod56 x2 z2 a2 b2
  have p3 := prod56 x3 z3 a3 b3
  have p4 := prod56 x4 z4 a4 b4
  have r0 := ph_pl 0 0 x0 z0
  have rl0 := pl_in 0 0 x0 z0
  unfold lt at r0
  generalize gh0 : ph 0 0 x0 z0 = h0 at *
  generalize gl0 : pl 0 0 x0 z0 = l0 at *
  have r1 := ph_pl h0 l0 x1 z1
  have rl1 := pl_in h0 l0 x1 z1
  unfold lt at r1
  generalize gh1 : ph h0 l0 x1 z1 = h1 at *
  generalize gl1 : pl h0 l0 x1 z1 = l1 at *
  have r2 := ph_pl h1 l1 x2 z2
  have rl2 := pl_in h1 l1 x2 z2
  unfold lt at r2
  generalize gh2 : ph h1 l1 x2 z2 = h2 at *
  generalize gl2 : pl h1 l1 x2 z2 = l2 at *
  have r3 := ph_pl h2 l2 x3 z3
  have rl3 := pl_in h2 l2 x3 z3
  unfold lt at r3
  generalize gh3 : ph h2 l2 x3 z3 = h3 at *
  generalize gl3 : pl h2 l2 x3 z3 = l3 at *
  have r4 := ph_pl h3 l3 x4 z4
  have rl4 := pl_in h3 l3 x4 z4
  unfold lt at r4
  generalize gh4 : ph h3 l3 x4 z4 = h4 at *
  generalize gl4 : pl h3 l3 x4 z4 = l4 at *
  generalize x0 * z0 = q0 at *
  generalize x1 * z1 = q1 at *
  generalize x2 * z2 = q2 at *
  generalize x3 * z3 = q3 at *
  generalize x4 * z4 = q4 at *
  omega
theorem or_u64 (a b k : Nat) (h64 : k ≤ 64) (hk : b < 2 ^ k) (ha : a * 2 ^ k < 18446744073709551616) : bits .or .u64 ((a * 2 ^ k : Nat) : Int) (b : Int) = ((a * 2 ^ k + b : Nat) : Int) := by
  have hle : a * 2 ^ k + b < 18446744073709551616 := by
    have e : (18446744073709551616 : Nat) = 2 ^ (64 - k) * 2 ^ k := by rw [← Nat.pow_add, show 64 - k + k = 64 by omega]
    rw [e] at ha ⊢
    have h1 : a < 2 ^ (64 - k) := Nat.lt_of_mul_lt_mul_right ha
    have h2 : (a + 1) * 2 ^ k ≤ 2 ^ (64 - k) * 2 ^ k := Nat.mul_le_mul_right _ h1
    have h3 : (a + 1) * 2 ^ k = a * 2 ^ k + 2 ^ k := by rw [Nat.add_mul]; omega
    omega
  rw [bits_or_u64_nat _ _ ha (by omega)]
  rw [Nat.mul_comm, ← Nat.two_pow_add_eq_or_of_lt hk]
theorem round_fact (h l c : Int) (hl0 : 0 ≤ l) (hl1 : l < 18446744073709551616) (hh0 : 0 ≤ h) (hh1 : h < 1125899906842624) (hc : 0 ≤ c ∧ c < 18446744073709551616) :
    ∃ d : Int, d = bits .or .u64 ((h + (l + c) / 18446744073709551616) * 8192) ((l + c) % 18446744073709551616 / 2251799813685248) ∧
      (0 ≤ d ∧ d < 18446744073709551616) ∧ (l + c) % 2251799813685248 + 2251799813685248 * d = h * 18446744073709551616 + l + c := by
  refine ⟨_, rfl, ?_⟩
  obtain ⟨a, ea⟩ := Int.eq_ofNat_of_zero_le (a := h + (l + c) / 18446744073709551616) (by omega)
  obtain ⟨b, eb⟩ := Int.eq_ofNat_of_zero_le (a := (l + c) % 18446744073709551616 / 2251799813685248) (by omega)
  have := or_u64 a b 13 (by omega) (by omega) (by omega)
  rw [ea, eb, show ((a : Int) * 8192) = ((a * 2 ^ 13 : Nat) : Int) by omega, this]
  omega
theorem round_zero (h l : Int) (hl0 : 0 ≤ l) (hl1 : l < 18446744073709551616) (hh0 : 0 ≤ h) (hh1 : h < 1125899906842624) :
    ∃ d : Int, d = bits .or .u64 ((h + l / 18446744073709551616) * 8192) (l % 18446744073709551616 / 2251799813685248) ∧
      (0 ≤ d ∧ d < 18446744073709551616) ∧ l % 2251799813685248 + 2251799813685248 * d = h * 18446744073709551616 + l := by
  have := round_fact h l 0 hl0 hl1 hh0 hh1 (by omega)
  simpa using this
theorem mul_plain (x0 x1 x2 x3 x4 y0 y1 y2 y3 y4 s0 s1 s2 s3 s4 p0 o1 o2 o3 o4 c1 c2 c3 c4 c5 r q z1 z2 z3 z4 : Int)
  (S0 : s0 = x0*y0 + x1*(19*y4) + x2*(19*y3) + x3*(19*y2) + x4*(19*y1))
  (S1 : s1 = x0*y1 + x1*y0 + x2*(19*y4) + x3*(19*y3) + x4*(19*y2))
  (S2 : s2 = x0*y2 + x1*y1 + x2*y0 + x3*(19*y4) + x4*(19*y3))
  (S3 : s3 = x0*y3 + x1*y2 + x2*y1 + x3*y0 + x4*(19*y4))
  (S4 : s4 = x0*y4 + x1*y3 + x2*y2 + x3*y1 + x4*y0)
  (F1 : p0 + 2251799813685248 * c1 = s0) (F2 : o1 + 2251799813685248 * c2 = s1 + c1) (F3 : o2 + 2251799813685248 * c3 = s2 + c2) (F4 : o3 + 2251799813685248 * c4 = s3 + c3) (F5 : o4 + 2251799813685248 * c5 = s4 + c4)
  (C : v5 r z1 z2 z3 z4 + (PP + 19) * q = v5 (p0 + 19 * c5) o1 o2 o3 o4) :
  v5 (r + 19 * q) z1 z2 z3 z4 - v5 x0 x1 x2 x3 x4 * v5 y0 y1 y2 y3 y4 = PP * (- q - c5 - (x1*y4 + x2*y3+x3*y2+x4*y1 + 2251799813685248*(x2*y4+x3*y3+x4*y2) + 5070602400912917605986812821504*(x3*y4+x4*y3) + 11417981541647679048466287755595961091061972992*(x4*y4))) := by
  unfold v5 PP at *
  obtain rfl : p0 = s0 - 2251799813685248 * c1 := by omega
  obtain rfl : o1 = s1 + c1 - 2251799813685248 * c2 := by omega
  obtain rfl : o2 = s2 + c2 - 2251799813685248 * c3 := by omega
  obtain rfl : o3 = s3 + c3 - 2251799813685248 * c4 := by omega
  obtain rfl : o4 = s4 + c4 - 2251799813685248 * c5 := by omega
  clear F1 F2 F3 F4 F5
  subst S0 S1 S2 S3 S4
  grind
/-- A product of two elements: reduced limbs, congruent. -/
def MulP (x0 x1 x2 x3 x4 y0 y1 y2 y3 y4 z0 z1 z2 z3 z4 : Int) : Prop :=
  (0 ≤ z0 ∧ z0 < 4503599627370496) ∧ (0 ≤ z1 ∧ z1 < 2251799813685248) ∧ (0 ≤ z2 ∧ z2 < 2251799813685248) ∧ (0 ≤ z3 ∧ z3 < 2251799813685248) ∧ (0 ≤ z4 ∧ z4 < 2251799813685248) ∧
    PP ∣ v5 z0 z1 z2 z3 z4 - v5 x0 x1 x2 x3 x4 * v5 y0 y1 y2 y3 y4
theorem mulP_of (x0 x1 x2 x3 x4 y0 y1 y2 y3 y4 h0 l0 h1 l1 h2 l2 h3 l3 h4 l4 c1 c2 c3 c4 c5 z0 z1 z2 z3 z4 : Int)
  (S0 : h0 * 18446744073709551616 + l0 = x0*y0 + x1*(19*y4) + x2*(19*y3) + x3*(19*y2) + x4*(19*y1))
  (S1 : h1 * 18446744073709551616 + l1 = x0*y1 + x1*y0 + x2*(19*y4) + x3*(19*y3) + x4*(19*y2))
  (S2 : h2 * 18446744073709551616 + l2 = x0*y2 + x1*y1 + x2*y0 + x3*(19*y4) + x4*(19*y3))
  (S3 : h3 * 18446744073709551616 + l3 = x0*y3 + x1*y2 + x2*y1 + x3*y0 + x4*(19*y4))
  (S4 : h4 * 18446744073709551616 + l4 = x0*y4 + x1*y3 + x2*y2 + x3*y1 + x4*y0)
  (F1 : l0 % 2251799813685248 + 2251799813685248 * c1 = h0 * 18446744073709551616 + l0) (F2 : (l1 + c1) % 2251799813685248 + 2251799813685248 * c2 = h1 * 18446744073709551616 + l1 + c1)
  (F3 : (l2 + c2) % 2251799813685248 + 2251799813685248 * c3 = h2 * 18446744073709551616 + l2 + c2) (F4 : (l3 + c3) % 2251799813685248 + 2251799813685248 * c4 = h3 * 18446744073709551616 + l3 + c3)
  (F5 : (l4 + c4) % 2251799813685248 + 2251799813685248 * c5 = h4 * 18446744073709551616 + l4 + c4)
  (C : CarryP (l0 % 2251799813685248 + 19 * c5) ((l1 + c1) % 2251799813685248) ((l2 + c2) % 2251799813685248) ((l3 + c3) % 2251799813685248) ((l4 + c4) % 2251799813685248) z0 z1 z2 z3 z4) :
  MulP x0 x1 x2 x3 x4 y0 y1 y2 y3 y4 z0 z1 z2 z3 z4 := by
  obtain ⟨r, q, hr, hq, rfl, g1, g2, g3, g4, hv⟩ := C
  exact ⟨by omega, g1, g2, g3, g4, _, mul_plain x0 x1 x2 x3 x4 y0 y1 y2 y3 y4 _ _ _ _ _ _ _ _ _ _ c1 c2 c3 c4 c5 r q z1 z2 z3 z4 S0 S1 S2 S3 S4 F1 (by omega) (by omega) (by omega) (by omega) hv⟩
theorem carryP_in {x0 x1 x2 x3 x4 y0 y1 y2 y3 y4 : Int} (h : CarryP x0 x1 x2 x3 x4 y0 y1 y2 y3 y4) :
    (0 ≤ y0 ∧ y0 < 4503599627370496) ∧ (0 ≤ y1 ∧ y1 < 2251799813685248) ∧ (0 ≤ y2 ∧ y2 < 2251799813685248) ∧ (0 ≤ y3 ∧ y3 < 2251799813685248) ∧ (0 ≤ y4 ∧ y4 < 2251799813685248) := by
  obtain ⟨r, q, hr, hq, rfl, h1, h2, h3, h4, _⟩ := h
  exact ⟨by omega, h1, h2, h3, h4⟩
/-- Two carries: each limb below 2^51; the number is the old one less a multiple of p. -/
theorem carryP_twice (x0 x1 x2 x3 x4 : Int) (h0 : 0 ≤ x0 ∧ x0 < 4503599627370496) (h1 : 0 ≤ x1 ∧ x1 < 2251799813685248) (h2 : 0 ≤ x2 ∧ x2 < 2251799813685248) (h3 : 0 ≤ x3 ∧ x3 < 2251799813685248) (h4 : 0 ≤ x4 ∧ x4 < 2251799813685248)
    {a0 a1 a2 a3 a4 u0 u1 u2 u3 u4 : Int} (ha : CarryP x0 x1 x2 x3 x4 a0 a1 a2 a3 a4) (hu : CarryP a0 a1 a2 a3 a4 u0 u1 u2 u3 u4) :
    (0 ≤ u0 ∧ u0 < 2251799813685248) ∧ (0 ≤ u1 ∧ u1 < 2251799813685248) ∧ (0 ≤ u2 ∧ u2 < 2251799813685248) ∧ (0 ≤ u3 ∧ u3 < 2251799813685248) ∧ (0 ≤ u4 ∧ u4 < 2251799813685248) ∧
      (0 ≤ v5 u0 u1 u2 u3 u4 ∧ v5 u0 u1 u2 u3 u4 < PP + 19) ∧ ∃ k, v5 u0 u1 u2 u3 u4 = v5 x0 x1 x2 x3 x4 - PP * k := by
  obtain ⟨r, q, hr, hq, rfl, g1, g2, g3, g4, e⟩ := ha
  obtain ⟨r', q', hr', hq', rfl, g1', g2', g3', g4', e'⟩ := hu
  unfold v5 PP at *
  have hq2 : q' = 0 := by omega
  subst hq2
  refine ⟨by omega, g1', g2', g3', g4', by omega, q, by omega⟩
end Go.Proofs.Ytenppmciabdefaa
