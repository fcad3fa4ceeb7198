/- Multiplying and adding wide numbers: the facts, and math/bits.Mul64 and Add64. No condition. -/
import Derived.Test.YtdcfpgclnhacmaaUn
import Derived.Shelf.Bits.Mul64
namespace Go.Proofs.Ytdcfpgclnhacmaa
open Go Go.RowKit
theorem prod_bound (x y : Int) (hx : 0 ≤ x) (hx1 : x < 4294967296) (hy : 0 ≤ y) (hy1 : y < 4294967296) : 0 ≤ x * y ∧ x * y ≤ 18446744065119617025 := by
  refine ⟨Int.mul_nonneg hx hy, ?_⟩
  have := Int.mul_le_mul (by omega : x ≤ 4294967295) (by omega : y ≤ 4294967295) hy (by omega : (0 : Int) ≤ 4294967295)
  simpa using this
theorem mul64_fact (x y : Int) (hx : 0 ≤ x ∧ x < 18446744073709551616) (hy : 0 ≤ y ∧ y < 18446744073709551616) :
    x / 4294967296 * (y / 4294967296) + (x / 4294967296 * (y % 4294967296) + x % 4294967296 * (y % 4294967296) / 4294967296) / 4294967296 + ((x / 4294967296 * (y % 4294967296) + x % 4294967296 * (y % 4294967296) / 4294967296) % 4294967296 + x % 4294967296 * (y / 4294967296)) / 4294967296 = x * y / 18446744073709551616 := by
  have e := Go.split_mul (x / 4294967296) (x % 4294967296) (y / 4294967296) (y % 4294967296)
  rw [show x / 4294967296 * 4294967296 + x % 4294967296 = x by omega, show y / 4294967296 * 4294967296 + y % 4294967296 = y by omega] at e
  have ha := prod_bound (x / 4294967296) (y / 4294967296) (by omega) (by omega) (by omega) (by omega)
  have hb := prod_bound (x / 4294967296) (y % 4294967296) (by omega) (by omega) (by omega) (by omega)
  have hc := prod_bound (x % 4294967296) (y / 4294967296) (by omega) (by omega) (by omega) (by omega)
  have hd := prod_bound (x % 4294967296) (y % 4294967296) (by omega) (by omega) (by omega) (by omega)
  rw [e]
  generalize (x / 4294967296) * (y / 4294967296) = a at *
  generalize (x / 4294967296) * (y % 4294967296) = b at *
  generalize (x % 4294967296) * (y / 4294967296) = c at *
  generalize (x % 4294967296) * (y % 4294967296) = d at *
  clear e hx hy
  omega
set_option maxHeartbeats 1000000 in
theorem mul64_any (x y : Int) (w : World) (hx : 0 ≤ x ∧ x < 18446744073709551616) (hy : 0 ≤ y ∧ y < 18446744073709551616) :
    Calls Try.prog 25 #[.int .u64 x, .int .u64 y] w fun e w' =>
      e = .returned (.tuple #[.int .u64 (x * y / 18446744073709551616), .int .u64 (x * y % 18446744073709551616)]) ∧ w = w' := by
  have HA := Lib.hid (mul64_fact x y hx hy)
  have ha := prod_bound (x / 4294967296) (y / 4294967296) (by omega) (by omega) (by omega) (by omega)
  have hb := prod_bound (x / 4294967296) (y % 4294967296) (by omega) (by omega) (by omega) (by omega)
  have hc := prod_bound (x % 4294967296) (y / 4294967296) (by omega) (by omega) (by omega) (by omega)
  have hd := prod_bound (x % 4294967296) (y % 4294967296) (by omega) (by omega) (by omega) (by omega)
  go_enter Try.func25, Try.ntmps25
  go_wp2
  refine bodyPost_ret (results_tmp2 rfl _ _ _) rfl ⟨?_, rfl⟩
  rw [← HA.out, ← IntKind.wrap_u64]
  rfl


theorem add64_run (x y c : Int) (hx : 0 ≤ x) (hy : 0 ≤ y) (hc0 : 0 ≤ c) (hc : c ≤ 1) (w : World) :
    (callFunc 26 #[.int .u64 x, .int .u64 y, .int .u64 c]).run Try.prog w =
      .ok (.value (.tuple #[.int .u64 ((x + y + c) % 18446744073709551616), .int .u64 ((x + y + c) / 18446744073709551616)])) w := by
  rw [run_callFunc_extern Try.func26 (by kernel_rfl) (by kernel_rfl) (by kernel_rfl) (e := add64Entry) (by kernel_rfl), run_add64 x y c (by omega) (by omega) (by omega) (by omega)]
  rfl

theorem prod64 (x y : Int) (hx : 0 ≤ x ∧ x < 18446744073709551616) (hy : 0 ≤ y ∧ y < 18446744073709551616) : 0 ≤ x * y ∧ x * y ≤ 340282366920938463426481119284349108225 := by
  refine ⟨Int.mul_nonneg hx.1 hy.1, ?_⟩
  have := Int.mul_le_mul (by omega : x ≤ 18446744073709551615) (by omega : y ≤ 18446744073709551615) hy.1 (by omega : (0 : Int) ≤ 18446744073709551615)
  simpa using this
/-- One place of a product: two sums and their carries. -/
theorem place_mul (x y c v : Int) (hx : 0 ≤ x ∧ x < 18446744073709551616) (hy : 0 ≤ y ∧ y < 18446744073709551616) (hc : 0 ≤ c ∧ c < 18446744073709551616) (hv : 0 ≤ v ∧ v < 18446744073709551616) :
    0 ≤ x * y / 18446744073709551616 + (x * y % 18446744073709551616 + c) / 18446744073709551616 ∧ x * y / 18446744073709551616 + (x * y % 18446744073709551616 + c) / 18446744073709551616 < 18446744073709551616 ∧
    (v + (x * y % 18446744073709551616 + c) % 18446744073709551616) % 18446744073709551616 = (v + (x * y + c)) % 18446744073709551616 ∧
    x * y / 18446744073709551616 + (x * y % 18446744073709551616 + c) / 18446744073709551616 + (v + (x * y % 18446744073709551616 + c) % 18446744073709551616) / 18446744073709551616 = (v + (x * y + c)) / 18446744073709551616 ∧
    0 ≤ (v + (x * y + c)) / 18446744073709551616 ∧ (v + (x * y + c)) / 18446744073709551616 < 18446744073709551616 := by
  have hp := prod64 x y hx hy
  generalize x * y = t at *
  omega
/-- What is reached behind i rows. -/
def smu (X Y Z : Int) (i : Nat) : Int := Z + X % 18446744073709551616 ^ i * Y
theorem smu_zero (X Y Z : Int) : smu X Y Z 0 = Z := by simp [smu, Int.emod_one]
theorem smu_next (X Y Z : Int) (i : Nat) (hi : i < 9) : smu X Y Z (i + 1) = smu X Y Z i + 18446744073709551616 ^ i * ((w9 X).getD i 0 * Y) := by
  unfold smu
  rw [mod_succ (by omega), dg_at (by omega) 9 X i hi]
  grind
theorem smu_in (X Y Z : Int) (i : Nat) (hX : 0 ≤ X ∧ X < 2 ^ 256) (hY : 0 ≤ Y ∧ Y < 2 ^ 256) (hZ : 0 ≤ Z ∧ Z < 2 ^ 256) : 0 ≤ smu X Y Z i ∧ smu X Y Z i < 2 ^ 513 := by
  have hp := powβ (β := 18446744073709551616) i (by omega)
  have m0 := Int.emod_nonneg X (b := 18446744073709551616 ^ i) (by omega)
  have m1 : X % 18446744073709551616 ^ i ≤ X := by
    have a := Int.emod_add_mul_ediv X (18446744073709551616 ^ i)
    have b := Int.mul_nonneg (show 0 ≤ (18446744073709551616 : Int) ^ i by omega) (Int.ediv_nonneg hX.1 (show 0 ≤ (18446744073709551616 : Int) ^ i by omega))
    omega
  unfold smu
  have h1 := Int.mul_nonneg m0 hY.1
  have h2 := Int.mul_le_mul (show X % 18446744073709551616 ^ i ≤ 2 ^ 256 by omega) (show Y ≤ 2 ^ 256 by omega) hY.1 (by decide)
  have h3 : (2 : Int) ^ 513 = 2 ^ 256 * 2 ^ 256 + 2 ^ 256 * 2 ^ 256 := by decide +kernel
  have h4 : (2 : Int) ^ 256 ≤ 2 ^ 256 * 2 ^ 256 := by decide +kernel
  omega
/-- The step of the inner round. -/
theorem smu_place (X Y Z V c : Int) (i k : Nat) (hik : i + k < 9) (hk : k < 9) (h : V + 18446744073709551616 ^ (i + k) * c = smu X Y Z i + 18446744073709551616 ^ i * ((w9 X).getD i 0 * (Y % 18446744073709551616 ^ k))) (hV : 0 ≤ V ∧ V < M9) :
    let v := (w9 V).getD (i + k) 0
    let a := (w9 X).getD i 0 * (w9 Y).getD k 0 + c
    (w9 V).set (i + k) ((v + a) % 18446744073709551616) = w9 (V + 18446744073709551616 ^ (i + k) * ((v + a) % 18446744073709551616 - v)) ∧
    V + 18446744073709551616 ^ (i + k) * ((v + a) % 18446744073709551616 - v) + 18446744073709551616 ^ (i + (k + 1)) * ((v + a) / 18446744073709551616) = smu X Y Z i + 18446744073709551616 ^ i * ((w9 X).getD i 0 * (Y % 18446744073709551616 ^ (k + 1))) := by
  intro v a
  obtain ⟨h1, h2⟩ := place_add (β := 18446744073709551616) (by omega) 9 V (i + k) a hik hV.1 hV.2
  refine ⟨h1, ?_⟩
  rw [← Nat.add_assoc, show V + 18446744073709551616 ^ (i + k) * ((v + a) % 18446744073709551616 - v) + 18446744073709551616 ^ (i + k + 1) * ((v + a) / 18446744073709551616) = V + 18446744073709551616 ^ (i + k) * a from h2, mod_succ (by omega), ← dg_at (by omega) 9 Y k hk]
  have e : V = smu X Y Z i + 18446744073709551616 ^ i * ((w9 X).getD i 0 * (Y % 18446744073709551616 ^ k)) - 18446744073709551616 ^ (i + k) * c := by omega
  rw [e, Int.pow_add]
  simp only [a]
  generalize (w9 X).getD i 0 = p
  generalize (w9 Y).getD k 0 = q
  grind
theorem w9_range (V : Int) (j : Nat) : 0 ≤ (w9 V).getD j 0 ∧ (w9 V).getD j 0 < 18446744073709551616 := w9_in V j
/-- A number stays in its range where a digit turns. -/
theorem set_M9 {V V' x : Int} {j : Nat} (hj : j < 9) (hx : 0 ≤ x ∧ x < 18446744073709551616) (hV : 0 ≤ V ∧ V < M9) (h : V' = V + 18446744073709551616 ^ j * (x - (w9 V).getD j 0)) : 0 ≤ V' ∧ V' < M9 := by
  have h1 := vd_in (by omega) ((w9_in V).set j hx (by rw [w9_length]; exact hj))
  rw [vd_set _ _ _ _ (by rw [w9_length]; exact hj), List.length_set, w9_length, vd_dg (by omega) 9 V hV.1 hV.2, ← h] at h1
  exact h1
end Go.Proofs.Ytdcfpgclnhacmaa
