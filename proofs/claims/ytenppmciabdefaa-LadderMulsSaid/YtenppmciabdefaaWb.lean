/- The walks of math/bits.Mul64 and field.long.plus. No condition. -/
import Derived.Test.YtenppmciabdefaaPa
namespace Go.Proofs.Ytenppmciabdefaa
open Go.RowKit
theorem mul64_fact (x y : Int) (hx : 0 ≤ x ∧ x < 18446744073709551616) (hy : 0 ≤ y ∧ y < 18446744073709551616) :
    x / 4294967296 * (y / 4294967296) + (x / 4294967296 * (y % 4294967296) + x % 4294967296 * (y % 4294967296) / 4294967296) / 4294967296 + ((x / 4294967296 * (y % 4294967296) + x % 4294967296 * (y % 4294967296) / 4294967296) % 4294967296 + x % 4294967296 * (y / 4294967296)) / 4294967296 = x * y / 18446744073709551616 := by
  have e := Go.split_mul (x / 4294967296) (x % 4294967296) (y / 4294967296) (y % 4294967296)
  rw [show x / 4294967296 * 4294967296 + x % 4294967296 = x by omega, show y / 4294967296 * 4294967296 + y % 4294967296 = y by omega] at e
  have ha := prod_bound (x / 4294967296) (y / 4294967296) (by omega) (by omega) (by omega) (by omega)
  have hb := prod_bound (x / 4294967296) (y % 4294967296) (by omega) (by omega) (by omega) (by omega)
  have hc := prod_bound (x % 4294967296) (y / 4294967296) (by omega) (by omega) (by omega) (by omega)
  have hd := prod_bound (x % 4294967296) (y % 4294967296) (by omega) (by omega) (by omega) (by omega)
  rw [e]
  generalize (x / 4294967296) * (y / 4294967296) = a at *
  generalize (x / 4294967296) * (y % 4294967296) = b at *
  generalize (x % 4294967296) * (y / 4294967296) = c at *
  generalize (x % 4294967296) * (y % 4294967296) = d at *
  clear e hx hy
  omega
set_option maxHeartbeats 1000000 in
theorem mul64_any (x y : Int) (w : World) (hx : 0 ≤ x ∧ x < 18446744073709551616) (hy : 0 ≤ y ∧ y < 18446744073709551616) :
    Calls Try.prog 101 #[.int .u64 x, .int .u64 y] w fun e w' =>
      e = .returned (.tuple #[.int .u64 (x * y / 18446744073709551616), .int .u64 (x * y % 18446744073709551616)]) ∧ w = w' := by
  have HA := Lib.hid (mul64_fact x y hx hy)
  have ha := prod_bound (x / 4294967296) (y / 4294967296) (by omega) (by omega) (by omega) (by omega)
  have hb := prod_bound (x / 4294967296) (y % 4294967296) (by omega) (by omega) (by omega) (by omega)
  have hc := prod_bound (x % 4294967296) (y / 4294967296) (by omega) (by omega) (by omega) (by omega)
  have hd := prod_bound (x % 4294967296) (y % 4294967296) (by omega) (by omega) (by omega) (by omega)
  go_enter Try.func101, Try.ntmps101
  go_wp2
  refine bodyPost_ret (results_tmp2 rfl _ _ _) rfl ⟨?_, rfl⟩
  rw [← HA.out, ← IntKind.wrap_u64]
  rfl


theorem add64_run (x y c : Int) (hx : 0 ≤ x) (hy : 0 ≤ y) (hc0 : 0 ≤ c) (hc : c ≤ 1) (w : World) :
    (callFunc 88 #[.int .u64 x, .int .u64 y, .int .u64 c]).run Try.prog w =
      .ok (.value (.tuple #[.int .u64 ((x + y + c) % 18446744073709551616), .int .u64 ((x + y + c) / 18446744073709551616)])) w := by
  rw [run_callFunc_extern Try.func88 (by kernel_rfl) (by kernel_rfl) (by kernel_rfl) (e := add64Entry) (by kernel_rfl), run_add64 x y c (by omega) (by omega) (by omega) (by omega)]
  rfl

/-- The halves of a number of 128 bits that grows by x * y. -/
def lt (h l x y : Int) : Int := (h * 18446744073709551616 + l + x * y) % 340282366920938463463374607431768211456
def ph (h l x y : Int) : Int := lt h l x y / 18446744073709551616
def pl (h l x y : Int) : Int := lt h l x y % 18446744073709551616
theorem ph_in (h l x y : Int) : 0 ≤ ph h l x y ∧ ph h l x y < 18446744073709551616 := by unfold ph lt; omega
theorem pl_in (h l x y : Int) : 0 ≤ pl h l x y ∧ pl h l x y < 18446744073709551616 := by unfold pl; omega
theorem ph_pl (h l x y : Int) : ph h l x y * 18446744073709551616 + pl h l x y = lt h l x y := by unfold ph pl; omega
theorem prod64 (x y : Int) (hx : 0 ≤ x ∧ x < 18446744073709551616) (hy : 0 ≤ y ∧ y < 18446744073709551616) : 0 ≤ x * y ∧ x * y ≤ 340282366920938463426481119284349108225 := by
  refine ⟨Int.mul_nonneg hx.1 hy.1, ?_⟩
  have := Int.mul_le_mul (by omega : x ≤ 18446744073709551615) (by omega : y ≤ 18446744073709551615) hy.1 (by omega : (0 : Int) ≤ 18446744073709551615)
  simpa using this
theorem plus_hi (h l x y : Int) (hx : 0 ≤ x ∧ x < 18446744073709551616) (hy : 0 ≤ y ∧ y < 18446744073709551616) :
    (h + x * y / 18446744073709551616 + (l + x * y % 18446744073709551616) / 18446744073709551616) % 18446744073709551616 = ph h l x y := by
  have := prod64 x y hx hy
  unfold ph lt
  generalize x * y = t at *
  omega
theorem plus_lo (h l x y : Int) :
    (l + x * y) % 18446744073709551616 = pl h l x y := by
  unfold pl lt
  generalize x * y = t at *
  omega

theorem agg2_eq {a b c d : Int} (h : a = c) (h' : b = d) : Ending.returned (.agg #[.int .u64 a, .int .u64 b]) = .returned (.agg #[.int .u64 c, .int .u64 d]) := by rw [h, h']
set_option maxRecDepth 100000 in
/-- l.plus(x, y): the number of 128 bits grows by x * y. -/
theorem plus_any (h l x y : Int) (w : World) (hh : 0 ≤ h ∧ h < 18446744073709551616) (hl : 0 ≤ l ∧ l < 18446744073709551616) (hx : 0 ≤ x ∧ x < 18446744073709551616) (hy : 0 ≤ y ∧ y < 18446744073709551616) :
    Calls Try.prog 87 #[.agg #[.int .u64 h, .int .u64 l], .int .u64 x, .int .u64 y] w fun e w' =>
      e = .returned (.agg #[.int .u64 (ph h l x y), .int .u64 (pl h l x y)]) ∧ Below w.heap.size w w' := by
  have hp := prod64 x y hx hy
  have HH := Lib.hid (plus_hi h l x y hx hy)
  have HL := Lib.hid (plus_lo h l x y)
  go_enter Try.func87, Try.ntmps87
  go_wp2_with (first | (go_at_call 101; refine (mul64_any x y _ hx hy).mono ?_; rintro e w' ⟨rfl, rfl⟩) | (rw [add64_run _ _ _ (by omega) (by omega) (by omega) (by omega)]))
  refine ret_cell rfl (w.heap.size + 1) _ _ _ _ rfl (heap_alloc2_new w _ _) Try.underlying96 rfl (by kernel_rfl) rfl ⟨?_, by repeat (first | exact Below.refl _ _ | refine Below.drew ?_ | refine Below.alloc ?_ (by simp) _)⟩
  exact agg2_eq HH.out HL.out
end Go.Proofs.Ytenppmciabdefaa
