/- Wide numbers of nine words (the scalar seat): words as lists, their difference. No condition. -/
import Derived.Test.YtdcfpgclnhacmaaRb
import Derived.Test.YtdcfpgclnhacmaaRe
import Derived.Test.YtdcfpgclnhacmaaUd
import Derived.Shelf.Spec.BitsCarry
namespace Go.Proofs.Ytdcfpgclnhacmaa
open Go Go.RowKit
theorem put_some (a : Act) (d : Tmp) (v : Value) : a.put (some d) v = { tmps := a.tmps.setIfInBounds d v, defers := a.defers } := rfl
theorem put_none (a : Act) (v : Value) : a.put none v = a := rfl
theorem wanted_none {o : Oper} {y : Nat → Option Bool} (h : o.guard = none) : Region.wanted o y = true := by unfold Region.wanted; rw [h]
/-- Words of 64 bits as a block. -/
def arrU (L : List Int) : Array Value := (L.map (Value.int .u64)).toArray
theorem arrU_at (L : List Int) (j : Nat) (h : j < L.length) : (arrU L)[j]? = some (.int .u64 (L.getD j 0)) := by simp [arrU, h]
theorem arrU_set (L : List Int) (j : Nat) (x : Int) : (arrU L).setIfInBounds j (.int .u64 x) = arrU (L.set j x) := by simp [arrU, List.map_set]
theorem arrU_size (L : List Int) : (arrU L).size = L.length := by simp [arrU]
theorem arrU_one (L : List Int) : (arrU L).all (·.oneCell') = true := by
  rw [Array.all_eq_true_iff_forall_mem]
  intro v hv
  simp only [arrU, List.mem_toArray, List.mem_map] at hv
  obtain ⟨x, _, rfl⟩ := hv
  rfl
/-- Words in their range. -/
abbrev Wd (L : List Int) : Prop := Dr 18446744073709551616 L
theorem sub64_run (x y c : Int) (hx : 0 ≤ x) (hx1 : x < 18446744073709551616) (hy : 0 ≤ y) (hy1 : y < 18446744073709551616) (hc0 : 0 ≤ c) (hc : c ≤ 1) (w : World) :
    (callFunc 34 #[.int .u64 x, .int .u64 y, .int .u64 c]).run Try.prog w =
      .ok (.value (.tuple #[.int .u64 ((x - y - c) % 18446744073709551616), .int .u64 (-((x - y - c) / 18446744073709551616))])) w := by
  obtain ⟨a, rfl⟩ := Int.eq_ofNat_of_zero_le hx
  obtain ⟨b, rfl⟩ := Int.eq_ofNat_of_zero_le hy
  obtain ⟨d, rfl⟩ := Int.eq_ofNat_of_zero_le hc0
  rw [run_callFunc_extern Try.func34 (by kernel_rfl) (by kernel_rfl) (by kernel_rfl) (e := sub64Entry) (by kernel_rfl), run_sub64 a b d (by omega)]
  have e1 : (((a + 18446744073709551616 - b - d) % 18446744073709551616 : Nat) : Int) = ((a : Int) - b - d) % 18446744073709551616 := by omega
  have e2 : ((if a < b + d then 1 else 0 : Nat) : Int) = -(((a : Int) - b - d) / 18446744073709551616) := by split <;> omega
  rw [e1, e2]
  rfl
/-- One word of a difference. -/
def msub (B : List Int) (k : Nat) (s : List Int × Int) : List Int × Int :=
  (s.1.set k ((s.1.getD k 0 - B.getD k 0 - s.2) % 18446744073709551616), -((s.1.getD k 0 - B.getD k 0 - s.2) / 18446744073709551616))
def msubs (A B : List Int) : Nat → List Int × Int
  | 0 => (A, 0)
  | k + 1 => msub B k (msubs A B k)
theorem msubs_length (A B : List Int) (k : Nat) : (msubs A B k).1.length = A.length := by
  induction k with
  | zero => rfl
  | succ k ih => simp [msubs, msub, ih]
theorem msubs_val (A B : List Int) (k : Nat) (hA : A.length = 9) (hB : B.length = 9) (hk : k ≤ 9) : vd 18446744073709551616 (msubs A B k).1 = vd 18446744073709551616 A - vd 18446744073709551616 (B.take k) + 18446744073709551616 ^ k * (msubs A B k).2 := by
  induction k with
  | zero => simp [msubs, vd]
  | succ k ih =>
    have ih := ih (by omega)
    have hl := msubs_length A B k
    rw [vd_take_succ _ B k (by omega)]
    simp only [msubs, msub]
    rw [vd_set _ _ _ _ (by omega), ih]
    have hd := Int.emod_add_mul_ediv ((msubs A B k).1.getD k 0 - B.getD k 0 - (msubs A B k).2) 18446744073709551616
    generalize (msubs A B k).1.getD k 0 = x at *
    generalize (msubs A B k).2 = c at *
    generalize B.getD k 0 = y at *
    generalize (x - y - c) / 18446744073709551616 = q at *
    generalize (x - y - c) % 18446744073709551616 = r at *
    rw [Int.pow_succ]
    generalize (18446744073709551616 : Int) ^ k = p at *
    have : r = x - y - c - 18446744073709551616 * q := by omega
    rw [this]
    grind
end Go.Proofs.Ytdcfpgclnhacmaa
