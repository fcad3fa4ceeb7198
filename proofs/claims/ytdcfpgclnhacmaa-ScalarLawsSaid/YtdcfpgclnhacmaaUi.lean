/- The walk of scalar.wide.put. No condition. -/
import Derived.Test.YtdcfpgclnhacmaaUg
namespace Go.Proofs.Ytdcfpgclnhacmaa
open Go Go.RowKit
def arrB (L : List Int) : Array Value := (L.map (Value.int .u8)).toArray
theorem arrB_at (L : List Int) (j : Nat) (h : j < L.length) : (arrB L)[j]? = some (.int .u8 (L.getD j 0)) := by simp [arrB, h]
theorem arrB_set (L : List Int) (j : Nat) (x : Int) : (arrB L).setIfInBounds j (.int .u8 x) = arrB (L.set j x) := by simp [arrB, List.map_set]
/-- The 32 lowest bytes of a number. -/
abbrev b32 (V : Int) : List Int := dg 256 32 V
theorem b32_length (V : Int) : (b32 V).length = 32 := dg_length _ _ _
theorem b32_in (V : Int) : ∀ x ∈ b32 V, 0 ≤ x ∧ x < 256 := (dg_in (by omega) _ _).mem
theorem bs_block {w : World} {g n : Nat} {cs : Array Value} {t : TypeId} {fr : Nat × Nat} {l : List Int} (h : w.heap[g]? = some (.cells cs t fr)) (e : cs = (l.map (Value.int .u8)).toArray) (hl : l.length = n) (hb : ∀ x ∈ l, 0 ≤ x ∧ x < 256) : Bs w (some ⟨g, 0, none⟩) n l := by
  subst e
  refine ⟨hl, hb, fun _ => ⟨g, 0, rfl, fun i hi => ?_⟩⟩
  rw [cell_of_row w g (0 + i) _ _ _ h, Nat.zero_add]
  simp [List.getD, show i < l.length by omega]
theorem make32 (w : World) : (Instr.makeSlice 22 (.int .i64 32) (.int .i64 32)).run Try.prog w = .ok (.slice (some ⟨w.heap.size, 0, none⟩) 32 32) (w.alloc (.cells #[.int .u8 0, .int .u8 0, .int .u8 0, .int .u8 0, .int .u8 0, .int .u8 0, .int .u8 0, .int .u8 0, .int .u8 0, .int .u8 0, .int .u8 0, .int .u8 0, .int .u8 0, .int .u8 0, .int .u8 0, .int .u8 0, .int .u8 0, .int .u8 0, .int .u8 0, .int .u8 0, .int .u8 0, .int .u8 0, .int .u8 0, .int .u8 0, .int .u8 0, .int .u8 0, .int .u8 0, .int .u8 0, .int .u8 0, .int .u8 0, .int .u8 0, .int .u8 0] 5)) := by kernel_rfl
theorem byte_of (V : Int) (k : Nat) : (V / 18446744073709551616 ^ (k / 8) % 18446744073709551616) / 2 ^ (8 * (k % 8)) % 256 = V / 256 ^ k % 256 := by
  rw [pow_place, ← div_div (powβ _ (by omega))]
  generalize V / 18446744073709551616 ^ (k / 8) = X
  have hr : k % 8 < 8 := by omega
  generalize k % 8 = r at *
  have e := Int.emod_add_mul_ediv X 18446744073709551616
  have hc : (18446744073709551616 : Int) = 2 ^ (8 * r) * (256 * 2 ^ (56 - 8 * r)) := by
    rw [show (256 : Int) = 2 ^ 8 from by decide, ← Int.pow_add, ← Int.pow_add, show 8 * r + (8 + (56 - 8 * r)) = 64 by omega]; decide
  have h2 : X = X % 18446744073709551616 + 2 ^ (8 * r) * (256 * (2 ^ (56 - 8 * r) * (X / 18446744073709551616))) := by
    rw [← Int.mul_assoc 256, ← Int.mul_assoc, ← hc]; omega
  conv => rhs; rw [h2]
  rw [Int.add_mul_ediv_left _ _ (by have := pow2_pos (8 * r); omega), Int.add_mul_emod_self_left]
theorem put_step (V : Int) (k : Nat) (hk : k < 32) :
    (arrB (mix (b32 V) (dg 256 32 0) k)).setIfInBounds k (.int .u8 ((w9 V).getD (k / 8) 0 / 2 ^ (8 * (k % 8)) % 256)) = arrB (mix (b32 V) (dg 256 32 0) (k + 1)) := by
  rw [dg_at (by omega) 9 V (k / 8) (by omega), byte_of, arrB_set, ← dg_at (by omega) 32 V k hk, mix_set _ _ _ (by rw [b32_length, b32_length]) (by rw [b32_length]; exact hk)]
set_option maxRecDepth 100000 in
set_option maxHeartbeats 4000000 in
theorem put_any (V : Int) (w : World) :
    Calls Try.prog 28 #[.agg (arrU (w9 V))] w fun e w' => ∃ b, e = .returned (.slice (some ⟨b, 0, none⟩) 32 32) ∧ w.heap.size ≤ b ∧ w'.heap[b]? = some (.cells (arrB (b32 V)) 5 (0, 0)) ∧ Below w.heap.size w w' := by
  have hmk := make32
  go_enter Try.func28, Try.ntmps28
  go_wp2
  obtain ⟨W0, hW0, hz, hb0, q0, q1⟩ := two_new w (.cells (arrU (w9 V)) 40) (.cells (arrB (mix (b32 V) (dg 256 32 0) 0)) 5)
  rw [show (Obj.cells #[.int .u8 0, .int .u8 0, .int .u8 0, .int .u8 0, .int .u8 0, .int .u8 0, .int .u8 0, .int .u8 0, .int .u8 0, .int .u8 0, .int .u8 0, .int .u8 0, .int .u8 0, .int .u8 0, .int .u8 0, .int .u8 0, .int .u8 0, .int .u8 0, .int .u8 0, .int .u8 0, .int .u8 0, .int .u8 0, .int .u8 0, .int .u8 0, .int .u8 0, .int .u8 0, .int .u8 0, .int .u8 0, .int .u8 0, .int .u8 0, .int .u8 0, .int .u8 0] 5) = .cells (arrB (mix (b32 V) (dg 256 32 0) 0)) 5 from by rw [mix_zero, show dg 256 32 0 = [0, 0, 0, 0, 0, 0, 0, 0, 0, 0, 0, 0, 0, 0, 0, 0, 0, 0, 0, 0, 0, 0, 0, 0, 0, 0, 0, 0, 0, 0, 0, 0] from by decide +kernel]; rfl, hW0]
  have HZ := Lib.hid hz
  clear hW0 hz hmk
  go_loopw [4, 8, 9] (fun _ i _ wr => ∃ k : Nat, k ≤ 32 ∧ i = .int .i64 k ∧ OneBlk W0 (w.heap.size + 1) 5 (arrB (mix (b32 V) (dg 256 32 0) k)) wr) (fun _ i _ _ => 32 - (intOf i).toNat)
  case atStart => exact ⟨0, by omega, rfl, OneBlk.start q1⟩
  case round =>
    obtain ⟨k, hk, rfl, hI⟩ := hrel
    by_cases hlt : k < 32
    · have hst := put_step V k hlt
      have eq : (k : Int) / 8 = ((k / 8 : Nat) : Int) := by omega
      have er : (k : Int) % 8 = ((k % 8 : Nat) : Int) := by omega
      have hq : k / 8 < 9 := by omega
      have hr8 : k % 8 < 8 := by omega
      generalize k / 8 = q at *
      generalize k % 8 = r at *
      have hdl : decide ((k : Int) < 32) = true := by simp; omega
      have d1 : wr.cell? ⟨w.heap.size, q, none⟩ = some (.int .u64 ((w9 V).getD q 0)) := (hI.farCell (by omega)).trans ((cell_of_row W0 _ q _ _ _ q0).trans (arrU_at _ _ (by rw [w9_length]; exact hq)))
      have d2 : wr.cell? ⟨w.heap.size + 1, k, none⟩ = some (.int .u8 ((mix (b32 V) (dg 256 32 0) k).getD k 0)) := (hI.cell k).trans (arrB_at _ _ (by rw [mix_length _ _ _ (by rw [b32_length, b32_length]) (by rw [b32_length]; omega), b32_length]; exact hlt))
      have f1 := hI.free k
      have xb : 0 ≤ (w9 V).getD q 0 ∧ (w9 V).getD q 0 < 18446744073709551616 := w9_in V q
      generalize (w9 V).getD q 0 = x at *
      generalize (mix (b32 V) (dg 256 32 0) k).getD k 0 = y at *
      have HST := Lib.hid hst
      have HI := Lib.hid hI
      clear hst hI
      go_wp2
      go_roundw
      case rel => exact ⟨k + 1, by omega, by go_num, by rw [← HST.out]; exact (HI.out.setCell k _)⟩
      case measure => simp [intOf]; omega
    · obtain rfl : k = 32 := by omega
      have hlk : mix (b32 V) (dg 256 32 0) 32 = b32 V := by
        have := mix_all (b32 V) (dg 256 32 0) (by rw [b32_length, b32_length])
        rwa [b32_length] at this
      rw [hlk] at hI
      have hA := hI.blk
      have hbel := hI.below hb0 (by omega)
      clear hI hlk
      go_wp2
      go_ret
      exact ⟨_, rfl, by omega, hA, hbel⟩
end Go.Proofs.Ytdcfpgclnhacmaa
