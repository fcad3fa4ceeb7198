/- The walk of scalar.get. No condition. -/
import Derived.Test.YtdcfpgclnhacmaaUh
import Derived.RegionTactic
import Derived.ChangeAlike
namespace Go.Proofs.Ytdcfpgclnhacmaa
open Go Go.RowKit
theorem w9_zero : arrU (w9 (vd 256 [])) = #[.int .u64 0, .int .u64 0, .int .u64 0, .int .u64 0, .int .u64 0, .int .u64 0, .int .u64 0, .int .u64 0, .int .u64 0] := by
  rw [show w9 (vd 256 []) = [0, 0, 0, 0, 0, 0, 0, 0, 0] from by decide +kernel]; rfl
set_option maxRecDepth 100000 in
set_option maxHeartbeats 4000000 in
theorem get_any (p : Option Addr) (n cap : Nat) (l : List Int) (w : World) (hn : n ≤ 64) (hr : Bs w p n l) :
    Calls Try.prog 24 #[.slice p n cap] w fun e w' => e = .returned (.agg (arrU (w9 (vd 256 l)))) ∧ Below w.heap.size w w' := by
  have HL := Lib.hid hr.1
  have HM := Lib.hid hr.2.1
  go_enter Try.func24, Try.ntmps24
  go_wp2
  obtain ⟨W0, hW0, hz, hb0, q0, q1⟩ := two_new w (.cells #[.int .u64 0, .int .u64 0, .int .u64 0, .int .u64 0, .int .u64 0, .int .u64 0, .int .u64 0, .int .u64 0, .int .u64 0] 40) (.cells #[.int .u64 0, .int .u64 0, .int .u64 0, .int .u64 0, .int .u64 0, .int .u64 0, .int .u64 0, .int .u64 0, .int .u64 0] 40)
  rw [hW0]
  have HZ := Lib.hid hz
  clear hW0 hz
  go_loopw [4, 5, 8, 9] (fun _ _ i _ wr => ∃ k : Nat, k ≤ n ∧ i = .int .i64 k ∧ OneBlk W0 (w.heap.size + 1) 40 (arrU (w9 (vd 256 (l.take k)))) wr) (fun _ _ i _ _ => n - (intOf i).toNat)
  case atStart => exact ⟨0, by omega, rfl, by rw [List.take_zero, w9_zero]; exact OneBlk.start q1⟩
  case round =>
    obtain ⟨k, hk, rfl, hI⟩ := hrel
    by_cases hlt : k < n
    · obtain ⟨B, off, rfl, hce⟩ := hr.2.2 (by omega)
      have ce : wr.cell? ⟨B, off + k, none⟩ = some (.int .u8 (l.getD k 0)) := by
        have h1 := hce k hlt
        have h2 := World.block_lt_of_cell? w _ h1
        rw [(hI.below hb0 (by omega)).cell (p := ⟨B, off + k, none⟩) h2]
        exact h1
      have cb : 0 ≤ l.getD k 0 ∧ l.getD k 0 < 256 := Dr.of_mem (by omega) hr.2.1 k
      have hst := get_step l k (by rw [HL.out]; exact hlt) (by rw [HL.out]; exact hn) HM.out
      clear hce hr
      generalize l.getD k 0 = c at *
      have eq : (k : Int) / 8 = ((k / 8 : Nat) : Int) := by omega
      have er : (k : Int) % 8 = ((k % 8 : Nat) : Int) := by omega
      have hq : k / 8 < 9 := by omega
      have hr8 : k % 8 < 8 := by omega
      generalize k / 8 = q at *
      generalize k % 8 = r at *
      have hdl : decide (k < n) = true := by simpa using hlt
      have d1 : wr.cell? ⟨w.heap.size + 1, q, none⟩ = some (.int .u64 ((w9 (vd 256 (l.take k))).getD q 0)) := (hI.cell q).trans (arrU_at _ _ (by rw [w9_length]; exact hq))
      have f1 := hI.free q
      generalize (w9 (vd 256 (l.take k))).getD q 0 = x at *
      have HST := Lib.hid hst
      have HI := Lib.hid hI
      clear hst hI
      go_wp2
      go_region
      go_wp2
      go_roundw
      case rel => exact ⟨k + 1, by omega, by go_num, by rw [← HST.out]; exact (HI.out.setCell q _).drew⟩
      case measure => simp [intOf]; omega
    · obtain rfl : k = n := by omega
      have hlk : l.take k = l := List.take_of_length_le (by rw [HL.out]; omega)
      rw [hlk] at hI
      have hA := hI.blk
      have hR := hI.far (i := w.heap.size) (by omega) q0
      have hbel := hI.below hb0 (by omega)
      have s9 : (arrU (w9 (vd 256 l))).size = 9 := by rw [arrU_size, w9_length]
      have o9 := arrU_one (w9 (vd 256 l))
      generalize hcs : arrU (w9 (vd 256 l)) = cs at *
      have S9 := Lib.hid s9
      have O9 := Lib.hid o9
      have HCS := Lib.hid hcs
      clear s9 o9 hcs hI hlk hr
      have hdl : decide (k < k) = false := by simp
      go_wp2_with (first | (refine wpList_load_row rfl 40 _ rfl (w.heap.size + 1) rfl _ _ _ _ hA Try.underlying40 rfl (by rw [S9.out]; exact infoW) ?_) | (refine wpList_store_row rfl 40 (.tmp 2) (.tmp 26) rfl (w.heap.size) cs rfl rfl 40 _ hR (by rw [S9.out]; exact infoW) (by rw [S9.out]; rfl) O9.out ?_))
      refine ret_cell rfl (w.heap.size) _ _ _ _ rfl (setRow_here hR cs) Try.underlying40 rfl (by rw [S9.out]; exact infoW) rfl ⟨by rw [HCS.out], ?_⟩
      exact below_setRow hbel (by omega) _
end Go.Proofs.Ytdcfpgclnhacmaa
