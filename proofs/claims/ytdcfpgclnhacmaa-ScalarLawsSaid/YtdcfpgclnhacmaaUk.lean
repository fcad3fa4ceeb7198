/- The walk of scalar.shifted. No condition. -/
import Derived.Test.YtdcfpgclnhacmaaUj
namespace Go.Proofs.Ytdcfpgclnhacmaa
open Go Go.RowKit
theorem info4 : (Try.prog.info? 56).map (·.size) = some 4 := by kernel_rfl
theorem index40 (w : World) : (Instr.index 56 (.agg #[.int .u64 6346243789798364141, .int .u64 1503914060200516822, .int .u64 0, .int .u64 1152921504606846976]) (.int .i64 0)).run Try.prog w = .ok (.int .u64 6346243789798364141) w := by kernel_rfl
theorem index41 (w : World) : (Instr.index 56 (.agg #[.int .u64 6346243789798364141, .int .u64 1503914060200516822, .int .u64 0, .int .u64 1152921504606846976]) (.int .i64 1)).run Try.prog w = .ok (.int .u64 1503914060200516822) w := by kernel_rfl
theorem index42 (w : World) : (Instr.index 56 (.agg #[.int .u64 6346243789798364141, .int .u64 1503914060200516822, .int .u64 0, .int .u64 1152921504606846976]) (.int .i64 2)).run Try.prog w = .ok (.int .u64 0) w := by kernel_rfl
theorem index43 (w : World) : (Instr.index 56 (.agg #[.int .u64 6346243789798364141, .int .u64 1503914060200516822, .int .u64 0, .int .u64 1152921504606846976]) (.int .i64 3)).run Try.prog w = .ok (.int .u64 1152921504606846976) w := by kernel_rfl
theorem index4 (k : Nat) (hk : k < 4) (w : World) : (Instr.index 56 (.agg #[.int .u64 6346243789798364141, .int .u64 1503914060200516822, .int .u64 0, .int .u64 1152921504606846976]) (.int .i64 k)).run Try.prog w = .ok (.int .u64 (LW.getD k 0)) w := by
  have h : k = 0 ∨ k = 1 ∨ k = 2 ∨ k = 3 := by omega
  rcases h with rfl | rfl | rfl | rfl
  · exact index40 w
  · exact index41 w
  · exact index42 w
  · exact index43 w
set_option maxRecDepth 100000 in
set_option maxHeartbeats 4000000 in
theorem shifted_any (n : Nat) (w : World) (hn : n ≤ 264) :
    Calls Try.prog 30 #[.int .i64 n] w fun e w' => e = .returned (.agg (arrU (w9 (LL * 2 ^ n)))) ∧ Below w.heap.size w w' := by
  go_enter Try.func30, Try.ntmps30
  go_wp2
  obtain ⟨W0, hW0, hz, hb0, q0, q1, q2⟩ := three_new w (.cells #[.int .u64 0, .int .u64 0, .int .u64 0, .int .u64 0, .int .u64 0, .int .u64 0, .int .u64 0, .int .u64 0, .int .u64 0] 40) (.cells #[.int .u64 6346243789798364141, .int .u64 1503914060200516822, .int .u64 0, .int .u64 1152921504606846976] 56) (.cells #[.int .u64 0, .int .u64 0, .int .u64 0, .int .u64 0, .int .u64 0, .int .u64 0, .int .u64 0, .int .u64 0, .int .u64 0] 40)
  rw [hW0]
  have HZ := Lib.hid hz
  clear hW0 hz
  have eq : (n : Int) / 64 = ((n / 64 : Nat) : Int) := by omega
  have er : (n : Int) % 64 = ((n % 64 : Nat) : Int) := by omega
  have hq4 : n / 64 ≤ 4 := by omega
  have hr64 : n % 64 < 64 := by omega
  have S1 := fun i hi => Lib.hid (sh_one n i hi hn)
  have S2 := fun i hi h0 => Lib.hid (sh_two n i hi hn h0)
  have S0 := fun i hi h0 => Lib.hid (sh_none n i hi h0)
  have S4 : Hid (w9 (shv n 4) = w9 (LL * 2 ^ n)) := by
    show _ = _
    unfold shv
    rw [List.take_of_length_le (by decide), LW_val]
  have H0 : Hid (w9 (shv n 0) = [0, 0, 0, 0, 0, 0, 0, 0, 0]) := by
    show _ = _
    unfold shv
    rw [show vd 18446744073709551616 (LW.take 0) * 2 ^ n = 0 from by simp [vd]]
    decide +kernel
  generalize n / 64 = q at *
  generalize hrr : n % 64 = r at *
  have HRR := Lib.hid hrr
  clear hrr
  have IX := index4
  go_loopw [5, 6, 9, 10] (fun _ _ i _ wr => ∃ k : Nat, k ≤ 4 ∧ i = .int .i64 k ∧ OneBlk W0 (w.heap.size + 1 + 1) 40 (arrU (w9 (shv n k))) wr) (fun _ _ i _ _ => 4 - (intOf i).toNat)
  case atStart => exact ⟨0, by omega, rfl, by rw [H0.out]; exact OneBlk.start q2⟩
  case round =>
    obtain ⟨k, hk, rfl, hI⟩ := hrel
    by_cases hlt : k < 4
    · have hdl : decide ((k : Int) < 4) = true := by simp; omega
      have s1 := S1 k hlt
      have s2 := S2 k hlt
      have s0 := S0 k hlt
      have ix := IX k hlt
      have d1 : wr.cell? ⟨w.heap.size + 1 + 1, k + q, none⟩ = some (.int .u64 ((w9 (shv n k)).getD (k + q) 0)) := (hI.cell (k + q)).trans (arrU_at _ _ (by rw [w9_length]; omega))
      have f1 := hI.free (k + q)
      have xb : 0 ≤ LW.getD k 0 ∧ LW.getD k 0 < 18446744073709551616 := LW_in k
      generalize LW.getD k 0 = x at *
      generalize (w9 (shv n k)).getD (k + q) 0 = y at *
      have HI := Lib.hid hI
      clear hI S1 S2 S0 IX
      by_cases h0 : r = 0
      · subst h0
        have s0 := s0 rfl
        have hg : decide ((0 : Int) > 0) = false := rfl
        have HS : Hid ((arrU (w9 (shv n k))).setIfInBounds (k + q) (.int .u64 (bits .or .u64 y x)) = arrU (w9 (shv n (k + 1)))) := by
          have := s1.out
          rw [Int.pow_zero, Int.mul_one, IntKind.wrap_u64, Int.emod_eq_of_lt xb.1 xb.2, s0.out] at this
          exact this
        clear s2 s0 s1
        go_wp2
        go_region
        go_wp2
        go_roundw
        case rel => exact ⟨k + 1, by omega, by go_num, by rw [← HS.out]; exact (HI.out.setCell _ _).drew⟩
        case measure => simp [intOf]; omega
      · have hg : decide ((r : Int) > 0) = true := by simp; omega
        have s2 := s2 (by omega)
        clear s0
        go_wp2
        go_region
        have hI2 := (HI.out.setCell (k + q) (.int .u64 (bits .or .u64 y (IntKind.u64.wrap (x * 2 ^ r))))).drew
        rw [s1.out] at hI2
        generalize (wr.setCell ⟨w.heap.size + 1 + 1, k + q, none⟩ (.int .u64 (bits .or .u64 y (IntKind.u64.wrap (x * 2 ^ r))))).drew = W2 at *
        clear HI d1 f1 s1
        have d2 : W2.cell? ⟨w.heap.size + 1 + 1, k + q + 1, none⟩ = some (.int .u64 ((w9 (shm n k)).getD (k + q + 1) 0)) := (hI2.cell (k + q + 1)).trans (arrU_at _ _ (by rw [w9_length]; omega))
        have f2 := hI2.free (k + q + 1)
        generalize (w9 (shm n k)).getD (k + q + 1) 0 = y2 at *
        have HI2 := Lib.hid hI2
        clear hI2
        go_wp2
        go_region
        go_wp2
        go_roundw
        case rel => exact ⟨k + 1, by omega, by go_num, by rw [← s2.out]; exact (HI2.out.setCell _ _).drew⟩
        case measure => simp [intOf]; omega
    · obtain rfl : k = 4 := by omega
      rw [S4.out] at hI
      have hA := hI.blk
      have hR := hI.far (i := w.heap.size) (by omega) q0
      have hbel := hI.below hb0 (by omega)
      have s9 : (arrU (w9 (LL * 2 ^ n))).size = 9 := by rw [arrU_size, w9_length]
      have o9 := arrU_one (w9 (LL * 2 ^ n))
      generalize hcs : arrU (w9 (LL * 2 ^ n)) = cs at *
      have S9 := Lib.hid s9
      have O9 := Lib.hid o9
      have HCS := Lib.hid hcs
      clear s9 o9 hcs hI S0 S1 S2 IX
      go_wp2_with (first | (refine wpList_load_row rfl 40 _ rfl (w.heap.size + 1 + 1) rfl _ _ _ _ hA Try.underlying40 rfl (by rw [S9.out]; exact infoW) ?_) | (refine wpList_store_row rfl 40 (.tmp 2) (.tmp 43) rfl (w.heap.size) cs rfl rfl 40 _ hR (by rw [S9.out]; exact infoW) (by rw [S9.out]; rfl) O9.out ?_))
      refine ret_cell rfl (w.heap.size) _ _ _ _ rfl (setRow_here hR cs) Try.underlying40 rfl (by rw [S9.out]; exact infoW) rfl ⟨by rw [HCS.out], ?_⟩
      exact below_setRow hbel (by omega) _
end Go.Proofs.Ytdcfpgclnhacmaa
