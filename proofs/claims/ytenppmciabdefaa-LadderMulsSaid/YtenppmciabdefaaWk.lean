/- The walk of synodref03.Times. No condition. -/
import Derived.Test.YtenppmciabdefaaPe
namespace Go.Proofs.Ytenppmciabdefaa
open Go.RowKit
def arrI (L : List Int) : Array Value := (L.map (Value.int .i64)).toArray
theorem arrI_at (L : List Int) (j : Nat) (h : j < L.length) : (arrI L)[j]? = some (.int .i64 (L.getD j 0)) := by
  simp [arrI, h]
theorem arrI_set (L : List Int) (j : Nat) (x : Int) : (arrI L).setIfInBounds j (.int .i64 x) = arrI (L.set j x) := by
  simp [arrI, List.map_set]
theorem arrI_size (L : List Int) : (arrI L).size = L.length := by simp [arrI]
theorem arrI_one (L : List Int) : (arrI L).all (·.oneCell') = true := by
  rw [Array.all_eq_true_iff_forall_mem]
  intro v hv
  simp only [arrI, List.mem_toArray, List.mem_map] at hv
  obtain ⟨x, _, rfl⟩ := hv
  rfl
theorem info_num : (Try.prog.info? 52).map (·.size) = some 16 := by kernel_rfl
theorem four_new (w : World) (A B C D : Obj) : ∃ W0, (((w.alloc A).alloc B).alloc C).alloc D = W0 ∧ W0.heap.size = w.heap.size + 4 ∧ Below w.heap.size w W0 ∧ W0.heap[w.heap.size]? = some A ∧ W0.heap[w.heap.size + 1]? = some B ∧ W0.heap[w.heap.size + 1 + 1]? = some C ∧ W0.heap[w.heap.size + 1 + 1 + 1]? = some D :=
  ⟨_, rfl, by simp only [size_at], four_below w A B C D, four_at0 w A B C D, four_at1 w A B C D, four_at2 w A B C D, four_at3 w A B C D⟩
theorem zeros31 : arrI (tall [] [] 0) = #[.int .i64 0, .int .i64 0, .int .i64 0, .int .i64 0, .int .i64 0, .int .i64 0, .int .i64 0, .int .i64 0, .int .i64 0, .int .i64 0, .int .i64 0, .int .i64 0, .int .i64 0, .int .i64 0, .int .i64 0, .int .i64 0, .int .i64 0, .int .i64 0, .int .i64 0, .int .i64 0, .int .i64 0, .int .i64 0, .int .i64 0, .int .i64 0, .int .i64 0, .int .i64 0, .int .i64 0, .int .i64 0, .int .i64 0, .int .i64 0, .int .i64 0] := rfl
set_option maxRecDepth 100000 in
set_option maxHeartbeats 16000000 in
theorem times_any (A B : List Int) (w : World) (hA : A.length = 16) (hB : B.length = 16) (lA : Lim 131072 A) (lB : Lim 131072 B) :
    Calls Try.prog 47 #[numV A, numV B] w fun e w' => ∃ M : List Int, e = .returned (numV M) ∧ NumP M (valL A * valL B) ∧ Below w.heap.size w w' := by
  have en : ∀ L, numV L = .agg (arrI L) := fun _ => rfl
  rw [en, en]
  have sA : (arrI A).size = 16 := by simp [arrI, hA]
  have sB : (arrI B).size = 16 := by simp [arrI, hB]
  go_enter Try.func47, Try.ntmps47
  go_wp2
  obtain ⟨W0, hW0, hz, hb0, q0, q1, q2, q3⟩ := four_new w (.cells (arrI A) 52) (.cells (arrI B) 52) (.cells #[.int .i64 0, .int .i64 0, .int .i64 0, .int .i64 0, .int .i64 0, .int .i64 0, .int .i64 0, .int .i64 0, .int .i64 0, .int .i64 0, .int .i64 0, .int .i64 0, .int .i64 0, .int .i64 0, .int .i64 0, .int .i64 0] 52) (.cells (arrI (tall A B 0)) 76)
  rw [show (Obj.cells #[.int .i64 0, .int .i64 0, .int .i64 0, .int .i64 0, .int .i64 0, .int .i64 0, .int .i64 0, .int .i64 0, .int .i64 0, .int .i64 0, .int .i64 0, .int .i64 0, .int .i64 0, .int .i64 0, .int .i64 0, .int .i64 0, .int .i64 0, .int .i64 0, .int .i64 0, .int .i64 0, .int .i64 0, .int .i64 0, .int .i64 0, .int .i64 0, .int .i64 0, .int .i64 0, .int .i64 0, .int .i64 0, .int .i64 0, .int .i64 0, .int .i64 0] 76) = .cells (arrI (tall A B 0)) 76 from rfl, hW0]
  have HZ := Lib.hid hz
  clear hW0 hz
  go_loopw [6] (fun i wr => ∃ n : Nat, n ≤ 16 ∧ i = .int .i64 n ∧ OneBlk W0 (w.heap.size + 1 + 1 + 1) 76 (arrI (tall A B n)) wr) (fun i _ => 16 - (intOf i).toNat)
  case atStart => exact ⟨0, by omega, rfl, OneBlk.start q3⟩
  case round =>
    obtain ⟨n, hn, rfl, hG⟩ := hrel
    by_cases hlt : n < 16
    · obtain ⟨wo, rfl⟩ : ∃ wo : World, wo = wr := ⟨_, rfl⟩
      go_wp2
      go_loopw [7] (fun k wr => ∃ m : Nat, m ≤ 16 ∧ k = .int .i64 m ∧ OneBlk W0 (w.heap.size + 1 + 1 + 1) 76 (arrI (trow A B (tall A B n) n m)) wr) (fun k _ => 16 - (intOf k).toNat)
      case atStart => exact ⟨0, by omega, rfl, hG⟩
      case round =>
        obtain ⟨m, hm, rfl, hI⟩ := hrel
        by_cases hmlt : m < 16
        · have hT := trow_length A B (tall A B n) n m
          rw [tall_length] at hT
          have HI := Lib.hid hI
          have d1 : wr.cell? ⟨w.heap.size + 1 + 1 + 1, n + m, none⟩ = some (.int .i64 ((trow A B (tall A B n) n m).getD (n + m) 0)) := (hI.cell (n + m)).trans (arrI_at _ _ (by omega))
          have f1 := hI.free (n + m)
          have d2 : wr.cell? ⟨w.heap.size, n, none⟩ = some (.int .i64 (A.getD n 0)) := (hI.farCell (by omega)).trans ((cell_of_row W0 _ n _ _ _ q0).trans (arrI_at _ _ (by omega)))
          have d3 : wr.cell? ⟨w.heap.size + 1, m, none⟩ = some (.int .i64 (B.getD m 0)) := (hI.farCell (by omega)).trans ((cell_of_row W0 _ m _ _ _ q1).trans (arrI_at _ _ (by omega)))
          have l1 := trow_lim A B (tall A B n) n m _ (tall_lim A B n lA lB) lA lB (n + m)
          have l2 := prod_lim _ _ (lA n) (lB m)
          have hstep : arrI (trow A B (tall A B n) n (m + 1)) = (arrI (trow A B (tall A B n) n m)).setIfInBounds (n + m) (.int .i64 ((trow A B (tall A B n) n m).getD (n + m) 0 + A.getD n 0 * B.getD m 0)) := (arrI_set _ _ _).symm
          generalize (trow A B (tall A B n) n m).getD (n + m) 0 = tv at *
          generalize A.getD n 0 = av at *
          generalize B.getD m 0 = bv at *
          have HS := Lib.hid hstep
          clear hstep hI hG hT
          go_wp2; go_region; go_wp2
          go_roundw
          case rel => exact ⟨m + 1, by omega, by go_num, by rw [HS.out]; exact (HI.out.setCell (n + m) (.int .i64 (tv + av * bv))).drew⟩
          case measure => simp [intOf]; omega
        · have : m = 16 := by omega
          subst this
          go_wp2
          go_roundw
          case rel => exact ⟨n + 1, by omega, by go_num, hI⟩
          case measure => simp [intOf]; omega
    · have : n = 16 := by omega
      subst this
      have hbr := hG.below hb0 (by omega)
      have hbs : w.heap.size + 4 ≤ wr.heap.size := by have := hG.size; have := HZ.out; omega
      have hT0 := hG.blk
      have hR0 := hG.far (i := w.heap.size + 1 + 1) (by omega) q2
      go_wp2
      obtain ⟨W1, hW1, hz1, hb1, hn1⟩ := one_new wr (.cells #[.int .i64 0, .int .i64 0, .int .i64 0, .int .i64 0, .int .i64 0, .int .i64 0, .int .i64 0, .int .i64 0, .int .i64 0, .int .i64 0, .int .i64 0, .int .i64 0, .int .i64 0, .int .i64 0, .int .i64 0, .int .i64 0] 52)
      rw [show (Obj.cells #[.int .i64 0, .int .i64 0, .int .i64 0, .int .i64 0, .int .i64 0, .int .i64 0, .int .i64 0, .int .i64 0, .int .i64 0, .int .i64 0, .int .i64 0, .int .i64 0, .int .i64 0, .int .i64 0, .int .i64 0, .int .i64 0] 52) = .cells (arrI (nrow (tall A B 16) 0)) 52 from rfl] at hW1 hn1
      rw [show (Obj.cells #[.int .i64 0, .int .i64 0, .int .i64 0, .int .i64 0, .int .i64 0, .int .i64 0, .int .i64 0, .int .i64 0, .int .i64 0, .int .i64 0, .int .i64 0, .int .i64 0, .int .i64 0, .int .i64 0, .int .i64 0, .int .i64 0] 52) = .cells (arrI (nrow (tall A B 16) 0)) 52 from rfl, hW1]
      have hT1 := block_stay hb1 hT0
      have hR1 := block_stay hb1 hR0
      have HZ1 := Lib.hid hz1
      have lT := tall_lim A B 16 lA lB
      have hTl := tall_length A B 16
      have hNv := nrow_val (tall A B 16) hTl
      have hTv := tall_val A B 16 hA hB (by omega)
      rw [List.take_of_length_le (by omega)] at hTv
      generalize tall A B 16 = T at *
      generalize wr.heap.size = nb at *
      have HTl := Lib.hid hTl
      have HTv := Lib.hid hTv
      clear hW1 hz1 hG hT0 hR0 hTl hTv
      go_loopw [9] (fun i wr => ∃ k : Nat, k ≤ 16 ∧ i = .int .i64 k ∧ OneBlk W1 nb 52 (arrI (nrow T k)) wr) (fun i _ => 16 - (intOf i).toNat)
      case atStart => exact ⟨0, by omega, rfl, OneBlk.start hn1⟩
      case round =>
        obtain ⟨k, hk, rfl, hI⟩ := hrel
        by_cases hklt : k < 16
        · have HI := Lib.hid hI
          have hTl := HTl.out
          have hnl := nrow_length T k
          have d0 := (hI.cell k).trans (arrI_at _ _ (by omega))
          have f0 := hI.free k
          have d1 : wr.cell? ⟨w.heap.size + 1 + 1 + 1, k, none⟩ = some (.int .i64 (T.getD k 0)) := (hI.farCell (by omega)).trans ((cell_of_row W1 _ k _ _ _ hT1).trans (arrI_at _ _ (by omega)))
          have l1 := lT k
          have l2 := lT (k + 16)
          have hstep := nrow_step T k
          by_cases h15 : k < 15
          · have d2 : wr.cell? ⟨w.heap.size + 1 + 1 + 1, k + 16, none⟩ = some (.int .i64 (T.getD (k + 16) 0)) := (hI.farCell (by omega)).trans ((cell_of_row W1 _ (k + 16) _ _ _ hT1).trans (arrI_at _ _ (by omega)))
            have hnf : nf T k = T.getD k 0 + 38 * T.getD (k + 16) 0 := by unfold nf; rw [if_pos h15]
            rw [hnf] at hstep
            have HS : Hid (arrI (nrow T (k + 1)) = ((arrI (nrow T k)).setIfInBounds k (.int .i64 (T.getD k 0))).setIfInBounds k (.int .i64 (T.getD k 0 + 38 * T.getD (k + 16) 0))) := by
              show _ = _
              rw [← hstep, arrI_set, arrI_set, List.set_set]
            generalize T.getD k 0 = tv at *
            generalize T.getD (k + 16) 0 = uv at *
            have HNV := Lib.hid hNv
            clear hstep hnf hI hTl hnl hNv
            go_wp2; go_region; go_wp2
            go_roundw
            case rel => exact ⟨k + 1, by omega, by go_num, by rw [HS.out]; exact ((HI.out.setCell k (.int .i64 tv)).setCell k (.int .i64 (tv + 38 * uv))).drew⟩
            case measure => simp [intOf]; omega
          · have : k = 15 := by omega
            subst this
            have hnf : nf T 15 = T.getD 15 0 := rfl
            rw [hnf] at hstep
            have HS : Hid (arrI (nrow T (15 + 1)) = (arrI (nrow T 15)).setIfInBounds 15 (.int .i64 (T.getD 15 0))) := by
              show _ = _
              rw [← hstep, arrI_set]
            generalize T.getD 15 0 = tv at *
            have HNV := Lib.hid hNv
            clear hstep hnf hI hTl hnl hNv
            go_wp2
            go_roundw
            case rel => exact ⟨16, by omega, by go_num, by rw [HS.out]; exact HI.out.setCell 15 (.int .i64 tv)⟩
            case measure => simp [intOf]
        · have : k = 16 := by omega
          subst this
          have hF := hI.blk
          have hR := hI.far (i := w.heap.size + 1 + 1) (by omega) hR1
          have hbI := hI.below (hbr.trans (hb1.mono (by omega))) (by omega : w.heap.size ≤ nb)
          go_wp2_with (refine wpList_load_row rfl 52 _ rfl nb rfl _ _ _ _ hF Try.underlying52 rfl (by kernel_rfl) ?_)
          refine (rcarry_any (nrow T 16) _ (nrow_length _ _) (fun x hx => by have := nrow_lim T _ lT x hx; omega)).mono ?_
          rintro e w2 ⟨M1, rfl, hM1, hb2⟩
          obtain ⟨q1, _, hl1, hq1, _, hx1⟩ := carR_in hM1
          have hlim1 : ∀ x ∈ M1, -1152921504606846976 ≤ x ∧ x ≤ 1152921504606846976 := fun x hx => by
            have := hx1 x hx
            split at this <;> split at this <;> omega
          clear hx1 hF
          go_wp2_with fail
          refine (rcarry_any M1 _ hl1 hlim1).mono ?_
          rintro e w3 ⟨M, rfl, hM, hb3⟩
          obtain ⟨q2, _, hl2, _, _, _⟩ := carR_in hM
          have hres : w3.heap[w.heap.size + 1 + 1]? = some (.cells #[.int .i64 0, .int .i64 0, .int .i64 0, .int .i64 0, .int .i64 0, .int .i64 0, .int .i64 0, .int .i64 0, .int .i64 0, .int .i64 0, .int .i64 0, .int .i64 0, .int .i64 0, .int .i64 0, .int .i64 0, .int .i64 0] 52 (0, 0)) := block_stay hb3 (block_stay hb2 hR)
          have sM : (arrI M).size = 16 := by rw [arrI_size, hl2]
          have hN : NumP M (valL A * valL B) := carR_twice hM1 hM (by
            obtain ⟨k, hk⟩ := hNv
            exact ⟨-k, by rw [hk, HTv.out]; grind⟩)
          have HN := Lib.hid hN
          clear hlim1 hl1 hl2 hN hM hM1 hNv
          go_wp2_with (refine wpList_store_row rfl 52 (.tmp 4) (.tmp 64) rfl (w.heap.size + 1 + 1) (arrI M) rfl rfl 52 _ hres (by rw [sM]; exact info_num) (by rw [sM]; rfl) (arrI_one M) ?_)
          refine ret_cell rfl (w.heap.size + 1 + 1) _ _ _ _ rfl (setRow_self hres _) Try.underlying52 rfl (by rw [sM]; exact info_num) rfl ?_
          exact ⟨M, rfl, HN.out, below_setRow (hbI.trans ((hb2.mono (by have := hI.size; have := HZ1.out; omega)).trans (hb3.mono (by have := hI.size; have := HZ1.out; have := hb2.size; omega)))) (by omega) _⟩
end Go.Proofs.Ytenppmciabdefaa
