/- The walk of field.element.put. No condition. -/
import Derived.Test.YtenppmciabdefaaWa
import Derived.Test.YtenppmciabdefaaPc
import Derived.Test.YtenppmciabdefaaRa
import Derived.Laws.CopyOwn
namespace Go.Proofs.Ytenppmciabdefaa
open Go.RowKit
set_option maxRecDepth 100000 in
set_option maxHeartbeats 4000000 in
theorem put_any (x0 x1 x2 x3 x4 : Int) (w : World)
  (h0 : 0 ≤ x0 ∧ x0 < 4503599627370496) (h1 : 0 ≤ x1 ∧ x1 < 2251799813685248) (h2 : 0 ≤ x2 ∧ x2 < 2251799813685248) (h3 : 0 ≤ x3 ∧ x3 < 2251799813685248) (h4 : 0 ≤ x4 ∧ x4 < 2251799813685248) :
    Calls Try.prog 68 #[.agg #[.int .u64 x0, .int .u64 x1, .int .u64 x2, .int .u64 x3, .int .u64 x4]] w fun e w' =>
      ∃ b, e = .returned (.slice (some ⟨b, 0, none⟩) 32 32) ∧ w.heap.size ≤ b ∧ IsB w' b (leB (v5 x0 x1 x2 x3 x4 % PP)) ∧ Below w.heap.size w w' := by
  go_enter Try.func68, Try.ntmps68
  go_wp2_with fail
  refine (carry_any _ _ _ _ _ _ (by omega) (by omega) (by omega) (by omega) (by omega)).mono ?_
  rintro e w1 ⟨a0, a1, a2, a3, a4, rfl, ha, hb1⟩
  obtain ⟨ga0, ga1, ga2, ga3, ga4⟩ := carryP_in ha
  go_wp2_with fail
  refine (carry_any _ _ _ _ _ _ (by omega) (by omega) (by omega) (by omega) (by omega)).mono ?_
  rintro e w2 ⟨u0, u1, u2, u3, u4, rfl, hu, hb2⟩
  obtain ⟨gu0, gu1, gu2, gu3, gu4, hv, k, hk0⟩ := carryP_twice x0 x1 x2 x3 x4 h0 h1 h2 h3 h4 ha hu
  have Hk := Lib.hid hk0
  clear hk0
  have hx2 : w2.heap[w.heap.size]? = some (.cells #[.int .u64 x0, .int .u64 x1, .int .u64 x2, .int .u64 x3, .int .u64 x4] 44 (0, 0)) :=
    Ext.of_below hb2 _ _ (Ext.of_below hb1 _ _ (by rw [heap_at, if_pos rfl]))
  obtain ⟨w3, hw3, hc3, hb3, hs3⟩ := row_new (w := w) w2 ⟨hb1, hb2⟩ hx2 #[.int .u64 u0, .int .u64 u1, .int .u64 u2, .int .u64 u3, .int .u64 u4]
  have c30 : w3.cell? ⟨w.heap.size, 0, none⟩ = some (.int .u64 u0) := (cell_of_row w3 _ 0 _ _ _ hc3).trans rfl
  have c31 : w3.cell? ⟨w.heap.size, 1, none⟩ = some (.int .u64 u1) := (cell_of_row w3 _ 1 _ _ _ hc3).trans rfl
  have c32 : w3.cell? ⟨w.heap.size, 2, none⟩ = some (.int .u64 u2) := (cell_of_row w3 _ 2 _ _ _ hc3).trans rfl
  have c33 : w3.cell? ⟨w.heap.size, 3, none⟩ = some (.int .u64 u3) := (cell_of_row w3 _ 3 _ _ _ hc3).trans rfl
  have c34 : w3.cell? ⟨w.heap.size, 4, none⟩ = some (.int .u64 u4) := (cell_of_row w3 _ 4 _ _ _ hc3).trans rfl
  go_wp2_with (refine wpList_store_row rfl 44 (.tmp 1) (.tmp 10) rfl w.heap.size #[.int .u64 u0, .int .u64 u1, .int .u64 u2, .int .u64 u3, .int .u64 u4] rfl rfl 44 _ hx2 (by kernel_rfl) (by kernel_rfl) (by kernel_rfl) ?_; rw [hw3])
  have hmk : ∀ w, (Instr.makeSlice 22 (.int .i64 32) (.int .i64 32)).run Try.prog w = .ok (.slice (some ⟨w.heap.size, 0, none⟩) 32 32) (w.alloc (.cells #[.int .u8 0, .int .u8 0, .int .u8 0, .int .u8 0, .int .u8 0, .int .u8 0, .int .u8 0, .int .u8 0, .int .u8 0, .int .u8 0, .int .u8 0, .int .u8 0, .int .u8 0, .int .u8 0, .int .u8 0, .int .u8 0, .int .u8 0, .int .u8 0, .int .u8 0, .int .u8 0, .int .u8 0, .int .u8 0, .int .u8 0, .int .u8 0, .int .u8 0, .int .u8 0, .int .u8 0, .int .u8 0, .int .u8 0, .int .u8 0, .int .u8 0, .int .u8 0] 5)) := fun _ => by kernel_rfl
  by_cases hA : ((u4 + (u3 + (u2 + (u1 + (u0 + 19) / 2251799813685248) / 2251799813685248) / 2251799813685248) / 2251799813685248) / 2251799813685248 != 0) = true
  · refine wp_loop_rounds 5 ?_
    iterate 4 (rw [rounds_succ]; go_wp2; go_region; go_wp2)
    have hc3d : ∀ o, ((w3.alloc o).drew.drew.drew.drew).heap[w.heap.size]? = some (.cells #[.int .u64 u0, .int .u64 u1, .int .u64 u2, .int .u64 u3, .int .u64 u4] 44 (0, 0)) := fun o => Ext.alloc w3 o _ _ hc3
    rw [rounds_succ]
    have hW5 := row_again (hc3d (.cells #[.int .u64 ((u0 + 19) % 2251799813685248), .int .u64 ((u1 + (u0 + 19) / 2251799813685248) % 2251799813685248), .int .u64 ((u2 + (u1 + (u0 + 19) / 2251799813685248) / 2251799813685248) % 2251799813685248), .int .u64 ((u3 + (u2 + (u1 + (u0 + 19) / 2251799813685248) / 2251799813685248) / 2251799813685248) % 2251799813685248), .int .u64 ((u4 + (u3 + (u2 + (u1 + (u0 + 19) / 2251799813685248) / 2251799813685248) / 2251799813685248) / 2251799813685248) % 2251799813685248)] 44)) (((((hb3.alloc (Nat.le_of_lt hs3) _).drew).drew).drew).drew) (by show w.heap.size < (w3.alloc _).heap.size; rw [size_at]; omega) #[.int .u64 ((u0 + 19) % 2251799813685248), .int .u64 ((u1 + (u0 + 19) / 2251799813685248) % 2251799813685248), .int .u64 ((u2 + (u1 + (u0 + 19) / 2251799813685248) / 2251799813685248) % 2251799813685248), .int .u64 ((u3 + (u2 + (u1 + (u0 + 19) / 2251799813685248) / 2251799813685248) / 2251799813685248) % 2251799813685248), .int .u64 ((u4 + (u3 + (u2 + (u1 + (u0 + 19) / 2251799813685248) / 2251799813685248) / 2251799813685248) / 2251799813685248) % 2251799813685248)]
    obtain ⟨w5, hw5, hc5, hb5, hs5⟩ := hW5
    obtain ⟨f0, f1, f2, f3, f4, ef0, ef1, ef2, ef3, ef4, k0, k1, k2, k3, k4, hN, hNk⟩ := sub_fact u0 u1 u2 u3 u4 gu0 gu1 gu2 gu3 gu4 hv.2 hA
    obtain ⟨W0, W1, W2, W3, q0, q1, q2, q3, i0, i1, i2, i3, hW⟩ := words_fact f0 f1 f2 f3 f4 k0 k1 k2 k3 k4
    rw [ef0, ef1, ef2, ef3, ef4] at hc5
    have c50 : w5.cell? ⟨w.heap.size, 0, none⟩ = some (.int .u64 f0) := (cell_of_row w5 _ 0 _ _ _ hc5).trans rfl
    have c51 : w5.cell? ⟨w.heap.size, 1, none⟩ = some (.int .u64 f1) := (cell_of_row w5 _ 1 _ _ _ hc5).trans rfl
    have c52 : w5.cell? ⟨w.heap.size, 2, none⟩ = some (.int .u64 f2) := (cell_of_row w5 _ 2 _ _ _ hc5).trans rfl
    have c53 : w5.cell? ⟨w.heap.size, 3, none⟩ = some (.int .u64 f3) := (cell_of_row w5 _ 3 _ _ _ hc5).trans rfl
    have c54 : w5.cell? ⟨w.heap.size, 4, none⟩ = some (.int .u64 f4) := (cell_of_row w5 _ 4 _ _ _ hc5).trans rfl
    have HW := Lib.hid hW
    have HNk := Lib.hid hNk
    clear hW hNk ef0 ef1 ef2 ef3 ef4 hc5
    go_wp2_with (refine wpList_store_row rfl 44 (.tmp 1) (.tmp 43) rfl w.heap.size #[.int .u64 ((u0 + 19) % 2251799813685248), .int .u64 ((u1 + (u0 + 19) / 2251799813685248) % 2251799813685248), .int .u64 ((u2 + (u1 + (u0 + 19) / 2251799813685248) / 2251799813685248) % 2251799813685248), .int .u64 ((u3 + (u2 + (u1 + (u0 + 19) / 2251799813685248) / 2251799813685248) / 2251799813685248) % 2251799813685248), .int .u64 ((u4 + (u3 + (u2 + (u1 + (u0 + 19) / 2251799813685248) / 2251799813685248) / 2251799813685248) / 2251799813685248) % 2251799813685248)] rfl rfl 44 _ (hc3d _) (by kernel_rfl) (by kernel_rfl) (by kernel_rfl) ?_; rw [hw5])
    refine wp_loop_rounds 33 ?_
    iterate 32 (rw [rounds_succ]; go_wp2)
    rw [rounds_succ]
    go_wp2
    go_ret
    have hk := Hk.out
    refine ⟨_, rfl, ?_, ?_, ?_⟩
    · omega
    · rw [← emod_of hN (k := k + 1) (by rw [HNk.out, hk, Int.mul_add]; omega)]
      unfold IsB
      rw [← leB_words W0 W1 W2 W3 _ i0 i1 i2 i3 HW.out]
      exact heap_alloc2_new _ _ _
    · exact (hb5.alloc (Nat.le_of_lt hs5) _).alloc (by rw [size_at]; omega) _
  · have hB : ((u4 + (u3 + (u2 + (u1 + (u0 + 19) / 2251799813685248) / 2251799813685248) / 2251799813685248) / 2251799813685248) / 2251799813685248 != 0) = false := by simpa using hA
    clear hA
    refine wp_loop_rounds 5 ?_
    iterate 4 (rw [rounds_succ]; go_wp2; go_region; go_wp2)
    have hc3d : ∀ o, ((w3.alloc o).drew.drew.drew.drew).heap[w.heap.size]? = some (.cells #[.int .u64 u0, .int .u64 u1, .int .u64 u2, .int .u64 u3, .int .u64 u4] 44 (0, 0)) := fun o => Ext.alloc w3 o _ _ hc3
    have hN := keep_fact u0 u1 u2 u3 u4 gu0 gu1 gu2 gu3 gu4 hB
    obtain ⟨W0, W1, W2, W3, q0, q1, q2, q3, i0, i1, i2, i3, hW⟩ := words_fact u0 u1 u2 u3 u4 gu0 gu1 gu2 gu3 gu4
    have HW := Lib.hid hW
    clear hW
    rw [rounds_succ]
    go_wp2
    refine wp_loop_rounds 33 ?_
    iterate 32 (rw [rounds_succ]; go_wp2)
    rw [rounds_succ]
    go_wp2
    go_ret
    have hk := Hk.out
    refine ⟨_, rfl, ?_, ?_, ?_⟩
    · omega
    · rw [← emod_of hN hk]
      unfold IsB
      rw [← leB_words W0 W1 W2 W3 _ i0 i1 i2 i3 HW.out]
      exact three_at w3 _ _ _
    · repeat (first | exact hb3 | refine Below.drew ?_ | refine Below.alloc ?_ (by first | omega | (simp only [size_at]; omega)) _)
end Go.Proofs.Ytenppmciabdefaa
