/- The walk of field.element.mul. No condition. -/
import Derived.Test.YtenppmciabdefaaWa
import Derived.Test.YtenppmciabdefaaPb
import Derived.Test.YtenppmciabdefaaRa
import Derived.Deep.RegionHeld3
import Derived.Laws.CopyOwn
namespace Go.Proofs.Ytenppmciabdefaa
open Go.RowKit
set_option maxRecDepth 100000 in
set_option maxHeartbeats 4000000 in
theorem mul_any (x0 x1 x2 x3 x4 y0 y1 y2 y3 y4 : Int) (w : World)
  (h0 : 0 ≤ x0 ∧ x0 < 4503599627370496) (h1 : 0 ≤ x1 ∧ x1 < 4503599627370496) (h2 : 0 ≤ x2 ∧ x2 < 4503599627370496) (h3 : 0 ≤ x3 ∧ x3 < 4503599627370496) (h4 : 0 ≤ x4 ∧ x4 < 4503599627370496)
  (k0 : 0 ≤ y0 ∧ y0 < 4503599627370496) (k1 : 0 ≤ y1 ∧ y1 < 4503599627370496) (k2 : 0 ≤ y2 ∧ y2 < 4503599627370496) (k3 : 0 ≤ y3 ∧ y3 < 4503599627370496) (k4 : 0 ≤ y4 ∧ y4 < 4503599627370496) :
    Calls Try.prog 65 #[.agg #[.int .u64 x0, .int .u64 x1, .int .u64 x2, .int .u64 x3, .int .u64 x4], .agg #[.int .u64 y0, .int .u64 y1, .int .u64 y2, .int .u64 y3, .int .u64 y4]] w fun e w' =>
      ∃ z0 z1 z2 z3 z4, e = .returned (.agg #[.int .u64 z0, .int .u64 z1, .int .u64 z2, .int .u64 z3, .int .u64 z4]) ∧ MulP x0 x1 x2 x3 x4 y0 y1 y2 y3 y4 z0 z1 z2 z3 z4 ∧ Below w.heap.size w w' := by
  go_enter Try.func65, Try.ntmps65
  dsimp only [List.append]
  go_wp2
  obtain ⟨W1, hW, hz, hb1, hc0, hc1, hc2⟩ := three_new w (.cells #[.int .u64 x0, .int .u64 x1, .int .u64 x2, .int .u64 x3, .int .u64 x4] 44) (.cells #[.int .u64 y0, .int .u64 y1, .int .u64 y2, .int .u64 y3, .int .u64 y4] 44) (.cells #[.int .u64 0, .int .u64 0, .int .u64 0, .int .u64 0, .int .u64 0] 44)
  rw [hW]
  have hx := fun w' (h : Below W1.heap.size W1 w') i => cell_stay h hc0 i
  have hy := fun w' (h : Below W1.heap.size W1 w') i => cell_stay h hc1 i
  have HZ := Lib.hid hz
  have hz' : w.heap.size + 3 ≤ W1.heap.size := by omega
  clear hW hz
  have e1 : IntKind.u64.wrap (19 * y1) = 19 * y1 := by rw [IntKind.wrap_u64]; omega
  have e2 : IntKind.u64.wrap (19 * y2) = 19 * y2 := by rw [IntKind.wrap_u64]; omega
  have e3 : IntKind.u64.wrap (19 * y3) = 19 * y3 := by rw [IntKind.wrap_u64]; omega
  have e4 : IntKind.u64.wrap (19 * y4) = 19 * y4 := by rw [IntKind.wrap_u64]; omega
  go_region_held3 (fun w' => Below W1.heap.size W1 w')
     (first | exact (Below.refl _ _).drew | exact Below.trans (by assumption) (Below.mono (by assumption) (Below.size (by assumption))))
     (first | fail)
  clear e1 e2 e3 e4
  go_step
  go_step
  go_step
  refine wp_region_sure 121 (fun w' => Below W1.heap.size W1 w') (by kernel_rfl) (by kernel_rfl) (fun _ _ d _ _ h => by cases d <;> exact h) ((Below.refl _ _).drew.drew) ?_
  iterate 121
    apply sure_cons rfl
    · intro w hS K hK
      go_wp2_with (first | (go_at_call 87; refine (plus_any _ _ _ _ _ (by first | omega | exact ph_in _ _ _ _) (by first | omega | exact pl_in _ _ _ _) (by omega) (by omega)).mono ?_; rintro e w' ⟨rfl, hb⟩))
      first | exact hK _ hS (Ext.refl _) | exact hK _ (Below.trans hS (Below.mono (by assumption) (Below.size hS))) (Ext.of_below (by assumption))
    · kernel_rfl
    · kernel_rfl
  refine sure_end (tail_cons rfl ?_)
  intro w2 hS2 _ K hK
  go_wp2
  refine hK _ _ (Below.alloc hS2 hS2.size _) (tail_cons rfl ?_)
  clear hK K
  intro w3 hS3 hE3 K hK
  have hg3 := hE3 _ _ (heap_alloc_new w2 _)
  have hnb := hS2.size
  generalize w2.heap.size = nb at *
  refine wp_store_row 98 (.tmp 9) (.tmp 148) rfl nb #[.int .u64 (ph (ph (ph (ph (ph 0 0 x0 y0) (pl 0 0 x0 y0) x1 (19 * y4)) (pl (ph 0 0 x0 y0) (pl 0 0 x0 y0) x1 (19 * y4)) x2 (19 * y3)) (pl (ph (ph 0 0 x0 y0) (pl 0 0 x0 y0) x1 (19 * y4)) (pl (ph 0 0 x0 y0) (pl 0 0 x0 y0) x1 (19 * y4)) x2 (19 * y3)) x3 (19 * y2)) (pl (ph (ph (ph 0 0 x0 y0) (pl 0 0 x0 y0) x1 (19 * y4)) (pl (ph 0 0 x0 y0) (pl 0 0 x0 y0) x1 (19 * y4)) x2 (19 * y3)) (pl (ph (ph 0 0 x0 y0) (pl 0 0 x0 y0) x1 (19 * y4)) (pl (ph 0 0 x0 y0) (pl 0 0 x0 y0) x1 (19 * y4)) x2 (19 * y3)) x3 (19 * y2)) x4 (19 * y1)), .int .u64 (pl (ph (ph (ph (ph 0 0 x0 y0) (pl 0 0 x0 y0) x1 (19 * y4)) (pl (ph 0 0 x0 y0) (pl 0 0 x0 y0) x1 (19 * y4)) x2 (19 * y3)) (pl (ph (ph 0 0 x0 y0) (pl 0 0 x0 y0) x1 (19 * y4)) (pl (ph 0 0 x0 y0) (pl 0 0 x0 y0) x1 (19 * y4)) x2 (19 * y3)) x3 (19 * y2)) (pl (ph (ph (ph 0 0 x0 y0) (pl 0 0 x0 y0) x1 (19 * y4)) (pl (ph 0 0 x0 y0) (pl 0 0 x0 y0) x1 (19 * y4)) x2 (19 * y3)) (pl (ph (ph 0 0 x0 y0) (pl 0 0 x0 y0) x1 (19 * y4)) (pl (ph 0 0 x0 y0) (pl 0 0 x0 y0) x1 (19 * y4)) x2 (19 * y3)) x3 (19 * y2)) x4 (19 * y1)), .int .u64 (ph (ph (ph (ph (ph 0 0 x0 y1) (pl 0 0 x0 y1) x1 y0) (pl (ph 0 0 x0 y1) (pl 0 0 x0 y1) x1 y0) x2 (19 * y4)) (pl (ph (ph 0 0 x0 y1) (pl 0 0 x0 y1) x1 y0) (pl (ph 0 0 x0 y1) (pl 0 0 x0 y1) x1 y0) x2 (19 * y4)) x3 (19 * y3)) (pl (ph (ph (ph 0 0 x0 y1) (pl 0 0 x0 y1) x1 y0) (pl (ph 0 0 x0 y1) (pl 0 0 x0 y1) x1 y0) x2 (19 * y4)) (pl (ph (ph 0 0 x0 y1) (pl 0 0 x0 y1) x1 y0) (pl (ph 0 0 x0 y1) (pl 0 0 x0 y1) x1 y0) x2 (19 * y4)) x3 (19 * y3)) x4 (19 * y2)), .int .u64 (pl (ph (ph (ph (ph 0 0 x0 y1) (pl 0 0 x0 y1) x1 y0) (pl (ph 0 0 x0 y1) (pl 0 0 x0 y1) x1 y0) x2 (19 * y4)) (pl (ph (ph 0 0 x0 y1) (pl 0 0 x0 y1) x1 y0) (pl (ph 0 0 x0 y1) (pl 0 0 x0 y1) x1 y0) x2 (19 * y4)) x3 (19 * y3)) (pl (ph (ph (ph 0 0 x0 y1) (pl 0 0 x0 y1) x1 y0) (pl (ph 0 0 x0 y1) (pl 0 0 x0 y1) x1 y0) x2 (19 * y4)) (pl (ph (ph 0 0 x0 y1) (pl 0 0 x0 y1) x1 y0) (pl (ph 0 0 x0 y1) (pl 0 0 x0 y1) x1 y0) x2 (19 * y4)) x3 (19 * y3)) x4 (19 * y2)), .int .u64 (ph (ph (ph (ph (ph 0 0 x0 y2) (pl 0 0 x0 y2) x1 y1) (pl (ph 0 0 x0 y2) (pl 0 0 x0 y2) x1 y1) x2 y0) (pl (ph (ph 0 0 x0 y2) (pl 0 0 x0 y2) x1 y1) (pl (ph 0 0 x0 y2) (pl 0 0 x0 y2) x1 y1) x2 y0) x3 (19 * y4)) (pl (ph (ph (ph 0 0 x0 y2) (pl 0 0 x0 y2) x1 y1) (pl (ph 0 0 x0 y2) (pl 0 0 x0 y2) x1 y1) x2 y0) (pl (ph (ph 0 0 x0 y2) (pl 0 0 x0 y2) x1 y1) (pl (ph 0 0 x0 y2) (pl 0 0 x0 y2) x1 y1) x2 y0) x3 (19 * y4)) x4 (19 * y3)), .int .u64 (pl (ph (ph (ph (ph 0 0 x0 y2) (pl 0 0 x0 y2) x1 y1) (pl (ph 0 0 x0 y2) (pl 0 0 x0 y2) x1 y1) x2 y0) (pl (ph (ph 0 0 x0 y2) (pl 0 0 x0 y2) x1 y1) (pl (ph 0 0 x0 y2) (pl 0 0 x0 y2) x1 y1) x2 y0) x3 (19 * y4)) (pl (ph (ph (ph 0 0 x0 y2) (pl 0 0 x0 y2) x1 y1) (pl (ph 0 0 x0 y2) (pl 0 0 x0 y2) x1 y1) x2 y0) (pl (ph (ph 0 0 x0 y2) (pl 0 0 x0 y2) x1 y1) (pl (ph 0 0 x0 y2) (pl 0 0 x0 y2) x1 y1) x2 y0) x3 (19 * y4)) x4 (19 * y3)), .int .u64 (ph (ph (ph (ph (ph 0 0 x0 y3) (pl 0 0 x0 y3) x1 y2) (pl (ph 0 0 x0 y3) (pl 0 0 x0 y3) x1 y2) x2 y1) (pl (ph (ph 0 0 x0 y3) (pl 0 0 x0 y3) x1 y2) (pl (ph 0 0 x0 y3) (pl 0 0 x0 y3) x1 y2) x2 y1) x3 y0) (pl (ph (ph (ph 0 0 x0 y3) (pl 0 0 x0 y3) x1 y2) (pl (ph 0 0 x0 y3) (pl 0 0 x0 y3) x1 y2) x2 y1) (pl (ph (ph 0 0 x0 y3) (pl 0 0 x0 y3) x1 y2) (pl (ph 0 0 x0 y3) (pl 0 0 x0 y3) x1 y2) x2 y1) x3 y0) x4 (19 * y4)), .int .u64 (pl (ph (ph (ph (ph 0 0 x0 y3) (pl 0 0 x0 y3) x1 y2) (pl (ph 0 0 x0 y3) (pl 0 0 x0 y3) x1 y2) x2 y1) (pl (ph (ph 0 0 x0 y3) (pl 0 0 x0 y3) x1 y2) (pl (ph 0 0 x0 y3) (pl 0 0 x0 y3) x1 y2) x2 y1) x3 y0) (pl (ph (ph (ph 0 0 x0 y3) (pl 0 0 x0 y3) x1 y2) (pl (ph 0 0 x0 y3) (pl 0 0 x0 y3) x1 y2) x2 y1) (pl (ph (ph 0 0 x0 y3) (pl 0 0 x0 y3) x1 y2) (pl (ph 0 0 x0 y3) (pl 0 0 x0 y3) x1 y2) x2 y1) x3 y0) x4 (19 * y4)), .int .u64 (ph (ph (ph (ph (ph 0 0 x0 y4) (pl 0 0 x0 y4) x1 y3) (pl (ph 0 0 x0 y4) (pl 0 0 x0 y4) x1 y3) x2 y2) (pl (ph (ph 0 0 x0 y4) (pl 0 0 x0 y4) x1 y3) (pl (ph 0 0 x0 y4) (pl 0 0 x0 y4) x1 y3) x2 y2) x3 y1) (pl (ph (ph (ph 0 0 x0 y4) (pl 0 0 x0 y4) x1 y3) (pl (ph 0 0 x0 y4) (pl 0 0 x0 y4) x1 y3) x2 y2) (pl (ph (ph 0 0 x0 y4) (pl 0 0 x0 y4) x1 y3) (pl (ph 0 0 x0 y4) (pl 0 0 x0 y4) x1 y3) x2 y2) x3 y1) x4 y0), .int .u64 (pl (ph (ph (ph (ph 0 0 x0 y4) (pl 0 0 x0 y4) x1 y3) (pl (ph 0 0 x0 y4) (pl 0 0 x0 y4) x1 y3) x2 y2) (pl (ph (ph 0 0 x0 y4) (pl 0 0 x0 y4) x1 y3) (pl (ph 0 0 x0 y4) (pl 0 0 x0 y4) x1 y3) x2 y2) x3 y1) (pl (ph (ph (ph 0 0 x0 y4) (pl 0 0 x0 y4) x1 y3) (pl (ph 0 0 x0 y4) (pl 0 0 x0 y4) x1 y3) x2 y2) (pl (ph (ph 0 0 x0 y4) (pl 0 0 x0 y4) x1 y3) (pl (ph 0 0 x0 y4) (pl 0 0 x0 y4) x1 y3) x2 y2) x3 y1) x4 y0)] rfl rfl 98 _ hg3 (by kernel_rfl) (by kernel_rfl) (by kernel_rfl) (hK _ _ (hS3.trans ⟨rfl, rfl, rfl, by simp, fun k hk => setRow_other w3 nb k _ (by omega)⟩) (tail_nil ?_))
  clear hK K
  intro w4 hS4 hE4
  have hT := hE4 nb _ (setRow_self hg3 _)
  clear hE4 hE3 hg3 hS3 hS2
  obtain ⟨t0h, t0l, e0h, e0l, t0i⟩ := five x0 y0 x1 (19 * y4) x2 (19 * y3) x3 (19 * y2) x4 (19 * y1) (by omega) (by omega) (by omega) (by omega) (by omega) (by omega) (by omega) (by omega) (by omega) (by omega)
  rw [← e0h, ← e0l] at hT
  obtain ⟨t1h, t1l, e1h, e1l, t1i⟩ := five x0 y1 x1 y0 x2 (19 * y4) x3 (19 * y3) x4 (19 * y2) (by omega) (by omega) (by omega) (by omega) (by omega) (by omega) (by omega) (by omega) (by omega) (by omega)
  rw [← e1h, ← e1l] at hT
  obtain ⟨t2h, t2l, e2h, e2l, t2i⟩ := five x0 y2 x1 y1 x2 y0 x3 (19 * y4) x4 (19 * y3) (by omega) (by omega) (by omega) (by omega) (by omega) (by omega) (by omega) (by omega) (by omega) (by omega)
  rw [← e2h, ← e2l] at hT
  obtain ⟨t3h, t3l, e3h, e3l, t3i⟩ := five x0 y3 x1 y2 x2 y1 x3 y0 x4 (19 * y4) (by omega) (by omega) (by omega) (by omega) (by omega) (by omega) (by omega) (by omega) (by omega) (by omega)
  rw [← e3h, ← e3l] at hT
  obtain ⟨t4h, t4l, e4h, e4l, t4i⟩ := five x0 y4 x1 y3 x2 y2 x3 y1 x4 y0 (by omega) (by omega) (by omega) (by omega) (by omega) (by omega) (by omega) (by omega) (by omega) (by omega)
  rw [← e4h, ← e4l] at hT
  have hTa := fun o => Ext.alloc w4 o nb _ hT
  clear e0h e0l e1h e1l e2h e2l e3h e3l e4h e4l hx hy hc0 hc1
  have hc4 : w4.heap[w.heap.size + 1 + 1]? = some (.cells #[.int .u64 0, .int .u64 0, .int .u64 0, .int .u64 0, .int .u64 0] 44 (0, 0)) := block_stay hS4 hc2
  go_wp2_with (refine wpList_load_row rfl 98 _ rfl nb rfl _ _ _ _ (hTa _) Try.underlying98 rfl (by kernel_rfl) ?_)
  clear hTa hT
  have i0 : ∀ w, (Instr.index 98 (.agg #[.int .u64 t0h, .int .u64 t0l, .int .u64 t1h, .int .u64 t1l, .int .u64 t2h, .int .u64 t2l, .int .u64 t3h, .int .u64 t3l, .int .u64 t4h, .int .u64 t4l]) (.int .i64 0)).run Try.prog w = .ok (.agg #[.int .u64 t0h, .int .u64 t0l]) w := fun _ => by kernel_rfl
  have i1 : ∀ w, (Instr.index 98 (.agg #[.int .u64 t0h, .int .u64 t0l, .int .u64 t1h, .int .u64 t1l, .int .u64 t2h, .int .u64 t2l, .int .u64 t3h, .int .u64 t3l, .int .u64 t4h, .int .u64 t4l]) (.int .i64 1)).run Try.prog w = .ok (.agg #[.int .u64 t1h, .int .u64 t1l]) w := fun _ => by kernel_rfl
  have i2 : ∀ w, (Instr.index 98 (.agg #[.int .u64 t0h, .int .u64 t0l, .int .u64 t1h, .int .u64 t1l, .int .u64 t2h, .int .u64 t2l, .int .u64 t3h, .int .u64 t3l, .int .u64 t4h, .int .u64 t4l]) (.int .i64 2)).run Try.prog w = .ok (.agg #[.int .u64 t2h, .int .u64 t2l]) w := fun _ => by kernel_rfl
  have i3 : ∀ w, (Instr.index 98 (.agg #[.int .u64 t0h, .int .u64 t0l, .int .u64 t1h, .int .u64 t1l, .int .u64 t2h, .int .u64 t2l, .int .u64 t3h, .int .u64 t3l, .int .u64 t4h, .int .u64 t4l]) (.int .i64 3)).run Try.prog w = .ok (.agg #[.int .u64 t3h, .int .u64 t3l]) w := fun _ => by kernel_rfl
  have i4 : ∀ w, (Instr.index 98 (.agg #[.int .u64 t0h, .int .u64 t0l, .int .u64 t1h, .int .u64 t1l, .int .u64 t2h, .int .u64 t2l, .int .u64 t3h, .int .u64 t3l, .int .u64 t4h, .int .u64 t4l]) (.int .i64 4)).run Try.prog w = .ok (.agg #[.int .u64 t4h, .int .u64 t4l]) w := fun _ => by kernel_rfl
  have t4p : t4h < 17592186044416 := by
    have p0 := prod52 x0 y4 h0 k4
    have p1 := prod52 x1 y3 h1 k3
    have p2 := prod52 x2 y2 h2 k2
    have p3 := prod52 x3 y1 h3 k1
    have p4 := prod52 x4 y0 h4 k0
    omega
  obtain ⟨t0a, t0b, t0c, t0d, t0e⟩ := t0i
  obtain ⟨t1a, t1b, t1c, t1d, t1e⟩ := t1i
  obtain ⟨t2a, t2b, t2c, t2d, t2e⟩ := t2i
  obtain ⟨t3a, t3b, t3c, t3d, t3e⟩ := t3i
  obtain ⟨t4a, t4b, t4c, t4d, t4e⟩ := t4i
  have T0 := Lib.hid t0e
  have T1 := Lib.hid t1e
  have T2 := Lib.hid t2e
  have T3 := Lib.hid t3e
  have T4 := Lib.hid t4e
  clear t0e t1e t2e t3e t4e
  refine wp_loop_rounds 6 ?_
  rw [rounds_succ]
  go_wp2_with (rw [add64_run _ _ _ (by omega) (by omega) (by omega) (by omega)])
  obtain ⟨c1, d1, g1, f1⟩ := round_zero t0h t0l t0a t0b t0c t0d
  rw [← d1]
  have F1 := Lib.hid f1
  clear d1 f1
  rw [rounds_succ]
  go_wp2_with (rw [add64_run _ _ _ (by omega) (by omega) (by omega) (by omega)])
  obtain ⟨c2, d2, g2, f2⟩ := round_fact t1h t1l c1 t1a t1b t1c t1d g1
  rw [← d2]
  have F2 := Lib.hid f2
  clear d2 f2
  rw [rounds_succ]
  go_wp2_with (rw [add64_run _ _ _ (by omega) (by omega) (by omega) (by omega)])
  obtain ⟨c3, d3, g3, f3⟩ := round_fact t2h t2l c2 t2a t2b t2c t2d g2
  rw [← d3]
  have F3 := Lib.hid f3
  clear d3 f3
  rw [rounds_succ]
  go_wp2_with (rw [add64_run _ _ _ (by omega) (by omega) (by omega) (by omega)])
  obtain ⟨c4, d4, g4, f4⟩ := round_fact t3h t3l c3 t3a t3b t3c t3d g3
  rw [← d4]
  have F4 := Lib.hid f4
  clear d4 f4
  rw [rounds_succ]
  go_wp2_with (rw [add64_run _ _ _ (by omega) (by omega) (by omega) (by omega)])
  obtain ⟨c5, d5, g5, f5⟩ := round_fact t4h t4l c4 t4a t4b t4c t4d g4
  rw [← d5]
  have F5 := Lib.hid f5
  clear d5 f5
  rw [rounds_succ]
  have c5b : c5 < 288230376151711744 := by have := F5.out; omega
  go_wp2_with (first | (go_at_call 89; refine (carry_any _ _ _ _ _ _ (by omega) (by omega) (by omega) (by omega) (by omega)).mono ?_; rintro e w' ⟨z0, z1, z2, z3, z4, rfl, hz, hb⟩; have hres : w'.heap[w.heap.size + 1 + 1]? = some (.cells #[.int .u64 0, .int .u64 0, .int .u64 0, .int .u64 0, .int .u64 0] 44 (0, 0)) := Ext.of_below hb _ _ (by repeat (first | exact hc4 | refine Ext.alloc _ _ _ _ ?_))) | (refine wpList_store_row rfl 44 (.tmp 4) (.tmp 181) rfl (w.heap.size + 1 + 1) #[.int .u64 z0, .int .u64 z1, .int .u64 z2, .int .u64 z3, .int .u64 z4] rfl rfl 44 _ (by assumption) (by kernel_rfl) (by kernel_rfl) (by kernel_rfl) ?_))
  refine ret_cell rfl (w.heap.size + 1 + 1) _ _ _ _ rfl (setRow_self (by assumption) _) Try.underlying44 rfl (by kernel_rfl) rfl ?_
  refine ⟨_, _, _, _, _, rfl, ?_, ?_⟩
  · exact mulP_of _ _ _ _ _ _ _ _ _ _ _ _ _ _ _ _ _ _ _ _ c1 c2 c3 c4 c5 _ _ _ _ _ T0.out T1.out T2.out T3.out T4.out F1.out F2.out F3.out F4.out F5.out (by assumption)
  · have hw4 := hS4.size
    refine below_setRow ?_ (by omega) _
    refine hb1.trans ((hS4.mono (by omega)).trans (Below.trans ?_ (Below.mono (by assumption) ?_)))
    · repeat (first | exact Below.refl _ _ | refine Below.alloc ?_ (by first | omega | (simp only [size_at]; omega)) _)
    · simp only [size_at]; omega
end Go.Proofs.Ytenppmciabdefaa
