/- The walk of field.element.carry. No condition. -/
import Derived.Test.YtenppmciabdefaaPa
namespace Go.Proofs.Ytenppmciabdefaa
open Go.RowKit
set_option maxHeartbeats 4000000 in
theorem carry_any (x0 x1 x2 x3 x4 : Int) (w : World)
  (h0 : 0 ≤ x0 ∧ x0 < 9223372036854775808) (h1 : 0 ≤ x1 ∧ x1 < 9223372036854775808) (h2 : 0 ≤ x2 ∧ x2 < 9223372036854775808) (h3 : 0 ≤ x3 ∧ x3 < 9223372036854775808) (h4 : 0 ≤ x4 ∧ x4 < 9223372036854775808) :
    Calls Try.prog 89 #[.agg #[.int .u64 x0, .int .u64 x1, .int .u64 x2, .int .u64 x3, .int .u64 x4]] w fun e w' =>
      ∃ y0 y1 y2 y3 y4, e = .returned (.agg #[.int .u64 y0, .int .u64 y1, .int .u64 y2, .int .u64 y3, .int .u64 y4]) ∧ CarryP x0 x1 x2 x3 x4 y0 y1 y2 y3 y4 ∧ Below w.heap.size w w' := by
  have HF := carry_fact x0 x1 x2 x3 x4 h0 h1 h2 h3 h4
  go_enter Try.func89, Try.ntmps89
  go_wp2
  refine wp_loop_rounds 5 ?_
  iterate 4 (rw [rounds_succ]; go_wp2; go_region; go_wp2)
  rw [rounds_succ]; go_wp2
  refine ret_cell rfl (w.heap.size + 1) _ _ _ _ rfl (heap_alloc2_new w _ _) Try.underlying44 rfl (by kernel_rfl) rfl ?_
  exact ⟨_, _, _, _, _, rfl, HF, (by repeat (first | exact Below.refl _ _ | refine Below.drew ?_ | refine Below.alloc ?_ (by simp) _))⟩
end Go.Proofs.Ytenppmciabdefaa
