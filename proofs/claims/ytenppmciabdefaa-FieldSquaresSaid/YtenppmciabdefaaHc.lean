/- The walks of field.element.zero and minus1. No condition. -/
import Derived.Test.YtenppmciabdefaaHb
namespace Go.Proofs.Ytenppmciabdefaa
open Go Go.RowKit
theorem fe_zero : FeA zero5 0 := ⟨0, 0, 0, 0, 0, rfl, by omega, by omega, by omega, by omega, by omega, 0, by simp [v5]⟩
theorem fe_two : FeA #[.int .u64 2, .int .u64 0, .int .u64 0, .int .u64 0, .int .u64 0] 2 := ⟨2, 0, 0, 0, 0, rfl, by omega, by omega, by omega, by omega, by omega, 0, by simp [v5]⟩
set_option maxRecDepth 100000 in
set_option maxHeartbeats 4000000 in
theorem zero_fe (X : Array Value) (N : Int) (w : World) (hX : FeA X N) : Calls Try.prog 95 #[.agg X] w fun e w' => e = .returned (.bool (sameB N 0)) ∧ Below w.heap.size w w' := by
  have sX := hX.size
  have HX := Lib.hid hX
  have c0 : (w.alloc (.cells X 44)).heap[w.heap.size]? = some (.cells X 44 (0, 0)) := heap_alloc_new w _
  have hb := (Below.refl w.heap.size w).alloc (Nat.le_refl _) (.cells X 44)
  clear hX
  go_enter Try.func95, Try.ntmps95
  go_wp2_with (refine wpList_load_row rfl 44 _ rfl w.heap.size rfl _ _ _ _ c0 Try.underlying44 rfl (by rw [sX]; exact infoFe) ?_)
  refine (same_fe X zero5 N 0 _ HX.out fe_zero).mono ?_
  rintro e w1 ⟨rfl, hb1⟩
  go_wp2
  go_ret
  exact ⟨rfl, hb.trans (hb1.mono (by rw [size_at]; omega))⟩
end Go.Proofs.Ytenppmciabdefaa
