/- The walks of field.element.add and sub. No condition. -/
import Derived.Test.YtenppmciabdefaaWa
import Derived.Test.YtenppmciabdefaaPb
import Derived.Test.YtenppmciabdefaaRa
namespace Go.Proofs.Ytenppmciabdefaa
open Go.RowKit

/-- Reduced limbs that are N mod p. -/
def Red (z0 z1 z2 z3 z4 N : Int) : Prop :=
  (0 ≤ z0 ∧ z0 < 4503599627370496) ∧ (0 ≤ z1 ∧ z1 < 2251799813685248) ∧ (0 ≤ z2 ∧ z2 < 2251799813685248) ∧ (0 ≤ z3 ∧ z3 < 2251799813685248) ∧ (0 ≤ z4 ∧ z4 < 2251799813685248) ∧ PP ∣ v5 z0 z1 z2 z3 z4 - N
theorem red_of_carry {x0 x1 x2 x3 x4 z0 z1 z2 z3 z4 N : Int} (h : CarryP x0 x1 x2 x3 x4 z0 z1 z2 z3 z4) (k : Int) (hN : v5 x0 x1 x2 x3 x4 = N + PP * k) : Red z0 z1 z2 z3 z4 N := by
  obtain ⟨r, q, hr, hq, rfl, h1, h2, h3, h4, e⟩ := h
  refine ⟨by omega, h1, h2, h3, h4, k - q, ?_⟩
  unfold v5 PP at *
  omega

set_option maxRecDepth 100000 in
set_option maxHeartbeats 4000000 in
theorem add_any (x0 x1 x2 x3 x4 y0 y1 y2 y3 y4 : Int) (w : World)
  (h0 : 0 ≤ x0 ∧ x0 < 4503599627370496) (h1 : 0 ≤ x1 ∧ x1 < 2251799813685248) (h2 : 0 ≤ x2 ∧ x2 < 2251799813685248) (h3 : 0 ≤ x3 ∧ x3 < 2251799813685248) (h4 : 0 ≤ x4 ∧ x4 < 2251799813685248)
  (k0 : 0 ≤ y0 ∧ y0 < 4503599627370496) (k1 : 0 ≤ y1 ∧ y1 < 2251799813685248) (k2 : 0 ≤ y2 ∧ y2 < 2251799813685248) (k3 : 0 ≤ y3 ∧ y3 < 2251799813685248) (k4 : 0 ≤ y4 ∧ y4 < 2251799813685248) :
    Calls Try.prog 70 #[.agg #[.int .u64 x0, .int .u64 x1, .int .u64 x2, .int .u64 x3, .int .u64 x4], .agg #[.int .u64 y0, .int .u64 y1, .int .u64 y2, .int .u64 y3, .int .u64 y4]] w fun e w' =>
      ∃ z0 z1 z2 z3 z4, e = .returned (.agg #[.int .u64 z0, .int .u64 z1, .int .u64 z2, .int .u64 z3, .int .u64 z4]) ∧ Red z0 z1 z2 z3 z4 (v5 x0 x1 x2 x3 x4 + v5 y0 y1 y2 y3 y4) ∧ Below w.heap.size w w' := by
  go_enter Try.func70, Try.ntmps70
  go_wp2
  refine wp_loop_rounds 6 ?_
  iterate 5 (rw [rounds_succ]; go_wp2; go_region; go_wp2)
  rw [rounds_succ]
  go_wp2_with fail
  refine (carry_any _ _ _ _ _ _ (by omega) (by omega) (by omega) (by omega) (by omega)).mono ?_
  rintro e w' ⟨z0, z1, z2, z3, z4, rfl, hz, hb⟩
  have hres : w'.heap[w.heap.size + 1 + 1]? = some (.cells #[.int .u64 0, .int .u64 0, .int .u64 0, .int .u64 0, .int .u64 0] 44 (0, 0)) := Ext.of_below hb _ _ (three_at w _ _ _)
  go_wp2_with (refine wpList_store_row rfl 44 (.tmp 4) (.tmp 19) rfl (w.heap.size + 1 + 1) #[.int .u64 z0, .int .u64 z1, .int .u64 z2, .int .u64 z3, .int .u64 z4] rfl rfl 44 _ hres (by kernel_rfl) (by kernel_rfl) (by kernel_rfl) ?_)
  refine ret_cell rfl (w.heap.size + 1 + 1) _ _ _ _ rfl (setRow_self hres _) Try.underlying44 rfl (by kernel_rfl) rfl ?_
  refine ⟨_, _, _, _, _, rfl, red_of_carry hz 0 (by unfold v5; omega), ?_⟩
  refine below_setRow ?_ (by omega) _
  refine Below.trans ?_ (hb.mono ?_)
  · repeat (first | exact Below.refl _ _ | refine Below.drew ?_ | refine Below.alloc ?_ (by first | omega | (simp only [size_at]; omega)) _)
  · show w.heap.size ≤ (((w.alloc _).alloc _).alloc _).heap.size
    simp only [size_at]; omega
theorem carryP_in2 {x0 x1 x2 x3 x4 y0 y1 y2 y3 y4 : Int} (h : CarryP x0 x1 x2 x3 x4 y0 y1 y2 y3 y4) :
    (0 ≤ y0 ∧ y0 < 2251799813763092) ∧ (0 ≤ y1 ∧ y1 < 2251799813685248) ∧ (0 ≤ y2 ∧ y2 < 2251799813685248) ∧ (0 ≤ y3 ∧ y3 < 2251799813685248) ∧ (0 ≤ y4 ∧ y4 < 2251799813685248) := by
  obtain ⟨r, q, hr, hq, rfl, h1, h2, h3, h4, _⟩ := h
  exact ⟨by omega, h1, h2, h3, h4⟩
theorem drew_at {w : World} {i : Nat} {x : Option Obj} (h : w.heap[i]? = x) : w.drew.heap[i]? = x := h
theorem carryP_val {x0 x1 x2 x3 x4 y0 y1 y2 y3 y4 : Int} (h : CarryP x0 x1 x2 x3 x4 y0 y1 y2 y3 y4) : ∃ q, v5 y0 y1 y2 y3 y4 = v5 x0 x1 x2 x3 x4 - PP * q := by
  obtain ⟨r, q, _, _, rfl, _, _, _, _, e⟩ := h
  exact ⟨q, by unfold v5 PP at *; omega⟩
theorem sub_eq {x0 x1 x2 x3 x4 y0 y1 y2 y3 y4 c0 c1 c2 c3 c4 q : Int} (h : v5 c0 c1 c2 c3 c4 = v5 y0 y1 y2 y3 y4 - PP * q) :
    v5 (x0 + (4503599627370458 - c0)) (x1 + (4503599627370494 - c1)) (x2 + (4503599627370494 - c2)) (x3 + (4503599627370494 - c3)) (x4 + (4503599627370494 - c4)) = v5 x0 x1 x2 x3 x4 - v5 y0 y1 y2 y3 y4 + PP * (2 + q) := by
  unfold v5 PP at *
  omega
theorem four_at0 (w : World) (A B C D : Obj) : ((((w.alloc A).alloc B).alloc C).alloc D).heap[w.heap.size]? = some A := by
  rw [heap_at, size_at, size_at, size_at, if_neg (by omega), heap_at, size_at, size_at, if_neg (by omega), heap_at, size_at, if_neg (by omega), heap_at, if_pos rfl]
theorem four_at1 (w : World) (A B C D : Obj) : ((((w.alloc A).alloc B).alloc C).alloc D).heap[w.heap.size + 1]? = some B := by
  rw [heap_at, size_at, size_at, size_at, if_neg (by omega), heap_at, size_at, size_at, if_neg (by omega), heap_at, size_at, if_pos rfl]
theorem four_at2 (w : World) (A B C D : Obj) : ((((w.alloc A).alloc B).alloc C).alloc D).heap[w.heap.size + 1 + 1]? = some C := by
  rw [heap_at, size_at, size_at, size_at, if_neg (by omega), heap_at, size_at, size_at, if_pos rfl]
theorem four_at3 (w : World) (A B C D : Obj) : ((((w.alloc A).alloc B).alloc C).alloc D).heap[w.heap.size + 1 + 1 + 1]? = some D := by
  rw [heap_at, size_at, size_at, size_at, if_pos rfl]
theorem four_below (w : World) (A B C D : Obj) : Below w.heap.size w ((((w.alloc A).alloc B).alloc C).alloc D) := by
  repeat (first | exact Below.refl _ _ | refine Below.alloc ?_ (by first | omega | (simp only [size_at]; omega)) _)
theorem sub_world {w : World} (w1 : World) {x0 x1 x2 x3 x4 y0 y1 y2 y3 y4 : Int} {t : TypeId} {C : Array Value}
    (p0 : w1.heap[w.heap.size]? = some (.cells #[.int .u64 x0, .int .u64 x1, .int .u64 x2, .int .u64 x3, .int .u64 x4] t (0, 0))) (p1 : w1.heap[w.heap.size + 1]? = some (.cells #[.int .u64 y0, .int .u64 y1, .int .u64 y2, .int .u64 y3, .int .u64 y4] t (0, 0)))
    (p2 : w1.heap[w.heap.size + 1 + 1]? = some (.cells C t (0, 0))) (p3 : w1.heap[w.heap.size + 1 + 1 + 1]? = some (.cells #[.int .u64 4503599627370458, .int .u64 4503599627370494, .int .u64 4503599627370494, .int .u64 4503599627370494, .int .u64 4503599627370494] t (0, 0)))
    (hb : Below w.heap.size w w1) (hs : w.heap.size + 4 ≤ w1.heap.size) (c0 c1 c2 c3 c4 : Int) :
    ∃ w2, w1.setRow (w.heap.size + 1) #[.int .u64 c0, .int .u64 c1, .int .u64 c2, .int .u64 c3, .int .u64 c4] = w2 ∧
      w2.cell? ⟨w.heap.size, 0, none⟩ = some (.int .u64 x0) ∧ w2.cell? ⟨w.heap.size, 1, none⟩ = some (.int .u64 x1) ∧ w2.cell? ⟨w.heap.size, 2, none⟩ = some (.int .u64 x2) ∧ w2.cell? ⟨w.heap.size, 3, none⟩ = some (.int .u64 x3) ∧ w2.cell? ⟨w.heap.size, 4, none⟩ = some (.int .u64 x4) ∧ w2.cell? ⟨w.heap.size + 1, 0, none⟩ = some (.int .u64 c0) ∧ w2.cell? ⟨w.heap.size + 1, 1, none⟩ = some (.int .u64 c1) ∧ w2.cell? ⟨w.heap.size + 1, 2, none⟩ = some (.int .u64 c2) ∧ w2.cell? ⟨w.heap.size + 1, 3, none⟩ = some (.int .u64 c3) ∧ w2.cell? ⟨w.heap.size + 1, 4, none⟩ = some (.int .u64 c4) ∧ w2.cell? ⟨w.heap.size + 1 + 1 + 1, 0, none⟩ = some (.int .u64 4503599627370458) ∧ w2.cell? ⟨w.heap.size + 1 + 1 + 1, 1, none⟩ = some (.int .u64 4503599627370494) ∧ w2.cell? ⟨w.heap.size + 1 + 1 + 1, 2, none⟩ = some (.int .u64 4503599627370494) ∧ w2.cell? ⟨w.heap.size + 1 + 1 + 1, 3, none⟩ = some (.int .u64 4503599627370494) ∧ w2.cell? ⟨w.heap.size + 1 + 1 + 1, 4, none⟩ = some (.int .u64 4503599627370494) ∧ (∀ i, w2.frozen? ⟨w.heap.size, i, none⟩ = false) ∧ w2.heap[w.heap.size + 1 + 1]? = some (.cells C t (0, 0)) ∧ Below w.heap.size w w2 ∧ w.heap.size + 4 ≤ w2.heap.size := by
  have q0 : (w1.setRow (w.heap.size + 1) #[.int .u64 c0, .int .u64 c1, .int .u64 c2, .int .u64 c3, .int .u64 c4]).heap[w.heap.size]? = _ := (setRow_other w1 _ _ _ (by omega)).trans p0
  have q1 := setRow_self p1 #[.int .u64 c0, .int .u64 c1, .int .u64 c2, .int .u64 c3, .int .u64 c4]
  have q2 : (w1.setRow (w.heap.size + 1) #[.int .u64 c0, .int .u64 c1, .int .u64 c2, .int .u64 c3, .int .u64 c4]).heap[w.heap.size + 1 + 1]? = _ := (setRow_other w1 _ _ _ (by omega)).trans p2
  have q3 : (w1.setRow (w.heap.size + 1) #[.int .u64 c0, .int .u64 c1, .int .u64 c2, .int .u64 c3, .int .u64 c4]).heap[w.heap.size + 1 + 1 + 1]? = _ := (setRow_other w1 _ _ _ (by omega)).trans p3
  refine ⟨_, rfl, (cell_of_row _ _ 0 _ _ _ q0).trans rfl, (cell_of_row _ _ 1 _ _ _ q0).trans rfl, (cell_of_row _ _ 2 _ _ _ q0).trans rfl, (cell_of_row _ _ 3 _ _ _ q0).trans rfl, (cell_of_row _ _ 4 _ _ _ q0).trans rfl, (cell_of_row _ _ 0 _ _ _ q1).trans rfl, (cell_of_row _ _ 1 _ _ _ q1).trans rfl, (cell_of_row _ _ 2 _ _ _ q1).trans rfl, (cell_of_row _ _ 3 _ _ _ q1).trans rfl, (cell_of_row _ _ 4 _ _ _ q1).trans rfl, (cell_of_row _ _ 0 _ _ _ q3).trans rfl, (cell_of_row _ _ 1 _ _ _ q3).trans rfl, (cell_of_row _ _ 2 _ _ _ q3).trans rfl, (cell_of_row _ _ 3 _ _ _ q3).trans rfl, (cell_of_row _ _ 4 _ _ _ q3).trans rfl, fun i => by simp [World.frozen?, q0], q2, below_setRow hb (by omega) _, by rw [setRow_size]; exact hs⟩
set_option maxRecDepth 100000 in
set_option maxHeartbeats 4000000 in
theorem sub_any (x0 x1 x2 x3 x4 y0 y1 y2 y3 y4 : Int) (w : World)
  (h0 : 0 ≤ x0 ∧ x0 < 4503599627370496) (h1 : 0 ≤ x1 ∧ x1 < 2251799813685248) (h2 : 0 ≤ x2 ∧ x2 < 2251799813685248) (h3 : 0 ≤ x3 ∧ x3 < 2251799813685248) (h4 : 0 ≤ x4 ∧ x4 < 2251799813685248)
  (k0 : 0 ≤ y0 ∧ y0 < 4503599627370496) (k1 : 0 ≤ y1 ∧ y1 < 2251799813685248) (k2 : 0 ≤ y2 ∧ y2 < 2251799813685248) (k3 : 0 ≤ y3 ∧ y3 < 2251799813685248) (k4 : 0 ≤ y4 ∧ y4 < 2251799813685248) :
    Calls Try.prog 72 #[.agg #[.int .u64 x0, .int .u64 x1, .int .u64 x2, .int .u64 x3, .int .u64 x4], .agg #[.int .u64 y0, .int .u64 y1, .int .u64 y2, .int .u64 y3, .int .u64 y4]] w fun e w' =>
      ∃ z0 z1 z2 z3 z4, e = .returned (.agg #[.int .u64 z0, .int .u64 z1, .int .u64 z2, .int .u64 z3, .int .u64 z4]) ∧ Red z0 z1 z2 z3 z4 (v5 x0 x1 x2 x3 x4 - v5 y0 y1 y2 y3 y4) ∧ Below w.heap.size w w' := by
  go_enter Try.func72, Try.ntmps72
  go_wp2_with fail
  refine (carry_any _ _ _ _ _ _ (by omega) (by omega) (by omega) (by omega) (by omega)).mono ?_
  rintro e w1 ⟨c0, c1, c2, c3, c4, rfl, hc, hb1⟩
  obtain ⟨gc0, gc1, gc2, gc3, gc4⟩ := carryP_in2 hc
  obtain ⟨q, hq⟩ := carryP_val hc
  have HQ := Lib.hid hq
  clear hq hc
  have p0 := Ext.of_below hb1 _ _ (four_at0 w (.cells #[.int .u64 x0, .int .u64 x1, .int .u64 x2, .int .u64 x3, .int .u64 x4] 44) (.cells #[.int .u64 y0, .int .u64 y1, .int .u64 y2, .int .u64 y3, .int .u64 y4] 44) (.cells #[.int .u64 0, .int .u64 0, .int .u64 0, .int .u64 0, .int .u64 0] 44) (.cells #[.int .u64 4503599627370458, .int .u64 4503599627370494, .int .u64 4503599627370494, .int .u64 4503599627370494, .int .u64 4503599627370494] 44))
  have p1 := Ext.of_below hb1 _ _ (four_at1 w (.cells #[.int .u64 x0, .int .u64 x1, .int .u64 x2, .int .u64 x3, .int .u64 x4] 44) (.cells #[.int .u64 y0, .int .u64 y1, .int .u64 y2, .int .u64 y3, .int .u64 y4] 44) (.cells #[.int .u64 0, .int .u64 0, .int .u64 0, .int .u64 0, .int .u64 0] 44) (.cells #[.int .u64 4503599627370458, .int .u64 4503599627370494, .int .u64 4503599627370494, .int .u64 4503599627370494, .int .u64 4503599627370494] 44))
  have p2 := Ext.of_below hb1 _ _ (four_at2 w (.cells #[.int .u64 x0, .int .u64 x1, .int .u64 x2, .int .u64 x3, .int .u64 x4] 44) (.cells #[.int .u64 y0, .int .u64 y1, .int .u64 y2, .int .u64 y3, .int .u64 y4] 44) (.cells #[.int .u64 0, .int .u64 0, .int .u64 0, .int .u64 0, .int .u64 0] 44) (.cells #[.int .u64 4503599627370458, .int .u64 4503599627370494, .int .u64 4503599627370494, .int .u64 4503599627370494, .int .u64 4503599627370494] 44))
  have p3 := Ext.of_below hb1 _ _ (four_at3 w (.cells #[.int .u64 x0, .int .u64 x1, .int .u64 x2, .int .u64 x3, .int .u64 x4] 44) (.cells #[.int .u64 y0, .int .u64 y1, .int .u64 y2, .int .u64 y3, .int .u64 y4] 44) (.cells #[.int .u64 0, .int .u64 0, .int .u64 0, .int .u64 0, .int .u64 0] 44) (.cells #[.int .u64 4503599627370458, .int .u64 4503599627370494, .int .u64 4503599627370494, .int .u64 4503599627370494, .int .u64 4503599627370494] 44))
  have hbb : Below w.heap.size w w1 := (four_below w _ _ _ _).trans (hb1.mono (by simp only [size_at]; omega))
  have hsz : w.heap.size + 4 ≤ w1.heap.size := by have := hb1.size; simp only [size_at] at this; omega
  go_wp2_with (refine wpList_store_row rfl 44 (.tmp 3) (.tmp 9) rfl (w.heap.size + 1) #[.int .u64 c0, .int .u64 c1, .int .u64 c2, .int .u64 c3, .int .u64 c4] rfl rfl 44 _ p1 (by kernel_rfl) (by kernel_rfl) (by kernel_rfl) ?_; obtain ⟨w2, hw2, f0, f1, f2, f3, f4, g0, g1, g2, g3, g4, t0, t1, t2, t3, t4, fz, hr, hb2, hs2⟩ := sub_world w1 p0 p1 p2 p3 hbb hsz c0 c1 c2 c3 c4; rw [hw2])
  refine wp_loop_rounds 6 ?_
  iterate 5 (rw [rounds_succ]; go_wp2; go_region; go_wp2)
  rw [rounds_succ]
  go_wp2_with fail
  refine (carry_any _ _ _ _ _ _ (by omega) (by omega) (by omega) (by omega) (by omega)).mono ?_
  rintro e w3 ⟨z0, z1, z2, z3, z4, rfl, hz, hb3⟩
  have hres : w3.heap[w.heap.size + 1 + 1]? = some (.cells #[.int .u64 0, .int .u64 0, .int .u64 0, .int .u64 0, .int .u64 0] 44 (0, 0)) := Ext.of_below hb3 _ _ (by repeat (first | (with_reducible exact hr) | (with_reducible refine drew_at ?_) | (with_reducible refine (Below.heap_setCell _ _ _ _ ?hp).trans ?_; case hp => show w.heap.size + 1 + 1 ≠ w.heap.size; omega)))
  go_wp2_with (refine wpList_store_row rfl 44 (.tmp 4) (.tmp 27) rfl (w.heap.size + 1 + 1) #[.int .u64 z0, .int .u64 z1, .int .u64 z2, .int .u64 z3, .int .u64 z4] rfl rfl 44 _ hres (by kernel_rfl) (by kernel_rfl) (by kernel_rfl) ?_)
  refine ret_cell rfl (w.heap.size + 1 + 1) _ _ _ _ rfl (setRow_self hres _) Try.underlying44 rfl (by kernel_rfl) rfl ?_
  refine ⟨_, _, _, _, _, rfl, red_of_carry hz (2 + q) (sub_eq HQ.out), ?_⟩
  refine below_setRow ?_ (by omega) _
  refine Below.trans ?_ (hb3.mono ?_)
  · repeat (first | (with_reducible exact hb2) | (with_reducible refine Below.drew ?_) | (with_reducible refine Below.setCell ?_ ?hp _; case hp => exact Nat.le_refl _))
  · simp [World.setCell]; omega
end Go.Proofs.Ytenppmciabdefaa
