/- row.take: one that waits. No condition. -/
import Derived.Test.YtiebggfpjkhlaaaDb
import Derived.Test.YtiebggfpjkhlaaaZi
import Derived.Deep.MidRow
namespace Go.Proofs.Ytiebggfpjkhlaaa
open Go Go.RowKit
set_option linter.unusedSimpArgs false
/-- The zero wait. -/
def wait0 : Array Value := #[.string { data := #[] }, .int .i64 0, .int .i64 0, .int .i64 0, .slice none 0 0]
/-- What 'take' leaves. -/
def TakeR (ROW : Value → Obj) (B e sz r : Nat) (v : Value) (n j : Nat) (xs : List Value) (W W' : World) : Prop :=
  ∃ v', W'.heap[r]? = some (ROW v') ∧ W'.ownsRow B e sz v' (n - 1) (xs.take (j * sz) ++ xs.drop ((j + 1) * sz)) ∧ v'.ownBlock = v.ownBlock ∧ Chg (r :: v.ownBlock.toList) W W'
theorem five {l : List Value} (h : l.length = 5) : ∃ a b c d e, l = [a, b, c, d, e] := by
  match l, h with
  | [a, b, c, d, e], _ => exact ⟨a, b, c, d, e, rfl⟩
set_option maxRecDepth 100000 in
set_option maxHeartbeats 4000000 in
theorem takeW_no (r n : Nat) (v : Value) (W : World) (k : Int) (hk : k < 0 ∨ (n : Int) ≤ k) (hr : W.heap[r]? = some (rowB v)) (hv : ∃ p cap, v = .slice p n cap) :
    Calls Try.prog 34 #[.pointer (some ⟨r, 0, none⟩), .int .i64 k] W fun e W' => e = .returned (.tuple #[.agg wait0, .bool false]) ∧ Below W.heap.size W W' := by
  obtain ⟨p, cap, rfl⟩ := hv
  have hb1 : Below W.heap.size W (W.alloc (.cells wait0 38)) := (Below.refl _ _).alloc (Nat.le_refl _) _
  have er := blk_stay hb1 hr
  have cq : (W.alloc (.cells wait0 38)).cell? ⟨r, 0, none⟩ = some (.slice p n cap) := (cell_of_row _ r 0 _ _ _ er).trans rfl
  have e6 : (W.alloc (.cells wait0 38)).heap[W.heap.size]? = some (.cells wait0 38 (0, 0)) := alloc_at W _
  have hone : wait0.all (·.oneCell') = true := by
    rw [Array.all_eq_true_iff_forall_mem]
    intro v hv
    simp [wait0] at hv
    rcases hv with rfl | rfl | rfl <;> rfl
  have HB : Hid (Below W.heap.size W ((W.alloc (.cells wait0 38)).setRow W.heap.size wait0)) := Lib.hid (setRow_below hb1 (Nat.le_refl _) _)
  have e7 := setRow_here e6 wait0
  have HE := Lib.hid e7
  clear e7 hb1 er hr
  unfold wait0 at *
  by_cases h0 : k < 0
  · have d0 : decide (k < 0) = true := by simpa using h0
    clear h0 hk
    go_enter Try.func34, Try.ntmps34
    go_wp2_with (first | (refine wpList_load_row rfl 38 (.tmp 4) rfl W.heap.size rfl 38 #[.string { data := #[] }, .int .i64 0, .int .i64 0, .int .i64 0, .slice none 0 0] (0, 0) _ e6 Try.underlying38 rfl infoW5 ?_) | (refine wpList_store_row rfl 38 (.tmp 4) (.tmp 17) rfl W.heap.size #[.string { data := #[] }, .int .i64 0, .int .i64 0, .int .i64 0, .slice none 0 0] rfl rfl 38 #[.string { data := #[] }, .int .i64 0, .int .i64 0, .int .i64 0, .slice none 0 0] e6 infoW5 rfl hone ?_))
    refine ret_cell_tmp rfl W.heap.size _ _ _ _ (.bool false) rfl rfl HE.out Try.underlying38 rfl infoW5 rfl ?_
    exact ⟨rfl, HB.out⟩
  · have d0 : decide (k < 0) = false := by simpa using h0
    have d1 : decide (k ≥ (n : Int)) = true := by simp; omega
    clear h0 hk
    go_enter Try.func34, Try.ntmps34
    go_wp2_with (first | (refine wpList_load_row rfl 38 (.tmp 4) rfl W.heap.size rfl 38 #[.string { data := #[] }, .int .i64 0, .int .i64 0, .int .i64 0, .slice none 0 0] (0, 0) _ e6 Try.underlying38 rfl infoW5 ?_) | (refine wpList_store_row rfl 38 (.tmp 4) (.tmp 17) rfl W.heap.size #[.string { data := #[] }, .int .i64 0, .int .i64 0, .int .i64 0, .slice none 0 0] rfl rfl 38 #[.string { data := #[] }, .int .i64 0, .int .i64 0, .int .i64 0, .slice none 0 0] e6 infoW5 rfl hone ?_))
    refine ret_cell_tmp rfl W.heap.size _ _ _ _ (.bool false) rfl rfl HE.out Try.underlying38 rfl infoW5 rfl ?_
    exact ⟨rfl, HB.out⟩
set_option maxRecDepth 100000 in
set_option maxHeartbeats 4000000 in
theorem takeW_yes (B r n j : Nat) (v : Value) (xs : List Value) (y0 y1 y2 y3 y4 : Value) (h1 : ∀ u ∈ xs, u.oneCell' = true) (W : World) (hj : j < n) (hr : W.heap[r]? = some (rowB v)) (hown : W.ownsRow B 38 5 v n xs) (hne : v.ownBlock ≠ some r)
    (hy : (xs.drop (j * 5)).take 5 = [y0, y1, y2, y3, y4]) :
    Calls Try.prog 34 #[.pointer (some ⟨r, 0, none⟩), .int .i64 j] W fun e W' => e = .returned (.tuple #[.agg #[y0, y1, y2, y3, y4], .bool true]) ∧ TakeR rowB B 38 5 r v n j xs W W' := by
  obtain ⟨g, cap, rfl⟩ := own_form hown (by omega)
  have hgl := (hown.lt g rfl).2
  have hb1 : Below W.heap.size W (W.alloc (.cells wait0 38)) := (Below.refl _ _).alloc (Nat.le_refl _) _
  have er := blk_stay hb1 hr
  have lr : r < W.heap.size := (Array.getElem?_eq_some_iff.1 hr).1
  have cq : (W.alloc (.cells wait0 38)).cell? ⟨r, 0, none⟩ = some (.slice (some ⟨g, 0, none⟩) n cap) := (cell_of_row _ r 0 _ _ _ er).trans rfl
  have e6 : (W.alloc (.cells wait0 38)).heap[W.heap.size]? = some (.cells wait0 38 (0, 0)) := alloc_at W _
  have hown1 : (W.alloc (.cells wait0 38)).ownsRow B 38 5 (.slice (some ⟨g, 0, none⟩) n cap) n xs := hown.alloc _
  have hlen : xs.length = n * 5 := hown.1
  have hrng : (W.alloc (.cells wait0 38)).rangeAt g (j * 5) [y0, y1, y2, y3, y4] := by
    intro t u hu
    have ht : t < 5 := by
      have := (List.getElem?_eq_some_iff.1 hu).1
      simpa using this
    rw [← hy, List.getElem?_take, if_pos ht, List.getElem?_drop] at hu
    rw [hown1.cellAt (j * 5 + t) (by omega)]
    exact hu
  have hone : (#[y0, y1, y2, y3, y4]).all (·.oneCell') = true := by
    rw [Array.all_eq_true_iff_forall_mem]
    intro v hv
    refine h1 v (List.mem_of_mem_drop (List.mem_of_mem_take (i := 5) (l := xs.drop (j * 5)) ?_))
    rw [hy]
    simpa using hv
  have hne' : g ≠ r := fun h => hne (by rw [h]; rfl)
  have e7 := setRow_here e6 #[y0, y1, y2, y3, y4]
  have hother : ∀ i, i ≠ W.heap.size → ((W.alloc (.cells wait0 38)).setRow W.heap.size #[y0, y1, y2, y3, y4]).heap[i]? = (W.alloc (.cells wait0 38)).heap[i]? := fun i hi => setRow_other _ _ _ _ hi
  have hb2 : Below W.heap.size W ((W.alloc (.cells wait0 38)).setRow W.heap.size #[y0, y1, y2, y3, y4]) := setRow_below hb1 (Nat.le_refl _) _
  have hr2 := (hother r (by omega)).trans er
  have hown2 : ((W.alloc (.cells wait0 38)).setRow W.heap.size #[y0, y1, y2, y3, y4]).ownsRow B 38 5 (.slice (some ⟨g, 0, none⟩) n cap) n xs := own_ext hown1 (fun g' hg' => by
    cases hg'
    exact hother g (by omega))
  have d0 : decide ((j : Int) < 0) = false := by simp
  have d1 : decide ((j : Int) ≥ (n : Int)) = false := by simp; omega
  have cq2 : ((W.alloc (.cells wait0 38)).setRow W.heap.size #[y0, y1, y2, y3, y4]).cell? ⟨r, 0, none⟩ = some (.slice (some ⟨g, 0, none⟩) n cap) := (cell_of_row _ r 0 _ _ _ hr2).trans rfl
  have hdel := delW B g cap n j (j + 1) xs _ hj rfl h1 hown2
  rw [show ((j + 1 : Nat) : Int) = (j : Int) + 1 from by omega] at hdel
  have hs2 := hb2.size
  have hnm : n ≤ maxLen := by
    rcases hown.2 with ⟨h5, _⟩ | ⟨g', cap', cur, h5, q1, q2, q3, q4, q5, q6⟩
    · cases h5
    · omega
  have hw1 : wrap64 ((j : Int) + 1) = (j : Int) + 1 := by
    unfold maxLen at hnm
    unfold wrap64; omega
  have HB2 := Lib.hid hb2
  have HR2 := Lib.hid hr2
  have HO2 := Lib.hid hown2
  have HE := Lib.hid e7
  have hjn : (j : Int) < (n : Int) := by omega
  clear hb1 er hr hown hown1 hlen hother hb2 hr2 hown2 e7 h1 hne hy
  unfold wait0 at *
  go_enter Try.func34, Try.ntmps34
  go_wp2_with (first | (refine wpList_load_mid rfl 38 (.tmp 23) rfl g (j * 5) rfl [y0, y1, y2, y3, y4] _ hrng Try.underlying38 rfl infoW5 ?_) | (refine wpList_store_row rfl 38 (.tmp 4) (.tmp 24) rfl W.heap.size #[y0, y1, y2, y3, y4] rfl rfl 38 #[.string { data := #[] }, .int .i64 0, .int .i64 0, .int .i64 0, .slice none 0 0] e6 infoW5 rfl hone ?_))
  refine hdel.mono ?_
  rintro e w3 ⟨rfl, hown3, hch3⟩
  have hr3 := hch3.at_ HR2.out (by simp; omega)
  have e73 := hch3.at_ HE.out (by simp; omega)
  have cq3 : w3.cell? ⟨r, 0, none⟩ = some (.slice (some ⟨g, 0, none⟩) n cap) := (cell_of_row _ r 0 _ _ _ hr3).trans rfl
  have fq3 : w3.frozen? ⟨r, 0, none⟩ = false := frozen_of_row w3 r 0 _ _ hr3
  have e8 : (w3.setCell ⟨r, 0, none⟩ (.slice (some ⟨g, 0, none⟩) (n - 1) cap)).heap[W.heap.size]? = some (.cells #[y0, y1, y2, y3, y4] 38 (0, 0)) := (Below.heap_setCell _ _ _ _ (by show W.heap.size ≠ r; omega)).trans e73
  have e9 := setRow_here e8 #[y0, y1, y2, y3, y4]
  have hend : TakeR rowB B 38 5 r (.slice (some ⟨g, 0, none⟩) n cap) n j xs W ((w3.setCell ⟨r, 0, none⟩ (.slice (some ⟨g, 0, none⟩) (n - 1) cap)).setRow W.heap.size #[y0, y1, y2, y3, y4]) := by
    refine ⟨.slice (some ⟨g, 0, none⟩) (n - 1) cap, ?_, own_ext hown3 (fun g' hg' => ?_), rfl, ?_⟩
    · rw [setRow_other _ _ _ _ (by omega)]
      exact heap_setCell_same w3 r 0 _ _ _ hr3
    · obtain rfl : g = g' := by simpa [Value.ownBlock] using hg'
      rw [setRow_other _ _ g _ (by omega)]
      exact Below.heap_setCell _ _ _ _ hne'
    · have k1 : Chg (r :: (Value.slice (some ⟨g, 0, none⟩) n cap).ownBlock.toList) W w3 := (Chg.of_below HB2.out).trans (hch3.mono (by simp [Value.ownBlock]))
      have k2 := k1.setCell (g := r) (.inl (by simp)) 0 (.slice (some ⟨g, 0, none⟩) (n - 1) cap)
      exact ⟨k2.os, k2.tape, k2.output, by simpa [World.setRow] using k2.size, fun i hi hn => (setRow_other _ _ _ _ (by omega)).trans (k2.block i hi hn)⟩
  have HEND := Lib.hid hend
  have HE9 := Lib.hid e9
  clear hend e9 hown3 hch3 hr3 e73 hdel cq cq2
  go_wp2_with (first | (refine wpList_load_row rfl 38 (.tmp 4) rfl W.heap.size rfl 38 #[y0, y1, y2, y3, y4] (0, 0) _ e8 Try.underlying38 rfl infoW5 ?_) | (refine wpList_store_row rfl 38 (.tmp 4) (.tmp 36) rfl W.heap.size #[y0, y1, y2, y3, y4] rfl rfl 38 #[y0, y1, y2, y3, y4] e8 infoW5 rfl hone ?_))
  refine ret_cell_tmp rfl W.heap.size _ _ _ _ (.bool true) rfl rfl HE9.out Try.underlying38 rfl infoW5 rfl ?_
  exact ⟨rfl, HEND.out⟩
set_option maxRecDepth 100000 in
set_option maxHeartbeats 4000000 in
theorem takeP_no (r : Nat) (v : Value) (W : World) (hr : W.heap[r]? = some (rowP v)) (hv : ∃ p cap, v = .slice p 0 cap) :
    Calls Try.prog 35 #[.pointer (some ⟨r, 0, none⟩), .int .i64 0] W fun e W' => e = .returned (.tuple #[.slice none 0 0, .bool false]) ∧ Below W.heap.size W W' := by
  obtain ⟨p, cap, rfl⟩ := hv
  have cq : W.cell? ⟨r, 0, none⟩ = some (.slice p 0 cap) := (cell_of_row _ r 0 _ _ _ hr).trans rfl
  clear hr
  go_enter Try.func35, Try.ntmps35
  go_wp2_with fail
  go_ret2
  exact ⟨rfl, Below.refl _ _⟩
set_option maxRecDepth 100000 in
set_option maxHeartbeats 4000000 in
theorem takeP_yes (B r n : Nat) (v : Value) (xs : List Value) (p0 : Option Addr) (n0 c0 : Nat) (h1 : ∀ u ∈ xs, u.oneCell' = true) (W : World) (hj : 0 < n) (hr : W.heap[r]? = some (rowP v)) (hown : W.ownsRow B 29 1 v n xs) (hne : v.ownBlock ≠ some r)
    (hy : xs.head? = some (.slice p0 n0 c0)) :
    Calls Try.prog 35 #[.pointer (some ⟨r, 0, none⟩), .int .i64 0] W fun e W' => e = .returned (.tuple #[.slice p0 n0 c0, .bool true]) ∧ TakeR rowP B 29 1 r v n 0 xs W W' := by
  obtain ⟨g, cap, rfl⟩ := own_form hown (by omega)
  have lr : r < W.heap.size := (Array.getElem?_eq_some_iff.1 hr).1
  have cq : W.cell? ⟨r, 0, none⟩ = some (.slice (some ⟨g, 0, none⟩) n cap) := (cell_of_row _ r 0 _ _ _ hr).trans rfl
  have hlen : xs.length = n * 1 := hown.1
  have c0' : W.cell? ⟨g, 0, none⟩ = some (.slice p0 n0 c0) := by
    rw [hown.cellAt 0 (by omega), ← hy, List.head?_eq_getElem?]
  have hne' : g ≠ r := fun h => hne (by rw [h]; rfl)
  have hdel := delP B g cap n 0 1 xs W hj rfl h1 hown
  rw [show ((1 : Nat) : Int) = 1 from rfl, show ((0 : Nat) : Int) = 0 from rfl] at hdel
  have d1 : decide ((0 : Int) ≥ (n : Int)) = false := by simp; omega
  have hjn : (0 : Int) < (n : Int) := by omega
  have HR := Lib.hid hr
  clear hr hown hlen h1 hne hy
  go_enter Try.func35, Try.ntmps35
  go_wp2_with fail
  refine hdel.mono ?_
  rintro e w3 ⟨rfl, hown3, hch3⟩
  have hr3 := hch3.at_ HR.out (by simp; omega)
  have cq3 : w3.cell? ⟨r, 0, none⟩ = some (.slice (some ⟨g, 0, none⟩) n cap) := (cell_of_row _ r 0 _ _ _ hr3).trans rfl
  have fq3 : w3.frozen? ⟨r, 0, none⟩ = false := frozen_of_row w3 r 0 _ _ hr3
  have hend : TakeR rowP B 29 1 r (.slice (some ⟨g, 0, none⟩) n cap) n 0 xs W (w3.setCell ⟨r, 0, none⟩ (.slice (some ⟨g, 0, none⟩) (n - 1) cap)) := by
    refine ⟨.slice (some ⟨g, 0, none⟩) (n - 1) cap, heap_setCell_same w3 r 0 _ _ _ hr3, own_ext hown3 (fun g' hg' => ?_), rfl, ?_⟩
    · obtain rfl : g = g' := by simpa [Value.ownBlock] using hg'
      exact Below.heap_setCell _ _ _ _ hne'
    · exact (hch3.mono (by simp [Value.ownBlock])).setCell (g := r) (.inl (by simp)) 0 (.slice (some ⟨g, 0, none⟩) (n - 1) cap)
  have HEND := Lib.hid hend
  clear hend hown3 hch3 hr3 hdel cq c0'
  go_wp2_with fail
  go_ret2
  exact ⟨rfl, HEND.out⟩
end Go.Proofs.Ytiebggfpjkhlaaa
