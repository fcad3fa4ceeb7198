/- An entry in memory of its own. No condition. -/
import Derived.Test.YtiebggfpjkhlaaaYj
namespace Go.Proofs.Ytiebggfpjkhlaaa
open Go Go.RowKit
set_option linter.unusedSimpArgs false
theorem setRow_here {w : World} {g : Nat} {old : Array Value} {t : TypeId} {fr : Nat × Nat} (h : w.heap[g]? = some (.cells old t fr)) (cs : Array Value) : (w.setRow g cs).heap[g]? = some (.cells cs t fr) :=
  setRow_heap w g _ cs t _ h
theorem setRow_other (w : World) (g b : Nat) (cs : Array Value) (h : b ≠ g) : (w.setRow g cs).heap[b]? = w.heap[b]? := by
  simp only [World.setRow, Array.getElem?_modify]
  rw [if_neg (by omega)]
theorem setRow_below {w w1 : World} {B g : Nat} (h : Below B w w1) (hg : B ≤ g) (cs : Array Value) : Below B w (w1.setRow g cs) :=
  ⟨h.os, h.tape, h.output, by simpa [World.setRow] using h.size, fun i hi => (setRow_other _ _ _ _ (by omega)).trans (h.block i hi)⟩
set_option maxRecDepth 100000 in
set_option maxHeartbeats 4000000 in
theorem entry_own (x0 x1 : Int) (q : Option Addr) (n c : Nat) (l : List Int) (W : World) (hx : Bs W q n l) (hn : 1 ≤ n ∧ n ≤ 65536) :
    Calls Try.prog 33 #[.agg #[.int .i64 x0, .int .i64 x1, .slice q n c]] W fun e W' => ∃ q' c', e = .returned (.agg #[.int .i64 x0, .int .i64 x1, .slice (some ⟨q', 0, none⟩) n c']) ∧ n ≤ c' ∧
      W'.ownsRow W.heap.size 5 1 (.slice (some ⟨q', 0, none⟩) n c') n (l.map (Value.int .u8)) ∧ Below W.heap.size W W' := by
  have h0 : Kq W [] W := ⟨by simp, Below.refl _ _⟩
  have h2 := (h0.new rfl (.cells #[.int .i64 x0, .int .i64 x1, .slice q n c] 33)).new (n := W.heap.size + 1) (by simp) (.cells #[.int .i64 0, .int .i64 0, .slice none 0 0] 33)
  have c12 : ((W.alloc (.cells #[.int .i64 x0, .int .i64 x1, .slice q n c] 33)).alloc (.cells #[.int .i64 0, .int .i64 0, .slice none 0 0] 33)).cell? ⟨W.heap.size, 2, none⟩ = some (.slice q n c) := (cell_of_row _ W.heap.size 2 _ _ _ (h2.at_ (g := W.heap.size) (ob := .cells #[.int .i64 x0, .int .i64 x1, .slice q n c] 33 (0, 0)) (by simp))).trans rfl
  have hx2 := hx.keep h2.2
  have hcl := clone_any q n c l _ (by omega) (by omega) hx2
  have H2 := Lib.hid h2
  clear h0 h2 hx hx2
  go_enter Try.func33, Try.ntmps33
  go_wp2_with fail
  refine hcl.mono ?_
  rintro e w3 ⟨g, c3, rfl, hc3, _, hgg, hown, hb3⟩
  have h3 := H2.out.keep hb3
  have e1 := h3.at_ (g := W.heap.size) (ob := .cells #[.int .i64 x0, .int .i64 x1, .slice q n c] 33 (0, 0)) (by simp)
  have c32 : w3.cell? ⟨W.heap.size, 2, none⟩ = some (.slice q n c) := (cell_of_row _ W.heap.size 2 _ _ _ e1).trans rfl
  have f32 : w3.frozen? ⟨W.heap.size, 2, none⟩ = false := frozen_of_row w3 W.heap.size 2 _ _ e1
  have h4 := Kq.setCell (h3.sub (bm := [(W.heap.size + 1, .cells #[.int .i64 0, .int .i64 0, .slice none 0 0] 33 (0, 0))]) (by simp)) e1 (Nat.le_refl _) (by simp) 2 (.slice (some ⟨g, 0, none⟩) n c3)
  have hgge : W.heap.size + 2 ≤ g := by simp at hgg; omega
  have hown4 : (w3.setCell ⟨W.heap.size, 2, none⟩ (.slice (some ⟨g, 0, none⟩) n c3)).ownsRow W.heap.size 5 1 (.slice (some ⟨g, 0, none⟩) n c3) n (l.map (Value.int .u8)) := by
    obtain ⟨g1, ⟨g2, _⟩ | ⟨g', cap, cur, g2, g3, g4, g5, g6, g7, g8⟩⟩ := hown
    · cases g2
    · cases g2
      exact ⟨g1, .inr ⟨g, c3, cur, rfl, by omega, by rw [Below.heap_setCell _ _ _ _ (by show g ≠ W.heap.size; omega)]; exact g4, g5, g6, g7, g8⟩⟩
  have r1 := h4.at_ (g := W.heap.size) (ob := .cells #[.int .i64 x0, .int .i64 x1, .slice (some ⟨g, 0, none⟩) n c3] 33 (0, 0)) (by simp)
  have r2 := h4.at_ (g := W.heap.size + 1) (ob := .cells #[.int .i64 0, .int .i64 0, .slice none 0 0] 33 (0, 0)) (by simp)
  have hone : (#[Value.int .i64 x0, .int .i64 x1, .slice (some ⟨g, 0, none⟩) n c3]).all (·.oneCell') = true := by
    rw [Array.all_eq_true_iff_forall_mem]
    intro v hv
    simp at hv
    rcases hv with rfl | rfl | rfl <;> rfl
  have hrow : ((w3.setCell ⟨W.heap.size, 2, none⟩ (.slice (some ⟨g, 0, none⟩) n c3)).heap[W.heap.size + 1]? = some (.cells #[.int .i64 0, .int .i64 0, .slice none 0 0] 33 (0, 0))) := r2
  have H4 := Lib.hid h4
  have HO := Lib.hid hown4
  clear h3 h4 hown hown4 hb3 e1 hgg hcl c12
  go_wp2_with (first | (refine wpList_load_row rfl 33 (.tmp 1) rfl W.heap.size rfl 33 #[.int .i64 x0, .int .i64 x1, .slice (some ⟨g, 0, none⟩) n c3] (0, 0) _ r1 Try.underlying33 rfl infoE ?_) | (refine wpList_store_row rfl 33 (.tmp 2) (.tmp 7) rfl (W.heap.size + 1) #[.int .i64 x0, .int .i64 x1, .slice (some ⟨g, 0, none⟩) n c3] rfl rfl 33 #[.int .i64 0, .int .i64 0, .slice none 0 0] r2 infoE rfl hone ?_))
  have r5 := setRow_here r2 #[.int .i64 x0, .int .i64 x1, .slice (some ⟨g, 0, none⟩) n c3]
  refine ret_cell rfl (W.heap.size + 1) _ _ _ _ rfl r5 Try.underlying33 rfl infoE rfl ?_
  refine ⟨g, c3, rfl, hc3, own_ext HO.out (fun g' hg' => ?_), setRow_below H4.out.2 (by omega) _⟩
  cases hg'
  exact setRow_other _ _ g _ (by omega)
end Go.Proofs.Ytiebggfpjkhlaaa
