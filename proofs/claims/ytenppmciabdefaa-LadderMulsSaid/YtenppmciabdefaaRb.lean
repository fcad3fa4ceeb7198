/- A loop that writes one block of known cells. No condition. -/
import Derived.Test.YtenppmciabdefaaRa
namespace Go.Proofs.Ytenppmciabdefaa
open Go Go.RowKit
/-- Of W0 just the block b has turned: it holds cs. -/
structure OneBlk (W0 : World) (b : Nat) (t : TypeId) (cs : Array Value) (wr : World) : Prop where
  os : wr.os = W0.os
  tape : wr.tape = W0.tape
  output : wr.output = W0.output
  size : wr.heap.size = W0.heap.size
  other : ∀ i, i ≠ b → wr.heap[i]? = W0.heap[i]?
  blk : wr.heap[b]? = some (.cells cs t (0, 0))
namespace OneBlk
variable {W0 wr : World} {b : Nat} {t : TypeId} {cs : Array Value}
theorem start (h : W0.heap[b]? = some (.cells cs t (0, 0))) : OneBlk W0 b t cs W0 := ⟨rfl, rfl, rfl, rfl, fun _ _ => rfl, h⟩
theorem drew (h : OneBlk W0 b t cs wr) : OneBlk W0 b t cs wr.drew := ⟨h.os, h.tape, h.output, h.size, h.other, h.blk⟩
theorem setCell (h : OneBlk W0 b t cs wr) (j : Nat) (v : Value) : OneBlk W0 b t (cs.setIfInBounds j v) (wr.setCell ⟨b, j, none⟩ v) :=
  ⟨h.os, h.tape, h.output, by rw [← h.size]; simp [World.setCell], fun i hi => by rw [Below.heap_setCell _ _ _ _ hi]; exact h.other i hi, by
    have := h.blk
    simp only [World.setCell, Array.getElem?_modify, if_true, this, Option.map_some]
    simp⟩
theorem cell (h : OneBlk W0 b t cs wr) (j : Nat) : wr.cell? ⟨b, j, none⟩ = cs[j]? := cell_of_row wr b j cs t _ h.blk
theorem free (h : OneBlk W0 b t cs wr) (j : Nat) : wr.frozen? ⟨b, j, none⟩ = false := by simp [World.frozen?, h.blk]
theorem far (h : OneBlk W0 b t cs wr) {i : Nat} (hi : i ≠ b) {o : Obj} (ho : W0.heap[i]? = some o) : wr.heap[i]? = some o := (h.other i hi).trans ho
theorem farCell (h : OneBlk W0 b t cs wr) {i j : Nat} (hi : i ≠ b) : wr.cell? ⟨i, j, none⟩ = W0.cell? ⟨i, j, none⟩ := by simp [World.cell?, h.other i hi]
theorem below {B : Nat} {w : World} (h : OneBlk W0 b t cs wr) (hb : Below B w W0) (hB : B ≤ b) : Below B w wr :=
  hb.trans ⟨h.os, h.tape, h.output, by rw [h.size]; exact Nat.le_refl _, fun k hk => h.other k (by omega)⟩
end OneBlk
end Go.Proofs.Ytenppmciabdefaa
