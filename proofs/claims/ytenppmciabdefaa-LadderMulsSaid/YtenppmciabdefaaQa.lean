/- The ladder's walker: five numbers in one block. No condition. -/
import Derived.Test.YtenppmciabdefaaJa
import Derived.Deep.MidRow
namespace Go.Proofs.Ytenppmciabdefaa
open Go Go.RowKit
/-- Below the old size all but the block b is as in w. -/
structure Tn (w : World) (b : Nat) (w' : World) : Prop where
  os : w'.os = w.os
  tape : w'.tape = w.tape
  output : w'.output = w.output
  size : w.heap.size ≤ w'.heap.size
  block : ∀ i, i < w.heap.size → i ≠ b → w'.heap[i]? = w.heap[i]?
namespace Tn
variable {w w1 w2 : World} {b : Nat}
theorem refl (w : World) (b : Nat) : Tn w b w := ⟨rfl, rfl, rfl, Nat.le_refl _, fun _ _ _ => rfl⟩
theorem keep (h : Tn w b w1) (hb : Below w1.heap.size w1 w2) : Tn w b w2 :=
  ⟨hb.os.trans h.os, hb.tape.trans h.tape, hb.output.trans h.output, Nat.le_trans h.size hb.size, fun i hi hne => (hb.block i (by have := h.size; omega)).trans (h.block i hi hne)⟩
theorem drew (h : Tn w b w1) : Tn w b w1.drew := ⟨h.os, h.tape, h.output, h.size, h.block⟩
theorem setRow (h : Tn w b w1) {g : Nat} (hg : w.heap.size ≤ g) (cs : Array Value) : Tn w b (w1.setRow g cs) := by
  have hb : Below w.heap.size w1 (w1.setRow g cs) := below_setRow (Below.refl _ _) hg cs
  exact ⟨hb.os.trans h.os, hb.tape.trans h.tape, hb.output.trans h.output, by rw [setRow_size]; exact h.size, fun i hi hne => (hb.block i hi).trans (h.block i hi hne)⟩
theorem setCells : ∀ (vs : List Value) (o : Nat) (w1 : World), Tn w b w1 → Tn w b (w1.setCells b o vs)
  | [], _, _, h => h
  | v :: vs, o, w1, h => setCells vs (o + 1) _ ⟨h.os, h.tape, h.output, by simpa [World.setCell] using h.size, fun i hi hne => by rw [Below.heap_setCell _ _ _ _ hne]; exact h.block i hi hne⟩
theorem trans {w3 : World} (h : Tn w b w1) (h2 : Tn w1 b w3) : Tn w b w3 :=
  ⟨h2.os.trans h.os, h2.tape.trans h.tape, h2.output.trans h.output, Nat.le_trans h.size h2.size, fun i hi hne => (h2.block i (by have := h.size; omega) hne).trans (h.block i hi hne)⟩
end Tn
/-- Two numbers, one behind the other. -/
def pr (A B : Array Value) : List Value := A.toList ++ B.toList
theorem pr_length {A B : Array Value} {N M : Int} (hA : FeA A N) (hB : FeA B M) : (pr A B).length = 10 := by
  have h1 := hA.size
  have h2 := hB.size
  simp [pr, h1, h2]
theorem pr_one {A B : Array Value} {N M : Int} (hA : FeA A N) (hB : FeA B M) : (pr A B).toArray.all (·.oneCell') = true := by
  have h1 := hA.one
  have h2 := hB.one
  rw [Array.all_eq_true_iff_forall_mem] at *
  intro x hx
  simp only [pr, List.mem_toArray, List.mem_append, Array.mem_toList_iff] at hx
  rcases hx with hx | hx
  · exact h1 x hx
  · exact h2 x hx
theorem rangeAt_ext {w w' : World} {b o : Nat} {cs : List Value} (h : w.rangeAt b o cs) (hE : Ext w w') : w'.rangeAt b o cs := by
  intro j v hj
  have h1 := h j v hj
  unfold World.cell? at h1 ⊢
  cases hB : w.heap[b]? with
  | none => simp [hB] at h1
  | some ob => rw [hE b ob hB]; rw [hB] at h1; exact h1
theorem rangeAt_below {w w' : World} {b o : Nat} {cs : List Value} (h : w.rangeAt b o cs) (hb : Below w.heap.size w w') : w'.rangeAt b o cs := rangeAt_ext h (Ext.of_below hb)
theorem there_below {w w' : World} {b o n : Nat} (h : w.there b o n) (hb : Below w.heap.size w w') : w'.there b o n := by
  intro j hj
  obtain ⟨h1, h2⟩ := h j hj
  obtain ⟨u, hu⟩ := Option.isSome_iff_exists.1 h1
  have hlt := World.block_lt_of_cell? w _ hu
  exact ⟨by rw [hb.cell (p := ⟨b, o + j, none⟩) hlt]; exact h1, by rw [hb.frozen (p := ⟨b, o + j, none⟩) hlt]; exact h2⟩
/-- Known numbers, and known parts of the walker's block. -/
structure Kt (w : World) (b : Nat) (bl : List (Nat × Array Value)) (rs : List (Nat × List Value)) (w' : World) : Prop where
  blk : ∀ p ∈ bl, w'.heap[p.1]? = some (.cells p.2 46 (0, 0)) ∧ w.heap.size ≤ p.1
  rng : ∀ r ∈ rs, w'.rangeAt b r.1 r.2
  tre : w'.there b 0 25
  lt_ : b < w.heap.size
  tn : Tn w b w'
namespace Kt
variable {w w1 w2 : World} {b : Nat} {bl : List (Nat × Array Value)} {rs : List (Nat × List Value)}
theorem at_ (h : Kt w b bl rs w1) {g : Nat} {cs : Array Value} (hm : (g, cs) ∈ bl) : w1.heap[g]? = some (.cells cs 46 (0, 0)) := (h.blk _ hm).1
theorem rg (h : Kt w b bl rs w1) {o : Nat} {cs : List Value} (hm : (o, cs) ∈ rs) : w1.rangeAt b o cs := h.rng _ hm
theorem lt (h : Kt w b bl rs w1) {p : Nat × Array Value} (hm : p ∈ bl) : p.1 < w1.heap.size := (Array.getElem?_eq_some_iff.1 (h.blk _ hm).1).1
theorem keep (h : Kt w b bl rs w1) (hb : Below w1.heap.size w1 w2) : Kt w b bl rs w2 :=
  ⟨fun p hp => ⟨block_stay hb (h.blk p hp).1, (h.blk p hp).2⟩, fun r hr => rangeAt_below (h.rng r hr) hb, there_below h.tre hb, h.lt_, h.tn.keep hb⟩
theorem drew (h : Kt w b bl rs w1) : Kt w b bl rs w1.drew := ⟨h.blk, fun r hr => by simpa using h.rng r hr, by simpa using h.tre, h.lt_, h.tn.drew⟩
theorem alloc (h : Kt w b bl rs w1) (o : Obj) : Kt w b bl rs (w1.alloc o) := h.keep ((Below.refl _ _).alloc (Nat.le_refl _) _)
theorem sub {bm : List (Nat × Array Value)} (h : Kt w b bl rs w1) (hs : ∀ p ∈ bm, p ∈ bl) : Kt w b bm rs w1 := ⟨fun p hp => h.blk p (hs p hp), h.rng, h.tre, h.lt_, h.tn⟩
theorem subR {rm : List (Nat × List Value)} (h : Kt w b bl rs w1) (hs : ∀ p ∈ rm, p ∈ rs) : Kt w b bl rm w1 := ⟨h.blk, fun p hp => h.rng p (hs p hp), h.tre, h.lt_, h.tn⟩
theorem add (h : Kt w b bl rs w1) {g : Nat} {cs : Array Value} (hg : w1.heap[g]? = some (.cells cs 46 (0, 0))) (hw : w.heap.size ≤ g) : Kt w b ((g, cs) :: bl) rs w1 :=
  ⟨fun p hp => by
    rcases List.mem_cons.1 hp with rfl | hp
    · exact ⟨hg, hw⟩
    · exact h.blk p hp, h.rng, h.tre, h.lt_, h.tn⟩
theorem addR (h : Kt w b bl rs w1) {o : Nat} {cs : List Value} (hg : w1.rangeAt b o cs) : Kt w b bl ((o, cs) :: rs) w1 :=
  ⟨h.blk, fun p hp => by
    rcases List.mem_cons.1 hp with rfl | hp
    · exact hg
    · exact h.rng p hp, h.tre, h.lt_, h.tn⟩
theorem cell_setRow {w1 : World} {g : Nat} {cs : Array Value} {x : Addr} (h : x.block ≠ g) : (w1.setRow g cs).cell? x = w1.cell? x := by
  unfold World.cell?
  rw [setRow_other _ _ _ _ h]
theorem frozen_setRow {w1 : World} {g : Nat} {cs : Array Value} {x : Addr} (h : x.block ≠ g) : (w1.setRow g cs).frozen? x = w1.frozen? x := by
  unfold World.frozen?
  rw [setRow_other _ _ _ _ h]
theorem storeNew (h1 : Kt w b bl rs w1) (h : Kt w b bl rs w2) (cs : Array Value) : Kt w b bl rs (w2.setRow w1.heap.size cs) := by
  have hb : b ≠ w1.heap.size := by have := h.lt_; have := h1.tn.size; omega
  exact ⟨fun p hp => ⟨by rw [setRow_other _ _ _ _ (Nat.ne_of_lt (h1.lt hp))]; exact (h.blk p hp).1, (h.blk p hp).2⟩,
    fun r hr j v hj => by rw [cell_setRow hb]; exact h.rng r hr j v hj, fun j hj => by rw [cell_setRow hb, frozen_setRow hb]; exact h.tre j hj, h.lt_, h.tn.setRow h1.tn.size cs⟩
/-- A part of the walker's block is written. -/
theorem setMid (h : Kt w b bl rs w1) (o : Nat) (vs : List Value) (hap : ∀ r ∈ rs, r.1 + r.2.length ≤ o ∨ o + vs.length ≤ r.1) : Kt w b bl rs (w1.setCells b o vs) := by
  have hother : ∀ (vs : List Value) (o : Nat) (w1 : World) (i : Nat), i ≠ b → (w1.setCells b o vs).heap[i]? = w1.heap[i]? := by
    intro vs
    induction vs with
    | nil => intro o w1 i _; rfl
    | cons v vs ih => intro o w1 i hi; rw [World.setCells, ih _ _ _ hi, Below.heap_setCell _ _ _ _ hi]
  refine ⟨fun p hp => ⟨?_, (h.blk p hp).2⟩, fun r hr => World.rangeAt_setCells_apart (h.rng r hr) b o vs (.inr (hap r hr)), World.there_setCells h.tre b o vs, h.lt_, Tn.setCells vs o _ h.tn⟩
  rw [hother _ _ _ _ (by have := (h.blk p hp).2; have := h.lt_; omega)]
  exact (h.blk p hp).1
theorem thereAt (h : Kt w b bl rs w1) (o n : Nat) (hn : o + n ≤ 25) : w1.there b o n := fun j hj => by
  have := h.tre (o + j) (by omega)
  rwa [Nat.zero_add] at this
end Kt
theorem infoPr : (Try.prog.info? 84).map (·.size) = some 10 := by kernel_rfl
theorem five_of {A : Array Value} {N : Int} (h : FeA A N) : ∃ x0 x1 x2 x3 x4 : Int, A = #[.int .u64 x0, .int .u64 x1, .int .u64 x2, .int .u64 x3, .int .u64 x4] := by
  obtain ⟨x0, x1, x2, x3, x4, rfl, _⟩ := h
  exact ⟨x0, x1, x2, x3, x4, rfl⟩
set_option maxRecDepth 100000 in
set_option maxHeartbeats 1000000 in
theorem lsum_fe (X Y : Array Value) (N M : Int) (w : World) (hX : FeA X N) (hY : FeA Y M) : Calls Try.prog 99 #[.agg (pr X Y).toArray] w (ResF w (N + M)) := by
  obtain ⟨x0, x1, x2, x3, x4, rfl⟩ := five_of hX
  obtain ⟨y0, y1, y2, y3, y4, rfl⟩ := five_of hY
  rw [show (pr #[.int .u64 x0, .int .u64 x1, .int .u64 x2, .int .u64 x3, .int .u64 x4] #[.int .u64 y0, .int .u64 y1, .int .u64 y2, .int .u64 y3, .int .u64 y4]).toArray = #[.int .u64 x0, .int .u64 x1, .int .u64 x2, .int .u64 x3, .int .u64 x4, .int .u64 y0, .int .u64 y1, .int .u64 y2, .int .u64 y3, .int .u64 y4] from rfl]
  obtain ⟨W0, hW0, hz, hb0, q0, q2⟩ := two_new w (.cells #[.int .u64 x0, .int .u64 x1, .int .u64 x2, .int .u64 x3, .int .u64 x4, .int .u64 y0, .int .u64 y1, .int .u64 y2, .int .u64 y3, .int .u64 y4] 84) (.cells #[.int .u64 0, .int .u64 0, .int .u64 0, .int .u64 0, .int .u64 0] 46)
  have HW := Lib.hid hW0
  clear hW0 hz q0
  go_enter Try.func99, Try.ntmps99
  go_wp2_with fail
  rw [HW.out]
  refine (gPlus_fe _ _ N M _ hX hY).mono ?_
  rintro e w1 ⟨cs, rfl, hC, hb⟩
  obtain ⟨z0, z1, z2, z3, z4, rfl⟩ := five_of hC
  have hres := block_stay hb q2
  have hbb := Below.join hb0 hb
  clear hb hb0 HW
  go_wp2_with (refine wpList_store_row rfl 46 (.tmp 2) (.tmp 7) rfl (w.heap.size + 1) #[.int .u64 z0, .int .u64 z1, .int .u64 z2, .int .u64 z3, .int .u64 z4] rfl rfl 46 _ hres (by kernel_rfl) (by kernel_rfl) (by kernel_rfl) ?_)
  refine ret_cell rfl (w.heap.size + 1) _ _ _ _ rfl (setRow_self hres _) Try.underlying46 rfl (by kernel_rfl) rfl ?_
  exact ⟨_, rfl, hC, below_setRow hbb (by omega) _⟩
set_option maxRecDepth 100000 in
set_option maxHeartbeats 1000000 in
theorem ldiff_fe (X Y : Array Value) (N M : Int) (w : World) (hX : FeA X N) (hY : FeA Y M) : Calls Try.prog 100 #[.agg (pr X Y).toArray] w (ResF w (N - M)) := by
  obtain ⟨x0, x1, x2, x3, x4, rfl⟩ := five_of hX
  obtain ⟨y0, y1, y2, y3, y4, rfl⟩ := five_of hY
  rw [show (pr #[.int .u64 x0, .int .u64 x1, .int .u64 x2, .int .u64 x3, .int .u64 x4] #[.int .u64 y0, .int .u64 y1, .int .u64 y2, .int .u64 y3, .int .u64 y4]).toArray = #[.int .u64 x0, .int .u64 x1, .int .u64 x2, .int .u64 x3, .int .u64 x4, .int .u64 y0, .int .u64 y1, .int .u64 y2, .int .u64 y3, .int .u64 y4] from rfl]
  obtain ⟨W0, hW0, hz, hb0, q0, q2⟩ := two_new w (.cells #[.int .u64 x0, .int .u64 x1, .int .u64 x2, .int .u64 x3, .int .u64 x4, .int .u64 y0, .int .u64 y1, .int .u64 y2, .int .u64 y3, .int .u64 y4] 84) (.cells #[.int .u64 0, .int .u64 0, .int .u64 0, .int .u64 0, .int .u64 0] 46)
  have HW := Lib.hid hW0
  clear hW0 hz q0
  go_enter Try.func100, Try.ntmps100
  go_wp2_with fail
  rw [HW.out]
  refine (gMinus_fe _ _ N M _ hX hY).mono ?_
  rintro e w1 ⟨cs, rfl, hC, hb⟩
  obtain ⟨z0, z1, z2, z3, z4, rfl⟩ := five_of hC
  have hres := block_stay hb q2
  have hbb := Below.join hb0 hb
  clear hb hb0 HW
  go_wp2_with (refine wpList_store_row rfl 46 (.tmp 2) (.tmp 7) rfl (w.heap.size + 1) #[.int .u64 z0, .int .u64 z1, .int .u64 z2, .int .u64 z3, .int .u64 z4] rfl rfl 46 _ hres (by kernel_rfl) (by kernel_rfl) (by kernel_rfl) ?_)
  refine ret_cell rfl (w.heap.size + 1) _ _ _ _ rfl (setRow_self hres _) Try.underlying46 rfl (by kernel_rfl) rfl ?_
  exact ⟨_, rfl, hC, below_setRow hbb (by omega) _⟩
end Go.Proofs.Ytenppmciabdefaa
