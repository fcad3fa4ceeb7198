/- Known blocks of wide numbers, kept over calls. No condition. -/
import Derived.Test.YtdcfpgclnhacmaaUk
namespace Go.Proofs.Ytdcfpgclnhacmaa
open Go.RowKit
/-- The blocks of bl hold what they say; what stood in w stands. -/
def St (w : World) (bl : List (Nat × Array Value)) (w' : World) : Prop :=
  (∀ p ∈ bl, w'.heap[p.1]? = some (.cells p.2 40 (0, 0))) ∧ Below w.heap.size w w'
theorem St.at_ {w w' : World} {bl : List (Nat × Array Value)} (h : St w bl w') {g : Nat} {cs : Array Value} (hm : (g, cs) ∈ bl) : w'.heap[g]? = some (.cells cs 40 (0, 0)) := h.1 _ hm
theorem St.lt {w w' : World} {bl : List (Nat × Array Value)} (h : St w bl w') {p : Nat × Array Value} (hm : p ∈ bl) : p.1 < w'.heap.size := (Array.getElem?_eq_some_iff.1 (h.1 _ hm)).1
theorem St.size {w w' : World} {bl : List (Nat × Array Value)} (h : St w bl w') : w.heap.size ≤ w'.heap.size := h.2.size
theorem St.keep {w w1 w2 : World} {bl : List (Nat × Array Value)} (h : St w bl w1) (hb : Below w1.heap.size w1 w2) : St w bl w2 :=
  ⟨fun p hp => block_stay hb (h.1 p hp), h.2.trans (hb.mono h.size)⟩
theorem St.alloc {w w1 : World} {bl : List (Nat × Array Value)} (h : St w bl w1) (o : Obj) : St w bl (w1.alloc o) := h.keep ((Below.refl _ _).alloc (Nat.le_refl _) _)
theorem St.drew {w w1 : World} {bl : List (Nat × Array Value)} (h : St w bl w1) : St w bl w1.drew := ⟨h.1, h.2.drew⟩
theorem St.drewN {w w1 : World} {bl : List (Nat × Array Value)} (h : St w bl w1) (k : Nat) : St w bl (w1.drewN k) := ⟨h.1, h.2.os, h.2.tape, h.2.output, h.2.size, h.2.block⟩
theorem St.sub {w w1 : World} {bl bm : List (Nat × Array Value)} (h : St w bl w1) (hs : ∀ p ∈ bm, p ∈ bl) : St w bm w1 := ⟨fun p hp => h.1 p (hs p hp), h.2⟩
theorem St.add {w w1 : World} {bl : List (Nat × Array Value)} (h : St w bl w1) {g : Nat} {cs : Array Value} (hg : w1.heap[g]? = some (.cells cs 40 (0, 0))) : St w ((g, cs) :: bl) w1 :=
  ⟨fun p hp => by
    rcases List.mem_cons.1 hp with rfl | hp
    · exact hg
    · exact h.1 p hp, h.2⟩
/-- A store into a block that is none of them. -/
theorem St.store {w w1 : World} {bl : List (Nat × Array Value)} (h : St w bl w1) {g : Nat} (hg : w.heap.size ≤ g) (hne : ∀ p ∈ bl, p.1 ≠ g) (cs : Array Value) : St w bl (w1.setRow g cs) :=
  ⟨fun p hp => by rw [setRow_other _ _ _ _ (hne p hp)]; exact h.1 p hp, below_setRow h.2 hg _⟩
/-- A store into the block that a world's next one was. -/
theorem St.storeNew {w w1 w2 : World} {bl : List (Nat × Array Value)} (h1 : St w bl w1) (h : St w bl w2) (cs : Array Value) : St w bl (w2.setRow w1.heap.size cs) :=
  h.store h1.size (fun _ hp => Nat.ne_of_lt (h1.lt hp)) cs
/-- A store of what a block holds already. -/
theorem St.storeSame {w w1 : World} {bl : List (Nat × Array Value)} (h : St w bl w1) {g : Nat} (hg : w.heap.size ≤ g) {cs : Array Value} (hm : (g, cs) ∈ bl) : St w bl (w1.setRow g cs) :=
  ⟨fun p hp => by
    by_cases he : p.1 = g
    · have h1 := h.1 p hp
      have h2 := h.at_ hm
      rw [he, h2] at h1
      injection h1 with h1
      injection h1 with h1
      rw [he, ← h1]
      exact setRow_here h2 cs
    · rw [setRow_other _ _ _ _ he]; exact h.1 p hp, below_setRow h.2 hg _⟩
/-- The first one is written anew. -/
theorem St.set0 {w w1 : World} {bl : List (Nat × Array Value)} {g : Nat} {old : Array Value} (h : St w ((g, old) :: bl) w1) (hg : w.heap.size ≤ g) (hne : ∀ p ∈ bl, p.1 ≠ g) (cs : Array Value) : St w ((g, cs) :: bl) (w1.setRow g cs) :=
  ((h.sub (fun p hp => by simp [hp])).store hg hne cs).add (setRow_here (h.at_ (g := g) (cs := old) (by simp)) cs)
end Go.Proofs.Ytdcfpgclnhacmaa
