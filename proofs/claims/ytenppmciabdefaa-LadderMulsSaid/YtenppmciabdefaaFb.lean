/- Known blocks of field elements, kept over calls; what is asked of them. No condition. -/
import Derived.Test.YtenppmciabdefaaFa
namespace Go.Proofs.Ytenppmciabdefaa
open Go.RowKit
/-- The blocks of bl hold what they say; what stood in w stands. -/
def St (w : World) (bl : List (Nat × Array Value)) (w' : World) : Prop :=
  (∀ p ∈ bl, w'.heap[p.1]? = some (.cells p.2 44 (0, 0))) ∧ Below w.heap.size w w'
theorem St.at_ {w w' : World} {bl : List (Nat × Array Value)} (h : St w bl w') {g : Nat} {cs : Array Value} (hm : (g, cs) ∈ bl) : w'.heap[g]? = some (.cells cs 44 (0, 0)) := h.1 _ hm
theorem St.lt {w w' : World} {bl : List (Nat × Array Value)} (h : St w bl w') {p : Nat × Array Value} (hm : p ∈ bl) : p.1 < w'.heap.size := (Array.getElem?_eq_some_iff.1 (h.1 _ hm)).1
theorem St.size {w w' : World} {bl : List (Nat × Array Value)} (h : St w bl w') : w.heap.size ≤ w'.heap.size := h.2.size
theorem St.keep {w w1 w2 : World} {bl : List (Nat × Array Value)} (h : St w bl w1) (hb : Below w1.heap.size w1 w2) : St w bl w2 :=
  ⟨fun p hp => block_stay hb (h.1 p hp), h.2.trans (hb.mono h.size)⟩
theorem St.alloc {w w1 : World} {bl : List (Nat × Array Value)} (h : St w bl w1) (o : Obj) : St w bl (w1.alloc o) := h.keep ((Below.refl _ _).alloc (Nat.le_refl _) _)
theorem St.drew {w w1 : World} {bl : List (Nat × Array Value)} (h : St w bl w1) : St w bl w1.drew := ⟨h.1, h.2.drew⟩
theorem St.drewN {w w1 : World} {bl : List (Nat × Array Value)} (h : St w bl w1) (k : Nat) : St w bl (w1.drewN k) := ⟨h.1, h.2.os, h.2.tape, h.2.output, h.2.size, h.2.block⟩
theorem St.sub {w w1 : World} {bl bm : List (Nat × Array Value)} (h : St w bl w1) (hs : ∀ p ∈ bm, p ∈ bl) : St w bm w1 := ⟨fun p hp => h.1 p (hs p hp), h.2⟩
theorem St.add {w w1 : World} {bl : List (Nat × Array Value)} (h : St w bl w1) {g : Nat} {cs : Array Value} (hg : w1.heap[g]? = some (.cells cs 44 (0, 0))) : St w ((g, cs) :: bl) w1 :=
  ⟨fun p hp => by
    rcases List.mem_cons.1 hp with rfl | hp
    · exact hg
    · exact h.1 p hp, h.2⟩
/-- A store into a block that is none of them. -/
theorem St.store {w w1 : World} {bl : List (Nat × Array Value)} (h : St w bl w1) {g : Nat} (hg : w.heap.size ≤ g) (hne : ∀ p ∈ bl, p.1 ≠ g) (cs : Array Value) : St w bl (w1.setRow g cs) :=
  ⟨fun p hp => by rw [setRow_other _ _ _ _ (hne p hp)]; exact h.1 p hp, below_setRow h.2 hg _⟩
/-- A store into the block that a world's next one was. -/
theorem St.storeNew {w w1 w2 : World} {bl : List (Nat × Array Value)} (h1 : St w bl w1) (h : St w bl w2) (cs : Array Value) : St w bl (w2.setRow w1.heap.size cs) :=
  h.store h1.size (fun _ hp => Nat.ne_of_lt (h1.lt hp)) cs
theorem setRow_here {w : World} {g : Nat} {old : Array Value} {t : TypeId} {fr : Nat × Nat} (h : w.heap[g]? = some (.cells old t fr)) (cs : Array Value) : (w.setRow g cs).heap[g]? = some (.cells cs t fr) :=
  setRow_heap w g _ cs t _ h
/-- A store of what a block holds already. -/
theorem St.storeSame {w w1 : World} {bl : List (Nat × Array Value)} (h : St w bl w1) {g : Nat} (hg : w.heap.size ≤ g) {cs : Array Value} (hm : (g, cs) ∈ bl) : St w bl (w1.setRow g cs) :=
  ⟨fun p hp => by
    by_cases he : p.1 = g
    · have h1 := h.1 p hp
      have h2 := h.at_ hm
      rw [he, h2] at h1
      injection h1 with h1
      injection h1 with h1
      rw [he, ← h1]
      exact setRow_here h2 cs
    · rw [setRow_other _ _ _ _ he]; exact h.1 p hp, below_setRow h.2 hg _⟩
/-- Two results, both aggregates in memory. -/
theorem results_cell2 {P : Program} {fn : Func} {p q : Tmp} {ty ty' : TypeId} (h : fn.results = #[.cell p ty, .cell q ty']) (tmps : Array Value) (w : World) (g g' : Nat) (t t' : TypeId) (cs cs' : Array Value) (fr fr' : Nat × Nat) (d d' : TypeDesc)
    (hp : tmps.getD p undef = .pointer (some ⟨g, 0, none⟩)) (hq : tmps.getD q undef = .pointer (some ⟨g', 0, none⟩)) (hg : w.heap[g]? = some (.cells cs t fr)) (hg' : w.heap[g']? = some (.cells cs' t' fr'))
    (hu : P.underlying ty = some d) (hd : (match d with | .struct _ | .array _ _ => true | _ => false) = true) (hi : (P.info? ty).map (·.size) = some cs.size)
    (hu' : P.underlying ty' = some d') (hd' : (match d' with | .struct _ | .array _ _ => true | _ => false) = true) (hi' : (P.info? ty').map (·.size) = some cs'.size) :
    (results fn tmps).run P w = .ok (.tuple #[.agg cs, .agg cs']) w := by
  have hp' : tmps[p]?.getD undef = .pointer (some ⟨g, 0, none⟩) := by simpa using hp
  have hq' : tmps[q]?.getD undef = .pointer (some ⟨g', 0, none⟩) := by simpa using hq
  simp [results, h, hp', hq', asAddr, run_loadVar_row w g t ty cs fr d hg hu hd hi, run_loadVar_row w g' t' ty' cs' fr' d' hg' hu' hd' hi']
theorem ret_cell2 {P : Program} {fn : Func} {R : Ending → World → Prop} {a : Act} {w : World} {p q : Tmp} {ty ty' : TypeId} (h : fn.results = #[.cell p ty, .cell q ty']) (g g' : Nat) (t t' : TypeId) (cs cs' : Array Value) (fr fr' : Nat × Nat) (d d' : TypeDesc)
    (hp : a.tmps.getD p undef = .pointer (some ⟨g, 0, none⟩)) (hq : a.tmps.getD q undef = .pointer (some ⟨g', 0, none⟩)) (hg : w.heap[g]? = some (.cells cs t fr)) (hg' : w.heap[g']? = some (.cells cs' t' fr'))
    (hu : P.underlying ty = some d) (hd : (match d with | .struct _ | .array _ _ => true | _ => false) = true) (hi : (P.info? ty).map (·.size) = some cs.size)
    (hu' : P.underlying ty' = some d') (hd' : (match d' with | .struct _ | .array _ _ => true | _ => false) = true) (hi' : (P.info? ty').map (·.size) = some cs'.size)
    (hdf : a.defers = []) (hR : R (.returned (.tuple #[.agg cs, .agg cs'])) w) : bodyPost P fn R .ret a w :=
  bodyPost_ret (results_cell2 h a.tmps w g g' t t' cs cs' fr fr' d d' hp hq hg hg' hu hd hi hu' hd' hi') hdf hR
end Go.Proofs.Ytenppmciabdefaa
