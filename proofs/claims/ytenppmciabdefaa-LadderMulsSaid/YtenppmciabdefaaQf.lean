/- The plain ladder; the law of ladder.Mul's loop, and what its rounds keep. No condition. -/
import Derived.Test.YtenppmciabdefaaQa
import Derived.Test.YtenppmciabdefaaQb
import Derived.Test.YtenppmciabdefaaQd
import Derived.Test.YtenppmciabdefaaRh
namespace Go.Proofs.Ytenppmciabdefaa
open Go Go.RowKit
/-- One rung, mod p. -/
def ladS (u : Int) (s : Int × Int × Int × Int) : Int × Int × Int × Int :=
  ((((s.1 + s.2.1) * (s.1 + s.2.1)) * ((s.1 - s.2.1) * (s.1 - s.2.1))) % PP,
   (((s.1 + s.2.1) * (s.1 + s.2.1) - (s.1 - s.2.1) * (s.1 - s.2.1)) * ((s.1 + s.2.1) * (s.1 + s.2.1) + 121665 * ((s.1 + s.2.1) * (s.1 + s.2.1) - (s.1 - s.2.1) * (s.1 - s.2.1)))) % PP,
   (((s.2.2.1 - s.2.2.2) * (s.1 + s.2.1) + (s.2.2.1 + s.2.2.2) * (s.1 - s.2.1)) * ((s.2.2.1 - s.2.2.2) * (s.1 + s.2.1) + (s.2.2.1 + s.2.2.2) * (s.1 - s.2.1))) % PP,
   (u * (((s.2.2.1 - s.2.2.2) * (s.1 + s.2.1) - (s.2.2.1 + s.2.2.2) * (s.1 - s.2.1)) * ((s.2.2.1 - s.2.2.2) * (s.1 + s.2.1) - (s.2.2.1 + s.2.2.2) * (s.1 - s.2.1)))) % PP)
def swp (s : Int × Int × Int × Int) : Int × Int × Int × Int := (s.2.2.1, s.2.2.2, s.1, s.2.1)
def ladB (u : Int) (s : Int × Int × Int × Int) (b : Bool) : Int × Int × Int × Int := if b then swp (ladS u (swp s)) else ladS u s
/-- The state behind the bits l. -/
def ladF (u : Int) (l : List Bool) : Int × Int × Int × Int := l.foldl (ladB u) (1, 0, u, 1)
theorem ladF_snoc (u : Int) (l : List Bool) (b : Bool) : ladF u (l ++ [b]) = ladB u (ladF u l) b := by simp [ladF]
/-- The point's u without its highest bit. -/
def uTop (l : List Int) : List Int := l.set 31 (l.getD 31 0 % 128)
/-- What Mul answers, as a number. -/
def mulN (k u : List Int) : Int := (ladF (valB (uTop u)) (bitL (clampL k))).1 * pinv (ladF (valB (uTop u)) (bitL (clampL k))).2.1
theorem uTop_in {l : List Int} (hb : ∀ x ∈ l, 0 ≤ x ∧ x < 256) : ∀ x ∈ uTop l, 0 ≤ x ∧ x < 256 := by
  have h31 := byte_at hb 31
  intro x hx
  rcases List.mem_or_eq_of_mem_set hx with hx | rfl
  · exact hb x hx
  · omega
set_option maxRecDepth 100000 in
theorem lbits_any (v : Value) (w : World) (hv : ∃ p n c, v = .slice p n c) : Calls Try.prog 82 #[v] w fun e w' => e = .returned (.func (.func 98) #[] #[.pointer (some ⟨w.heap.size, 0, none⟩)]) ∧ w.alloc (.cells #[v] 22) = w' := by
  obtain ⟨p, n, c, rfl⟩ := hv
  go_enter Try.func82, Try.ntmps82
  go_wp2
  go_ret
  exact ⟨rfl, rfl⟩
end Go.Proofs.Ytenppmciabdefaa
namespace Go.Proofs.Ytenppmciabdefaa
open Go Go.RowKit Go.Shelf
theorem rangeAt_kept {W W' : World} {row : Option Nat} {b o : Nat} {cs : List Value} (h : W.rangeAt b o cs) (hg : W.grownBy W' row) (hrow : ∀ r, row = some r → ∃ o : Obj, W.heap[r]? = some o ∧ o.isCells = false) : W'.rangeAt b o cs :=
  fun j v hj => cell_kept (h j v hj) hg hrow
theorem there_kept {W W' : World} {row : Option Nat} {b o n : Nat} (h : W.there b o n) (hg : W.grownBy W' row) (hrow : ∀ r, row = some r → ∃ o : Obj, W.heap[r]? = some o ∧ o.isCells = false) : W'.there b o n := fun j hj => by
  obtain ⟨h1, h2⟩ := h j hj
  obtain ⟨u, hu⟩ := Option.isSome_iff_exists.1 h1
  exact ⟨by rw [cell_kept hu hg hrow]; rfl, (frozen_kept hu hg hrow).trans h2⟩
theorem Tn.others {W W' : World} {b : Nat} (h : Tn W b W') (hc : W.there b 0 25) : KeepsOthers W W' := by
  obtain ⟨h1, _⟩ := hc 0 (by omega)
  obtain ⟨u, hu⟩ := Option.isSome_iff_exists.1 h1
  obtain ⟨ob, hob, hcells⟩ := cells_of_cell hu
  refine ⟨h.size, fun k o' hk ho => ?_⟩
  have hne : k ≠ b := by
    rintro rfl
    rw [hob] at hk
    cases hk
    rw [hcells] at ho
    cases ho
  exact (h.block k (Array.getElem?_eq_some_iff.1 hk).1 hne).trans hk
/-- What holds between two rounds. -/
def LadI (w : World) (b p : Nat) (u : Int) (X : Array Value) (pre : List Bool) (W : World) : Prop :=
  (∃ A0 A1 A2 A3, (FeA A0 (ladF u pre).1 ∧ FeA A1 (ladF u pre).2.1 ∧ FeA A2 (ladF u pre).2.2.1 ∧ FeA A3 (ladF u pre).2.2.2) ∧ W.rangeAt b 0 (pr A0 A1) ∧ W.rangeAt b 10 (pr A2 A3) ∧ W.rangeAt b 20 X.toList ∧ W.there b 0 25 ∧ W.cell? ⟨p, 0, none⟩ = some (.pointer (some ⟨b, 0, none⟩)) ∧ ∃ v, W.cell? ⟨p + 1, 0, none⟩ = some v) ∧ Below w.heap.size w W
theorem ladI_own {w : World} {b p : Nat} {u : Int} {X : Array Value} {B : Nat} (hB : w.heap.size ≤ B) : OwnFrom B (LadI w b p u X) :=
  OwnFrom.and (Own.from (fun _ _ _ _ ⟨A0, A1, A2, A3, hf, r0, r1, r2, ht, hc, v, hv⟩ hg hr => ⟨A0, A1, A2, A3, hf, rangeAt_kept r0 hg hr, rangeAt_kept r1 hg hr, rangeAt_kept r2 hg hr, there_kept ht hg hr, cell_kept hc hg hr, v, cell_kept hv hg hr⟩) _) (ownFrom_below (Nat.le_refl _) hB)
/-- The loop's law at Mul's loop: the body gets the bit in the slots 12 and 48. -/
theorem kpB_t {L b : Nat} {A B C : World} (h1 : KpB L b A B) (h2 : KpB L b B C) : KpB L b A C := fun i hi hn => (h2 i hi hn).trans (h1 i hi hn)
theorem kpB_b {L b : Nat} (W : World) (l : Nat) (o' : Obj) (hl : L ≤ l) : KpB L b W (W.putObj l o') := fun i hi _ => World.putObj_heap_other (by omega)
theorem kpB_tn {L b : Nat} {W W' : World} (h : Tn W b W') (hL : L ≤ W.heap.size) : KpB L b W W' := fun i hi hn => h.block i (by omega) hn
theorem cell_tn {b : Nat} {W W' : World} (h : Tn W b W') {a : Addr} {v : Value} (hne : a.block ≠ b) (hc : W.cell? a = some v) : W'.cell? a = some v := by
  have hlt := World.block_lt_of_cell? W _ hc
  unfold World.cell? at hc ⊢
  rw [h.block _ hlt hne]
  exact hc
theorem below_tn {b : Nat} {w W W' : World} (h : Below w.heap.size w W) (ht : Tn W b W') (hb : w.heap.size ≤ b) : Below w.heap.size w W' :=
  ⟨ht.os.trans h.os, ht.tape.trans h.tape, ht.output.trans h.output, Nat.le_trans h.size ht.size, fun i hi => (ht.block i (Nat.lt_of_lt_of_le hi h.size) (by omega)).trans (h.block i hi)⟩
theorem modP (N : Int) : PP ∣ N - N % PP := ⟨N / PP, by have := Int.emod_add_mul_ediv N PP; omega⟩
theorem ladI_of {w W W' : World} {b p : Nat} {u : Int} {X : Array Value} {pre : List Bool} {B0 B1 B2 B3 : Array Value} (hc : W.cell? ⟨p, 0, none⟩ = some (.pointer (some ⟨b, 0, none⟩))) (hv : ∃ v, W.cell? ⟨p + 1, 0, none⟩ = some v) (hb : Below w.heap.size w W) (hwb : w.heap.size ≤ b) (hp : b < p) (ht : Tn W b W')
    (g0 : FeA B0 (ladF u pre).1) (g1 : FeA B1 (ladF u pre).2.1) (g2 : FeA B2 (ladF u pre).2.2.1) (g3 : FeA B3 (ladF u pre).2.2.2) (r0 : W'.rangeAt b 0 (pr B0 B1)) (r1 : W'.rangeAt b 10 (pr B2 B3)) (r2 : W'.rangeAt b 20 X.toList) (hth : W'.there b 0 25) : LadI w b p u X pre W' := by
  obtain ⟨v, hv⟩ := hv
  exact ⟨⟨B0, B1, B2, B3, ⟨g0, g1, g2, g3⟩, r0, r1, r2, hth, cell_tn ht (by show p ≠ b; omega) hc, v, cell_tn ht (by show p + 1 ≠ b; omega) hv⟩, below_tn hb ht hwb⟩
/-- What stays while the two pairs are swapped. -/
structure SwK (W : World) (b p : Nat) (X : List Value) (v : World) : Prop where
  c : v.cell? ⟨p, 0, none⟩ = some (.pointer (some ⟨b, 0, none⟩))
  t : v.there b 0 25
  x : v.rangeAt b 20 X
  n : Tn W b v
theorem SwK.drew {W v : World} {b p : Nat} {X : List Value} (h : SwK W b p X v) : SwK W b p X v.drew := ⟨by simpa using h.c, by simpa using h.t, by simpa using h.x, h.n.drew⟩
theorem SwK.mid {W v : World} {b p : Nat} {X : List Value} (h : SwK W b p X v) (hp : b < p) (o : Nat) (vs : List Value) (ho : o + vs.length ≤ 20) : SwK W b p X (v.setCells b o vs) :=
  ⟨cell_tn (Tn.setCells vs o v (Tn.refl v b)) (by show p ≠ b; omega) h.c, World.there_setCells h.t b o vs, World.rangeAt_setCells_apart h.x b o vs (.inr (.inr ho)), Tn.setCells vs o _ h.n⟩
theorem wpIn_region_then {F : Fence} {n : Nat} {P : Program} {Q : Exit → Act → World → Prop} {a : Act} {w : World} {c : Code} (R : Act → Act → World → Prop) (h1 : c.wpIn F n P (fun e b' w' => e = .normal ∧ R a b' w') a w) (h2 : ∀ b' w', R a b' w' → Q .normal b' w') : c.wpIn F n P Q a w :=
  wpIn_mono h1 fun e b' w' h => by obtain ⟨rfl, h⟩ := h; exact h2 _ _ h
end Go.Proofs.Ytenppmciabdefaa
