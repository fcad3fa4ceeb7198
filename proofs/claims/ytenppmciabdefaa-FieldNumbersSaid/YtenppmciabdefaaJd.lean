/- Slices of structs opened: the operations of FieldNumbers. No condition. -/
import Derived.Test.YtenppmciabdefaaJc
import Derived.Test.YtenppmciabdefaaRw
import Derived.Deep.Slices
import Derived.Deep.Fields
import Derived.ChangeSame
namespace Go.Proofs.Ytenppmciabdefaa
open Go Go.RowKit Go.ChangeShapes Go.WideShapes Go.Deep
section
variable {H : Type} {enc : TypeId × Value → H} {P : Program} {w : World} {base : Nat} {spare : Nat → Bool} {held : Bool}
theorem open_slice_fields {t e : TypeId} {fs : Array Field} {fuel : Nat} {cs : List Value} {x : DataW H × List MemPlace} (ht : P.underlying t = some (.slice e)) (he : P.underlying e = some (.struct fs))
    (hone : oneCellFields P fs = true) (hC : P.cellsOf e = fs.size) (h : DataW.trod enc P w base spare held fuel t cs = some x) :
    (cs = [.slice none 0 0] ∧ x = (.nil, [])) ∨
    ∃ (a : Addr) (len cap m : Nat) (D : Nat → DataW H) (Pl : Nat → List MemPlace), cs = [.slice (some a) len cap] ∧ base ≤ a.block ∧ len ≤ cap ∧ cap ≤ maxLen ∧ m = (if spare a.block then cap else len) ∧
      x = (.slice ((List.range len).map D) ((List.range (m - len)).map fun j => D (len + j)), MemPlace.row a (m * fs.size) ++ (List.range m).flatMap Pl) ∧
      ∀ i, i < m → ∃ (ys : List (DataW H × List MemPlace)) (n : Nat), D i = .agg (ys.map (·.1)) ∧ Pl i = ys.flatMap (·.2) ∧ ys.length = fs.size ∧
        ∀ (j : Nat) (f : Field), fs[j]? = some f → ∃ (v : Value) (y : DataW H × List MemPlace), w.cell? (a.add (i * fs.size + j)) = some v ∧ ys[j]? = some y ∧ DataW.trod enc P w base spare held n f.type [v] = some y := by
  rcases open_slice ht h with h0 | ⟨a, len, cap, m, n, D, Pl, hcs, hb, hl, hm, hmm, hx, hi⟩
  · exact .inl h0
  · refine .inr ⟨a, len, cap, m, D, Pl, hcs, hb, hl, hm, hmm, by rw [hC] at hx; exact hx, fun i him => ?_⟩
    obtain ⟨cs', hc, ht'⟩ := hi i him
    rw [hC] at hc
    obtain ⟨ys, n', hn', hy, hlen, hyl, hf⟩ := DataW.trod_struct he ht'
    obtain ⟨_, hcl, hat⟩ := World.cells?_some hc
    simp only [Prod.mk.injEq] at hy
    refine ⟨ys, n', hy.1, hy.2, hyl, fun j f hj => ?_⟩
    obtain ⟨ho, hk⟩ := hone_of hone j f hj
    have hjl : j < fs.size := (Array.getElem?_eq_some_iff.1 hj).1
    have hcell := hat j hjl
    have hv : cs'[j]? = some (cs'[j]'(by omega)) := List.getElem?_eq_getElem (by omega)
    have h1 := hf j f hj
    rw [ho, hk] at h1
    have hone' : (cs'.drop j).take 1 = [cs'[j]'(by omega)] := by
      rw [List.drop_eq_getElem_cons (by omega)]
      rfl
    rw [hone'] at h1
    have hys : ys[j]? = some (ys[j]'(by omega)) := List.getElem?_eq_getElem (by omega)
    refine ⟨_, _, ?_, hys, h1.trans hys⟩
    rw [← Go.Deep.add_add, hcell, hv]
end

theorem open_bytes_at {H : Type} {enc : TypeId × Value → H} {P : Program} {w : World} {base : Nat} {spare : Nat → Bool} {held : Bool} {t e : TypeId} {fuel : Nat} {v : Value} {y : DataW H × List MemPlace}
    (ht : P.underlying t = some (.slice e)) (he : P.underlying e = some (.int .u8)) (hc : P.cellsOf e = 1) (h : DataW.trod enc P w base spare held fuel t [v] = some y) :
    ∃ p n c l, v = .slice p n c ∧ Bs w p n l ∧ n ≤ c ∧ c ≤ maxLen := by
  rcases open_ints ht he hc h with ⟨hcs, _⟩ | ⟨x, len, cap, zs, hcs, _, hl, hm, hz, hx, hcell, hwz⟩
  · simp at hcs
    exact ⟨none, 0, 0, [], hcs, Bs.empty w _, Nat.le_refl _, by omega⟩
  · simp at hcs
    have hzl : len ≤ zs.length := by rw [hz]; split <;> omega
    refine ⟨some x, len, cap, zs.take len, hcs, ⟨by rw [List.length_take]; omega, fun y hy => ?_, fun hn => ?_⟩, hl, hm⟩
    · have h2 := hwz y (List.mem_of_mem_take hy)
      have h3 := bounds_u8 h2
      omega
    · obtain ⟨b, off, rfl, hcc⟩ := ints_at hcell (by omega)
      refine ⟨b, off, rfl, fun i hi => ?_⟩
      rw [hcc i (by omega)]
      simp [List.getD, hi]
theorem open_op {H : Type} {enc : TypeId × Value → H} {w : World} {base : Nat} {spare : Nat → Bool} {held : Bool} {a : Option Addr} {n c : Nat} {d : DataW H} {p : List MemPlace}
    (h : ∃ fuel, DataW.trod enc Try.prog w base spare held fuel 41 (Value.cells (.slice a n c)).toList = some (d, p)) :
    ∃ D, OpsAt w a n D ∧ n ≤ c ∧ c ≤ maxLen := by
  obtain ⟨fuel, hf⟩ := h
  rcases open_slice_fields Try.underlying41 Try.underlying55 (by kernel_rfl) (by kernel_rfl) hf with ⟨hcs, _⟩ | ⟨x, len, cap, m, Dd, Pl, hcs, hb, hl, hmx, hm, hx, hi⟩
  · simp [Value.cells] at hcs
    obtain ⟨rfl, rfl, rfl⟩ := hcs
    exact ⟨[], ⟨rfl, fun h => by omega, by simp⟩, Nat.le_refl _, by omega⟩
  · simp [Value.cells] at hcs
    obtain ⟨rfl, rfl, rfl⟩ := hcs
    have hnm : n ≤ m := by rw [hm]; split <;> omega
    have each : ∀ i, i < n → ∃ o : OpD, w.cell? (x.add (i * 3)) = some (.int .i64 o.kind) ∧ w.cell? (x.add (i * 3 + 1)) = some (.slice o.p o.n o.c) ∧ w.cell? (x.add (i * 3 + 2)) = some (.int .i64 o.num) ∧
        Bs w o.p o.n o.b ∧ o.n ≤ o.c ∧ o.c ≤ 9223372036854775807 ∧ (-9223372036854775808 ≤ o.kind ∧ o.kind ≤ 9223372036854775807) ∧ (-9223372036854775808 ≤ o.num ∧ o.num ≤ 9223372036854775807) := by
      intro i hin
      obtain ⟨ys, fu, hD, hP, hyl, hfld⟩ := hi i (by omega)
      obtain ⟨v0, y0, c0, _, t0⟩ := hfld 0 _ rfl
      obtain ⟨v1, y1, c1, _, t1⟩ := hfld 1 _ rfl
      obtain ⟨v2, y2, c2, _, t2⟩ := hfld 2 _ rfl
      obtain ⟨k0, e0, _, w0⟩ := DataW.trod_int Try.underlying3 t0
      obtain ⟨k2, e2, _, w2⟩ := DataW.trod_int Try.underlying3 t2
      obtain ⟨pb, nb, cb, lb, rfl, hBs, hnc, hcm⟩ := open_bytes_at Try.underlying22 Try.underlying5 (by kernel_rfl) t1
      simp at e0 e2
      subst e0
      subst e2
      exact ⟨⟨k0, pb, nb, cb, lb, k2⟩, by simpa using c0, by simpa using c1, by simpa using c2, hBs, hnc, by unfold maxLen at hcm; exact hcm, bounds_i64 w0, bounds_i64 w2⟩
    have pick : ∃ D : List OpD, D.length = n ∧ ∀ i (h : i < D.length), w.cell? (x.add (i * 3)) = some (.int .i64 D[i].kind) ∧ w.cell? (x.add (i * 3 + 1)) = some (.slice D[i].p D[i].n D[i].c) ∧ w.cell? (x.add (i * 3 + 2)) = some (.int .i64 D[i].num) ∧
        Bs w D[i].p D[i].n D[i].b ∧ D[i].n ≤ D[i].c ∧ D[i].c ≤ 9223372036854775807 ∧ (-9223372036854775808 ≤ D[i].kind ∧ D[i].kind ≤ 9223372036854775807) ∧ (-9223372036854775808 ≤ D[i].num ∧ D[i].num ≤ 9223372036854775807) := by
      refine ⟨List.ofFn fun i : Fin n => Classical.choose (each i.1 i.2), by simp, fun i h => ?_⟩
      have hin : i < n := by simpa using h
      rw [List.getElem_ofFn]
      exact Classical.choose_spec (each i hin)
    obtain ⟨D, hDl, hD⟩ := pick
    refine ⟨D, ⟨hDl, fun hn => ?_, fun d hd => ?_⟩, hl, hmx⟩
    · have h0 := (hD 0 (by omega)).1
      obtain ⟨B, off, ov⟩ := x
      have hspot : ov = none := by simpa [Addr.add] using World.cell?_spot h0
      subst hspot
      refine ⟨B, off, rfl, fun i h => ?_⟩
      obtain ⟨e0, e1, e2, _⟩ := hD i h
      rw [addr_add] at e0 e1 e2
      exact ⟨e0, by rw [← Nat.add_assoc] at e1; exact e1, by rw [← Nat.add_assoc] at e2; exact e2⟩
    · obtain ⟨i, hi2, rfl⟩ := List.getElem_of_mem hd
      exact (hD i hi2).2.2.2
end Go.Proofs.Ytenppmciabdefaa
