/- Runs of cells that are written in a known block; a slice of one element cleared. No condition. -/
import Derived.Test.YtiebggfpjkhlaaaYo
import Derived.Deep.RegionLaw
import Derived.Lib.SliceRun
namespace Go.Proofs.Ytiebggfpjkhlaaa
open Go Go.RowKit
set_option linter.unusedSimpArgs false
/-- Cells written from a place on. -/
def layA (cur : Array Value) : Nat → List Value → Array Value
  | _, [] => cur
  | o, v :: r => layA (cur.setIfInBounds o v) (o + 1) r
theorem layA_size : ∀ (vs : List Value) (cur : Array Value) (o : Nat), (layA cur o vs).size = cur.size
  | [], _, _ => rfl
  | v :: r, cur, o => by rw [layA, layA_size r]; simp
theorem layA_get : ∀ (vs : List Value) (cur : Array Value) (o j : Nat), o + vs.length ≤ cur.size → (layA cur o vs)[j]? = if o ≤ j ∧ j < o + vs.length then vs[j - o]? else cur[j]?
  | [], cur, o, j, _ => by
    rw [if_neg (by simp only [List.length_nil]; omega)]
    rfl
  | v :: r, cur, o, j, h => by
    simp only [List.length_cons] at h ⊢
    rw [layA, layA_get r _ _ _ (by simp; omega)]
    by_cases h1 : o + 1 ≤ j ∧ j < o + 1 + r.length
    · rw [if_pos h1, if_pos (by omega), show j - o = (j - (o + 1)) + 1 by omega, List.getElem?_cons_succ]
    · rw [if_neg h1]
      by_cases h2 : j = o
      · subst h2
        rw [if_pos (by omega), Nat.sub_self, Array.getElem?_setIfInBounds, if_pos rfl, if_pos (by omega)]
        rfl
      · rw [if_neg (by omega), Array.getElem?_setIfInBounds, if_neg (by omega)]
theorem setCells_here (g : Nat) (t : TypeId) : ∀ (vs : List Value) (o : Nat) (w : World) (cur : Array Value), w.heap[g]? = some (.cells cur t (0, 0)) → (w.setCells g o vs).heap[g]? = some (.cells (layA cur o vs) t (0, 0))
  | [], _, _, _, h => h
  | v :: r, o, w, cur, h => by
    rw [World.setCells, layA]
    exact setCells_here g t r (o + 1) _ _ (heap_setCell_same w g o _ _ v h)
theorem Chg.setCells {ws : List Nat} {W : World} {g : Nat} (hg : g ∈ ws) : ∀ (vs : List Value) (o : Nat) (W1 : World), Chg ws W W1 → Chg ws W (W1.setCells g o vs)
  | [], _, _, h => h
  | v :: r, o, W1, h => by
    rw [World.setCells]
    exact Chg.setCells hg r (o + 1) _ (h.setCell (.inl hg) o v)
theorem zeroCells_one (zs : Array Value) : (Builtin.zeroCells zs 1).toList = zs.toList := by
  apply List.ext_getElem
  · simp [Builtin.zeroCells]
  · intro i h1 h2
    have h3 : i < zs.size := by simpa using h2
    simp only [Builtin.zeroCells, Array.getElem_toList, Array.getElem_map, Array.getElem_range, Nat.mod_eq_of_lt h3]
    exact getElem!_pos zs i h3
theorem run_clear_one {P : Program} (w : World) (t e ty : TypeId) (z : Value) (ht : P.underlying t = some (.slice e)) (hv : ∀ w, (zeroValue e).run P w = .ok z w) (h1 : ∀ u ∈ z.cells.toList, u.oneCell' = true) (b o c : Nat)
    (hc : ∀ j, j < z.cells.size → (w.cell? ⟨b, o + j, none⟩).isSome = true) (hf : ∀ j, j < z.cells.size → w.frozen? ⟨b, o + j, none⟩ = false) :
    (Builtin.clear_ #[t] ty #[.slice (some ⟨b, o, none⟩) 1 c]).run P w = .ok (.tuple #[]) (w.setCells b o z.cells.toList) := by
  have hst := run_storeCells_cells (P := P) b o z.cells.toList 0 w (by simpa using hc) (by simpa using hf) h1
  simp only [Nat.add_zero] at hst
  simp [Builtin.clear_, run_underlying ht, hv, zeroCells_one, hst]
/-- The cells of a known block. -/
theorem cell_at {w : World} {g : Nat} {cur : Array Value} {t : TypeId} (h : w.heap[g]? = some (.cells cur t (0, 0))) (j : Nat) : w.cell? ⟨g, j, none⟩ = cur[j]? := cell_of_row w g j cur _ _ h
theorem frozen_at {w : World} {g : Nat} {cur : Array Value} {t : TypeId} (h : w.heap[g]? = some (.cells cur t (0, 0))) (j : Nat) : w.frozen? ⟨g, j, none⟩ = false := frozen_of_row w g j cur t h
/-- One element is taken out: what the row's cells hold. -/
theorem del_cells {cur : Array Value} {xs zs : List Value} {n k sz cap : Nat} (hk : k < n) (hn : n ≤ cap) (hcs : cur.size = cap * sz) (hxs : cur.toList.take (n * sz) = xs) (hz : zs.length = sz) :
    (layA (layA cur (k * sz) (xs.drop ((k + 1) * sz))) ((n - 1) * sz) zs).toList.take ((n - 1) * sz) = xs.take (k * sz) ++ xs.drop ((k + 1) * sz) := by
  have hnc : n * sz ≤ cap * sz := Nat.mul_le_mul_right _ hn
  have hlen : xs.length = n * sz := by rw [← hxs, List.length_take, Array.length_toList]; omega
  have e1 : (k + 1) * sz = k * sz + sz := by rw [Nat.add_mul, Nat.one_mul]
  have hk1 : (k + 1) * sz ≤ n * sz := Nat.mul_le_mul_right _ hk
  have e2 : (n - 1) * sz + sz = n * sz := by rw [← Nat.succ_mul]; congr 1; omega
  have hdl : (xs.drop ((k + 1) * sz)).length = n * sz - (k + 1) * sz := by rw [List.length_drop, hlen]
  apply List.ext_getElem?
  intro j
  rw [List.getElem?_take]
  by_cases hj : j < (n - 1) * sz
  · rw [if_pos hj, Array.getElem?_toList, layA_get _ _ _ _ (by rw [layA_size]; omega), if_neg (by omega), layA_get _ _ _ _ (by omega)]
    by_cases h1 : k * sz ≤ j
    · rw [if_pos (by omega), List.getElem?_append_right (by rw [List.length_take]; omega), List.length_take, Nat.min_eq_left (by omega)]
    · rw [if_neg (by omega), List.getElem?_append_left (by rw [List.length_take]; omega), List.getElem?_take, if_pos (by omega), ← hxs, List.getElem?_take, if_pos (by omega), Array.getElem?_toList]
  · rw [if_neg hj, List.getElem?_eq_none]
    rw [List.length_append, List.length_take, hdl]
    omega
end Go.Proofs.Ytiebggfpjkhlaaa
