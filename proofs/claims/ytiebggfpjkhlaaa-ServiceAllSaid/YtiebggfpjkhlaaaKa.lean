/- Small helpers of the walks: closing a function whose result lies in a cell; bit lemmas. No condition. -/
import Derived.Test.YtiebggfpjkhlaaaChecked
import Derived.WalkKit
import Derived.WalkSpells
import Derived.WalkLawsBesides
import Derived.BigQuiet
import Derived.BigRegion
import Derived.Lib.Hide
namespace Go.Proofs.Ytiebggfpjkhlaaa
open Go.RowKit

/-- The end of a function whose one result is an aggregate that lies in memory. -/
theorem ret_cell {P : Program} {fn : Func} {R : Ending → World → Prop} {a : Act} {w : World} {p : Tmp} {ty : TypeId} (h : fn.results = #[.cell p ty]) (g : Nat) (t : TypeId) (cs : Array Value) (fr : Nat × Nat) (d : TypeDesc)
    (hp : a.tmps.getD p undef = .pointer (some ⟨g, 0, none⟩)) (hg : w.heap[g]? = some (.cells cs t fr))
    (hu : P.underlying ty = some d) (hd : (match d with | .struct _ | .array _ _ => true | _ => false) = true) (hi : (P.info? ty).map (·.size) = some cs.size)
    (hdf : a.defers = []) (hR : R (.returned (.agg cs)) w) : bodyPost P fn R .ret a w :=
  bodyPost_ret (results_cell_row h a.tmps w g t cs fr d hp hg hu hd hi) hdf hR

theorem and_mask_u64 (i : Nat) (hi : i ≤ 64) (z : Int) : bits .and .u64 z ((2 : Int) ^ i - 1) = z % (2 : Int) ^ i := by
  have hp : (0 : Int) < 2 ^ i := Int.pow_pos (by omega)
  have hle : (2 : Nat) ^ i ≤ 2 ^ 64 := Nat.pow_le_pow_right (by omega) hi
  have hle' : (2 : Int) ^ i ≤ 2 ^ 64 := by exact_mod_cast hle
  have e1 : ((2 : Int) ^ i - 1) = ((2 ^ i - 1 : Nat) : Int) := by
    have : 1 ≤ (2 : Nat) ^ i := Nat.one_le_two_pow
    rw [Int.natCast_sub this]; simp
  have e0 : ∀ a b : Int, bits .and .u64 a b = IntKind.u64.wrap ((BitVec.ofInt 64 a &&& BitVec.ofInt 64 b).toNat : Int) := fun _ _ => rfl
  rw [e0, BitVec.toNat_and, BitVec.toNat_ofInt, BitVec.toNat_ofInt, IntKind.wrap_u64]
  rw [e1]
  have e2 : ((((2 ^ i - 1 : Nat) : Int) % ((2 ^ 64 : Nat) : Int)).toNat) = 2 ^ i - 1 := by
    rw [← Int.natCast_emod, Int.toNat_natCast, Nat.mod_eq_of_lt (by have : 1 ≤ (2 : Nat) ^ i := Nat.one_le_two_pow; omega)]
  rw [e2, Nat.and_two_pow_sub_one_eq_mod, Int.natCast_emod, Int.toNat_of_nonneg (Int.emod_nonneg _ (by decide))]
  have e3 : z % ((2 ^ 64 : Nat) : Int) % ((2 ^ i : Nat) : Int) = z % (2 : Int) ^ i := by
    rw [Int.emod_emod_of_dvd]
    · simp
    · exact_mod_cast Nat.pow_dvd_pow 2 hi
  rw [e3]
  rw [Int.emod_eq_of_lt (Int.emod_nonneg _ (by omega))]
  exact Int.lt_of_lt_of_le (Int.emod_lt_of_pos _ hp) hle'
@[go_sem] theorem and51 (z : Int) : bits .and .u64 z 2251799813685247 = z % 2251799813685248 := and_mask_u64 51 (by decide) z
@[go_sem] theorem and32 (z : Int) : bits .and .u64 z 4294967295 = z % 4294967296 := and_mask_u64 32 (by decide) z

/-- A block that stood in W1 reads in every later world as it did. -/
theorem cell_stay {W1 w' : World} {b : Nat} {cs : Array Value} {t : TypeId} {fr : Nat × Nat} (h : Below W1.heap.size W1 w') (hb : W1.heap[b]? = some (.cells cs t fr)) (i : Nat) : w'.cell? ⟨b, i, none⟩ = cs[i]? := by
  have hlt : b < W1.heap.size := by
    rcases Nat.lt_or_ge b W1.heap.size with h | h
    · exact h
    · rw [Array.getElem?_eq_none h] at hb; cases hb
  rw [h.cell (p := ⟨b, i, none⟩) hlt]
  simp [World.cell?, hb]
theorem block_stay {W1 w' : World} {b : Nat} {o : Obj} (h : Below W1.heap.size W1 w') (hb : W1.heap[b]? = some o) : w'.heap[b]? = some o := by
  have hlt : b < W1.heap.size := by
    rcases Nat.lt_or_ge b W1.heap.size with h | h
    · exact h
    · rw [Array.getElem?_eq_none h] at hb; cases hb
  rw [h.block b hlt, hb]
theorem heap_at (w : World) (A : Obj) (i : Nat) : (w.alloc A).heap[i]? = if i = w.heap.size then some A else w.heap[i]? := by
  show (w.heap.push A)[i]? = _
  rw [Array.getElem?_push]
theorem size_at (w : World) (A : Obj) : (w.alloc A).heap.size = w.heap.size + 1 := by
  show (w.heap.push A).size = _
  simp
theorem one_new (w : World) (A : Obj) : ∃ W1, w.alloc A = W1 ∧ W1.heap.size = w.heap.size + 1 ∧ Below w.heap.size w W1 ∧ W1.heap[w.heap.size]? = some A :=
  ⟨_, rfl, size_at w A, (Below.refl _ _).alloc (Nat.le_refl _) _, by rw [heap_at, if_pos rfl]⟩
theorem two_new (w : World) (A B : Obj) : ∃ W1, (w.alloc A).alloc B = W1 ∧ W1.heap.size = w.heap.size + 2 ∧ Below w.heap.size w W1 ∧ W1.heap[w.heap.size]? = some A ∧ W1.heap[w.heap.size + 1]? = some B :=
  ⟨_, rfl, by rw [size_at, size_at], ((Below.refl _ _).alloc (Nat.le_refl _) _).alloc (by rw [size_at]; omega) _,
    by rw [heap_at, size_at, if_neg (by omega), heap_at, if_pos rfl], by rw [heap_at, size_at, if_pos rfl]⟩
theorem three_new (w : World) (A B C : Obj) : ∃ W1, ((w.alloc A).alloc B).alloc C = W1 ∧ W1.heap.size = w.heap.size + 3 ∧ Below w.heap.size w W1 ∧ W1.heap[w.heap.size]? = some A ∧ W1.heap[w.heap.size + 1]? = some B ∧ W1.heap[w.heap.size + 2]? = some C :=
  ⟨_, rfl, by rw [size_at, size_at, size_at], (((Below.refl _ _).alloc (Nat.le_refl _) _).alloc (by rw [size_at]; omega) _).alloc (by rw [size_at, size_at]; omega) _,
    by rw [heap_at, size_at, size_at, if_neg (by omega), heap_at, size_at, if_neg (by omega), heap_at, if_pos rfl], by rw [heap_at, size_at, size_at, if_neg (by omega), heap_at, size_at, if_pos rfl], by rw [heap_at, size_at, size_at, if_pos rfl]⟩
end Go.Proofs.Ytiebggfpjkhlaaa
