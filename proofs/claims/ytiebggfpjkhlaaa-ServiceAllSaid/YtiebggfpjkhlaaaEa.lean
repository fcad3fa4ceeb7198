/- A slice of numbers opened. No condition. -/
import Derived.Test.YtiebggfpjkhlaaaDs
namespace Go.Proofs.Ytiebggfpjkhlaaa
open Go Go.RowKit Go.ChangeShapes Go.WideShapes Go.Deep
theorem cells_I : Try.prog.cellsOf 3 = 1 := by kernel_rfl
theorem open_nums {H : Type} {enc : TypeId × Value → H} {w : World} {a : Option Addr} {n c : Nat} {d : DataW H} {p : List MemPlace}
    (h : ∃ fuel, DataW.trod enc Try.prog w 0 (fun _ => true) true fuel 45 (Value.cells (.slice a n c)).toList = some (d, p)) :
    ∃ zs : List Int, (zs.length = n ∧ (0 < n → ∃ B off, a = some ⟨B, off, none⟩ ∧ ∀ i (h : i < zs.length), w.cell? ⟨B, off + i, none⟩ = some (.int .i64 zs[i]))) ∧ n ≤ c := by
  obtain ⟨fuel, hf⟩ := h
  rcases open_ints Try.underlying45 Try.underlying3 cells_I hf with ⟨hcs, _⟩ | ⟨x, len, cap, zs, hcs, _, hl, _, hz, _, hcell, _⟩
  · simp [Value.cells] at hcs
    obtain ⟨rfl, rfl, rfl⟩ := hcs
    exact ⟨[], ⟨rfl, fun h => by omega⟩, Nat.le_refl _⟩
  · simp [Value.cells] at hcs
    obtain ⟨rfl, rfl, rfl⟩ := hcs
    simp only [if_true] at hz
    refine ⟨zs.take n, ⟨by rw [List.length_take]; omega, fun hn => ?_⟩, hl⟩
    obtain ⟨b, off, rfl, hcc⟩ := ints_at hcell (by omega)
    refine ⟨b, off, rfl, fun i hi => ?_⟩
    rw [List.length_take] at hi
    rw [hcc i (by omega)]
    simp [List.getD, show i < zs.length by omega]
end Go.Proofs.Ytiebggfpjkhlaaa
