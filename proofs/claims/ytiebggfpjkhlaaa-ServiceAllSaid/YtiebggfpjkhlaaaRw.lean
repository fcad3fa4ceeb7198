/- A row's slices of bytes opened. No condition. -/
import Derived.Test.YtiebggfpjkhlaaaSa
import Derived.ProofKit
import Derived.SizedLaws
import Derived.OpenShut
namespace Go.Proofs.Ytiebggfpjkhlaaa
open Go.RowKit Go.ChangeShapes Go.WideShapes

theorem open_bytes {H : Type} {enc : TypeId × Value → H} {P : Program} {w : World} {t e : TypeId} {a : Option Addr} {n c : Nat} {d : DataW H} {p : List MemPlace}
    (ht : P.underlying t = some (.slice e)) (he : P.underlying e = some (.int .u8)) (hc : P.cellsOf e = 1) (hby : P.bytesOf e = 1)
    (h : ∃ fuel, DataW.trod enc P w 0 (fun _ => true) true fuel t (Value.cells (.slice a n c)).toList = some (d, p))
    (hr : ∀ es sp, d = .slice es sp → (es.length + sp.length) * P.bytesOf e ≤ reachBytes) :
    ∃ l, Bs w a n l ∧ n ≤ c ∧ c ≤ 140737488351232 := by
  obtain ⟨fuel, hf⟩ := h
  rcases open_ints ht he hc hf with ⟨hcs, _⟩ | ⟨x, len, cap, zs, hcs, _, hl, _, hz, hx, hcell, hwz⟩
  · simp [Value.cells] at hcs
    obtain ⟨rfl, rfl, rfl⟩ := hcs
    exact ⟨[], Bs.empty w _, Nat.le_refl _, by omega⟩
  · simp [Value.cells] at hcs
    obtain ⟨rfl, rfl, rfl⟩ := hcs
    simp only [if_true] at hz
    simp only [Prod.mk.injEq] at hx
    have h1 := hr _ _ hx.1
    rw [hby] at h1
    simp only [lits, List.length_map, List.length_take, List.length_drop, reachBytes] at h1
    refine ⟨zs.take n, ⟨by rw [List.length_take]; omega, fun y hy => ?_, fun hn => ?_⟩, hl, by omega⟩
    · have h2 := hwz y (List.mem_of_mem_take hy)
      have h3 := bounds_u8 h2
      omega
    · obtain ⟨b, off, rfl, hcc⟩ := ints_at hcell (by omega)
      refine ⟨b, off, rfl, fun i hi => ?_⟩
      rw [hcc i (by omega)]
      simp [List.getD, hi]
end Go.Proofs.Ytiebggfpjkhlaaa
