/- The names of a slice's operations are no longer than memory. No condition. -/
import Derived.Test.YtiebggfpjkhlaaaDs
namespace Go.Proofs.Ytiebggfpjkhlaaa
open Go Go.RowKit Go.ChangeShapes Go.WideShapes Go.Deep
theorem weights_all {H : Type} {P : Program} {e : TypeId} : ∀ {ds : List (DataW H)} {d : DataW H}, d ∈ ds → ∀ n ∈ d.weights P e, n ∈ DataW.weightsAll P e ds
  | [], _, h, _, _ => by cases h
  | a :: r, d, h, n, hn => by
    simp only [DataW.weightsAll, List.mem_append]
    rcases List.mem_cons.1 h with rfl | h
    · exact .inl hn
    · exact .inr (weights_all h n hn)
theorem ops_sized {H : Type} {enc : TypeId × Value → H} {w : World} {a : Option Addr} {n c : Nat} {d : DataW H} {p : List MemPlace} {D : List OpS} (hD : OpsAt w a n D)
    (h : ∃ fuel, DataW.trod enc Try.prog w 0 (fun _ => true) true fuel 44 (Value.cells (.slice a n c)).toList = some (d, p))
    (hr : ∀ x ∈ d.weights Try.prog 44, x ≤ reachBytes) : ∀ o ∈ D, o.g.size ≤ reachBytes := by
  obtain ⟨fuel, hf⟩ := h
  intro o ho
  obtain ⟨i, hi, rfl⟩ := List.getElem_of_mem ho
  have hn := hD.1
  obtain ⟨B, off, rfl, hrg⟩ := hD.2.1 (by omega)
  rcases open_slice Try.underlying44 hf with ⟨hcs, _⟩ | ⟨x, len, cap, m, fu, Dd, Pl, hcs, hb, hl, hmx, hm, hx, hit⟩
  · simp [Value.cells] at hcs
  · simp [Value.cells] at hcs
    obtain ⟨rfl, rfl, rfl⟩ := hcs
    have hm : m = c := by simpa using hm
    obtain ⟨cs', hc, ht'⟩ := hit i (by omega)
    rw [cells_o] at hc
    obtain ⟨_, hcl, hat⟩ := World.cells?_some hc
    have h2 := hat 2 (by omega)
    rw [addr_add, addr_add] at h2
    have h3 := hrg i hi 2 (.string D[i].g) rfl
    have h4 : cs'[2]? = some (.string D[i].g) := h2.symm.trans h3
    obtain ⟨y0, y1, y2, y3, y4, y5, y6, rfl⟩ := sevenL hcl
    have h4 : y2 = .string D[i].g := by simpa using h4
    subst h4
    obtain ⟨ys, n', hn', hy, hlen, hyl, hfld⟩ := DataW.trod_struct Try.underlying48 ht'
    have hf2 := hfld 2 _ rfl
    have hyl : ys.length = 5 := hyl
    obtain ⟨z2, hz2⟩ : ∃ z, ys[2]? = some z := ⟨_, List.getElem?_eq_getElem (by omega)⟩
    rw [hz2] at hf2
    change DataW.trod enc Try.prog w 0 (fun _ => true) true n' 9 (([y0, y1, .string D[i].g, y3, y4, y5, y6].drop 2).take (Try.prog.cellsOf 9)) = some z2 at hf2
    rw [cells_s] at hf2
    obtain ⟨s, e2, e3, _⟩ := DataW.trod_string Try.underlying9 hf2
    have e2 : s = D[i].g := by
      have : Value.string D[i].g = .string s := by simpa using e2
      cases this
      rfl
    subst e2
    simp only [Prod.mk.injEq] at hy hx
    have hmem : D[i].g.data.toList.length ∈ (Dd i).weights Try.prog 48 := by
      rw [hy.1]
      simp only [DataW.weights, Try.underlying48]
      refine DataW.weights_mem_each (j := 2) (t := 9) (d := z2.1) rfl (by rw [List.getElem?_map, hz2]; rfl) _ ?_
      rw [e3]
      simp [DataW.weights]
    have := hr D[i].g.data.toList.length (by
      rw [hx.1]
      simp only [DataW.weights, Try.underlying44]
      refine List.mem_cons_of_mem _ (List.mem_append_left _ (weights_all (d := Dd i) (List.mem_map.2 ⟨i, List.mem_range.2 (by omega), rfl⟩) _ hmem)))
    simpa using this
end Go.Proofs.Ytiebggfpjkhlaaa
