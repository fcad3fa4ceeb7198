/- An operation of the service's laws as a value. No condition. -/
import Derived.Test.YtiebggfpjkhlaaaZj
import Derived.Test.YtiebggfpjkhlaaaRw
import Derived.Deep.Fields
import Derived.ChangeSame
namespace Go.Proofs.Ytiebggfpjkhlaaa
open Go Go.RowKit Go.ChangeShapes Go.WideShapes Go.Deep
theorem cells_str : Try.prog.cellsOf 9 = 1 := by kernel_rfl
theorem cells_op : Try.prog.cellsOf 48 = 7 := by kernel_rfl
theorem seven_of {cs : Array Value} (h : cs.size = 7) : ∃ y0 y1 y2 y3 y4 y5 y6, cs = #[y0, y1, y2, y3, y4, y5, y6] := by
  obtain ⟨l, rfl⟩ : ∃ l : List Value, cs = l.toArray := ⟨cs.toList, by simp⟩
  rcases l with _ | ⟨a, _ | ⟨b, _ | ⟨c, _ | ⟨d, _ | ⟨e, _ | ⟨f, _ | ⟨g, _ | ⟨i, l⟩⟩⟩⟩⟩⟩⟩⟩ <;> simp at h
  exact ⟨a, b, c, d, e, f, g, rfl⟩
theorem open_op22 {H : Type} {enc : TypeId × Value → H} {w : World} {r : Reach} {b0 base : Nat} {spare : Nat → Bool} {held : Bool} {v : Value} {d : DataW H} {p : List MemPlace}
    (hv : Value.okWide Try.prog w r b0 48 v) (h : ∃ fuel, DataW.trod enc Try.prog w base spare held fuel 48 (Value.cells v).toList = some (d, p)) :
    ∃ y0 y1 y4 y5 y6 g n, v = .agg #[y0, y1, .string g, .string n, y4, y5, y6] := by
  obtain ⟨cs, rfl, hs⟩ := okWide_struct Try.underlying48 hv
  rw [cells_op] at hs
  obtain ⟨y0, y1, y2, y3, y4, y5, y6, rfl⟩ := seven_of hs
  obtain ⟨fuel, hf⟩ := h
  obtain ⟨ys, n', hn', hy, hlen, hyl, hfld⟩ := DataW.trod_struct Try.underlying48 hf
  have h2 := hfld 2 _ rfl
  have h3 := hfld 3 _ rfl
  have hyl : ys.length = 5 := hyl
  obtain ⟨z2, hz2⟩ : ∃ z, ys[2]? = some z := ⟨_, List.getElem?_eq_getElem (by omega)⟩
  obtain ⟨z3, hz3⟩ : ∃ z, ys[3]? = some z := ⟨_, List.getElem?_eq_getElem (by omega)⟩
  rw [hz2] at h2
  rw [hz3] at h3
  change DataW.trod enc Try.prog w base spare held n' 9 (([y0, y1, y2, y3, y4, y5, y6].drop 2).take (Try.prog.cellsOf 9)) = some z2 at h2
  change DataW.trod enc Try.prog w base spare held n' 9 (([y0, y1, y2, y3, y4, y5, y6].drop 3).take (Try.prog.cellsOf 9)) = some z3 at h3
  rw [cells_str] at h2 h3
  obtain ⟨g, e2, _, _⟩ := DataW.trod_string Try.underlying9 h2
  obtain ⟨n, e3, _, _⟩ := DataW.trod_string Try.underlying9 h3
  obtain rfl : y2 = .string g := by simpa using e2
  obtain rfl : y3 = .string n := by simpa using e3
  exact ⟨y0, y1, y4, y5, y6, g, n, rfl⟩
end Go.Proofs.Ytiebggfpjkhlaaa
