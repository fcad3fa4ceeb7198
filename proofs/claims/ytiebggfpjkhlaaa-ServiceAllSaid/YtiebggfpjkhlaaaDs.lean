/- Slices of a service's operations opened. No condition. -/
import Derived.Test.YtiebggfpjkhlaaaDr
import Derived.Test.YtiebggfpjkhlaaaRw
import Derived.Deep.Slices
import Derived.Deep.Fields
import Derived.ChangeSame
namespace Go.Proofs.Ytiebggfpjkhlaaa
open Go Go.RowKit Go.ChangeShapes Go.WideShapes Go.Deep
/-- A slice of operations as a list. -/
def OpsAt (w : World) (a : Option Addr) (n : Nat) (D : List OpS) : Prop :=
  D.length = n ∧ (0 < n → ∃ B off, a = some ⟨B, off, none⟩ ∧ ∀ i (h : i < D.length), w.rangeAt B (off + i * 7) D[i].cells) ∧ ∀ d ∈ D, Bs w d.q d.nb d.l
theorem open_bytes_at {H : Type} {enc : TypeId × Value → H} {P : Program} {w : World} {base : Nat} {spare : Nat → Bool} {held : Bool} {t e : TypeId} {fuel : Nat} {v : Value} {y : DataW H × List MemPlace}
    (ht : P.underlying t = some (.slice e)) (he : P.underlying e = some (.int .u8)) (hc : P.cellsOf e = 1) (h : DataW.trod enc P w base spare held fuel t [v] = some y) :
    ∃ p n c l, v = .slice p n c ∧ Bs w p n l ∧ n ≤ c ∧ c ≤ maxLen := by
  rcases open_ints ht he hc h with ⟨hcs, _⟩ | ⟨x, len, cap, zs, hcs, _, hl, hm, hz, hx, hcell, hwz⟩
  · simp at hcs
    exact ⟨none, 0, 0, [], hcs, Bs.empty w _, Nat.le_refl _, by omega⟩
  · simp at hcs
    have hzl : len ≤ zs.length := by rw [hz]; split <;> omega
    refine ⟨some x, len, cap, zs.take len, hcs, ⟨by rw [List.length_take]; omega, fun y hy => ?_, fun hn => ?_⟩, hl, hm⟩
    · have h2 := hwz y (List.mem_of_mem_take hy)
      have h3 := bounds_u8 h2
      omega
    · obtain ⟨b, off, rfl, hcc⟩ := ints_at hcell (by omega)
      refine ⟨b, off, rfl, fun i hi => ?_⟩
      rw [hcc i (by omega)]
      simp [List.getD, hi]
theorem three_of {l : List Value} (h : l.length = 3) : ∃ a b c, l = [a, b, c] := by
  match l, h with
  | [a, b, c], _ => exact ⟨a, b, c, rfl⟩
theorem sevenL {l : List Value} (h : l.length = 7) : ∃ y0 y1 y2 y3 y4 y5 y6, l = [y0, y1, y2, y3, y4, y5, y6] := by
  match l, h with
  | [y0, y1, y2, y3, y4, y5, y6], _ => exact ⟨y0, y1, y2, y3, y4, y5, y6, rfl⟩
theorem cells_s : Try.prog.cellsOf 9 = 1 := by kernel_rfl
theorem cells_i : Try.prog.cellsOf 3 = 1 := by kernel_rfl
theorem cells_b : Try.prog.cellsOf 29 = 1 := by kernel_rfl
theorem cells_e : Try.prog.cellsOf 46 = 3 := by kernel_rfl
theorem cells_o : Try.prog.cellsOf 48 = 7 := by kernel_rfl
theorem open_ent {H : Type} {enc : TypeId × Value → H} {w : World} {base : Nat} {spare : Nat → Bool} {held : Bool} {fuel : Nat} {a b c : Value} {y : DataW H × List MemPlace} (h : DataW.trod enc Try.prog w base spare held fuel 46 [a, b, c] = some y) :
    ∃ (ep kd : Int) (q : Option Addr) (n k : Nat) (l : List Int), a = .int .i64 ep ∧ b = .int .i64 kd ∧ c = .slice q n k ∧ Bs w q n l := by
  obtain ⟨ys, n', hn', hy, hlen, hyl, hfld⟩ := DataW.trod_struct Try.underlying46 h
  have h0 := hfld 0 _ rfl
  have h1 := hfld 1 _ rfl
  have h2 := hfld 2 _ rfl
  have hyl : ys.length = 3 := hyl
  obtain ⟨z0, hz0⟩ : ∃ z, ys[0]? = some z := ⟨_, List.getElem?_eq_getElem (by omega)⟩
  obtain ⟨z1, hz1⟩ : ∃ z, ys[1]? = some z := ⟨_, List.getElem?_eq_getElem (by omega)⟩
  obtain ⟨z2, hz2⟩ : ∃ z, ys[2]? = some z := ⟨_, List.getElem?_eq_getElem (by omega)⟩
  rw [hz0] at h0
  rw [hz1] at h1
  rw [hz2] at h2
  change DataW.trod enc Try.prog w base spare held n' 3 (([a, b, c].drop 0).take (Try.prog.cellsOf 3)) = some z0 at h0
  change DataW.trod enc Try.prog w base spare held n' 3 (([a, b, c].drop 1).take (Try.prog.cellsOf 3)) = some z1 at h1
  change DataW.trod enc Try.prog w base spare held n' 29 (([a, b, c].drop 2).take (Try.prog.cellsOf 29)) = some z2 at h2
  rw [cells_i] at h0 h1
  rw [cells_b] at h2
  obtain ⟨k0, e0, _, _⟩ := DataW.trod_int Try.underlying3 h0
  obtain ⟨k1, e1, _, _⟩ := DataW.trod_int Try.underlying3 h1
  obtain ⟨q, n, k, l, e2, hb, _, _⟩ := open_bytes_at Try.underlying29 Try.underlying5 (by kernel_rfl) h2
  exact ⟨k0, k1, q, n, k, l, by simpa using e0, by simpa using e1, e2, hb⟩
theorem open_opv {H : Type} {enc : TypeId × Value → H} {w : World} {base : Nat} {spare : Nat → Bool} {held : Bool} {fuel : Nat} {cs : List Value} {y : DataW H × List MemPlace} (hc : cs.length = 7) (h : DataW.trod enc Try.prog w base spare held fuel 48 cs = some y) :
    ∃ o : OpS, cs = o.cells ∧ Bs w o.q o.nb o.l := by
  obtain ⟨y0, y1, y2, y3, y4, y5, y6, rfl⟩ := sevenL hc
  obtain ⟨ys, n', hn', hy, hlen, hyl, hfld⟩ := DataW.trod_struct Try.underlying48 h
  have h0 := hfld 0 _ rfl
  have h1 := hfld 1 _ rfl
  have h2 := hfld 2 _ rfl
  have h3 := hfld 3 _ rfl
  have h4 := hfld 4 _ rfl
  have hyl : ys.length = 5 := hyl
  obtain ⟨z0, hz0⟩ : ∃ z, ys[0]? = some z := ⟨_, List.getElem?_eq_getElem (by omega)⟩
  obtain ⟨z1, hz1⟩ : ∃ z, ys[1]? = some z := ⟨_, List.getElem?_eq_getElem (by omega)⟩
  obtain ⟨z2, hz2⟩ : ∃ z, ys[2]? = some z := ⟨_, List.getElem?_eq_getElem (by omega)⟩
  obtain ⟨z3, hz3⟩ : ∃ z, ys[3]? = some z := ⟨_, List.getElem?_eq_getElem (by omega)⟩
  obtain ⟨z4, hz4⟩ : ∃ z, ys[4]? = some z := ⟨_, List.getElem?_eq_getElem (by omega)⟩
  rw [hz0] at h0
  rw [hz1] at h1
  rw [hz2] at h2
  rw [hz3] at h3
  rw [hz4] at h4
  change DataW.trod enc Try.prog w base spare held n' 3 (([y0, y1, y2, y3, y4, y5, y6].drop 0).take (Try.prog.cellsOf 3)) = some z0 at h0
  change DataW.trod enc Try.prog w base spare held n' 3 (([y0, y1, y2, y3, y4, y5, y6].drop 1).take (Try.prog.cellsOf 3)) = some z1 at h1
  change DataW.trod enc Try.prog w base spare held n' 9 (([y0, y1, y2, y3, y4, y5, y6].drop 2).take (Try.prog.cellsOf 9)) = some z2 at h2
  change DataW.trod enc Try.prog w base spare held n' 9 (([y0, y1, y2, y3, y4, y5, y6].drop 3).take (Try.prog.cellsOf 9)) = some z3 at h3
  change DataW.trod enc Try.prog w base spare held n' 46 (([y0, y1, y2, y3, y4, y5, y6].drop 4).take (Try.prog.cellsOf 46)) = some z4 at h4
  rw [cells_i] at h0 h1
  rw [cells_s] at h2 h3
  rw [cells_e] at h4
  obtain ⟨k0, e0, _, _⟩ := DataW.trod_int Try.underlying3 h0
  obtain ⟨k1, e1, _, _⟩ := DataW.trod_int Try.underlying3 h1
  obtain ⟨g, e2, _, _⟩ := DataW.trod_string Try.underlying9 h2
  obtain ⟨n, e3, _, _⟩ := DataW.trod_string Try.underlying9 h3
  obtain ⟨ep, kd, q, nb, c, l, rfl, rfl, rfl, hb⟩ := open_ent (a := y4) (b := y5) (c := y6) h4
  obtain rfl : y0 = .int .i64 k0 := by simpa using e0
  obtain rfl : y1 = .int .i64 k1 := by simpa using e1
  obtain rfl : y2 = .string g := by simpa using e2
  obtain rfl : y3 = .string n := by simpa using e3
  exact ⟨⟨k0, k1, g, n, ep, kd, q, nb, c, l⟩, rfl, hb⟩
theorem open_ops {H : Type} {enc : TypeId × Value → H} {w : World} {a : Option Addr} {n c : Nat} {d : DataW H} {p : List MemPlace}
    (h : ∃ fuel, DataW.trod enc Try.prog w 0 (fun _ => true) true fuel 44 (Value.cells (.slice a n c)).toList = some (d, p))
    (hr : ∀ es sp, d = .slice es sp → (es.length + sp.length) * Try.prog.bytesOf 48 ≤ reachBytes) :
    ∃ D, OpsAt w a n D ∧ n ≤ c ∧ c ≤ 1600000000000 := by
  obtain ⟨fuel, hf⟩ := h
  have hby : Try.prog.bytesOf 48 = 88 := by kernel_rfl
  rcases open_slice Try.underlying44 hf with ⟨hcs, _⟩ | ⟨x, len, cap, m, fu, Dd, Pl, hcs, hb, hl, hmx, hm, hx, hi⟩
  · simp [Value.cells] at hcs
    obtain ⟨rfl, rfl, rfl⟩ := hcs
    exact ⟨[], ⟨rfl, fun h => by omega, by simp⟩, Nat.le_refl _, by omega⟩
  · simp [Value.cells] at hcs
    obtain ⟨rfl, rfl, rfl⟩ := hcs
    have hm : m = c := by simpa using hm
    have hcap : c ≤ 1600000000000 := by
      simp only [Prod.mk.injEq] at hx
      have h1 := hr _ _ hx.1
      rw [hby] at h1
      simp only [List.length_map, List.length_range, reachBytes] at h1
      omega
    have hsp : 0 < n → x.spot = none := by
      intro hn
      obtain ⟨cs', hc, ht'⟩ := hi 0 (by omega)
      rw [cells_o] at hc
      obtain ⟨_, hcl, hat⟩ := World.cells?_some hc
      obtain ⟨o, rfl, hbs⟩ := open_opv hcl ht'
      have h0 := hat 0 (by omega)
      have h0' : w.cell? ((x.add (0 * 7)).add 0) = some (.int .i64 o.kind) := h0
      simpa [Addr.add] using World.cell?_spot h0'
    have each : ∀ i, i < n → ∃ o : OpS, w.rangeAt x.block (x.off + i * 7) o.cells ∧ Bs w o.q o.nb o.l ∧ x.spot = none := by
      intro i hin
      obtain ⟨cs', hc, ht'⟩ := hi i (by omega)
      rw [cells_o] at hc
      obtain ⟨_, hcl, hat⟩ := World.cells?_some hc
      obtain ⟨o, rfl, hbs⟩ := open_opv hcl ht'
      have hspot : x.spot = none := hsp (by omega)
      refine ⟨o, fun t u hu => ?_, hbs, hspot⟩
      have ht : t < 7 := by
        have := (List.getElem?_eq_some_iff.1 hu).1
        simpa [OpS.cells] using this
      have h1 := hat t ht
      obtain ⟨B, off, ov⟩ := x
      have hspot : ov = none := hspot
      subst hspot
      rw [addr_add, addr_add] at h1
      rw [h1]
      exact hu
    have pick : ∃ D : List OpS, D.length = n ∧ ∀ i (h : i < D.length), w.rangeAt x.block (x.off + i * 7) D[i].cells ∧ Bs w D[i].q D[i].nb D[i].l ∧ x.spot = none := by
      refine ⟨List.ofFn fun i : Fin n => Classical.choose (each i.1 i.2), by simp, fun i h => ?_⟩
      have hin : i < n := by simpa using h
      rw [List.getElem_ofFn]
      exact Classical.choose_spec (each i hin)
    obtain ⟨D, hDl, hD⟩ := pick
    refine ⟨D, ⟨hDl, fun hn => ?_, fun d hd => ?_⟩, by omega, hcap⟩
    · have h0 := (hD 0 (by omega)).2.2
      obtain ⟨B, off, ov⟩ := x
      have hspot : ov = none := h0
      subst hspot
      exact ⟨B, off, rfl, fun i h => (hD i h).1⟩
    · obtain ⟨i, hi2, rfl⟩ := List.getElem_of_mem hd
      exact (hD i hi2).2.1
end Go.Proofs.Ytiebggfpjkhlaaa
