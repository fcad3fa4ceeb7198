/- Slices of ints as lists; the walk of synodref04.order. No condition. -/
import Derived.Test.YtdcfpgclnhacmaaUn
import Derived.Laws.OwnMore
namespace Go.Proofs.Ytdcfpgclnhacmaa
open Go Go.RowKit
/-- The slice at p of n ints reads as the numbers L. -/
def Is (w : World) (p : Option Addr) (n : Nat) (L : List Int) : Prop :=
  L.length = n ∧ (0 < n → ∃ B off, p = some ⟨B, off, none⟩ ∧ ∀ i, i < n → w.cell? ⟨B, off + i, none⟩ = some (.int .i64 (L.getD i 0)))
theorem Is.keep {w w' : World} {p : Option Addr} {n : Nat} {l : List Int} (h : Is w p n l) (hb : Below w.heap.size w w') : Is w' p n l := by
  refine ⟨h.1, fun hn => ?_⟩
  obtain ⟨B, off, e, hc⟩ := h.2 hn
  refine ⟨B, off, e, fun i hi => ?_⟩
  have h1 := hc i hi
  rw [hb.cell (p := ⟨B, off + i, none⟩) (World.block_lt_of_cell? w _ h1)]
  exact h1
theorem Is.cell {w : World} {B off n : Nat} {l : List Int} (h : Is w (some ⟨B, off, none⟩) n l) (i : Nat) (hi : i < n) : w.cell? ⟨B, off + i, none⟩ = some (.int .i64 (l.getD i 0)) := by
  obtain ⟨B', off', e, hc⟩ := h.2 (by omega)
  simp at e
  obtain ⟨rfl, rfl⟩ := e
  exact hc i hi
theorem own_form {w : World} {base e n : Nat} {v : Value} {xs : List Value} (h : w.ownsRow base e 1 v n xs) (hn : 0 < n) :
    ∃ g cap, v = .slice (some ⟨g, 0, none⟩) n cap ∧ n ≤ cap ∧ cap ≤ maxLen ∧ base ≤ g ∧ g < w.heap.size := by
  rcases h.2 with ⟨_, h0⟩ | ⟨g, cap, cur, rfl, hg, hh, hc1, hc2, hc3, hc4⟩
  · omega
  · exact ⟨g, cap, rfl, hc1, hc2, hg, (Array.getElem?_eq_some_iff.1 hh).1⟩
theorem Is.of_own {w : World} {base e n g cap : Nat} {l : List Int} (h : w.ownsRow base e 1 (.slice (some ⟨g, 0, none⟩) n cap) n (l.map (Value.int .i64))) : Is w (some ⟨g, 0, none⟩) n l := by
  have hlen : l.length = n := by have := h.1; simpa using this
  refine ⟨hlen, fun _ => ⟨g, 0, rfl, fun i hi => ?_⟩⟩
  rw [Nat.zero_add, h.cellAt i (by omega)]
  simp [List.getD, show i < l.length by omega]
theorem one_news (w : World) (x : Value) (t : TypeId) : ∀ (j : Nat) (u : Value), [x][j]? = some u → (w.alloc (.cells #[x] t)).cell? ((⟨w.heap.size, 0, none⟩ : Addr).add j) = some u := by
  intro j u hu
  rw [addr_add, Nat.zero_add, cell_of_row _ w.heap.size j _ _ _ (heap_alloc_new w _)]
  rw [← hu]
  simp
theorem int_oneCell (k : IntKind) (x : Int) : ∀ u ∈ [Value.int k x], u.oneCell' = true := by
  intro u hu
  rw [List.mem_singleton] at hu
  subst hu
  rfl
theorem infoI : (Try.prog.info? 3).map (fun i => (i.zero, i.size, i.bytes)) = some (some (.int .i64 0), 1, 8) := by kernel_rfl
def O34 : List Int := [237, 211, 245, 92, 26, 99, 18, 88, 214, 156, 247, 162, 222, 249, 222, 20, 0, 0, 0, 0, 0, 0, 0, 0, 0, 0, 0, 0, 0, 0, 0, 0, 0, 0]
/-- The 34 lowest bytes of a number, as ints. -/
abbrev d34 (V : Int) : List Int := dg 256 34 V
theorem d34_length (V : Int) : (d34 V).length = 34 := dg_length _ _ _
theorem O34_d34 : O34.set 31 16 = d34 LL := by decide +kernel
theorem O34_next (k : Nat) (h1 : 16 ≤ k) (h2 : k < 34) : O34.take (k + 1) = O34.take k ++ [0] := by
  have : ∀ k, k < 34 → 16 ≤ k → O34.take (k + 1) = O34.take k ++ [0] := by decide
  exact this k h2 h1
theorem below_alloc_own {w wr w1 : World} {t base g cap n : Nat} {o : Obj} {xs : List Value} (hb : Below w.heap.size w wr) (hB : base = w.heap.size) (hown : wr.ownsRow base t 1 (.slice (some ⟨g, 0, none⟩) n cap) n xs) (hg : (wr.alloc o).grownBy w1 (some g)) : Below w.heap.size w w1 :=
  (hb.alloc hb.size _).grown hg (by have := hb.size; simp; omega) fun k hk => by
    have := hown.lt k (by rw [← hk]; rfl)
    omega
set_option maxRecDepth 100000 in
set_option maxHeartbeats 1000000 in
theorem order_any (w : World) :
    Calls Try.prog 33 #[] w fun e w' => ∃ g cap, e = .returned (.slice (some ⟨g, 0, none⟩) 34 cap) ∧ 34 ≤ cap ∧ cap ≤ maxLen ∧ w.heap.size ≤ g ∧ Is w' (some ⟨g, 0, none⟩) 34 (d34 LL) ∧ Below w.heap.size w w' := by
  obtain ⟨i0, hi0, hz0, hz1, hz2⟩ := info_parts infoI
  go_enter Try.func33, Try.ntmps33
  go_wp2
  go_loopw [1] (fun v wr => ∃ k g cap : Nat, 16 ≤ k ∧ k ≤ 34 ∧ v = .slice (some ⟨g, 0, none⟩) k cap ∧ wr.ownsRow w.heap.size 3 1 (.slice (some ⟨g, 0, none⟩) k cap) k ((O34.take k).map (Value.int .i64)) ∧ Below w.heap.size w wr) (fun v _ => match v with | .slice _ n _ => 34 - n | _ => 0)
  case atStart => exact ⟨16, w.heap.size, 16, by omega, by omega, rfl, World.ownsRow_lit w _ 16 (Nat.le_refl _) (by unfold maxLen; omega) rfl, (Below.refl _ _).alloc (Nat.le_refl _) _⟩
  case round =>
    obtain ⟨k, g, cap, hk1, hk, rfl, hown, hbel⟩ := hrel
    by_cases hlt : k < 34
    · have hd : decide ((k : Int) < 34) = true := by simp; omega
      have hnx := Lib.hid (O34_next k hk1 hlt)
      go_wp2_with (at_builtin; refine wpList_append_own _ rfl (.tmp 6) (.tmp 7) 47 rfl w.heap.size 3 i0 (.int .i64 0) 1 8 Try.underlying47 hi0 hz0 hz1 hz2 rfl (by decide) (.slice (some ⟨g, 0, none⟩) k cap) k _ rfl (hown.alloc _) ⟨wr.heap.size, 0, none⟩ 1 1 [.int .i64 0] rfl rfl (one_news wr _ _) (int_oneCell _ _) (by unfold maxLen; omega) (by omega) (by have := hbel.size; simp; omega) ?_; intro v1 w1 hown1 hg1 _; have hb1 := below_alloc_own hbel rfl hown hg1; rw [show List.map (Value.int .i64) (O34.take k) ++ [Value.int .i64 0] = (O34.take (k + 1)).map (Value.int .i64) from by rw [hnx.out]; simp] at hown1; obtain ⟨g1, cap1, rfl, hc1, hc2, hgg1, hlt1⟩ := own_form hown1 (by omega); clear hown hg1 hbel)
      go_roundw
      case rel => exact ⟨k + 1, g1, cap1, by omega, by omega, rfl, hown1, hb1⟩
      case measure => simp; omega
    · obtain rfl : k = 34 := by omega
      obtain ⟨_, _, e, hc1, hc2, hgg, hglt⟩ := own_form hown (by omega)
      simp at e
      obtain ⟨rfl, rfl⟩ := e
      have hd : decide ((34 : Int) < 34) = false := rfl
      obtain ⟨hst, hgr⟩ := hown.stored 31 (.int .i64 16)
      have hb2 := hbel.grown hgr hbel.size (fun k hk => by simp at hk; omega)
      have c31 : wr.cell? ⟨g, 31, none⟩ = some (.int .i64 0) := (hown.cellAt 31 (by omega)).trans rfl
      have f31 := hown.frozenAt 31
      have hc1' : (31 : Int) < 34 := by omega
      rw [show (List.map (Value.int IntKind.i64) (List.take 34 O34)).set 31 (Value.int IntKind.i64 16) = (d34 LL).map (Value.int .i64) from by rw [← List.map_set, List.take_of_length_le (by decide), O34_d34]] at hst
      have hIs := Is.of_own hst
      clear hown hst hgr
      go_wp2
      go_ret
      exact ⟨g, cap, rfl, hc1, hc2, hgg, hIs, hb2⟩
end Go.Proofs.Ytdcfpgclnhacmaa
