/- The walk of synodlaw01.Lent. No condition. -/
import Derived.Test.YtenppmciabdefaaSa
namespace Go.Proofs.Ytenppmciabdefaa
open Go.RowKit
theorem infoB : (Try.prog.info? 5).map (fun i => (i.zero, i.size, i.bytes)) = some (some (.int .u8 0), 1, 1) := by kernel_rfl
theorem bs_two (w : World) (x y : Int) (t : TypeId) (hx : 0 ≤ x ∧ x < 256) (hy : 0 ≤ y ∧ y < 256) : Bs (w.alloc (.cells #[.int .u8 x, .int .u8 y] t)) (some ⟨w.heap.size, 0, none⟩) 2 [x, y] := by
  refine ⟨rfl, by simp; omega, fun _ => ⟨_, _, rfl, fun i hi => ?_⟩⟩
  rw [cell_of_row _ w.heap.size (0 + i) _ _ _ (heap_alloc_new w _)]
  match i, hi with
  | 0, _ => rfl
  | 1, _ => rfl
theorem lent_end {w w1 w2 : World} {v1 v2 : Value} {n : Nat} {l : List Int} {t : TypeId} {X Y : Value} {row : Option Nat} (hn : n ≤ 140737488351232) (hl : ∀ x ∈ l, 0 ≤ x ∧ x < 256)
    (_hown1 : w1.ownsRow w.heap.size t 1 v1 (0 + n) ([] ++ l.map (Value.int .u8)))
    (hg1 : (w.alloc (.cells #[] t)).grownBy w1 row) (hat1 : v1.ownBlock = row ∨ v1.ownBlock = some (w.alloc (.cells #[] t)).heap.size)
    (hrow : ∀ k, row = some k → w.heap.size ≤ k)
    (hown2 : w2.ownsRow w.heap.size t 1 v2 (0 + n + 2) ([] ++ l.map (Value.int .u8) ++ [201, 202].map (Value.int .u8)))
    (hg2 : (w1.alloc (.cells #[X, Y] t)).grownBy w2 v1.ownBlock) :
    ∃ g cap, v2 = .slice (some ⟨g, 0, none⟩) (n + 2) cap ∧ n + 2 ≤ cap ∧ cap ≤ maxLen ∧ w.heap.size ≤ g ∧ g < w2.heap.size ∧ Bs w2 (some ⟨g, 0, none⟩) (n + 2) (l ++ [201, 202]) ∧ Below w.heap.size w w2 := by
  have ho : w2.ownsRow w.heap.size t 1 v2 (n + 2) ((l ++ [201, 202]).map (Value.int .u8)) := by simpa using hown2
  obtain ⟨g, cap, h1, h2, h3, h4, h5, h6⟩ := Bs.of_own ho (fun x hx => by rcases List.mem_append.1 hx with h | h; exact hl x h; simp at h; omega) (by omega)
  refine ⟨g, cap, h1, h2, h3, h4, h5, h6, ?_⟩
  have hb1 : Below w.heap.size w w1 := ((Below.refl _ _).alloc (Nat.le_refl _) _).grown hg1 (by simp) hrow
  refine (hb1.alloc hb1.size _).grown hg2 (by have := hb1.size; simp; omega) fun k hk => ?_
  rcases hat1 with h | h <;> rw [h] at hk
  · exact hrow k hk
  · simp at hk
    omega
set_option maxHeartbeats 1000000 in
set_option maxRecDepth 100000 in
theorem lent_any (p : Option Addr) (n cap : Nat) (l : List Int) (w : World) (hn : n ≤ 140737488351232) (hr : Bs w p n l) :
    Calls Try.prog 17 #[.slice p n cap] w fun e w' =>
      ∃ g cap', e = .returned (.slice (some ⟨g, 0, none⟩) n cap') ∧ n + 2 ≤ cap' ∧ cap' ≤ maxLen ∧ w.heap.size ≤ g ∧ g < w'.heap.size ∧ Bs w' (some ⟨g, 0, none⟩) (n + 2) (l ++ [201, 202]) ∧ Below w.heap.size w w' := by
  obtain ⟨i0, hi0, hz0, hz1, hz2⟩ := info_parts infoB
  have hB : Bs (w.alloc (.cells #[] 5)) p n l := hr.keep ((Below.refl _ _).alloc (Nat.le_refl _) _)
  have hlen := hr.1
  go_enter Try.func17, Try.ntmps17
  go_wp2_with (first | (at_builtin; refine wpList_append_bs _ rfl (.tmp 4) (.tmp 5) 22 rfl w.heap.size 5 i0 (.int .u8 0) 1 Try.underlying22 hi0 hz0 hz1 hz2 rfl _ 0 [] rfl (World.ownsRow_made w #[] 0 (Nat.le_refl _) (by unfold maxLen; omega) rfl) p n cap l rfl hB (by unfold maxLen; omega) (by omega) (by simp) ?_; intro v1 w1 hown1 hg1 hat1; have hsz1 := hg1.size; rw [size_at] at hsz1) | (at_builtin; refine wpList_append_bs _ rfl (.tmp 7) (.tmp 8) 22 rfl w.heap.size 5 i0 (.int .u8 0) 1 Try.underlying22 hi0 hz0 hz1 hz2 rfl v1 (0 + n) ([] ++ l.map (Value.int .u8)) rfl (hown1.alloc _) (some ⟨w1.heap.size, 0, none⟩) 2 2 [201, 202] rfl (bs_two w1 201 202 _ (by omega) (by omega)) (by unfold maxLen; omega) (by omega) (by simp; omega) ?_; intro v2 w2 hown2 hg2 hat2; obtain ⟨g, cap', rfl, hc1, hc2, hgg, hlt, hBs, hbel⟩ := lent_end hn hr.2.1 hown1 hg1 hat1 (fun k hk => by simp [Value.ownBlock, Act.eval] at hk; omega) hown2 hg2; clear hown1 hg1 hat1 hown2 hg2 hat2; have hcb : cap' ≤ 9223372036854775807 := by unfold maxLen at hc2; omega))
  go_ret
  exact ⟨g, cap', rfl, hc1, hc2, hgg, hlt, hBs, hbel⟩
end Go.Proofs.Ytenppmciabdefaa
