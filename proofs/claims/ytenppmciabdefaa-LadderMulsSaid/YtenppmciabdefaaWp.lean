/- The walk of synodlaw01.Stays. No condition. -/
import Derived.Test.YtenppmciabdefaaWo
import Derived.Deep.QuietTactic
namespace Go.Proofs.Ytenppmciabdefaa
open Go.RowKit
theorem Bs.drewN {w : World} {p : Option Addr} {n : Nat} {l : List Int} (h : Bs w p n l) (k : Nat) : Bs (w.drewN k) p n l :=
  ⟨h.1, h.2.1, fun hn => by
    obtain ⟨B, off, e, hc⟩ := h.2.2 hn
    exact ⟨B, off, e, fun i hi => hc i hi⟩⟩
theorem Bs.cell {w : World} {B off n : Nat} {l : List Int} (h : Bs w (some ⟨B, off, none⟩) n l) (i : Nat) (hi : i < n) : w.cell? ⟨B, off + i, none⟩ = some (.int .u8 (l.getD i 0)) := by
  obtain ⟨B', off', e, hc⟩ := h.2.2 (by omega)
  simp at e
  obtain ⟨rfl, rfl⟩ := e
  exact hc i hi
set_option maxHeartbeats 1000000 in
set_option maxRecDepth 100000 in
theorem stays_any (g cap' : Nat) (p : Option Addr) (n cap : Nat) (l : List Int) (w : World) (hn : n ≤ 140737488351232) (hc1 : n + 2 ≤ cap') (_hc2 : cap' ≤ 9223372036854775807) (hx : Bs w (some ⟨g, 0, none⟩) (n + 2) (l ++ [201, 202])) (hl : Bs w p n l) :
    Calls Try.prog 21 #[.slice (some ⟨g, 0, none⟩) n cap', .slice p n cap] w fun e w' => e = .returned (.bool true) ∧ ∃ k, w' = w.drewN k := by
  have hlen := hl.1
  have c1 : w.cell? ⟨g, n, none⟩ = some (.int .u8 201) := by
    have := hx.cell n (by omega)
    rw [Nat.zero_add] at this
    rw [this]
    simp [List.getD, hlen]
  have c2 : w.cell? ⟨g, n + 1, none⟩ = some (.int .u8 202) := by
    have := hx.cell (n + 1) (by omega)
    rw [Nat.zero_add] at this
    rw [this]
    simp [List.getD, hlen]
  have hx' : Bs w (some ⟨g, 0, none⟩) n l := by
    have := hx.take n (by omega)
    rw [← hlen, List.take_left] at this
    rw [← hlen]
    exact this
  have s1 : ∀ k, (convert 22 9 (.slice (some ⟨g, 0, none⟩) n cap')).run Try.prog (w.drewN k) = .ok (.string (strOfNums l)) (w.drewN k) := fun k => (hx'.drewN k).string _ 5 _ cap' Try.underlying22 Try.underlying5 Try.underlying9
  have s2 : ∀ k, (convert 22 9 (.slice p n cap)).run Try.prog (w.drewN k) = .ok (.string (strOfNums l)) (w.drewN k) := fun k => (hl.drewN k).string _ 5 _ cap Try.underlying22 Try.underlying5 Try.underlying9
  clear hlen hx hl hx'
  generalize strOfNums l = S at *
  go_enter Try.func21, Try.ntmps21
  go_wp2_with fail
  go_quiet (fail)
  go_wp2
  go_ret
  exact ⟨rfl, _, rfl⟩
end Go.Proofs.Ytenppmciabdefaa
