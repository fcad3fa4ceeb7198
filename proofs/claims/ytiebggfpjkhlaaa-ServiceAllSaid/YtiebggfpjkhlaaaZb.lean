/- The walks of service.may: names that may be. No condition. -/
import Derived.Test.YtiebggfpjkhlaaaZa
import Derived.Carry
namespace Go.Proofs.Ytiebggfpjkhlaaa
open Go Go.RowKit
theorem map_neq_some (m : Nat) (w : World) : (binOp .neq 54 (.map (some m)) (.map none)).run Try.prog w = .ok (.bool true) w := by kernel_rfl
theorem map_neq_nil (w : World) : (binOp .neq 54 (.map none) (.map none)).run Try.prog w = .ok (.bool false) w := by kernel_rfl
attribute [local go_sem] map_neq_some map_neq_nil
theorem pred_may (s : ByteArray) (h : 1 ≤ s.size ∧ s.size ≤ 255) (w : World) : Calls Try.prog 38 #[.string s] w fun e w' => e = .returned (.bool false) ∧ w' = w := by
  have h1 : decide ((s.size : Int) < 1) = false := by simp; omega
  have h2 : decide ((s.size : Int) > 255) = false := by simp; omega
  go_enter Try.func38, Try.ntmps38
  go_wp2
  go_ret
  exact ⟨rfl, rfl⟩
set_option maxRecDepth 100000 in
set_option maxHeartbeats 4000000 in
theorem idxf_may (g n c : Nat) (nm : Nat → ByteArray) (w : World) (hn : n ≤ 100) (hc : ∀ j, j < n → w.cell? ⟨g, j, none⟩ = some (.string (nm j))) (hs : ∀ j, j < n → 1 ≤ (nm j).size ∧ (nm j).size ≤ 255) :
    Calls Try.prog 40 #[.slice (some ⟨g, 0, none⟩) n c, .func (.func 38) #[] #[]] w fun e w' => e = .returned (.int .i64 (-1)) ∧ w' = w := by
  have HC := Lib.hid hc
  have HS := Lib.hid hs
  clear hc hs
  go_enter Try.func40, Try.ntmps40
  go_wp2_with fail
  go_loopw [8] (fun i wr => ∃ k : Nat, k ≤ n ∧ i = .int .i64 k ∧ wr = w) (fun i _ => (n - intOf i).toNat)
  case atStart => exact ⟨0, by omega, rfl, rfl⟩
  case round =>
    obtain ⟨k, hk, rfl, rfl⟩ := hrel
    by_cases hlt : k < n
    · have hcell := HC.out k hlt
      have hsz := Lib.hid (HS.out k hlt)
      have hl : decide ((k : Int) < (n : Int)) = true := by simp; omega
      generalize nm k = s at *
      go_wp2_with fail
      refine (pred_may s hsz.out _).mono ?_
      rintro e w' ⟨rfl, hw⟩
      subst hw
      go_wp2_with fail
      go_roundw
      case rel => exact ⟨k + 1, by omega, rfl, by trivial⟩
      case measure => simp [intOf]; omega
    · obtain rfl : k = n := by omega
      have hl : decide ((k : Int) < (k : Int)) = false := by simp
      go_wp2_with fail
      go_ret
      exact ⟨rfl, rfl⟩
set_option maxRecDepth 100000 in
theorem cont_may (g n c : Nat) (nm : Nat → ByteArray) (w : World) (hn : n ≤ 100) (hc : ∀ j, j < n → w.cell? ⟨g, j, none⟩ = some (.string (nm j))) (hs : ∀ j, j < n → 1 ≤ (nm j).size ∧ (nm j).size ≤ 255) :
    Calls Try.prog 26 #[.slice (some ⟨g, 0, none⟩) n c, .func (.func 38) #[] #[]] w fun e w' => e = .returned (.bool false) ∧ w' = w := by
  have h := idxf_may g n c nm w hn hc hs
  clear hc hs
  go_enter Try.func26, Try.ntmps26
  go_wp2_with fail
  refine h.mono ?_
  rintro e w' ⟨rfl, rfl⟩
  go_wp2_with fail
  go_ret
  exact ⟨rfl, rfl⟩
set_option maxRecDepth 100000 in
theorem may_yes (b m g n c : Nat) (nm : Nat → ByteArray) (w : World) (hb : w.cell? ⟨b, 1, none⟩ = some (.map (some m))) (hn : n ≤ 100) (hc : ∀ j, j < n → w.cell? ⟨g, j, none⟩ = some (.string (nm j))) (hs : ∀ j, j < n → 1 ≤ (nm j).size ∧ (nm j).size ≤ 255) :
    Calls Try.prog 22 #[.pointer (some ⟨b, 0, none⟩), .slice (some ⟨g, 0, none⟩) n c] w fun e w' => e = .returned (.bool true) ∧ w' = w := by
  have h := cont_may g n c nm w hn hc hs
  clear hc hs
  go_enter Try.func22, Try.ntmps22
  go_wp2_with fail
  refine h.mono ?_
  rintro e w' ⟨rfl, rfl⟩
  go_wp2_with fail
  go_ret
  exact ⟨rfl, rfl⟩
theorem may_nil (v : Value) (w : World) : Calls Try.prog 22 #[.pointer none, v] w fun e w' => e = .returned (.bool false) ∧ w' = w := by
  go_enter Try.func22, Try.ntmps22
  go_wp2
  go_ret
  exact ⟨rfl, rfl⟩
theorem may_empty (b : Nat) (v : Value) (w : World) (hb : w.cell? ⟨b, 1, none⟩ = some (.map none)) : Calls Try.prog 22 #[.pointer (some ⟨b, 0, none⟩), v] w fun e w' => e = .returned (.bool false) ∧ w' = w := by
  go_enter Try.func22, Try.ntmps22
  go_wp2
  go_ret
  exact ⟨rfl, rfl⟩
/-- At a service that is known: its names may be. -/
theorem may_at {b m g n c : Nat} {nm : Nat → ByteArray} {w : World} {cs : Array Value} (hb : w.heap[b]? = some (.cells cs 57 (0, 0))) (hm : cs[1]? = some (.map (some m))) {ds : Array Value} (hg : w.heap[g]? = some (.cells ds 9 (0, 0))) (hn : n ≤ 100)
    (hc : ∀ j, j < n → ds[j]? = some (.string (nm j)) ∧ 1 ≤ (nm j).size ∧ (nm j).size ≤ 255) :
    Calls Try.prog 22 #[.pointer (some ⟨b, 0, none⟩), .slice (some ⟨g, 0, none⟩) n c] w fun e w' => e = .returned (.bool true) ∧ w' = w :=
  may_yes b m g n c nm w ((cell_of_row w b 1 cs _ _ hb).trans hm) hn (fun j hj => (cell_of_row w g j ds _ _ hg).trans (hc j hj).1) (fun j hj => (hc j hj).2)
/-- "g" and "a". -/
def sG : ByteArray := { data := #[103] }
def sA : ByteArray := { data := #[97] }
set_option maxRecDepth 100000 in
theorem new_any (w : World) : Calls Try.prog 8 #[] w fun e w' => e = .returned (.pointer (some ⟨w.heap.size + 3, 0, none⟩)) ∧ Kq w [(w.heap.size + 3, .cells #[.map (some w.heap.size), .map (some (w.heap.size + 1)), .map (some (w.heap.size + 2))] 57 (0, 0)), (w.heap.size + 2, .map #[] 0), (w.heap.size + 1, .map #[] 0), (w.heap.size, .map #[] 0)] w' := by
  have h0 : Kq w [] w := ⟨by simp, Below.refl _ _⟩
  have h4 := (((h0.new rfl (.map #[] 0)).new (n := w.heap.size + 1) (by simp) (.map #[] 0)).new (n := w.heap.size + 2) (by simp) (.map #[] 0)).new (n := w.heap.size + 3) (by simp) (.cells #[.map (some w.heap.size), .map (some (w.heap.size + 1)), .map (some (w.heap.size + 2))] 57 (0, 0))
  clear h0
  have hmm := @run_makeMap Try.prog
  go_enter Try.func8, Try.ntmps8
  go_wp2
  go_ret
  exact ⟨rfl, h4⟩
end Go.Proofs.Ytiebggfpjkhlaaa
