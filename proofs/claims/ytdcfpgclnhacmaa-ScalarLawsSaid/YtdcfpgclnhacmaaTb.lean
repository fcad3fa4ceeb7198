/- The walk of synodref04.less. No condition. -/
import Derived.Test.YtdcfpgclnhacmaaTa
import Derived.Deep.QuietTactic
namespace Go.Proofs.Ytdcfpgclnhacmaa
open Go Go.RowKit
def arrI (L : List Int) : Array Value := (L.map (Value.int .i64)).toArray
theorem arrI_at (L : List Int) (j : Nat) (h : j < L.length) : (arrI L)[j]? = some (.int .i64 (L.getD j 0)) := by simp [arrI, h]
theorem arrI_set (L : List Int) (j : Nat) (x : Int) : (arrI L).setIfInBounds j (.int .i64 x) = arrI (L.set j x) := by simp [arrI, List.map_set]
theorem Is.of_block {w : World} {g n : Nat} {L : List Int} {t : TypeId} {fr : Nat × Nat} (h : w.heap[g]? = some (.cells (arrI L) t fr)) (hl : L.length = n) : Is w (some ⟨g, 0, none⟩) n L :=
  ⟨hl, fun _ => ⟨g, 0, rfl, fun i hi => by rw [cell_of_row w g (0 + i) _ _ _ h, Nat.zero_add]; exact arrI_at _ _ (by omega)⟩⟩
def Z34 : Array Value := #[.int .i64 0, .int .i64 0, .int .i64 0, .int .i64 0, .int .i64 0, .int .i64 0, .int .i64 0, .int .i64 0, .int .i64 0, .int .i64 0, .int .i64 0, .int .i64 0, .int .i64 0, .int .i64 0, .int .i64 0, .int .i64 0, .int .i64 0, .int .i64 0, .int .i64 0, .int .i64 0, .int .i64 0, .int .i64 0, .int .i64 0, .int .i64 0, .int .i64 0, .int .i64 0, .int .i64 0, .int .i64 0, .int .i64 0, .int .i64 0, .int .i64 0, .int .i64 0, .int .i64 0, .int .i64 0]
theorem d34_zero : arrI (d34 0) = Z34 := by
  rw [show d34 0 = [0, 0, 0, 0, 0, 0, 0, 0, 0, 0, 0, 0, 0, 0, 0, 0, 0, 0, 0, 0, 0, 0, 0, 0, 0, 0, 0, 0, 0, 0, 0, 0, 0, 0] from by decide +kernel]; rfl
theorem make34 (w : World) : (Instr.makeSlice 47 (.int .i64 34) (.int .i64 34)).run Try.prog w = .ok (.slice (some ⟨w.heap.size, 0, none⟩) 34 34) (w.alloc (.cells Z34 3)) := by kernel_rfl
theorem d34_at (V : Int) (k : Nat) (hk : k < 34) : (d34 V).getD k 0 = V / 256 ^ k % 256 := dg_at (by omega) 34 V k hk
theorem d34_in (V : Int) (k : Nat) : 0 ≤ (d34 V).getD k 0 ∧ (d34 V).getD k 0 < 256 := dg_in (by omega) 34 V k
theorem less_step (A B : Int) (k : Nat) (hk : k < 34) :
    (arrI (mix (d34 (A - B)) (d34 0) k)).setIfInBounds k (.int .i64 (((d34 A).getD k 0 - (d34 B).getD k 0 - brw 256 A B k) % 256)) = arrI (mix (d34 (A - B)) (d34 0) (k + 1)) ∧
    -(((d34 A).getD k 0 - (d34 B).getD k 0 - brw 256 A B k) / 256) = brw 256 A B (k + 1) := by
  rw [d34_at A k hk, d34_at B k hk]
  refine ⟨?_, brw_next (by omega) A B k⟩
  rw [brw_out (by omega) A B k, ← d34_at (A - B) k hk, arrI_set, mix_set _ _ _ (by rw [d34_length, d34_length]) (by rw [d34_length]; exact hk)]
set_option maxRecDepth 100000 in
set_option maxHeartbeats 4000000 in
theorem less_any (pa pb : Option Addr) (ca cb : Nat) (A B : Int) (w : World) (ha : Is w pa 34 (d34 A)) (hb : Is w pb 34 (d34 B)) (hA : 0 ≤ A ∧ A < 256 ^ 34) (hB : 0 ≤ B ∧ B < 256 ^ 34) :
    Calls Try.prog 32 #[.slice pa 34 ca, .slice pb 34 cb] w fun e w' => ∃ g, e = .returned (.tuple #[.slice (some ⟨g, 0, none⟩) 34 34, .bool (decide (B ≤ A))]) ∧ w.heap.size ≤ g ∧ w'.heap[g]? = some (.cells (arrI (d34 (A - B))) 3 (0, 0)) ∧ Below w.heap.size w w' := by
  have HF := Lib.hid (brw_all (β := 256) (by omega) A B 34 hA hB)
  obtain ⟨Ba, oa, rfl, hca⟩ := ha.2 (by omega)
  obtain ⟨Bb, ob, rfl, hcb⟩ := hb.2 (by omega)
  have HCA := Lib.hid hca
  have HCB := Lib.hid hcb
  clear hca hcb ha hb hA hB
  have hmk := make34
  go_enter Try.func32, Try.ntmps32
  go_wp2
  obtain ⟨W0, hW0, hz, hb0, q0⟩ := one_new w (.cells (arrI (mix (d34 (A - B)) (d34 0) 0)) 3)
  rw [show Obj.cells Z34 3 = .cells (arrI (mix (d34 (A - B)) (d34 0) 0)) 3 from by rw [mix_zero, d34_zero], hW0]
  have HZ := Lib.hid hz
  clear hW0 hz hmk
  go_loopw [7, 8] (fun c i wr => ∃ k : Nat, k ≤ 34 ∧ i = .int .i64 k ∧ c = .int .i64 (brw 256 A B k) ∧ OneBlk W0 w.heap.size 3 (arrI (mix (d34 (A - B)) (d34 0) k)) wr) (fun _ i _ => 34 - (intOf i).toNat)
  case atStart => exact ⟨0, by omega, rfl, by rw [brw_zero], OneBlk.start q0⟩
  case round =>
    obtain ⟨k, hk, rfl, rfl, hI⟩ := hrel
    by_cases hlt : k < 34
    · have hdl : decide ((k : Int) < 34) = true := by simp; omega
      obtain ⟨s1, s2⟩ := less_step A B k hlt
      have hbel := hI.below hb0 (Nat.le_refl _)
      have ca : wr.cell? ⟨Ba, oa + k, none⟩ = some (.int .i64 ((d34 A).getD k 0)) := by
        have h1 := HCA.out k hlt
        rw [hbel.cell (p := ⟨Ba, oa + k, none⟩) (World.block_lt_of_cell? w _ h1)]
        exact h1
      have cb : wr.cell? ⟨Bb, ob + k, none⟩ = some (.int .i64 ((d34 B).getD k 0)) := by
        have h1 := HCB.out k hlt
        rw [hbel.cell (p := ⟨Bb, ob + k, none⟩) (World.block_lt_of_cell? w _ h1)]
        exact h1
      have xa := d34_in A k
      have xb := d34_in B k
      have xc := brw_in (β := 256) (by omega) A B k
      have cd := (hI.drew.cell k).trans (arrI_at _ _ (by rw [mix_length _ _ _ (by rw [d34_length, d34_length]) (by rw [d34_length]; omega), d34_length]; exact hlt))
      have fd := hI.drew.free k
      have HI := Lib.hid hI
      generalize (d34 A).getD k 0 = x at *
      generalize (d34 B).getD k 0 = y at *
      generalize (mix (d34 (A - B)) (d34 0) k).getD k 0 = z at *
      generalize brw 256 A B k = c at *
      have h0 : (0 : Int) ≤ (k : Int) := by omega
      have h34 : (k : Int) < 34 := by omega
      by_cases hneg : x - y - c < 0
      · have hd : decide (x - y - c < 0) = true := by simpa using hneg
        rw [show (x - y - c) % 256 = x - y - c + 256 by omega] at s1
        rw [show -((x - y - c) / 256) = 1 by omega] at s2
        have S1 := Lib.hid s1
        have S2 := Lib.hid s2
        clear s1 s2 hI
        go_wp2
        go_region
        go_wp2
        go_roundw
        case rel => exact ⟨k + 1, by omega, by go_num, by rw [← S2.out], by rw [← S1.out]; exact HI.out.drew.setCell _ _⟩
        case measure => simp [intOf]; omega
      · have hd : decide (x - y - c < 0) = false := by simpa using hneg
        rw [show (x - y - c) % 256 = x - y - c by omega] at s1
        rw [show -((x - y - c) / 256) = 0 by omega] at s2
        have S1 := Lib.hid s1
        have S2 := Lib.hid s2
        clear s1 s2 hI
        go_wp2
        go_region
        go_wp2
        go_roundw
        case rel => exact ⟨k + 1, by omega, by go_num, by rw [← S2.out], by rw [← S1.out]; exact HI.out.drew.setCell _ _⟩
        case measure => simp [intOf]; omega
    · obtain rfl : k = 34 := by omega
      have hdl : decide ((34 : Int) < 34) = false := rfl
      have hlk : mix (d34 (A - B)) (d34 0) 34 = d34 (A - B) := by
        have := mix_all (d34 (A - B)) (d34 0) (by rw [d34_length, d34_length])
        rwa [d34_length] at this
      rw [hlk] at hI
      have hA := hI.blk
      have hbel := hI.below hb0 (Nat.le_refl _)
      clear hI hlk
      generalize hc : brw 256 A B 34 = c at *
      have HC := Lib.hid hc
      clear hc
      go_wp2
      go_ret2
      exact ⟨_, by rw [← HF.out]; rfl, Nat.le_refl _, hA, hbel⟩
end Go.Proofs.Ytdcfpgclnhacmaa
