/- Is a name among a group's subscribers? No condition. -/
import Derived.Test.YtiebggfpjkhlaaaYd
import Derived.Laws.StructEq
namespace Go.Proofs.Ytiebggfpjkhlaaa
open Go Go.RowKit
set_option linter.unusedSimpArgs false
set_option maxRecDepth 100000 in
set_option maxHeartbeats 4000000 in
theorem idx_name (g c k : Nat) (nm : Nat → ByteArray) (s : ByteArray) (W : World) (hk : k ≤ 100) (hc : ∀ j, j < k → W.cell? ⟨g, j, none⟩ = some (.string (nm j))) :
    Calls Try.prog 39 #[.slice (some ⟨g, 0, none⟩) k c, .string s] W fun e W' => W' = W ∧ (((∀ j, j < k → nm j ≠ s) ∧ e = .returned (.int .i64 (-1))) ∨ ∃ j : Nat, j < k ∧ nm j = s ∧ e = .returned (.int .i64 j)) := by
  have HC := Lib.hid hc
  clear hc
  go_enter Try.func39, Try.ntmps39
  go_wp2_with fail
  go_loopw [8] (fun i wr => ∃ j : Nat, j ≤ k ∧ i = .int .i64 j ∧ wr = W ∧ Hid (∀ i, i < j → nm i ≠ s)) (fun i _ => (k - intOf i).toNat)
  case atStart => exact ⟨0, by omega, rfl, rfl, Lib.hid fun i hi => by omega⟩
  case round =>
    obtain ⟨j, hj, rfl, rfl, hz⟩ := hrel
    by_cases hlt : j < k
    · have hcell := HC.out j hlt
      have hl : decide ((j : Int) < (k : Int)) = true := by simp; omega
      by_cases he : nm j = s
      · have HE := Lib.hid he
        have hb : (s.toList == (nm j).toList) = true := by
          rw [← beq_toListBytes]
          exact (MapKept.bytes_beq _ _).2 he.symm
        clear he
        generalize nm j = t at hcell hb
        go_wp2_with fail
        go_ret
        exact ⟨rfl, .inr ⟨j, hlt, HE.out, rfl⟩⟩
      · have HE := Lib.hid he
        have hb : (s.toList == (nm j).toList) = false := by
          rw [← beq_toListBytes]
          cases h : (s == nm j) with
          | false => rfl
          | true => exact absurd ((MapKept.bytes_beq _ _).1 h).symm he
        have HN : Hid (∀ i, i < j + 1 → nm i ≠ s) := Lib.hid fun i hi => by
          by_cases h5 : i = j
          · rw [h5]; exact HE.out
          · exact hz.out i (by omega)
        clear he hz HE
        generalize nm j = t at hcell hb
        go_wp2_with fail
        go_roundw
        case rel => exact ⟨j + 1, by omega, rfl, by trivial, HN⟩
        case measure => simp [intOf]; omega
    · obtain rfl : j = k := by omega
      have hl : decide ((j : Int) < (j : Int)) = false := by simp
      go_wp2_with fail
      go_ret
      exact ⟨rfl, .inl ⟨hz.out, rfl⟩⟩
end Go.Proofs.Ytiebggfpjkhlaaa
