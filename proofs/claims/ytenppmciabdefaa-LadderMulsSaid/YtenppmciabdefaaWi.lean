/- The walk of synodref03.From. No condition. -/
import Derived.Test.YtenppmciabdefaaWg
import Derived.Test.YtenppmciabdefaaRb
namespace Go.Proofs.Ytenppmciabdefaa
open Go.RowKit
/-- A Number of the document's answer as a value. -/
def numV (L : List Int) : Value := .agg (L.map (Value.int .i64)).toArray
/-- Two bytes a limb. -/
def limb2 : List Int → List Int
  | x :: y :: l => (x + y * 256) :: limb2 l
  | _ => []
set_option maxRecDepth 100000 in
set_option maxHeartbeats 16000000 in
theorem from_any (B off cap : Nat) (l : List Int) (w : World) (hl : l.length = 32) (hr : RdB w B off l) :
    Calls Try.prog 39 #[.slice (some ⟨B, off, none⟩) 32 cap] w fun e w' =>
      e = .returned (numV (limb2 l)) ∧ Below w.heap.size w w' := by
  obtain ⟨hc, hb⟩ := hr
  obtain ⟨b0, b1, b2, b3, b4, b5, b6, b7, b8, b9, b10, b11, b12, b13, b14, b15, b16, b17, b18, b19, b20, b21, b22, b23, b24, b25, b26, b27, b28, b29, b30, b31, rfl⟩ := list32 hl
  rw [hl] at hc
  have c0 := hc 0 (by omega)
  have hlt : B < w.heap.size := block_lt_of_cell c0
  clear c0
  have HC := Lib.hid hc
  have HB := Lib.hid hb
  clear hc hb hl
  go_enter Try.func39, Try.ntmps39
  go_wp2
  obtain ⟨W0, hW0, hz, hb0, hr0, hr1⟩ := two_new w (.cells #[.int .i64 0, .int .i64 0, .int .i64 0, .int .i64 0, .int .i64 0, .int .i64 0, .int .i64 0, .int .i64 0, .int .i64 0, .int .i64 0, .int .i64 0, .int .i64 0, .int .i64 0, .int .i64 0, .int .i64 0, .int .i64 0] 52) (.cells #[.int .i64 0, .int .i64 0, .int .i64 0, .int .i64 0, .int .i64 0, .int .i64 0, .int .i64 0, .int .i64 0, .int .i64 0, .int .i64 0, .int .i64 0, .int .i64 0, .int .i64 0, .int .i64 0, .int .i64 0, .int .i64 0] 52)
  rw [hW0]
  have HZ := Lib.hid hz
  have hBW : B < W0.heap.size := by omega
  clear hW0 hz
  go_loopw [4] (fun i wr => ∃ k : Nat, k ≤ 16 ∧ i = .int .i64 k ∧ OneBlk W0 (w.heap.size + 1) 52 (([#[.int .i64 0, .int .i64 0, .int .i64 0, .int .i64 0, .int .i64 0, .int .i64 0, .int .i64 0, .int .i64 0, .int .i64 0, .int .i64 0, .int .i64 0, .int .i64 0, .int .i64 0, .int .i64 0, .int .i64 0, .int .i64 0], #[.int .i64 (b0 + b1 * 256), .int .i64 0, .int .i64 0, .int .i64 0, .int .i64 0, .int .i64 0, .int .i64 0, .int .i64 0, .int .i64 0, .int .i64 0, .int .i64 0, .int .i64 0, .int .i64 0, .int .i64 0, .int .i64 0, .int .i64 0], #[.int .i64 (b0 + b1 * 256), .int .i64 (b2 + b3 * 256), .int .i64 0, .int .i64 0, .int .i64 0, .int .i64 0, .int .i64 0, .int .i64 0, .int .i64 0, .int .i64 0, .int .i64 0, .int .i64 0, .int .i64 0, .int .i64 0, .int .i64 0, .int .i64 0], #[.int .i64 (b0 + b1 * 256), .int .i64 (b2 + b3 * 256), .int .i64 (b4 + b5 * 256), .int .i64 0, .int .i64 0, .int .i64 0, .int .i64 0, .int .i64 0, .int .i64 0, .int .i64 0, .int .i64 0, .int .i64 0, .int .i64 0, .int .i64 0, .int .i64 0, .int .i64 0], #[.int .i64 (b0 + b1 * 256), .int .i64 (b2 + b3 * 256), .int .i64 (b4 + b5 * 256), .int .i64 (b6 + b7 * 256), .int .i64 0, .int .i64 0, .int .i64 0, .int .i64 0, .int .i64 0, .int .i64 0, .int .i64 0, .int .i64 0, .int .i64 0, .int .i64 0, .int .i64 0, .int .i64 0], #[.int .i64 (b0 + b1 * 256), .int .i64 (b2 + b3 * 256), .int .i64 (b4 + b5 * 256), .int .i64 (b6 + b7 * 256), .int .i64 (b8 + b9 * 256), .int .i64 0, .int .i64 0, .int .i64 0, .int .i64 0, .int .i64 0, .int .i64 0, .int .i64 0, .int .i64 0, .int .i64 0, .int .i64 0, .int .i64 0], #[.int .i64 (b0 + b1 * 256), .int .i64 (b2 + b3 * 256), .int .i64 (b4 + b5 * 256), .int .i64 (b6 + b7 * 256), .int .i64 (b8 + b9 * 256), .int .i64 (b10 + b11 * 256), .int .i64 0, .int .i64 0, .int .i64 0, .int .i64 0, .int .i64 0, .int .i64 0, .int .i64 0, .int .i64 0, .int .i64 0, .int .i64 0], #[.int .i64 (b0 + b1 * 256), .int .i64 (b2 + b3 * 256), .int .i64 (b4 + b5 * 256), .int .i64 (b6 + b7 * 256), .int .i64 (b8 + b9 * 256), .int .i64 (b10 + b11 * 256), .int .i64 (b12 + b13 * 256), .int .i64 0, .int .i64 0, .int .i64 0, .int .i64 0, .int .i64 0, .int .i64 0, .int .i64 0, .int .i64 0, .int .i64 0], #[.int .i64 (b0 + b1 * 256), .int .i64 (b2 + b3 * 256), .int .i64 (b4 + b5 * 256), .int .i64 (b6 + b7 * 256), .int .i64 (b8 + b9 * 256), .int .i64 (b10 + b11 * 256), .int .i64 (b12 + b13 * 256), .int .i64 (b14 + b15 * 256), .int .i64 0, .int .i64 0, .int .i64 0, .int .i64 0, .int .i64 0, .int .i64 0, .int .i64 0, .int .i64 0], #[.int .i64 (b0 + b1 * 256), .int .i64 (b2 + b3 * 256), .int .i64 (b4 + b5 * 256), .int .i64 (b6 + b7 * 256), .int .i64 (b8 + b9 * 256), .int .i64 (b10 + b11 * 256), .int .i64 (b12 + b13 * 256), .int .i64 (b14 + b15 * 256), .int .i64 (b16 + b17 * 256), .int .i64 0, .int .i64 0, .int .i64 0, .int .i64 0, .int .i64 0, .int .i64 0, .int .i64 0], #[.int .i64 (b0 + b1 * 256), .int .i64 (b2 + b3 * 256), .int .i64 (b4 + b5 * 256), .int .i64 (b6 + b7 * 256), .int .i64 (b8 + b9 * 256), .int .i64 (b10 + b11 * 256), .int .i64 (b12 + b13 * 256), .int .i64 (b14 + b15 * 256), .int .i64 (b16 + b17 * 256), .int .i64 (b18 + b19 * 256), .int .i64 0, .int .i64 0, .int .i64 0, .int .i64 0, .int .i64 0, .int .i64 0], #[.int .i64 (b0 + b1 * 256), .int .i64 (b2 + b3 * 256), .int .i64 (b4 + b5 * 256), .int .i64 (b6 + b7 * 256), .int .i64 (b8 + b9 * 256), .int .i64 (b10 + b11 * 256), .int .i64 (b12 + b13 * 256), .int .i64 (b14 + b15 * 256), .int .i64 (b16 + b17 * 256), .int .i64 (b18 + b19 * 256), .int .i64 (b20 + b21 * 256), .int .i64 0, .int .i64 0, .int .i64 0, .int .i64 0, .int .i64 0], #[.int .i64 (b0 + b1 * 256), .int .i64 (b2 + b3 * 256), .int .i64 (b4 + b5 * 256), .int .i64 (b6 + b7 * 256), .int .i64 (b8 + b9 * 256), .int .i64 (b10 + b11 * 256), .int .i64 (b12 + b13 * 256), .int .i64 (b14 + b15 * 256), .int .i64 (b16 + b17 * 256), .int .i64 (b18 + b19 * 256), .int .i64 (b20 + b21 * 256), .int .i64 (b22 + b23 * 256), .int .i64 0, .int .i64 0, .int .i64 0, .int .i64 0], #[.int .i64 (b0 + b1 * 256), .int .i64 (b2 + b3 * 256), .int .i64 (b4 + b5 * 256), .int .i64 (b6 + b7 * 256), .int .i64 (b8 + b9 * 256), .int .i64 (b10 + b11 * 256), .int .i64 (b12 + b13 * 256), .int .i64 (b14 + b15 * 256), .int .i64 (b16 + b17 * 256), .int .i64 (b18 + b19 * 256), .int .i64 (b20 + b21 * 256), .int .i64 (b22 + b23 * 256), .int .i64 (b24 + b25 * 256), .int .i64 0, .int .i64 0, .int .i64 0], #[.int .i64 (b0 + b1 * 256), .int .i64 (b2 + b3 * 256), .int .i64 (b4 + b5 * 256), .int .i64 (b6 + b7 * 256), .int .i64 (b8 + b9 * 256), .int .i64 (b10 + b11 * 256), .int .i64 (b12 + b13 * 256), .int .i64 (b14 + b15 * 256), .int .i64 (b16 + b17 * 256), .int .i64 (b18 + b19 * 256), .int .i64 (b20 + b21 * 256), .int .i64 (b22 + b23 * 256), .int .i64 (b24 + b25 * 256), .int .i64 (b26 + b27 * 256), .int .i64 0, .int .i64 0], #[.int .i64 (b0 + b1 * 256), .int .i64 (b2 + b3 * 256), .int .i64 (b4 + b5 * 256), .int .i64 (b6 + b7 * 256), .int .i64 (b8 + b9 * 256), .int .i64 (b10 + b11 * 256), .int .i64 (b12 + b13 * 256), .int .i64 (b14 + b15 * 256), .int .i64 (b16 + b17 * 256), .int .i64 (b18 + b19 * 256), .int .i64 (b20 + b21 * 256), .int .i64 (b22 + b23 * 256), .int .i64 (b24 + b25 * 256), .int .i64 (b26 + b27 * 256), .int .i64 (b28 + b29 * 256), .int .i64 0], #[.int .i64 (b0 + b1 * 256), .int .i64 (b2 + b3 * 256), .int .i64 (b4 + b5 * 256), .int .i64 (b6 + b7 * 256), .int .i64 (b8 + b9 * 256), .int .i64 (b10 + b11 * 256), .int .i64 (b12 + b13 * 256), .int .i64 (b14 + b15 * 256), .int .i64 (b16 + b17 * 256), .int .i64 (b18 + b19 * 256), .int .i64 (b20 + b21 * 256), .int .i64 (b22 + b23 * 256), .int .i64 (b24 + b25 * 256), .int .i64 (b26 + b27 * 256), .int .i64 (b28 + b29 * 256), .int .i64 (b30 + b31 * 256)]] : List (Array Value)).getD k #[]) wr) (fun i _ => 16 - (intOf i).toNat)
  case atStart => exact ⟨0, by omega, rfl, OneBlk.start hr1⟩
  case round =>
    obtain ⟨k, hk, rfl, hG⟩ := hrel
    have HCB : ∀ i, i < 32 → wr.cell? ⟨B, off + i, none⟩ = _ := fun i hi => (hG.farCell (by omega)).trans ((hb0.cell (p := ⟨B, off + i, none⟩) hlt).trans (HC.out i hi))
    have HCB := Lib.hid HCB
    rcases (show k = 0 ∨ k = 1 ∨ k = 2 ∨ k = 3 ∨ k = 4 ∨ k = 5 ∨ k = 6 ∨ k = 7 ∨ k = 8 ∨ k = 9 ∨ k = 10 ∨ k = 11 ∨ k = 12 ∨ k = 13 ∨ k = 14 ∨ k = 15 ∨ k = 16 by omega) with rfl | rfl | rfl | rfl | rfl | rfl | rfl | rfl | rfl | rfl | rfl | rfl | rfl | rfl | rfl | rfl | rfl
    · have c : wr.cell? ⟨B, off, none⟩ = some (.int .u8 b0) := HCB.out 0 (by omega)
      have d : wr.cell? ⟨B, off + 1, none⟩ = some (.int .u8 b1) := HCB.out 1 (by omega)
      have g := HB.out b0 (by simp)
      have g' := HB.out b1 (by simp)
      have f : wr.cell? ⟨w.heap.size + 1, 0, none⟩ = some (.int .i64 0) := hG.cell 0
      have f' := hG.free 0
      have HG := Lib.hid hG
      clear HCB hG
      go_wp2; go_region; go_wp2
      go_roundw
      case rel => exact ⟨1, by omega, by go_num, (HG.out.setCell 0 (.int .i64 (b0 + b1 * 256))).drew⟩
      case measure => simp [intOf]
    · have c : wr.cell? ⟨B, off + 2, none⟩ = some (.int .u8 b2) := HCB.out 2 (by omega)
      have d : wr.cell? ⟨B, off + 3, none⟩ = some (.int .u8 b3) := HCB.out 3 (by omega)
      have g := HB.out b2 (by simp)
      have g' := HB.out b3 (by simp)
      have f : wr.cell? ⟨w.heap.size + 1, 1, none⟩ = some (.int .i64 0) := hG.cell 1
      have f' := hG.free 1
      have HG := Lib.hid hG
      clear HCB hG
      go_wp2; go_region; go_wp2
      go_roundw
      case rel => exact ⟨2, by omega, by go_num, (HG.out.setCell 1 (.int .i64 (b2 + b3 * 256))).drew⟩
      case measure => simp [intOf]
    · have c : wr.cell? ⟨B, off + 4, none⟩ = some (.int .u8 b4) := HCB.out 4 (by omega)
      have d : wr.cell? ⟨B, off + 5, none⟩ = some (.int .u8 b5) := HCB.out 5 (by omega)
      have g := HB.out b4 (by simp)
      have g' := HB.out b5 (by simp)
      have f : wr.cell? ⟨w.heap.size + 1, 2, none⟩ = some (.int .i64 0) := hG.cell 2
      have f' := hG.free 2
      have HG := Lib.hid hG
      clear HCB hG
      go_wp2; go_region; go_wp2
      go_roundw
      case rel => exact ⟨3, by omega, by go_num, (HG.out.setCell 2 (.int .i64 (b4 + b5 * 256))).drew⟩
      case measure => simp [intOf]
    · have c : wr.cell? ⟨B, off + 6, none⟩ = some (.int .u8 b6) := HCB.out 6 (by omega)
      have d : wr.cell? ⟨B, off + 7, none⟩ = some (.int .u8 b7) := HCB.out 7 (by omega)
      have g := HB.out b6 (by simp)
      have g' := HB.out b7 (by simp)
      have f : wr.cell? ⟨w.heap.size + 1, 3, none⟩ = some (.int .i64 0) := hG.cell 3
      have f' := hG.free 3
      have HG := Lib.hid hG
      clear HCB hG
      go_wp2; go_region; go_wp2
      go_roundw
      case rel => exact ⟨4, by omega, by go_num, (HG.out.setCell 3 (.int .i64 (b6 + b7 * 256))).drew⟩
      case measure => simp [intOf]
    · have c : wr.cell? ⟨B, off + 8, none⟩ = some (.int .u8 b8) := HCB.out 8 (by omega)
      have d : wr.cell? ⟨B, off + 9, none⟩ = some (.int .u8 b9) := HCB.out 9 (by omega)
      have g := HB.out b8 (by simp)
      have g' := HB.out b9 (by simp)
      have f : wr.cell? ⟨w.heap.size + 1, 4, none⟩ = some (.int .i64 0) := hG.cell 4
      have f' := hG.free 4
      have HG := Lib.hid hG
      clear HCB hG
      go_wp2; go_region; go_wp2
      go_roundw
      case rel => exact ⟨5, by omega, by go_num, (HG.out.setCell 4 (.int .i64 (b8 + b9 * 256))).drew⟩
      case measure => simp [intOf]
    · have c : wr.cell? ⟨B, off + 10, none⟩ = some (.int .u8 b10) := HCB.out 10 (by omega)
      have d : wr.cell? ⟨B, off + 11, none⟩ = some (.int .u8 b11) := HCB.out 11 (by omega)
      have g := HB.out b10 (by simp)
      have g' := HB.out b11 (by simp)
      have f : wr.cell? ⟨w.heap.size + 1, 5, none⟩ = some (.int .i64 0) := hG.cell 5
      have f' := hG.free 5
      have HG := Lib.hid hG
      clear HCB hG
      go_wp2; go_region; go_wp2
      go_roundw
      case rel => exact ⟨6, by omega, by go_num, (HG.out.setCell 5 (.int .i64 (b10 + b11 * 256))).drew⟩
      case measure => simp [intOf]
    · have c : wr.cell? ⟨B, off + 12, none⟩ = some (.int .u8 b12) := HCB.out 12 (by omega)
      have d : wr.cell? ⟨B, off + 13, none⟩ = some (.int .u8 b13) := HCB.out 13 (by omega)
      have g := HB.out b12 (by simp)
      have g' := HB.out b13 (by simp)
      have f : wr.cell? ⟨w.heap.size + 1, 6, none⟩ = some (.int .i64 0) := hG.cell 6
      have f' := hG.free 6
      have HG := Lib.hid hG
      clear HCB hG
      go_wp2; go_region; go_wp2
      go_roundw
      case rel => exact ⟨7, by omega, by go_num, (HG.out.setCell 6 (.int .i64 (b12 + b13 * 256))).drew⟩
      case measure => simp [intOf]
    · have c : wr.cell? ⟨B, off + 14, none⟩ = some (.int .u8 b14) := HCB.out 14 (by omega)
      have d : wr.cell? ⟨B, off + 15, none⟩ = some (.int .u8 b15) := HCB.out 15 (by omega)
      have g := HB.out b14 (by simp)
      have g' := HB.out b15 (by simp)
      have f : wr.cell? ⟨w.heap.size + 1, 7, none⟩ = some (.int .i64 0) := hG.cell 7
      have f' := hG.free 7
      have HG := Lib.hid hG
      clear HCB hG
      go_wp2; go_region; go_wp2
      go_roundw
      case rel => exact ⟨8, by omega, by go_num, (HG.out.setCell 7 (.int .i64 (b14 + b15 * 256))).drew⟩
      case measure => simp [intOf]
    · have c : wr.cell? ⟨B, off + 16, none⟩ = some (.int .u8 b16) := HCB.out 16 (by omega)
      have d : wr.cell? ⟨B, off + 17, none⟩ = some (.int .u8 b17) := HCB.out 17 (by omega)
      have g := HB.out b16 (by simp)
      have g' := HB.out b17 (by simp)
      have f : wr.cell? ⟨w.heap.size + 1, 8, none⟩ = some (.int .i64 0) := hG.cell 8
      have f' := hG.free 8
      have HG := Lib.hid hG
      clear HCB hG
      go_wp2; go_region; go_wp2
      go_roundw
      case rel => exact ⟨9, by omega, by go_num, (HG.out.setCell 8 (.int .i64 (b16 + b17 * 256))).drew⟩
      case measure => simp [intOf]
    · have c : wr.cell? ⟨B, off + 18, none⟩ = some (.int .u8 b18) := HCB.out 18 (by omega)
      have d : wr.cell? ⟨B, off + 19, none⟩ = some (.int .u8 b19) := HCB.out 19 (by omega)
      have g := HB.out b18 (by simp)
      have g' := HB.out b19 (by simp)
      have f : wr.cell? ⟨w.heap.size + 1, 9, none⟩ = some (.int .i64 0) := hG.cell 9
      have f' := hG.free 9
      have HG := Lib.hid hG
      clear HCB hG
      go_wp2; go_region; go_wp2
      go_roundw
      case rel => exact ⟨10, by omega, by go_num, (HG.out.setCell 9 (.int .i64 (b18 + b19 * 256))).drew⟩
      case measure => simp [intOf]
    · have c : wr.cell? ⟨B, off + 20, none⟩ = some (.int .u8 b20) := HCB.out 20 (by omega)
      have d : wr.cell? ⟨B, off + 21, none⟩ = some (.int .u8 b21) := HCB.out 21 (by omega)
      have g := HB.out b20 (by simp)
      have g' := HB.out b21 (by simp)
      have f : wr.cell? ⟨w.heap.size + 1, 10, none⟩ = some (.int .i64 0) := hG.cell 10
      have f' := hG.free 10
      have HG := Lib.hid hG
      clear HCB hG
      go_wp2; go_region; go_wp2
      go_roundw
      case rel => exact ⟨11, by omega, by go_num, (HG.out.setCell 10 (.int .i64 (b20 + b21 * 256))).drew⟩
      case measure => simp [intOf]
    · have c : wr.cell? ⟨B, off + 22, none⟩ = some (.int .u8 b22) := HCB.out 22 (by omega)
      have d : wr.cell? ⟨B, off + 23, none⟩ = some (.int .u8 b23) := HCB.out 23 (by omega)
      have g := HB.out b22 (by simp)
      have g' := HB.out b23 (by simp)
      have f : wr.cell? ⟨w.heap.size + 1, 11, none⟩ = some (.int .i64 0) := hG.cell 11
      have f' := hG.free 11
      have HG := Lib.hid hG
      clear HCB hG
      go_wp2; go_region; go_wp2
      go_roundw
      case rel => exact ⟨12, by omega, by go_num, (HG.out.setCell 11 (.int .i64 (b22 + b23 * 256))).drew⟩
      case measure => simp [intOf]
    · have c : wr.cell? ⟨B, off + 24, none⟩ = some (.int .u8 b24) := HCB.out 24 (by omega)
      have d : wr.cell? ⟨B, off + 25, none⟩ = some (.int .u8 b25) := HCB.out 25 (by omega)
      have g := HB.out b24 (by simp)
      have g' := HB.out b25 (by simp)
      have f : wr.cell? ⟨w.heap.size + 1, 12, none⟩ = some (.int .i64 0) := hG.cell 12
      have f' := hG.free 12
      have HG := Lib.hid hG
      clear HCB hG
      go_wp2; go_region; go_wp2
      go_roundw
      case rel => exact ⟨13, by omega, by go_num, (HG.out.setCell 12 (.int .i64 (b24 + b25 * 256))).drew⟩
      case measure => simp [intOf]
    · have c : wr.cell? ⟨B, off + 26, none⟩ = some (.int .u8 b26) := HCB.out 26 (by omega)
      have d : wr.cell? ⟨B, off + 27, none⟩ = some (.int .u8 b27) := HCB.out 27 (by omega)
      have g := HB.out b26 (by simp)
      have g' := HB.out b27 (by simp)
      have f : wr.cell? ⟨w.heap.size + 1, 13, none⟩ = some (.int .i64 0) := hG.cell 13
      have f' := hG.free 13
      have HG := Lib.hid hG
      clear HCB hG
      go_wp2; go_region; go_wp2
      go_roundw
      case rel => exact ⟨14, by omega, by go_num, (HG.out.setCell 13 (.int .i64 (b26 + b27 * 256))).drew⟩
      case measure => simp [intOf]
    · have c : wr.cell? ⟨B, off + 28, none⟩ = some (.int .u8 b28) := HCB.out 28 (by omega)
      have d : wr.cell? ⟨B, off + 29, none⟩ = some (.int .u8 b29) := HCB.out 29 (by omega)
      have g := HB.out b28 (by simp)
      have g' := HB.out b29 (by simp)
      have f : wr.cell? ⟨w.heap.size + 1, 14, none⟩ = some (.int .i64 0) := hG.cell 14
      have f' := hG.free 14
      have HG := Lib.hid hG
      clear HCB hG
      go_wp2; go_region; go_wp2
      go_roundw
      case rel => exact ⟨15, by omega, by go_num, (HG.out.setCell 14 (.int .i64 (b28 + b29 * 256))).drew⟩
      case measure => simp [intOf]
    · have c : wr.cell? ⟨B, off + 30, none⟩ = some (.int .u8 b30) := HCB.out 30 (by omega)
      have d : wr.cell? ⟨B, off + 31, none⟩ = some (.int .u8 b31) := HCB.out 31 (by omega)
      have g := HB.out b30 (by simp)
      have g' := HB.out b31 (by simp)
      have f : wr.cell? ⟨w.heap.size + 1, 15, none⟩ = some (.int .i64 0) := hG.cell 15
      have f' := hG.free 15
      have HG := Lib.hid hG
      clear HCB hG
      go_wp2; go_region; go_wp2
      go_roundw
      case rel => exact ⟨16, by omega, by go_num, (HG.out.setCell 15 (.int .i64 (b30 + b31 * 256))).drew⟩
      case measure => simp [intOf]
    · have hF : wr.heap[w.heap.size + 1]? = some (.cells #[.int .i64 (b0 + b1 * 256), .int .i64 (b2 + b3 * 256), .int .i64 (b4 + b5 * 256), .int .i64 (b6 + b7 * 256), .int .i64 (b8 + b9 * 256), .int .i64 (b10 + b11 * 256), .int .i64 (b12 + b13 * 256), .int .i64 (b14 + b15 * 256), .int .i64 (b16 + b17 * 256), .int .i64 (b18 + b19 * 256), .int .i64 (b20 + b21 * 256), .int .i64 (b22 + b23 * 256), .int .i64 (b24 + b25 * 256), .int .i64 (b26 + b27 * 256), .int .i64 (b28 + b29 * 256), .int .i64 (b30 + b31 * 256)] 52 (0, 0)) := hG.blk
      have hR := hG.far (i := w.heap.size) (by omega) hr0
      go_wp2_with (first | (refine wpList_load_row rfl 52 _ rfl (w.heap.size + 1) rfl _ _ _ _ hF Try.underlying52 rfl (by kernel_rfl) ?_) | (refine wpList_store_row rfl 52 (.tmp 2) (.tmp 27) rfl w.heap.size #[.int .i64 (b0 + b1 * 256), .int .i64 (b2 + b3 * 256), .int .i64 (b4 + b5 * 256), .int .i64 (b6 + b7 * 256), .int .i64 (b8 + b9 * 256), .int .i64 (b10 + b11 * 256), .int .i64 (b12 + b13 * 256), .int .i64 (b14 + b15 * 256), .int .i64 (b16 + b17 * 256), .int .i64 (b18 + b19 * 256), .int .i64 (b20 + b21 * 256), .int .i64 (b22 + b23 * 256), .int .i64 (b24 + b25 * 256), .int .i64 (b26 + b27 * 256), .int .i64 (b28 + b29 * 256), .int .i64 (b30 + b31 * 256)] rfl rfl 52 _ hR (by kernel_rfl) (by kernel_rfl) (by kernel_rfl) ?_))
      refine ret_cell rfl w.heap.size _ _ _ _ rfl (setRow_self hR _) Try.underlying52 rfl (by kernel_rfl) rfl ?_
      exact ⟨rfl, below_setRow (hG.below hb0 (by omega)) (Nat.le_refl _) _⟩
end Go.Proofs.Ytenppmciabdefaa
