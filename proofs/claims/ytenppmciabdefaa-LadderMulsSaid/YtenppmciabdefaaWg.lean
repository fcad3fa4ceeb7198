/- The walk of field.get. No condition. -/
import Derived.Test.YtenppmciabdefaaWe
import Derived.Test.YtenppmciabdefaaPd
namespace Go.Proofs.Ytenppmciabdefaa
open Go.RowKit
/-- A slice's cells read as these bytes. -/
def RdB (w : World) (B off : Nat) (l : List Int) : Prop := (∀ i, i < l.length → w.cell? ⟨B, off + i, none⟩ = some (.int .u8 (l.getD i 0))) ∧ ∀ x ∈ l, 0 ≤ x ∧ x < 256
/-- The words when k bytes are read. -/
def GetRel (w : World) (T : List (List Int)) (k : Nat) (wr : World) : Prop :=
  wr.heap.size = w.heap.size + 2 ∧ Below w.heap.size w wr ∧ wr.heap[w.heap.size]? = some (.cells #[.int .u64 0, .int .u64 0, .int .u64 0, .int .u64 0, .int .u64 0] 44 (0, 0)) ∧
    wr.heap[w.heap.size + 1]? = some (.cells ((T.getD k []).map (Value.int .u64)).toArray 101 (0, 0))
theorem getRel_start (w : World) (T : List (List Int)) (hT : T.getD 0 [] = [0, 0, 0, 0]) :
    GetRel w T 0 ((w.alloc (.cells #[.int .u64 0, .int .u64 0, .int .u64 0, .int .u64 0, .int .u64 0] 44)).alloc (.cells #[.int .u64 0, .int .u64 0, .int .u64 0, .int .u64 0] 101)) := by
  refine ⟨by rw [size_at, size_at], ((Below.refl _ _).alloc (Nat.le_refl _) _).alloc (by rw [size_at]; omega) _, ?_, ?_⟩
  · rw [heap_at, size_at, if_neg (by omega), heap_at, if_pos rfl]
  · rw [heap_at, size_at, if_pos rfl, hT]; rfl
theorem getRel_step {w : World} {T : List (List Int)} {k : Nat} {wr : World} (j : Nat) (v : Int) (h : GetRel w T k wr) (hT : T.getD (k + 1) [] = (T.getD k []).set j v) :
    GetRel w T (k + 1) (wr.setCell ⟨w.heap.size + 1, j, none⟩ (.int .u64 v)).drew := by
  obtain ⟨h1, h2, h3, h4⟩ := h
  refine ⟨by show (World.setCell _ _ _).heap.size = _; simp [World.setCell, h1], (h2.setCell (by show w.heap.size ≤ w.heap.size + 1; omega) _).drew, ?_, ?_⟩
  · show (World.setCell _ _ _).heap[_]? = _
    rw [Below.heap_setCell _ _ _ _ (by show w.heap.size ≠ w.heap.size + 1; omega)]
    exact h3
  · show (World.setCell _ _ _).heap[_]? = _
    rw [hT]
    simp only [World.setCell, Array.getElem?_modify, if_true, h4, Option.map_some]
    simp [List.map_set]
set_option maxRecDepth 100000 in
set_option maxHeartbeats 16000000 in
theorem get_any (B off cap : Nat) (l : List Int) (w : World) (_hcap : 32 ≤ cap) (hl : l.length = 32) (hr : RdB w B off l) :
    Calls Try.prog 67 #[.slice (some ⟨B, off, none⟩) 32 cap] w fun e w' =>
      ∃ z0 z1 z2 z3 z4, e = .returned (.agg #[.int .u64 z0, .int .u64 z1, .int .u64 z2, .int .u64 z3, .int .u64 z4]) ∧ Red z0 z1 z2 z3 z4 (valB l) ∧ Below w.heap.size w w' := by
  obtain ⟨hc, hb⟩ := hr
  obtain ⟨b0, b1, b2, b3, b4, b5, b6, b7, b8, b9, b10, b11, b12, b13, b14, b15, b16, b17, b18, b19, b20, b21, b22, b23, b24, b25, b26, b27, b28, b29, b30, b31, rfl⟩ := list32 hl
  rw [hl] at hc
  have hv := valB_words b0 b1 b2 b3 b4 b5 b6 b7 b8 b9 b10 b11 b12 b13 b14 b15 b16 b17 b18 b19 b20 b21 b22 b23 b24 b25 b26 b27 b28 b29 b30 b31
  generalize valB _ = NV at hv ⊢
  have c0 := hc 0 (by omega)
  simp only [List.getD_eq_getElem?_getD, List.getElem?_cons_zero, Option.getD_some, Nat.add_zero] at c0
  have eB : w.heap.size ≠ B := by have := block_lt_of_cell c0; exact Nat.ne_of_gt this
  have hlt := block_lt_of_cell c0
  have hal : ∀ o1 o2 i, ((w.alloc o1).alloc o2).cell? ⟨B, i, none⟩ = w.cell? ⟨B, i, none⟩ := fun o1 o2 i =>
    (((Below.refl w.heap.size w).alloc (Nat.le_refl _) o1).alloc (by rw [size_at]; omega) o2).cell (p := ⟨B, i, none⟩) hlt
  clear c0
  obtain ⟨p1, p2, p3, p4, p5, p6, p7, e0, e1, e2, e3, e4, e5, e6, e7, y0⟩ := word8s b0 b1 b2 b3 b4 b5 b6 b7 (hb _ (by simp)) (hb _ (by simp)) (hb _ (by simp)) (hb _ (by simp)) (hb _ (by simp)) (hb _ (by simp)) (hb _ (by simp)) (hb _ (by simp))
  have E0 := Lib.hid e0
  have E1 := Lib.hid e1
  have E2 := Lib.hid e2
  have E3 := Lib.hid e3
  have E4 := Lib.hid e4
  have E5 := Lib.hid e5
  have E6 := Lib.hid e6
  have E7 := Lib.hid e7
  clear e0 e1 e2 e3 e4 e5 e6 e7
  have i0 : 0 ≤ p7 ∧ p7 < 18446744073709551616 := by have := hb b0 (by simp); have := hb b1 (by simp); have := hb b2 (by simp); have := hb b3 (by simp); have := hb b4 (by simp); have := hb b5 (by simp); have := hb b6 (by simp); have := hb b7 (by simp); rw [y0]; omega
  have Y0 := Lib.hid y0
  clear y0
  obtain ⟨p9, p10, p11, p12, p13, p14, p15, e8, e9, e10, e11, e12, e13, e14, e15, y1⟩ := word8s b8 b9 b10 b11 b12 b13 b14 b15 (hb _ (by simp)) (hb _ (by simp)) (hb _ (by simp)) (hb _ (by simp)) (hb _ (by simp)) (hb _ (by simp)) (hb _ (by simp)) (hb _ (by simp))
  have E8 := Lib.hid e8
  have E9 := Lib.hid e9
  have E10 := Lib.hid e10
  have E11 := Lib.hid e11
  have E12 := Lib.hid e12
  have E13 := Lib.hid e13
  have E14 := Lib.hid e14
  have E15 := Lib.hid e15
  clear e8 e9 e10 e11 e12 e13 e14 e15
  have i1 : 0 ≤ p15 ∧ p15 < 18446744073709551616 := by have := hb b8 (by simp); have := hb b9 (by simp); have := hb b10 (by simp); have := hb b11 (by simp); have := hb b12 (by simp); have := hb b13 (by simp); have := hb b14 (by simp); have := hb b15 (by simp); rw [y1]; omega
  have Y1 := Lib.hid y1
  clear y1
  obtain ⟨p17, p18, p19, p20, p21, p22, p23, e16, e17, e18, e19, e20, e21, e22, e23, y2⟩ := word8s b16 b17 b18 b19 b20 b21 b22 b23 (hb _ (by simp)) (hb _ (by simp)) (hb _ (by simp)) (hb _ (by simp)) (hb _ (by simp)) (hb _ (by simp)) (hb _ (by simp)) (hb _ (by simp))
  have E16 := Lib.hid e16
  have E17 := Lib.hid e17
  have E18 := Lib.hid e18
  have E19 := Lib.hid e19
  have E20 := Lib.hid e20
  have E21 := Lib.hid e21
  have E22 := Lib.hid e22
  have E23 := Lib.hid e23
  clear e16 e17 e18 e19 e20 e21 e22 e23
  have i2 : 0 ≤ p23 ∧ p23 < 18446744073709551616 := by have := hb b16 (by simp); have := hb b17 (by simp); have := hb b18 (by simp); have := hb b19 (by simp); have := hb b20 (by simp); have := hb b21 (by simp); have := hb b22 (by simp); have := hb b23 (by simp); rw [y2]; omega
  have Y2 := Lib.hid y2
  clear y2
  obtain ⟨p25, p26, p27, p28, p29, p30, p31, e24, e25, e26, e27, e28, e29, e30, e31, y3⟩ := word8s b24 b25 b26 b27 b28 b29 b30 b31 (hb _ (by simp)) (hb _ (by simp)) (hb _ (by simp)) (hb _ (by simp)) (hb _ (by simp)) (hb _ (by simp)) (hb _ (by simp)) (hb _ (by simp))
  have E24 := Lib.hid e24
  have E25 := Lib.hid e25
  have E26 := Lib.hid e26
  have E27 := Lib.hid e27
  have E28 := Lib.hid e28
  have E29 := Lib.hid e29
  have E30 := Lib.hid e30
  have E31 := Lib.hid e31
  clear e24 e25 e26 e27 e28 e29 e30 e31
  have i3 : 0 ≤ p31 ∧ p31 < 18446744073709551616 := by have := hb b24 (by simp); have := hb b25 (by simp); have := hb b26 (by simp); have := hb b27 (by simp); have := hb b28 (by simp); have := hb b29 (by simp); have := hb b30 (by simp); have := hb b31 (by simp); rw [y3]; omega
  have Y3 := Lib.hid y3
  clear y3
  have HC := Lib.hid hc
  have HB := Lib.hid hb
  clear hc hb hl
  obtain ⟨V1, V2, V3, v1, v2, v3, hV⟩ := limbs_fact p7 p15 p23 p31 i0 i1 i2 i3
  have HV := Lib.hid hV
  have HN := Lib.hid hv
  clear hV hv
  go_enter Try.func67, Try.ntmps67
  go_wp2
  go_loopw [6] (fun i wr => ∃ k : Nat, k ≤ 32 ∧ i = .int .i64 k ∧ GetRel w [[0, 0, 0, 0], [b0, 0, 0, 0], [p1, 0, 0, 0], [p2, 0, 0, 0], [p3, 0, 0, 0], [p4, 0, 0, 0], [p5, 0, 0, 0], [p6, 0, 0, 0], [p7, 0, 0, 0], [p7, b8, 0, 0], [p7, p9, 0, 0], [p7, p10, 0, 0], [p7, p11, 0, 0], [p7, p12, 0, 0], [p7, p13, 0, 0], [p7, p14, 0, 0], [p7, p15, 0, 0], [p7, p15, b16, 0], [p7, p15, p17, 0], [p7, p15, p18, 0], [p7, p15, p19, 0], [p7, p15, p20, 0], [p7, p15, p21, 0], [p7, p15, p22, 0], [p7, p15, p23, 0], [p7, p15, p23, b24], [p7, p15, p23, p25], [p7, p15, p23, p26], [p7, p15, p23, p27], [p7, p15, p23, p28], [p7, p15, p23, p29], [p7, p15, p23, p30], [p7, p15, p23, p31]] k wr) (fun i _ => 32 - (intOf i).toNat)
  case atStart => exact ⟨0, by omega, rfl, getRel_start w _ rfl⟩
  case round =>
    obtain ⟨k, hk, rfl, hG⟩ := hrel
    obtain ⟨hs, hbel, hr0, hr1⟩ := id hG
    have HCB := fun i hi => (hbel.cell (p := ⟨B, off + i, none⟩) hlt).trans (HC.out i hi)
    have HCB := Lib.hid HCB
    rcases (show k = 0 ∨ k = 1 ∨ k = 2 ∨ k = 3 ∨ k = 4 ∨ k = 5 ∨ k = 6 ∨ k = 7 ∨ k = 8 ∨ k = 9 ∨ k = 10 ∨ k = 11 ∨ k = 12 ∨ k = 13 ∨ k = 14 ∨ k = 15 ∨ k = 16 ∨ k = 17 ∨ k = 18 ∨ k = 19 ∨ k = 20 ∨ k = 21 ∨ k = 22 ∨ k = 23 ∨ k = 24 ∨ k = 25 ∨ k = 26 ∨ k = 27 ∨ k = 28 ∨ k = 29 ∨ k = 30 ∨ k = 31 ∨ k = 32 by omega) with rfl | rfl | rfl | rfl | rfl | rfl | rfl | rfl | rfl | rfl | rfl | rfl | rfl | rfl | rfl | rfl | rfl | rfl | rfl | rfl | rfl | rfl | rfl | rfl | rfl | rfl | rfl | rfl | rfl | rfl | rfl | rfl | rfl
    · have c := HCB.out 0 (by omega)
      have g := HB.out b0 (by simp)
      have e := E0.out
      have d : wr.cell? ⟨w.heap.size + 1, 0, none⟩ = some (.int .u64 0) := (cell_of_row wr _ 0 _ _ _ hr1).trans rfl
      have f : wr.frozen? ⟨w.heap.size + 1, 0, none⟩ = false := by simp [World.frozen?, hr1]
      replace c : wr.cell? ⟨B, off, none⟩ = some (.int .u8 b0) := c
      have HG := Lib.hid hG
      clear hr0 hr1 hG hbel HCB
      go_wp2; go_region; go_wp2
      go_roundw
      case rel => exact ⟨1, by omega, by go_num, getRel_step 0 b0 HG.out rfl⟩
      case measure => simp [intOf]
    · have c := HCB.out 1 (by omega)
      have g := HB.out b1 (by simp)
      have e := E1.out
      have d : wr.cell? ⟨w.heap.size + 1, 0, none⟩ = some (.int .u64 b0) := (cell_of_row wr _ 0 _ _ _ hr1).trans rfl
      have f : wr.frozen? ⟨w.heap.size + 1, 0, none⟩ = false := by simp [World.frozen?, hr1]
      replace c : wr.cell? ⟨B, off + 1, none⟩ = some (.int .u8 b1) := c
      have HG := Lib.hid hG
      clear hr0 hr1 hG hbel HCB
      go_wp2; go_region; go_wp2
      go_roundw
      case rel => exact ⟨2, by omega, by go_num, getRel_step 0 p1 HG.out rfl⟩
      case measure => simp [intOf]
    · have c := HCB.out 2 (by omega)
      have g := HB.out b2 (by simp)
      have e := E2.out
      have d : wr.cell? ⟨w.heap.size + 1, 0, none⟩ = some (.int .u64 p1) := (cell_of_row wr _ 0 _ _ _ hr1).trans rfl
      have f : wr.frozen? ⟨w.heap.size + 1, 0, none⟩ = false := by simp [World.frozen?, hr1]
      replace c : wr.cell? ⟨B, off + 2, none⟩ = some (.int .u8 b2) := c
      have HG := Lib.hid hG
      clear hr0 hr1 hG hbel HCB
      go_wp2; go_region; go_wp2
      go_roundw
      case rel => exact ⟨3, by omega, by go_num, getRel_step 0 p2 HG.out rfl⟩
      case measure => simp [intOf]
    · have c := HCB.out 3 (by omega)
      have g := HB.out b3 (by simp)
      have e := E3.out
      have d : wr.cell? ⟨w.heap.size + 1, 0, none⟩ = some (.int .u64 p2) := (cell_of_row wr _ 0 _ _ _ hr1).trans rfl
      have f : wr.frozen? ⟨w.heap.size + 1, 0, none⟩ = false := by simp [World.frozen?, hr1]
      replace c : wr.cell? ⟨B, off + 3, none⟩ = some (.int .u8 b3) := c
      have HG := Lib.hid hG
      clear hr0 hr1 hG hbel HCB
      go_wp2; go_region; go_wp2
      go_roundw
      case rel => exact ⟨4, by omega, by go_num, getRel_step 0 p3 HG.out rfl⟩
      case measure => simp [intOf]
    · have c := HCB.out 4 (by omega)
      have g := HB.out b4 (by simp)
      have e := E4.out
      have d : wr.cell? ⟨w.heap.size + 1, 0, none⟩ = some (.int .u64 p3) := (cell_of_row wr _ 0 _ _ _ hr1).trans rfl
      have f : wr.frozen? ⟨w.heap.size + 1, 0, none⟩ = false := by simp [World.frozen?, hr1]
      replace c : wr.cell? ⟨B, off + 4, none⟩ = some (.int .u8 b4) := c
      have HG := Lib.hid hG
      clear hr0 hr1 hG hbel HCB
      go_wp2; go_region; go_wp2
      go_roundw
      case rel => exact ⟨5, by omega, by go_num, getRel_step 0 p4 HG.out rfl⟩
      case measure => simp [intOf]
    · have c := HCB.out 5 (by omega)
      have g := HB.out b5 (by simp)
      have e := E5.out
      have d : wr.cell? ⟨w.heap.size + 1, 0, none⟩ = some (.int .u64 p4) := (cell_of_row wr _ 0 _ _ _ hr1).trans rfl
      have f : wr.frozen? ⟨w.heap.size + 1, 0, none⟩ = false := by simp [World.frozen?, hr1]
      replace c : wr.cell? ⟨B, off + 5, none⟩ = some (.int .u8 b5) := c
      have HG := Lib.hid hG
      clear hr0 hr1 hG hbel HCB
      go_wp2; go_region; go_wp2
      go_roundw
      case rel => exact ⟨6, by omega, by go_num, getRel_step 0 p5 HG.out rfl⟩
      case measure => simp [intOf]
    · have c := HCB.out 6 (by omega)
      have g := HB.out b6 (by simp)
      have e := E6.out
      have d : wr.cell? ⟨w.heap.size + 1, 0, none⟩ = some (.int .u64 p5) := (cell_of_row wr _ 0 _ _ _ hr1).trans rfl
      have f : wr.frozen? ⟨w.heap.size + 1, 0, none⟩ = false := by simp [World.frozen?, hr1]
      replace c : wr.cell? ⟨B, off + 6, none⟩ = some (.int .u8 b6) := c
      have HG := Lib.hid hG
      clear hr0 hr1 hG hbel HCB
      go_wp2; go_region; go_wp2
      go_roundw
      case rel => exact ⟨7, by omega, by go_num, getRel_step 0 p6 HG.out rfl⟩
      case measure => simp [intOf]
    · have c := HCB.out 7 (by omega)
      have g := HB.out b7 (by simp)
      have e := E7.out
      have d : wr.cell? ⟨w.heap.size + 1, 0, none⟩ = some (.int .u64 p6) := (cell_of_row wr _ 0 _ _ _ hr1).trans rfl
      have f : wr.frozen? ⟨w.heap.size + 1, 0, none⟩ = false := by simp [World.frozen?, hr1]
      replace c : wr.cell? ⟨B, off + 7, none⟩ = some (.int .u8 b7) := c
      have HG := Lib.hid hG
      clear hr0 hr1 hG hbel HCB
      go_wp2; go_region; go_wp2
      go_roundw
      case rel => exact ⟨8, by omega, by go_num, getRel_step 0 p7 HG.out rfl⟩
      case measure => simp [intOf]
    · have c := HCB.out 8 (by omega)
      have g := HB.out b8 (by simp)
      have e := E8.out
      have d : wr.cell? ⟨w.heap.size + 1, 1, none⟩ = some (.int .u64 0) := (cell_of_row wr _ 1 _ _ _ hr1).trans rfl
      have f : wr.frozen? ⟨w.heap.size + 1, 1, none⟩ = false := by simp [World.frozen?, hr1]
      replace c : wr.cell? ⟨B, off + 8, none⟩ = some (.int .u8 b8) := c
      have HG := Lib.hid hG
      clear hr0 hr1 hG hbel HCB
      go_wp2; go_region; go_wp2
      go_roundw
      case rel => exact ⟨9, by omega, by go_num, getRel_step 1 b8 HG.out rfl⟩
      case measure => simp [intOf]
    · have c := HCB.out 9 (by omega)
      have g := HB.out b9 (by simp)
      have e := E9.out
      have d : wr.cell? ⟨w.heap.size + 1, 1, none⟩ = some (.int .u64 b8) := (cell_of_row wr _ 1 _ _ _ hr1).trans rfl
      have f : wr.frozen? ⟨w.heap.size + 1, 1, none⟩ = false := by simp [World.frozen?, hr1]
      replace c : wr.cell? ⟨B, off + 9, none⟩ = some (.int .u8 b9) := c
      have HG := Lib.hid hG
      clear hr0 hr1 hG hbel HCB
      go_wp2; go_region; go_wp2
      go_roundw
      case rel => exact ⟨10, by omega, by go_num, getRel_step 1 p9 HG.out rfl⟩
      case measure => simp [intOf]
    · have c := HCB.out 10 (by omega)
      have g := HB.out b10 (by simp)
      have e := E10.out
      have d : wr.cell? ⟨w.heap.size + 1, 1, none⟩ = some (.int .u64 p9) := (cell_of_row wr _ 1 _ _ _ hr1).trans rfl
      have f : wr.frozen? ⟨w.heap.size + 1, 1, none⟩ = false := by simp [World.frozen?, hr1]
      replace c : wr.cell? ⟨B, off + 10, none⟩ = some (.int .u8 b10) := c
      have HG := Lib.hid hG
      clear hr0 hr1 hG hbel HCB
      go_wp2; go_region; go_wp2
      go_roundw
      case rel => exact ⟨11, by omega, by go_num, getRel_step 1 p10 HG.out rfl⟩
      case measure => simp [intOf]
    · have c := HCB.out 11 (by omega)
      have g := HB.out b11 (by simp)
      have e := E11.out
      have d : wr.cell? ⟨w.heap.size + 1, 1, none⟩ = some (.int .u64 p10) := (cell_of_row wr _ 1 _ _ _ hr1).trans rfl
      have f : wr.frozen? ⟨w.heap.size + 1, 1, none⟩ = false := by simp [World.frozen?, hr1]
      replace c : wr.cell? ⟨B, off + 11, none⟩ = some (.int .u8 b11) := c
      have HG := Lib.hid hG
      clear hr0 hr1 hG hbel HCB
      go_wp2; go_region; go_wp2
      go_roundw
      case rel => exact ⟨12, by omega, by go_num, getRel_step 1 p11 HG.out rfl⟩
      case measure => simp [intOf]
    · have c := HCB.out 12 (by omega)
      have g := HB.out b12 (by simp)
      have e := E12.out
      have d : wr.cell? ⟨w.heap.size + 1, 1, none⟩ = some (.int .u64 p11) := (cell_of_row wr _ 1 _ _ _ hr1).trans rfl
      have f : wr.frozen? ⟨w.heap.size + 1, 1, none⟩ = false := by simp [World.frozen?, hr1]
      replace c : wr.cell? ⟨B, off + 12, none⟩ = some (.int .u8 b12) := c
      have HG := Lib.hid hG
      clear hr0 hr1 hG hbel HCB
      go_wp2; go_region; go_wp2
      go_roundw
      case rel => exact ⟨13, by omega, by go_num, getRel_step 1 p12 HG.out rfl⟩
      case measure => simp [intOf]
    · have c := HCB.out 13 (by omega)
      have g := HB.out b13 (by simp)
      have e := E13.out
      have d : wr.cell? ⟨w.heap.size + 1, 1, none⟩ = some (.int .u64 p12) := (cell_of_row wr _ 1 _ _ _ hr1).trans rfl
      have f : wr.frozen? ⟨w.heap.size + 1, 1, none⟩ = false := by simp [World.frozen?, hr1]
      replace c : wr.cell? ⟨B, off + 13, none⟩ = some (.int .u8 b13) := c
      have HG := Lib.hid hG
      clear hr0 hr1 hG hbel HCB
      go_wp2; go_region; go_wp2
      go_roundw
      case rel => exact ⟨14, by omega, by go_num, getRel_step 1 p13 HG.out rfl⟩
      case measure => simp [intOf]
    · have c := HCB.out 14 (by omega)
      have g := HB.out b14 (by simp)
      have e := E14.out
      have d : wr.cell? ⟨w.heap.size + 1, 1, none⟩ = some (.int .u64 p13) := (cell_of_row wr _ 1 _ _ _ hr1).trans rfl
      have f : wr.frozen? ⟨w.heap.size + 1, 1, none⟩ = false := by simp [World.frozen?, hr1]
      replace c : wr.cell? ⟨B, off + 14, none⟩ = some (.int .u8 b14) := c
      have HG := Lib.hid hG
      clear hr0 hr1 hG hbel HCB
      go_wp2; go_region; go_wp2
      go_roundw
      case rel => exact ⟨15, by omega, by go_num, getRel_step 1 p14 HG.out rfl⟩
      case measure => simp [intOf]
    · have c := HCB.out 15 (by omega)
      have g := HB.out b15 (by simp)
      have e := E15.out
      have d : wr.cell? ⟨w.heap.size + 1, 1, none⟩ = some (.int .u64 p14) := (cell_of_row wr _ 1 _ _ _ hr1).trans rfl
      have f : wr.frozen? ⟨w.heap.size + 1, 1, none⟩ = false := by simp [World.frozen?, hr1]
      replace c : wr.cell? ⟨B, off + 15, none⟩ = some (.int .u8 b15) := c
      have HG := Lib.hid hG
      clear hr0 hr1 hG hbel HCB
      go_wp2; go_region; go_wp2
      go_roundw
      case rel => exact ⟨16, by omega, by go_num, getRel_step 1 p15 HG.out rfl⟩
      case measure => simp [intOf]
    · have c := HCB.out 16 (by omega)
      have g := HB.out b16 (by simp)
      have e := E16.out
      have d : wr.cell? ⟨w.heap.size + 1, 2, none⟩ = some (.int .u64 0) := (cell_of_row wr _ 2 _ _ _ hr1).trans rfl
      have f : wr.frozen? ⟨w.heap.size + 1, 2, none⟩ = false := by simp [World.frozen?, hr1]
      replace c : wr.cell? ⟨B, off + 16, none⟩ = some (.int .u8 b16) := c
      have HG := Lib.hid hG
      clear hr0 hr1 hG hbel HCB
      go_wp2; go_region; go_wp2
      go_roundw
      case rel => exact ⟨17, by omega, by go_num, getRel_step 2 b16 HG.out rfl⟩
      case measure => simp [intOf]
    · have c := HCB.out 17 (by omega)
      have g := HB.out b17 (by simp)
      have e := E17.out
      have d : wr.cell? ⟨w.heap.size + 1, 2, none⟩ = some (.int .u64 b16) := (cell_of_row wr _ 2 _ _ _ hr1).trans rfl
      have f : wr.frozen? ⟨w.heap.size + 1, 2, none⟩ = false := by simp [World.frozen?, hr1]
      replace c : wr.cell? ⟨B, off + 17, none⟩ = some (.int .u8 b17) := c
      have HG := Lib.hid hG
      clear hr0 hr1 hG hbel HCB
      go_wp2; go_region; go_wp2
      go_roundw
      case rel => exact ⟨18, by omega, by go_num, getRel_step 2 p17 HG.out rfl⟩
      case measure => simp [intOf]
    · have c := HCB.out 18 (by omega)
      have g := HB.out b18 (by simp)
      have e := E18.out
      have d : wr.cell? ⟨w.heap.size + 1, 2, none⟩ = some (.int .u64 p17) := (cell_of_row wr _ 2 _ _ _ hr1).trans rfl
      have f : wr.frozen? ⟨w.heap.size + 1, 2, none⟩ = false := by simp [World.frozen?, hr1]
      replace c : wr.cell? ⟨B, off + 18, none⟩ = some (.int .u8 b18) := c
      have HG := Lib.hid hG
      clear hr0 hr1 hG hbel HCB
      go_wp2; go_region; go_wp2
      go_roundw
      case rel => exact ⟨19, by omega, by go_num, getRel_step 2 p18 HG.out rfl⟩
      case measure => simp [intOf]
    · have c := HCB.out 19 (by omega)
      have g := HB.out b19 (by simp)
      have e := E19.out
      have d : wr.cell? ⟨w.heap.size + 1, 2, none⟩ = some (.int .u64 p18) := (cell_of_row wr _ 2 _ _ _ hr1).trans rfl
      have f : wr.frozen? ⟨w.heap.size + 1, 2, none⟩ = false := by simp [World.frozen?, hr1]
      replace c : wr.cell? ⟨B, off + 19, none⟩ = some (.int .u8 b19) := c
      have HG := Lib.hid hG
      clear hr0 hr1 hG hbel HCB
      go_wp2; go_region; go_wp2
      go_roundw
      case rel => exact ⟨20, by omega, by go_num, getRel_step 2 p19 HG.out rfl⟩
      case measure => simp [intOf]
    · have c := HCB.out 20 (by omega)
      have g := HB.out b20 (by simp)
      have e := E20.out
      have d : wr.cell? ⟨w.heap.size + 1, 2, none⟩ = some (.int .u64 p19) := (cell_of_row wr _ 2 _ _ _ hr1).trans rfl
      have f : wr.frozen? ⟨w.heap.size + 1, 2, none⟩ = false := by simp [World.frozen?, hr1]
      replace c : wr.cell? ⟨B, off + 20, none⟩ = some (.int .u8 b20) := c
      have HG := Lib.hid hG
      clear hr0 hr1 hG hbel HCB
      go_wp2; go_region; go_wp2
      go_roundw
      case rel => exact ⟨21, by omega, by go_num, getRel_step 2 p20 HG.out rfl⟩
      case measure => simp [intOf]
    · have c := HCB.out 21 (by omega)
      have g := HB.out b21 (by simp)
      have e := E21.out
      have d : wr.cell? ⟨w.heap.size + 1, 2, none⟩ = some (.int .u64 p20) := (cell_of_row wr _ 2 _ _ _ hr1).trans rfl
      have f : wr.frozen? ⟨w.heap.size + 1, 2, none⟩ = false := by simp [World.frozen?, hr1]
      replace c : wr.cell? ⟨B, off + 21, none⟩ = some (.int .u8 b21) := c
      have HG := Lib.hid hG
      clear hr0 hr1 hG hbel HCB
      go_wp2; go_region; go_wp2
      go_roundw
      case rel => exact ⟨22, by omega, by go_num, getRel_step 2 p21 HG.out rfl⟩
      case measure => simp [intOf]
    · have c := HCB.out 22 (by omega)
      have g := HB.out b22 (by simp)
      have e := E22.out
      have d : wr.cell? ⟨w.heap.size + 1, 2, none⟩ = some (.int .u64 p21) := (cell_of_row wr _ 2 _ _ _ hr1).trans rfl
      have f : wr.frozen? ⟨w.heap.size + 1, 2, none⟩ = false := by simp [World.frozen?, hr1]
      replace c : wr.cell? ⟨B, off + 22, none⟩ = some (.int .u8 b22) := c
      have HG := Lib.hid hG
      clear hr0 hr1 hG hbel HCB
      go_wp2; go_region; go_wp2
      go_roundw
      case rel => exact ⟨23, by omega, by go_num, getRel_step 2 p22 HG.out rfl⟩
      case measure => simp [intOf]
    · have c := HCB.out 23 (by omega)
      have g := HB.out b23 (by simp)
      have e := E23.out
      have d : wr.cell? ⟨w.heap.size + 1, 2, none⟩ = some (.int .u64 p22) := (cell_of_row wr _ 2 _ _ _ hr1).trans rfl
      have f : wr.frozen? ⟨w.heap.size + 1, 2, none⟩ = false := by simp [World.frozen?, hr1]
      replace c : wr.cell? ⟨B, off + 23, none⟩ = some (.int .u8 b23) := c
      have HG := Lib.hid hG
      clear hr0 hr1 hG hbel HCB
      go_wp2; go_region; go_wp2
      go_roundw
      case rel => exact ⟨24, by omega, by go_num, getRel_step 2 p23 HG.out rfl⟩
      case measure => simp [intOf]
    · have c := HCB.out 24 (by omega)
      have g := HB.out b24 (by simp)
      have e := E24.out
      have d : wr.cell? ⟨w.heap.size + 1, 3, none⟩ = some (.int .u64 0) := (cell_of_row wr _ 3 _ _ _ hr1).trans rfl
      have f : wr.frozen? ⟨w.heap.size + 1, 3, none⟩ = false := by simp [World.frozen?, hr1]
      replace c : wr.cell? ⟨B, off + 24, none⟩ = some (.int .u8 b24) := c
      have HG := Lib.hid hG
      clear hr0 hr1 hG hbel HCB
      go_wp2; go_region; go_wp2
      go_roundw
      case rel => exact ⟨25, by omega, by go_num, getRel_step 3 b24 HG.out rfl⟩
      case measure => simp [intOf]
    · have c := HCB.out 25 (by omega)
      have g := HB.out b25 (by simp)
      have e := E25.out
      have d : wr.cell? ⟨w.heap.size + 1, 3, none⟩ = some (.int .u64 b24) := (cell_of_row wr _ 3 _ _ _ hr1).trans rfl
      have f : wr.frozen? ⟨w.heap.size + 1, 3, none⟩ = false := by simp [World.frozen?, hr1]
      replace c : wr.cell? ⟨B, off + 25, none⟩ = some (.int .u8 b25) := c
      have HG := Lib.hid hG
      clear hr0 hr1 hG hbel HCB
      go_wp2; go_region; go_wp2
      go_roundw
      case rel => exact ⟨26, by omega, by go_num, getRel_step 3 p25 HG.out rfl⟩
      case measure => simp [intOf]
    · have c := HCB.out 26 (by omega)
      have g := HB.out b26 (by simp)
      have e := E26.out
      have d : wr.cell? ⟨w.heap.size + 1, 3, none⟩ = some (.int .u64 p25) := (cell_of_row wr _ 3 _ _ _ hr1).trans rfl
      have f : wr.frozen? ⟨w.heap.size + 1, 3, none⟩ = false := by simp [World.frozen?, hr1]
      replace c : wr.cell? ⟨B, off + 26, none⟩ = some (.int .u8 b26) := c
      have HG := Lib.hid hG
      clear hr0 hr1 hG hbel HCB
      go_wp2; go_region; go_wp2
      go_roundw
      case rel => exact ⟨27, by omega, by go_num, getRel_step 3 p26 HG.out rfl⟩
      case measure => simp [intOf]
    · have c := HCB.out 27 (by omega)
      have g := HB.out b27 (by simp)
      have e := E27.out
      have d : wr.cell? ⟨w.heap.size + 1, 3, none⟩ = some (.int .u64 p26) := (cell_of_row wr _ 3 _ _ _ hr1).trans rfl
      have f : wr.frozen? ⟨w.heap.size + 1, 3, none⟩ = false := by simp [World.frozen?, hr1]
      replace c : wr.cell? ⟨B, off + 27, none⟩ = some (.int .u8 b27) := c
      have HG := Lib.hid hG
      clear hr0 hr1 hG hbel HCB
      go_wp2; go_region; go_wp2
      go_roundw
      case rel => exact ⟨28, by omega, by go_num, getRel_step 3 p27 HG.out rfl⟩
      case measure => simp [intOf]
    · have c := HCB.out 28 (by omega)
      have g := HB.out b28 (by simp)
      have e := E28.out
      have d : wr.cell? ⟨w.heap.size + 1, 3, none⟩ = some (.int .u64 p27) := (cell_of_row wr _ 3 _ _ _ hr1).trans rfl
      have f : wr.frozen? ⟨w.heap.size + 1, 3, none⟩ = false := by simp [World.frozen?, hr1]
      replace c : wr.cell? ⟨B, off + 28, none⟩ = some (.int .u8 b28) := c
      have HG := Lib.hid hG
      clear hr0 hr1 hG hbel HCB
      go_wp2; go_region; go_wp2
      go_roundw
      case rel => exact ⟨29, by omega, by go_num, getRel_step 3 p28 HG.out rfl⟩
      case measure => simp [intOf]
    · have c := HCB.out 29 (by omega)
      have g := HB.out b29 (by simp)
      have e := E29.out
      have d : wr.cell? ⟨w.heap.size + 1, 3, none⟩ = some (.int .u64 p28) := (cell_of_row wr _ 3 _ _ _ hr1).trans rfl
      have f : wr.frozen? ⟨w.heap.size + 1, 3, none⟩ = false := by simp [World.frozen?, hr1]
      replace c : wr.cell? ⟨B, off + 29, none⟩ = some (.int .u8 b29) := c
      have HG := Lib.hid hG
      clear hr0 hr1 hG hbel HCB
      go_wp2; go_region; go_wp2
      go_roundw
      case rel => exact ⟨30, by omega, by go_num, getRel_step 3 p29 HG.out rfl⟩
      case measure => simp [intOf]
    · have c := HCB.out 30 (by omega)
      have g := HB.out b30 (by simp)
      have e := E30.out
      have d : wr.cell? ⟨w.heap.size + 1, 3, none⟩ = some (.int .u64 p29) := (cell_of_row wr _ 3 _ _ _ hr1).trans rfl
      have f : wr.frozen? ⟨w.heap.size + 1, 3, none⟩ = false := by simp [World.frozen?, hr1]
      replace c : wr.cell? ⟨B, off + 30, none⟩ = some (.int .u8 b30) := c
      have HG := Lib.hid hG
      clear hr0 hr1 hG hbel HCB
      go_wp2; go_region; go_wp2
      go_roundw
      case rel => exact ⟨31, by omega, by go_num, getRel_step 3 p30 HG.out rfl⟩
      case measure => simp [intOf]
    · have c := HCB.out 31 (by omega)
      have g := HB.out b31 (by simp)
      have e := E31.out
      have d : wr.cell? ⟨w.heap.size + 1, 3, none⟩ = some (.int .u64 p30) := (cell_of_row wr _ 3 _ _ _ hr1).trans rfl
      have f : wr.frozen? ⟨w.heap.size + 1, 3, none⟩ = false := by simp [World.frozen?, hr1]
      replace c : wr.cell? ⟨B, off + 31, none⟩ = some (.int .u8 b31) := c
      have HG := Lib.hid hG
      clear hr0 hr1 hG hbel HCB
      go_wp2; go_region; go_wp2
      go_roundw
      case rel => exact ⟨32, by omega, by go_num, getRel_step 3 p31 HG.out rfl⟩
      case measure => simp [intOf]
    · have d0 : wr.cell? ⟨w.heap.size + 1, 0, none⟩ = some (.int .u64 p7) := (cell_of_row wr _ 0 _ _ _ hr1).trans rfl
      have d1 : wr.cell? ⟨w.heap.size + 1, 1, none⟩ = some (.int .u64 p15) := (cell_of_row wr _ 1 _ _ _ hr1).trans rfl
      have d2 : wr.cell? ⟨w.heap.size + 1, 2, none⟩ = some (.int .u64 p23) := (cell_of_row wr _ 2 _ _ _ hr1).trans rfl
      have d3 : wr.cell? ⟨w.heap.size + 1, 3, none⟩ = some (.int .u64 p31) := (cell_of_row wr _ 3 _ _ _ hr1).trans rfl
      go_wp2_with fail
      refine (carry_any _ _ _ _ _ _ (by omega) (by omega) (by omega) (by omega) (by omega)).mono ?_
      rintro e w1 ⟨z0, z1, z2, z3, z4, rfl, hz, hb1⟩
      have hres : w1.heap[w.heap.size]? = some (.cells #[.int .u64 0, .int .u64 0, .int .u64 0, .int .u64 0, .int .u64 0] 44 (0, 0)) := Ext.of_below hb1 _ _ (Ext.alloc wr _ _ _ hr0)
      go_wp2_with (refine wpList_store_row rfl 44 (.tmp 2) (.tmp 66) rfl w.heap.size #[.int .u64 z0, .int .u64 z1, .int .u64 z2, .int .u64 z3, .int .u64 z4] rfl rfl 44 _ hres (by kernel_rfl) (by kernel_rfl) (by kernel_rfl) ?_)
      refine ret_cell rfl w.heap.size _ _ _ _ rfl (setRow_self hres _) Try.underlying44 rfl (by kernel_rfl) rfl ?_
      refine ⟨_, _, _, _, _, rfl, red_of_carry hz (-(p31 / 9223372036854775808)) ?_, ?_⟩
      · have h1 := HV.out
        have h2 := HN.out
        rw [← Y0.out, ← Y1.out, ← Y2.out, ← Y3.out, ← h1] at h2
        rw [h2, Int.mul_neg]
        omega
      · exact below_setRow (hbel.trans ((Below.alloc (Below.refl _ _) (by omega) _).trans (hb1.mono (by rw [size_at]; omega)))) (Nat.le_refl _) _
end Go.Proofs.Ytenppmciabdefaa
