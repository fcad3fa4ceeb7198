/- The walk of synodref03.Bytes. No condition. -/
import Derived.Test.YtenppmciabdefaaPf
namespace Go.Proofs.Ytenppmciabdefaa
open Go.RowKit
/-- The state between two rounds of taking p away. -/
def SubOk (k : Nat) (L : List Int) (V : Int) : Prop := Fit16 L ∧ (∃ j, valL L = V - PP * j) ∧ (k = 0 → valL L < 2 * PP + 38) ∧ (k = 1 → valL L < PP + 38) ∧ (k = 2 → valL L < PP)
theorem subOk_next {k : Nat} {L : List Int} {V : Int} (hk : k < 2) (h : SubOk k L V) :
    (0 ≤ (srow L 15).getD 15 0 → SubOk (k + 1) (srow L 15) V) ∧ ((srow L 15).getD 15 0 < 0 → SubOk (k + 1) L V) := by
  obtain ⟨hf, ⟨j, hj⟩, b0, b1, _⟩ := h
  obtain ⟨_, hv, h1, h2⟩ := srow_end L hf
  refine ⟨fun h0 => ⟨h1 h0, ⟨j + 1, by rw [hv, hj]; grind⟩, fun e => by omega, fun e => ?_, fun e => ?_⟩, fun h0 => ⟨hf, ⟨j, hj⟩, fun e => by omega, fun _ => ?_, fun _ => h2 h0⟩⟩
  · have := b0 (by omega); unfold PP at *; omega
  · have := b1 (by omega); unfold PP at *; omega
  · have := h2 h0; unfold PP at *; omega
theorem ownsRow_ext {w w' : World} {base : Nat} {e : TypeId} {s : Nat} {v : Value} {n : Nat} {xs : List Value} (h : w.ownsRow base e s v n xs) (hE : Ext w w') : w'.ownsRow base e s v n xs := by
  obtain ⟨h1, h2⟩ := h
  refine ⟨h1, ?_⟩
  rcases h2 with h2 | ⟨g, cap, cur, hv, hg, hh, r⟩
  · exact .inl h2
  · exact .inr ⟨g, cap, cur, hv, hg, hE _ _ hh, r⟩
theorem ownsRow_from {w : World} {base : Nat} {e : TypeId} {s : Nat} {v : Value} {n : Nat} {xs : List Value} (h : w.ownsRow base e s v n xs) : ∀ k, v.ownBlock = some k → base ≤ k := by
  obtain ⟨_, h2⟩ := h
  rcases h2 with ⟨rfl, _⟩ | ⟨g, cap, cur, rfl, hg, _⟩
  · intro k hk; cases hk
  · intro k hk
    obtain rfl : g = k := Option.some.inj hk
    exact hg
theorem bytesL_take (N : List Int) (m : Nat) (h : m < N.length) : bytesL (N.take (m + 1)) = bytesL (N.take m) ++ [N.getD m 0 % 256, N.getD m 0 / 256] := by
  induction N generalizing m with
  | nil => simp at h
  | cons a N ih =>
    cases m with
    | zero => simp [bytesL]
    | succ m =>
      have := ih m (by simpa using h)
      simp only [List.take_succ_cons, bytesL, this, List.getD_cons_succ, List.cons_append]
theorem infoU8 : (Try.prog.info? 5).map (fun i => (i.zero, i.size, i.bytes)) = some (some (.int .u8 0), 1, 1) := by kernel_rfl
/-- What a round of the last loop keeps. -/
def SB (w wr : World) (L : List Int) (w' : World) : Prop := wr.heap.size ≤ w'.heap.size ∧ w'.heap[w.heap.size]? = some (.cells (arrI L) 52 (0, 0)) ∧ Below w.heap.size w w'
theorem new_row (wo : World) (Z cs : Array Value) (t : TypeId) : ∃ W1, (wo.alloc (.cells Z t)).setRow wo.heap.size cs = W1 ∧ W1.heap.size = wo.heap.size + 1 ∧ Below wo.heap.size wo W1 ∧ W1.heap[wo.heap.size]? = some (.cells cs t (0, 0)) :=
  ⟨_, rfl, by rw [setRow_size, size_at], below_setRow ((Below.refl _ _).alloc (Nat.le_refl _) _) (Nat.le_refl _) _, setRow_self (heap_alloc_new wo _) cs⟩
set_option maxRecDepth 100000 in
set_option maxHeartbeats 16000000 in
theorem bytes_any (L : List Int) (w : World) (hL : L.length = 16) (hs : ∀ x ∈ L, -1024 ≤ x ∧ x ≤ 66560) :
    Calls Try.prog 50 #[numV L] w fun e w' => ∃ g cap N, e = .returned (.slice (some ⟨g, 0, none⟩) 32 cap) ∧ 32 ≤ cap ∧ w.heap.size ≤ g ∧ SubOk 2 N (valL L) ∧ (∀ i, i < 32 → w'.cell? ⟨g, 0 + i, none⟩ = ((bytesL N).map (Value.int .u8))[i]?) ∧ Below w.heap.size w w' := by
  have en : numV L = .agg (arrI L) := rfl
  obtain ⟨i0, hi0, hz0, hz1', hz2'⟩ := info_parts infoU8
  rw [en]
  go_enter Try.func50, Try.ntmps50
  go_wp2_with (refine wpList_load_row rfl 52 _ rfl w.heap.size rfl _ _ _ _ (heap_alloc_new w _) Try.underlying52 rfl (by rw [arrI_size, hL]; exact info_num) ?_)
  refine (rcarry_any L _ hL (fun x hx => by have := hs x hx; omega)).mono ?_
  rintro e w1 ⟨M1, rfl, hM1, hb1⟩
  obtain ⟨q1, -, hl1, hq1, -, hx1⟩ := carR_in hM1
  have hlim1 : ∀ x ∈ M1, -1152921504606846976 ≤ x ∧ x ≤ 1152921504606846976 := fun x hx => by
    have := hx1 x hx
    split at this <;> split at this <;> omega
  clear hx1
  go_wp2_with fail
  refine (rcarry_any M1 _ hl1 hlim1).mono ?_
  rintro e w2 ⟨M2, rfl, hM2, hb2⟩
  obtain ⟨q2, -, hl2, hq2, -, hx2⟩ := carR_in hM2
  have hlim2 : ∀ x ∈ M2, -1152921504606846976 ≤ x ∧ x ≤ 1152921504606846976 := fun x hx => by
    have := hx2 x hx
    split at this <;> split at this <;> omega
  clear hx2
  go_wp2_with fail
  refine (rcarry_any M2 _ hl2 hlim2).mono ?_
  rintro e w3 ⟨M3, rfl, hM3, hb3⟩
  obtain ⟨hf, hlt, k0, hv⟩ := carR_thrice hL hs hM1 hM2 hM3
  have hS : SubOk 0 M3 (valL L) := ⟨hf, ⟨k0, hv⟩, fun _ => by unfold PP; omega, fun h => by omega, fun h => by omega⟩
  have hl3 := hf.1
  clear hlim1 hlim2 hM1 hM2 hM3 hf hlt hv hl1 hl2 hq1 hq2 q1 q2
  have hb13 : Below w.heap.size w w3 := ((Below.refl _ _).alloc (Nat.le_refl _) _).trans ((hb1.mono (by rw [size_at]; omega)).trans ((hb2.mono (by have := hb1.size; rw [size_at] at this; omega)).trans (hb3.mono (by have := hb1.size; have := hb2.size; rw [size_at] at *; omega))))
  have hs3 : w.heap.size < w3.heap.size := by have := hb1.size; have := hb2.size; have := hb3.size; rw [size_at] at *; omega
  have hx3 : w3.heap[w.heap.size]? = some (.cells (arrI L) 52 (0, 0)) := block_stay hb3 (block_stay hb2 (block_stay hb1 (heap_alloc_new w _)))
  obtain ⟨w4, hw4, hc4, hb4, hs4⟩ := row_again hx3 hb13 hs3 (arrI M3)
  go_wp2_with (refine wpList_store_row rfl 52 (.tmp 1) (.tmp 13) rfl w.heap.size (arrI M3) rfl rfl 52 _ hx3 (by rw [arrI_size, hl3]; exact info_num) (by rw [arrI_size, arrI_size, hL, hl3]) (arrI_one M3) ?_; rw [hw4])
  clear hw4 hx3 hs3 hb13 hb1 hb2 hb3 hl3
  go_loopw [3] (fun i wr => ∃ k : Nat, ∃ N : List Int, k ≤ 2 ∧ i = .int .i64 k ∧ SubOk k N (valL L) ∧ wr.heap[w.heap.size]? = some (.cells (arrI N) 52 (0, 0)) ∧ Below w.heap.size w wr ∧ w.heap.size < wr.heap.size) (fun i _ => 2 - (intOf i).toNat)
  case atStart => exact ⟨0, M3, by omega, rfl, hS, hc4, hb4, hs4⟩
  case round =>
    obtain ⟨k, N, hk, rfl, hSk, hN, hbk, hsk⟩ := hrel
    by_cases hklt : k < 2
    · obtain ⟨wo, rfl⟩ : ∃ wo : World, wo = wr := ⟨_, rfl⟩
      have hfN := hSk.1
      have hlN := hfN.1
      have nx := subOk_next hklt hSk
      obtain ⟨W1, hW1, hz1, hbW, hn1⟩ := new_row wo #[.int .i64 0, .int .i64 0, .int .i64 0, .int .i64 0, .int .i64 0, .int .i64 0, .int .i64 0, .int .i64 0, .int .i64 0, .int .i64 0, .int .i64 0, .int .i64 0, .int .i64 0, .int .i64 0, .int .i64 0, .int .i64 0] (arrI N) 52
      have hNW := block_stay hbW hN
      have HZ1 := Lib.hid hz1
      have sN : (arrI N).size = 16 := by rw [arrI_size, hlN]
      have d0 : W1.cell? ⟨wo.heap.size, 0, none⟩ = some (.int .i64 (N.getD 0 0)) := (cell_of_row W1 _ 0 _ _ _ hn1).trans (arrI_at _ _ (by omega))
      have f0 := (OneBlk.start hn1).free 0
      have h0 : OneBlk W1 wo.heap.size 52 (arrI (srow N 0)) (W1.setCell ⟨wo.heap.size, 0, none⟩ (.int .i64 (N.getD 0 0 - 65517))) := by
        have := (OneBlk.start hn1).setCell 0 (.int .i64 (N.getD 0 0 - 65517))
        rw [arrI_set] at this
        exact this
      have hg : ∀ i, 0 ≤ N.getD i 0 ∧ N.getD i 0 < 65536 := fun i => by
        rw [List.getD_eq_getElem?_getD]
        by_cases hi : i < N.length
        · simp only [List.getElem?_eq_getElem hi, Option.getD_some]; exact hfN.2 _ (List.getElem_mem hi)
        · simp [List.getElem?_eq_none (Nat.le_of_not_lt hi)]
      have g0 := hg 0
      have hok := fun j hj => srow_ok N hfN j hj
      obtain ⟨n0, hn0⟩ : ∃ n, N.getD 0 0 = n := ⟨_, rfl⟩
      rw [hn0] at d0 g0 h0
      clear hn0
      have HS := Lib.hid hSk
      have HG := Lib.hid hg
      have HNX := Lib.hid nx
      have HO := Lib.hid hok
      clear hz1 hSk hg nx hok hn1
      go_wp2_with (first | (refine wpList_load_row rfl 52 _ rfl w.heap.size rfl _ _ _ _ hN Try.underlying52 rfl (by rw [sN]; exact info_num) ?_) | (refine wpList_store_row rfl 52 (.tmp 4) (.tmp 18) rfl wo.heap.size (arrI N) rfl rfl 52 _ (heap_alloc_new wo _) (by rw [sN]; exact info_num) (by rw [sN]; rfl) (arrI_one N) ?_; rw [hW1]))
      clear hW1 d0 f0
      have hlt3 : w.heap.size < wo.heap.size := hsk
      have hbW0 := hbk.trans (hbW.mono (Nat.le_of_lt hsk))
      generalize wo.heap.size = nb at *
      go_loopw [5] (fun i wr => ∃ j : Nat, j ≤ 15 ∧ i = .int .i64 (↑j + 1) ∧ OneBlk W1 nb 52 (arrI (srow N j)) wr) (fun i _ => 16 - (intOf i).toNat)
      case atStart => exact ⟨0, by omega, by go_num, h0⟩
      case round =>
        obtain ⟨j, hj, rfl, hI⟩ := hrel
        by_cases hjlt : j < 15
        · obtain ⟨s1, s2, s3, s4⟩ := HO.out j (by omega)
          have s5 := s4 (j + 1) (by omega)
          have s6 := HG.out (j + 1)
          rw [← s5] at s6
          have dj : wr.cell? ⟨nb, j, none⟩ = some (.int .i64 ((srow N j).getD j 0)) := (hI.cell j).trans (arrI_at _ _ (by omega))
          have fj := hI.free j
          have dn : wr.cell? ⟨nb, j + 1, none⟩ = some (.int .i64 ((srow N j).getD (j + 1) 0)) := (hI.cell (j + 1)).trans (arrI_at _ _ (by omega))
          have fn := hI.free (j + 1)
          have HI := Lib.hid hI
          have hst : srow N (j + 1) = sstep (srow N j) j := rfl
          unfold sstep at hst
          clear s1 s2 s4 s5 hI
          by_cases hneg : (srow N j).getD j 0 < 0
          · rw [if_pos hneg] at hst
            have HS : Hid (arrI (srow N (j + 1)) = ((arrI (srow N j)).setIfInBounds j (.int .i64 ((srow N j).getD j 0 + 65536))).setIfInBounds (j + 1) (.int .i64 ((srow N j).getD (j + 1) 0 - most (j + 1) - 1))) := by
              show _ = _
              rw [hst, arrI_set, arrI_set]
            clear hst
            generalize (srow N j).getD j 0 = sj at *
            generalize (srow N j).getD (j + 1) 0 = sn at *
            by_cases h14 : j = 14
            · have hm : most (j + 1) = 32767 := by unfold most; rw [if_pos (by omega)]
              rw [hm] at HS
              have h14' : 14 ≤ j := by omega
              clear hm h14
              go_wp2
              go_roundw
              case rel => exact ⟨j + 1, by omega, by go_num, by rw [HS.out]; exact (HI.out.setCell j _).setCell (j + 1) _⟩
              case measure => simp [intOf]; omega
            · have hm : most (j + 1) = 65535 := by unfold most; rw [if_neg (by omega)]
              rw [hm] at HS
              clear hm
              have h14' : j < 14 := by omega
              go_wp2
              go_roundw
              case rel => exact ⟨j + 1, by omega, by go_num, by rw [HS.out]; exact (HI.out.setCell j _).setCell (j + 1) _⟩
              case measure => simp [intOf]; omega
          · rw [if_neg hneg] at hst
            have HS : Hid (arrI (srow N (j + 1)) = (arrI (srow N j)).setIfInBounds (j + 1) (.int .i64 ((srow N j).getD (j + 1) 0 - most (j + 1)))) := by
              show _ = _
              rw [hst, arrI_set]
            clear hst
            generalize (srow N j).getD j 0 = sj at *
            generalize (srow N j).getD (j + 1) 0 = sn at *
            have hpos : 0 ≤ sj := by omega
            clear hneg
            by_cases h14 : j = 14
            · have hm : most (j + 1) = 32767 := by unfold most; rw [if_pos (by omega)]
              rw [hm] at HS
              have h14' : 14 ≤ j := by omega
              clear hm h14
              go_wp2
              go_roundw
              case rel => exact ⟨j + 1, by omega, by go_num, by rw [HS.out]; exact HI.out.setCell (j + 1) _⟩
              case measure => simp [intOf]; omega
            · have hm : most (j + 1) = 65535 := by unfold most; rw [if_neg (by omega)]
              rw [hm] at HS
              clear hm
              have h14' : j < 14 := by omega
              go_wp2
              go_roundw
              case rel => exact ⟨j + 1, by omega, by go_num, by rw [HS.out]; exact HI.out.setCell (j + 1) _⟩
              case measure => simp [intOf]; omega
        · have h15 : 15 ≤ j := by omega
          have hx := HNX.out
          have hl := (srow_end N hfN).1
          rw [show j = 15 by omega] at hI
          generalize srow N 15 = S at hI hx hl
          have d : wr.cell? ⟨nb, 15, none⟩ = some (.int .i64 (S.getD 15 0)) := (hI.cell 15).trans (arrI_at _ _ (by omega))
          generalize S.getD 15 0 = sv at d hx
          have HX := Lib.hid hx
          have hF := hI.blk
          have hR := hI.far (i := w.heap.size) (by omega) hNW
          have sS : (arrI S).size = 16 := by rw [arrI_size, hl]
          have hbI := hI.below hbW0 (Nat.le_of_lt hlt3)
          have hzI : w.heap.size < wr.heap.size := by have := hI.size; have := HZ1.out; omega
          clear hx hI h0 hl
          by_cases hsv : 0 ≤ sv
          · go_wp2_with (first | (refine wpList_load_row rfl 52 _ rfl nb rfl _ _ _ _ hF Try.underlying52 rfl (by rw [sS]; exact info_num) ?_) | (refine wpList_store_row rfl 52 (.tmp 1) (.tmp 62) rfl w.heap.size (arrI S) rfl rfl 52 _ hR (by rw [sS]; exact info_num) (by rw [sS, sN]) (arrI_one S) ?_))
            go_roundw
            case rel => exact ⟨k + 1, S, by omega, by go_num, HX.out.1 hsv, setRow_self hR _, below_setRow hbI (Nat.le_refl _) _, by rw [setRow_size]; exact hzI⟩
            case measure => simp [intOf]; omega
          · have hsv' : sv < 0 := by omega
            clear hsv
            go_wp2
            go_roundw
            case rel => exact ⟨k + 1, N, by omega, by go_num, HX.out.2 hsv', hR, hbI, hzI⟩
            case measure => simp [intOf]; omega
    · have hk2 : 2 ≤ k := by omega
      rw [show k = 2 by omega] at hSk
      have hfN := hSk.1
      have hlN := hfN.1
      have hg : ∀ i, 0 ≤ N.getD i 0 ∧ N.getD i 0 < 65536 := fun i => by
        rw [List.getD_eq_getElem?_getD]
        by_cases hi : i < N.length
        · simp only [List.getElem?_eq_getElem hi, Option.getD_some]; exact hfN.2 _ (List.getElem_mem hi)
        · simp [List.getElem?_eq_none (Nat.le_of_not_lt hi)]
      have HG := Lib.hid hg
      have HS := Lib.hid hSk
      clear hg hSk
      go_wp2
      go_loopw [8, 9] (fun v i wr => ∃ m : Nat, m ≤ 16 ∧ i = .int .i64 m ∧ wr.ownsRow (w.heap.size + 1) 5 1 v (2 * m) ((bytesL (N.take m)).map (Value.int .u8)) ∧ SB w w N wr ∧ w.heap.size < wr.heap.size) (fun _ i _ => 16 - (intOf i).toNat)
      case atStart => exact ⟨0, by omega, rfl, ⟨by simp [bytesL], .inl ⟨rfl, rfl⟩⟩, ⟨Nat.le_of_lt hsk, hN, hbk⟩, hsk⟩
      case round =>
        obtain ⟨m, hm, rfl, hown, ⟨hs1, hs2, hs3⟩, hs4⟩ := hrel
        by_cases hmlt : m < 16
        · have g := HG.out m
          have hd : ∀ w', SB w wr N w' → w'.cell? ⟨w.heap.size, m, none⟩ = some (.int .i64 (N.getD m 0)) := fun w' h => (cell_of_row w' _ m _ _ _ h.2.1).trans (arrI_at _ _ (by omega))
          have HO := Lib.hid hown
          generalize hxm : N.getD m 0 = x at *
          have HX := Lib.hid hxm
          clear hxm hown
          go_wp2_with fail
          refine wp_region_sure 12 (SB w wr N) (by kernel_rfl) (by kernel_rfl) (fun _ _ d _ _ h => by cases d <;> exact h) ⟨Nat.le_refl _, hs2, hs3.drew⟩ ?_
          iterate 12
            apply sure_cons rfl
            · intro w hS K hK
              go_wp2
              exact hK _ hS (Ext.refl _)
            · kernel_rfl
            · kernel_rfl
          refine sure_end (tail_cons rfl ?_)
          intro w5 hS5 hE5 K hK
          go_wp2
          refine hK _ _ ⟨by rw [size_at]; have := hS5.1; omega, Ext.alloc w5 _ _ _ hS5.2.1, hS5.2.2.alloc (by have := hS5.1; omega) _⟩ (tail_cons rfl ?_)
          clear hK K
          intro w6 hS6 hE6 K hK
          have hown6 : w6.ownsRow (w.heap.size + 1) 5 1 _ (2 * m) _ := ownsRow_ext HO.out (Ext.trans (fun b o h => hE5 b o h) (Ext.trans (Ext.alloc w5 _) hE6))
          have hn6 := hE6 _ _ (heap_alloc_new w5 _)
          have hz6 : w.heap.size < w6.heap.size := by have := hS6.1; omega
          refine wp_append_own w6 (.tmp 67) (.tmp 79) 22 rfl (w.heap.size + 1) 5 i0 (.int .u8 0) 1 1 Try.underlying22 hi0 hz0 hz1' hz2' rfl (by decide) _ (2 * m) _ rfl hown6 ⟨w5.heap.size, 0, none⟩ 2 2 [.int .u8 (x % 256), .int .u8 (x / 256)] rfl rfl ?c1 ?c2 (by unfold maxLen; omega) (by omega) (by omega) ?_
          case c1 =>
            intro j u hu
            have : (⟨w5.heap.size, 0, none⟩ : Addr).add j = ⟨w5.heap.size, j, none⟩ := by unfold Addr.add; split <;> simp_all
            rw [this, cell_of_row w6 _ j _ _ _ hn6]
            simpa using hu
          case c2 => intro u hu; simp only [List.mem_cons, List.not_mem_nil, or_false] at hu; rcases hu with rfl | rfl <;> rfl
          intro v7 w7 hown7 hgr _
          have hrow := ownsRow_from hown6
          have hS7 : SB w wr N w7 := ⟨by have := hS6.1; have := hgr.size; omega, (hgr.block _ hz6 (fun h => by have := hrow _ h.symm; omega)).trans hS6.2.1, hS6.2.2.grown hgr (by omega) (fun k hk => by have := hrow k hk; omega)⟩
          refine hK _ _ hS7 (tail_cons rfl ?_)
          clear hK K
          intro w8 hS8 hE8 K hK
          go_wp2
          refine hK _ _ hS8 (tail_nil ?_)
          clear hK K
          intro w9 hS9 hE9
          have hown9 := ownsRow_ext hown7 (hE8.trans hE9)
          have HO9 := Lib.hid hown9
          clear hown9 hown7 hown6 hgr hE9 hE8 hE6 hE5
          go_wp2
          go_roundw
          case rel =>
            refine ⟨m + 1, by omega, by go_num, ?_, ⟨by have := hS9.1; omega, hS9.2.1, hS9.2.2⟩, by have := hS9.1; omega⟩
            rw [bytesL_take N m (by omega), HX.out, List.map_append]
            exact HO9.out
          case measure => simp [intOf]; omega
        · have : m = 16 := by omega
          subst this
          rw [List.take_of_length_le (by omega)] at hown
          have HO := Lib.hid hown
          clear hown
          go_wp2
          go_ret
          obtain ⟨h1, h2⟩ := HO.out
          rcases h2 with ⟨_, h2⟩ | ⟨g, cap, cur, hv, hg, hh, hc1, hc2, hc3, hc4⟩
          · omega
          · refine ⟨g, cap, N, by rw [hv]; rfl, hc1, by omega, HS.out, ?_, hs3⟩
            intro i hi
            rw [cell_of_row _ g (0 + i) _ _ _ hh, ← hc4]
            show cur[0 + i]? = (cur.toList.take 32)[i]?
            rw [List.getElem?_take, if_pos hi]
            simp
end Go.Proofs.Ytenppmciabdefaa
