/- The walk of scalar.wide.minus. No condition. -/
import Derived.Test.YtdcfpgclnhacmaaUf
import Derived.WalkKit
namespace Go.Proofs.Ytdcfpgclnhacmaa
open Go Go.RowKit
theorem setRow_here {w : World} {g : Nat} {old : Array Value} {t : TypeId} {fr : Nat × Nat} (h : w.heap[g]? = some (.cells old t fr)) (cs : Array Value) : (w.setRow g cs).heap[g]? = some (.cells cs t fr) :=
  setRow_heap w g _ cs t _ h
/-- All but the block b is as in W0. -/
structure Most (W0 : World) (b : Nat) (w : World) : Prop where
  os : w.os = W0.os
  tape : w.tape = W0.tape
  output : w.output = W0.output
  size : w.heap.size = W0.heap.size
  other : ∀ i, i ≠ b → w.heap[i]? = W0.heap[i]?
theorem Most.drew {W0 w : World} {b : Nat} (h : Most W0 b w) : Most W0 b w.drew := ⟨h.os, h.tape, h.output, h.size, h.other⟩
theorem Most.setCell {W0 w : World} {b : Nat} (h : Most W0 b w) (j : Nat) (v : Value) : Most W0 b (w.setCell ⟨b, j, none⟩ v) :=
  ⟨h.os, h.tape, h.output, by rw [← h.size]; simp [World.setCell], fun i hi => by rw [Below.heap_setCell _ _ _ _ hi]; exact h.other i hi⟩
theorem OneBlk.most {W0 w : World} {b : Nat} {t : TypeId} {cs : Array Value} (h : OneBlk W0 b t cs w) : Most W0 b w := ⟨h.os, h.tape, h.output, h.size, h.other⟩
theorem Most.one {W0 w : World} {b : Nat} {t : TypeId} {cs : Array Value} (h : Most W0 b w) (hb : w.heap[b]? = some (.cells cs t (0, 0))) : OneBlk W0 b t cs w := ⟨h.os, h.tape, h.output, h.size, h.other, hb⟩
theorem setCell_blk {w : World} {b : Nat} {t : TypeId} {cs : Array Value} (h : w.heap[b]? = some (.cells cs t (0, 0))) (j : Nat) (v : Value) : (w.setCell ⟨b, j, none⟩ v).heap[b]? = some (.cells (cs.setIfInBounds j v) t (0, 0)) :=
  ((OneBlk.start h).setCell j v).blk
/-- Two results, the first an aggregate in memory. -/
theorem ret_cell_slot {P : Program} {fn : Func} {R : Ending → World → Prop} {a : Act} {w : World} {p q : Tmp} {ty : TypeId} {v : Value} (h : fn.results = #[.cell p ty, .tmp q]) (g : Nat) (t : TypeId) (cs : Array Value) (fr : Nat × Nat) (d : TypeDesc)
    (hp : a.tmps.getD p undef = .pointer (some ⟨g, 0, none⟩)) (hq : a.tmps.getD q undef = v) (hg : w.heap[g]? = some (.cells cs t fr))
    (hu : P.underlying ty = some d) (hd : (match d with | .struct _ | .array _ _ => true | _ => false) = true) (hi : (P.info? ty).map (·.size) = some cs.size)
    (hdf : a.defers = []) (hR : R (.returned (.tuple #[.agg cs, v])) w) : bodyPost P fn R .ret a w := by
  refine bodyPost_ret (v := .tuple #[.agg cs, v]) ?_ hdf hR
  have hp' : a.tmps[p]?.getD undef = .pointer (some ⟨g, 0, none⟩) := by simpa using hp
  have hq' : a.tmps[q]?.getD undef = v := by simpa using hq
  simp [results, h, hp', hq', asAddr, run_loadVar_row w g t ty cs fr d hg hu hd hi]
theorem infoW : (Try.prog.info? 40).map (·.size) = some 9 := by kernel_rfl
set_option maxRecDepth 100000 in
set_option maxHeartbeats 4000000 in
theorem minus_any (A B : List Int) (w : World) (hA : A.length = 9) (hB : B.length = 9) (wA : Wd A) (wB : Wd B) :
    Calls Try.prog 31 #[.agg (arrU A), .agg (arrU B)] w fun e w' => e = .returned (.tuple #[.agg (arrU (msubs A B 9).1), .bool ((msubs A B 9).2 == 0)]) ∧ Below w.heap.size w w' := by
  have sA : (arrU A).size = 9 := by rw [arrU_size, hA]
  have sB : (arrU B).size = 9 := by rw [arrU_size, hB]
  go_enter Try.func31, Try.ntmps31
  go_wp2
  obtain ⟨W0, hW0, hz, hb0, q0, q1, q2⟩ := three_new w (.cells (arrU A) 40) (.cells (arrU B) 40) (.cells #[.int .u64 0, .int .u64 0, .int .u64 0, .int .u64 0, .int .u64 0, .int .u64 0, .int .u64 0, .int .u64 0, .int .u64 0] 40)
  rw [hW0]
  have HZ := Lib.hid hz
  clear hW0 hz
  go_loopw [6, 8] (fun c i wr => ∃ k : Nat, k ≤ 9 ∧ i = .int .i64 k ∧ c = .int .u64 (msubs A B k).2 ∧ OneBlk W0 w.heap.size 40 (arrU (msubs A B k).1) wr) (fun _ i _ => 9 - (intOf i).toNat)
  case atStart => exact ⟨0, by omega, rfl, rfl, OneBlk.start q0⟩
  case round =>
    obtain ⟨k, hk, rfl, rfl, hI⟩ := hrel
    have hin := msubs_in A B k wA wB
    by_cases hlt : k < 9
    · have hdl : decide ((k : Int) < 9) = true := by simp; omega
      have hl := msubs_length A B k
      have x0 := hin.1 k
      have y0 := wB k
      have hc0 := hin.2.1
      have hc1 := hin.2.2
      have hstep : msubs A B (k + 1) = msub B k (msubs A B k) := rfl
      have cB : ∀ w' : World, Most W0 w.heap.size w' → w'.cell? ⟨w.heap.size + 1, k, none⟩ = some (.int .u64 (B.getD k 0)) := fun w' h => by
        rw [World.cell?_of_block (w := W0) (h.other _ (by omega : w.heap.size + 1 ≠ w.heap.size)), cell_of_row W0 _ k _ _ _ q1]
        exact arrU_at _ _ (by omega)
      have hblk := hI.blk
      have hM := hI.most
      have HB := Lib.hid cB
      have hat := arrU_at (msubs A B k).1 k (by omega)
      have HS : Hid (arrU (msub B k (msubs A B k)).1 = (arrU (msubs A B k).1).setIfInBounds k (.int .u64 (((msubs A B k).1.getD k 0 - B.getD k 0 - (msubs A B k).2) % 18446744073709551616))) := by
        show _ = _
        rw [arrU_set]; rfl
      have HC : Hid ((msub B k (msubs A B k)).2 = -(((msubs A B k).1.getD k 0 - B.getD k 0 - (msubs A B k).2) / 18446744073709551616)) := rfl
      generalize (msubs A B k).1.getD k 0 = x at *
      generalize B.getD k 0 = y at *
      generalize (msubs A B k).2 = c at *
      generalize arrU (msubs A B k).1 = cs at *
      have HAT := Lib.hid hat
      have HST := Lib.hid hstep
      obtain ⟨xa, xb⟩ := x0
      obtain ⟨ya, yb⟩ := y0
      clear hin cB hI hat hstep
      go_wp2_with fail
      refine wp_region_rem (Most W0 w.heap.size) (by kernel_rfl) (by kernel_rfl) (fun _ _ d _ _ h => by cases d <;> exact h) hM.drew ?_
      apply rem_sure 0 (by kernel_rfl) rfl (wanted_none rfl)
      · intro w2 hS K hK
        go_wp2_with fail
        exact hK _ hS (Ext.refl _)
      · kernel_rfl
      · kernel_rfl
      try simp only [put_some, List.setIfInBounds_toArray, List.set_cons_succ, List.set_cons_zero]
      apply rem_sure 1 (by kernel_rfl) rfl (wanted_none rfl)
      · intro w2 hS K hK
        go_wp2_with fail
        exact hK _ hS (Ext.refl _)
      · kernel_rfl
      · kernel_rfl
      try simp only [put_some, List.setIfInBounds_toArray, List.set_cons_succ, List.set_cons_zero]
      apply rem_sure 2 (by kernel_rfl) rfl (wanted_none rfl)
      · intro w2 hS K hK
        go_wp2_with fail
        exact hK _ hS (Ext.refl _)
      · kernel_rfl
      · kernel_rfl
      try simp only [put_some, List.setIfInBounds_toArray, List.set_cons_succ, List.set_cons_zero]
      apply rem_sure 4 (by kernel_rfl) rfl (wanted_none rfl)
      · intro w2 hS K hK
        go_wp2_with fail
        exact hK _ hS (Ext.refl _)
      · kernel_rfl
      · kernel_rfl
      try simp only [put_some, List.setIfInBounds_toArray, List.set_cons_succ, List.set_cons_zero]
      apply rem_sure 5 (by kernel_rfl) rfl (wanted_none rfl)
      · intro w2 hS K hK
        go_wp2_with fail
        exact hK _ hS (Ext.refl _)
      · kernel_rfl
      · kernel_rfl
      try simp only [put_some, List.setIfInBounds_toArray, List.set_cons_succ, List.set_cons_zero]
      apply rem_sure 6 (by kernel_rfl) rfl (wanted_none rfl)
      · intro w2 hS K hK
        have cb := HB.out w2 hS
        go_wp2_with fail
        exact hK _ hS (Ext.refl _)
      · kernel_rfl
      · kernel_rfl
      try simp only [put_some, List.setIfInBounds_toArray, List.set_cons_succ, List.set_cons_zero]
      apply rem_sure 7 (by kernel_rfl) rfl (wanted_none rfl)
      · intro w2 hS K hK
        go_wp2_with fail
        exact hK _ hS (Ext.refl _)
      · kernel_rfl
      · kernel_rfl
      try simp only [put_some, List.setIfInBounds_toArray, List.set_cons_succ, List.set_cons_zero]
      refine rem_one 3 (by kernel_rfl) (step_of rfl (wanted_none rfl) ?_)
      intro v21 hS21 hE21 K hK
      have ca : v21.cell? ⟨w.heap.size, k, none⟩ = some (.int .u64 x) := (cell_of_row v21 _ k _ _ _ (hE21 _ _ hblk)).trans HAT.out
      go_wp2_with fail
      refine hK _ _ (hS21) ?_
      clear hK K
      try simp only [put_some, List.setIfInBounds_toArray, List.set_cons_succ, List.set_cons_zero]
      apply rem_sure 8 (by kernel_rfl) rfl (wanted_none rfl)
      · intro w2 hS K hK
        go_wp2_with (rw [sub64_run x y c (by omega) (by omega) (by omega) (by omega) (by omega) (by omega)])
        exact hK _ hS (Ext.refl _)
      · kernel_rfl
      · kernel_rfl
      try simp only [put_some, List.setIfInBounds_toArray, List.set_cons_succ, List.set_cons_zero]
      apply rem_sure 9 (by kernel_rfl) rfl (wanted_none rfl)
      · intro w2 hS K hK
        go_wp2_with fail
        exact hK _ hS (Ext.refl _)
      · kernel_rfl
      · kernel_rfl
      try simp only [put_some, List.setIfInBounds_toArray, List.set_cons_succ, List.set_cons_zero]
      apply rem_sure 10 (by kernel_rfl) rfl (wanted_none rfl)
      · intro w2 hS K hK
        go_wp2_with fail
        exact hK _ hS (Ext.refl _)
      · kernel_rfl
      · kernel_rfl
      try simp only [put_some, List.setIfInBounds_toArray, List.set_cons_succ, List.set_cons_zero]
      apply rem_sure 11 (by kernel_rfl) rfl (wanted_none rfl)
      · intro w2 hS K hK
        go_wp2_with fail
        exact hK _ hS (Ext.refl _)
      · kernel_rfl
      · kernel_rfl
      try simp only [put_some, List.setIfInBounds_toArray, List.set_cons_succ, List.set_cons_zero]
      apply rem_sure 12 (by kernel_rfl) rfl (wanted_none rfl)
      · intro w2 hS K hK
        go_wp2_with fail
        exact hK _ hS (Ext.refl _)
      · kernel_rfl
      · kernel_rfl
      try simp only [put_some, List.setIfInBounds_toArray, List.set_cons_succ, List.set_cons_zero]
      refine rem_one 13 (by kernel_rfl) (step_of rfl (wanted_none rfl) ?_)
      intro v22 hS22 hE22 K hK
      have hg := (hE22 _ _ (hE21 _ _ hblk))
      have cf : v22.frozen? ⟨w.heap.size, k, none⟩ = false := by simp [World.frozen?, hg]
      have ca : v22.cell? ⟨w.heap.size, k, none⟩ = some (.int .u64 x) := (cell_of_row v22 _ k _ _ _ hg).trans HAT.out
      go_wp2_with fail
      refine hK _ _ (hS22.setCell _ _) ?_
      clear hK K
      try simp only [put_some, List.setIfInBounds_toArray, List.set_cons_succ, List.set_cons_zero]
      apply rem_sure 14 (by kernel_rfl) rfl (wanted_none rfl)
      · intro w2 hS K hK
        go_wp2_with fail
        exact hK _ hS (Ext.refl _)
      · kernel_rfl
      · kernel_rfl
      try simp only [put_some, List.setIfInBounds_toArray, List.set_cons_succ, List.set_cons_zero]
      refine rem_nil ?_
      intro v9 hS9 hE9
      have hone := hS9.one (hE9 _ _ (setCell_blk hg _ _))
      clear hS9 hE9
      go_wp2_with fail
      go_roundw
      case rel => exact ⟨k + 1, by omega, by go_num, by rw [HST.out, HC.out], by rw [HST.out, HS.out]; exact hone⟩
      case measure => simp [intOf]; omega
    · obtain rfl : k = 9 := by omega
      have hA9 := hI.blk
      have hR := hI.far (i := w.heap.size + 1 + 1) (by omega) q2
      have s9 : (arrU (msubs A B 9).1).size = 9 := by rw [arrU_size, msubs_length, hA]
      have o9 := arrU_one (msubs A B 9).1
      have hbel := hI.below hb0 (Nat.le_refl _)
      obtain ⟨c0, c1⟩ := hin.2
      generalize hcs : arrU (msubs A B 9).1 = cs at *
      generalize hcc : (msubs A B 9).2 = c at *
      have HCS := Lib.hid hcs
      have HCC := Lib.hid hcc
      clear hcs hcc
      have S9 := Lib.hid s9
      have O9 := Lib.hid o9
      clear s9 o9 hI hin
      go_wp2_with (first | (refine wpList_load_row rfl 40 _ rfl w.heap.size rfl _ _ _ _ hA9 Try.underlying40 rfl (by rw [S9.out]; exact infoW) ?_) | (refine wpList_store_row rfl 40 (.tmp 4) (.tmp 25) rfl (w.heap.size + 1 + 1) cs rfl rfl 40 _ hR (by rw [S9.out]; exact infoW) (by rw [S9.out]; rfl) O9.out ?_))
      refine ret_cell_slot rfl (w.heap.size + 1 + 1) _ _ _ _ rfl rfl (setRow_here hR cs) Try.underlying40 rfl (by rw [S9.out]; exact infoW) rfl ⟨by rw [HCS.out, HCC.out]; rfl, ?_⟩
      exact below_setRow hbel (by omega) _
set_option maxHeartbeats 1000000 in
/-- The difference of two wide numbers, and whether it is not below 0. -/
theorem minus_num (A B : Int) (w : World) (hA : 0 ≤ A ∧ A < M9) (hB : 0 ≤ B ∧ B < M9) :
    Calls Try.prog 31 #[.agg (arrU (w9 A)), .agg (arrU (w9 B))] w fun e w' => e = .returned (.tuple #[.agg (arrU (w9 (A - B))), .bool (decide (B ≤ A))]) ∧ Below w.heap.size w w' := by
  obtain ⟨h1, h2⟩ := minus_w9 A B hA hB
  refine (minus_any (w9 A) (w9 B) w (w9_length A) (w9_length B) (w9_in A) (w9_in B)).mono ?_
  rintro e w' ⟨rfl, hb⟩
  exact ⟨by rw [h1, h2], hb⟩
end Go.Proofs.Ytdcfpgclnhacmaa
