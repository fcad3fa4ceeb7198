/- The walks of service.of and row.put, at an empty row. No condition. -/
import Derived.Test.YtiebggfpjkhlaaaZd
namespace Go.Proofs.Ytiebggfpjkhlaaa
open Go Go.RowKit
open Go.ChangeMaps (setBlock heap_setBlock_same heap_setBlock_other)
set_option linter.unusedSimpArgs false
theorem put_some (a : Act) (d : Tmp) (v : Value) : a.put (some d) v = { tmps := a.tmps.setIfInBounds d v, defers := a.defers } := rfl
theorem put_none (a : Act) (v : Value) : a.put none v = a := rfl
theorem wanted_none {o : Oper} {y : Nat → Option Bool} (h : o.guard = none) : Region.wanted o y = true := by unfold Region.wanted; rw [h]
set_option maxRecDepth 100000 in
set_option maxHeartbeats 4000000 in
theorem of_new (m2 : Nat) (w W : World) (bl : List (Nat × Obj)) (hm : w.heap.size ≤ m2) (hne : ∀ p ∈ bl, p.1 ≠ m2) (hst : Kq w ((m2, .map #[] 0) :: bl) W) :
    Calls Try.prog 29 #[.map (some m2), .string sA] W fun e W' => e = .returned (.pointer (some ⟨W.heap.size, 0, none⟩)) ∧ Kq w ((m2, one sA W.heap.size) :: (W.heap.size, rowB (.slice none 0 0)) :: bl) W' := by
  have hr0 := hst.at_ (g := m2) (ob := .map #[] 0) (by simp)
  have hlt := hst.lt (p := (m2, .map #[] 0)) (by simp)
  have hst1 := hst.new rfl (.cells #[.slice none 0 0] 88)
  have hr1 := hst1.at_ (g := m2) (ob := .map #[] 0) (by simp)
  have hst2 := Kq.setMap (hst1.sub (bm := (W.heap.size, rowB (.slice none 0 0)) :: bl) (fun p hp => by
    rcases List.mem_cons.1 hp with rfl | hp
    · exact List.mem_cons_self ..
    · exact List.mem_cons_of_mem _ (List.mem_cons_of_mem _ hp))) hr1 hm (fun p hp => by
    rcases List.mem_cons.1 hp with rfl | hp
    · show W.heap.size ≠ m2
      have : m2 < W.heap.size := hlt
      omega
    · exact hne p hp) (one sA W.heap.size)
  have hr2 := hst2.at_ (g := m2) (ob := one sA W.heap.size) (by simp)
  have H2 := Lib.hid hst2
  clear hst hst1 hst2 hlt
  go_enter Try.func29, Try.ntmps29
  go_wp2_with (first | (at_lookup; refine wpList_lookW rfl 55 9 72 _ _ rfl Try.underlying55 Try.underlying9 m2 sA rfl rfl #[] 0 hr0 (.pointer none) zero_r none rfl (.pointer none) rfl ?_) | (at_lookup; refine wpList_lookW rfl 55 9 72 _ _ rfl Try.underlying55 Try.underlying9 m2 sA rfl rfl _ 1 hr2 (.pointer none) zero_r _ (look_one sA W.heap.size rfl) (.pointer (some ⟨W.heap.size, 0, none⟩)) rfl ?_) | (at_mapUpdate; refine wpList_mapNew rfl 55 9 72 _ _ _ rfl Try.underlying55 Try.underlying9 m2 sA (.pointer (some ⟨W.heap.size, 0, none⟩)) rfl rfl rfl #[] 0 hr1 rfl ?_))
  go_ret
  exact ⟨rfl, H2.out⟩
theorem infoW : (Try.prog.info? 38).map (fun i => (i.zero, i.size, i.bytes)) = some (some (.agg #[.string { data := #[] }, .int .i64 0, .int .i64 0, .int .i64 0, .slice none 0 0]), 5, 64) := by kernel_rfl
theorem infoW5 : (Try.prog.info? 38).map (·.size) = some 5 := by kernel_rfl
set_option maxRecDepth 100000 in
set_option maxHeartbeats 4000000 in
theorem put_new (br : Nat) (x0 x1 x2 x3 x4 : Value) (h1 : ∀ u ∈ [x0, x1, x2, x3, x4], u.oneCell' = true) (w W : World) (bl : List (Nat × Obj)) (hb : w.heap.size ≤ br) (hne : ∀ p ∈ bl, p.1 ≠ br) (hst : Kq w ((br, rowB (.slice none 0 0)) :: bl) W) :
    Calls Try.prog 30 #[.pointer (some ⟨br, 0, none⟩), .agg #[x0, x1, x2, x3, x4]] W fun e W' => (∃ v, e = .returned v) ∧ ∃ gw cw, Kq w ((br, rowB (.slice (some ⟨gw, 0, none⟩) 1 cw)) :: bl) W' := by
  obtain ⟨i0, hi0, hz0, hz1, hz2⟩ := info_of infoW
  have H1 := Lib.hid h1
  have HNE := Lib.hid hne
  have hlt := hst.lt (p := (br, rowB (.slice none 0 0))) (by simp)
  have hst1 := hst.new rfl (.cells #[x0, x1, x2, x3, x4] 38)
  have ebr := hst1.at_ (g := br) (ob := rowB (.slice none 0 0)) (by simp)
  have hstS := hst1.sub (bm := (W.heap.size, .cells #[x0, x1, x2, x3, x4] 38 (0, 0)) :: bl) (fun p hp => by
    rcases List.mem_cons.1 hp with rfl | hp
    · exact List.mem_cons_self ..
    · exact List.mem_cons_of_mem _ (List.mem_cons_of_mem _ hp))
  clear hst hst1 h1 hne
  have hlt : br < W.heap.size := hlt
  go_enter Try.func30, Try.ntmps30
  go_wp2_with fail
  refine wp_region_then (fun a b' w' => ∃ gn gw cw, b' = ((((((((((a.put (some 4) (.pointer (some ⟨br, 0, none⟩))).put (some 5) (.pointer (some ⟨br, 0, none⟩))).put (some 6) (.pointer (some ⟨br, 0, none⟩))).put (some 7) (.pointer (some ⟨br, 0, none⟩))).put (some 8) (.slice none 0 0)).put (some 9) (.agg #[x0, x1, x2, x3, x4])).put (some 10) (.slice (some ⟨gn, 0, none⟩) 1 1)).put (some 11) (.slice (some ⟨gw, 0, none⟩) 1 cw)).put (some 12) (.pointer (some ⟨br, 0, none⟩))).put (some 13) (.pointer (some ⟨br, 0, none⟩))) ∧ Kq w ((br, rowB (.slice (some ⟨gw, 0, none⟩) 1 cw)) :: bl) w') ?_ ?_
  · refine wp_region_rem (Kq w ((W.heap.size, .cells #[x0, x1, x2, x3, x4] 38 (0, 0)) :: bl)) (by kernel_rfl) (by kernel_rfl) (fun _ _ _ _ _ h => h.elim) hstS.drew ?_
    apply rem_sure 0 (by kernel_rfl) rfl (wanted_none rfl)
    · intro w2 hS K hK
      go_wp2_with fail
      exact hK _ hS (Ext.refl _)
    · kernel_rfl
    · kernel_rfl
    try ((repeat rw [put_none]); (try simp only [put_some, List.setIfInBounds_toArray, List.set_cons_succ, List.set_cons_zero]))
    apply rem_sure 1 (by kernel_rfl) rfl (wanted_none rfl)
    · intro w2 hS K hK
      go_wp2_with fail
      exact hK _ hS (Ext.refl _)
    · kernel_rfl
    · kernel_rfl
    try ((repeat rw [put_none]); (try simp only [put_some, List.setIfInBounds_toArray, List.set_cons_succ, List.set_cons_zero]))
    apply rem_sure 2 (by kernel_rfl) rfl (wanted_none rfl)
    · intro w2 hS K hK
      go_wp2_with fail
      exact hK _ hS (Ext.refl _)
    · kernel_rfl
    · kernel_rfl
    try ((repeat rw [put_none]); (try simp only [put_some, List.setIfInBounds_toArray, List.set_cons_succ, List.set_cons_zero]))
    apply rem_sure 3 (by kernel_rfl) rfl (wanted_none rfl)
    · intro w2 hS K hK
      go_wp2_with fail
      exact hK _ hS (Ext.refl _)
    · kernel_rfl
    · kernel_rfl
    try ((repeat rw [put_none]); (try simp only [put_some, List.setIfInBounds_toArray, List.set_cons_succ, List.set_cons_zero]))
    apply rem_sure 5 (by kernel_rfl) rfl (wanted_none rfl)
    · intro w2 hS K hK
      exact wp_load_row 38 _ rfl W.heap.size rfl 38 #[x0, x1, x2, x3, x4] (0, 0) _ (hS.at_ (by simp)) Try.underlying38 rfl infoW5 (hK _ hS (Ext.refl _))
    · kernel_rfl
    · kernel_rfl
    try ((repeat rw [put_none]); (try simp only [put_some, List.setIfInBounds_toArray, List.set_cons_succ, List.set_cons_zero]))
    refine rem_two 4 6 (by kernel_rfl) (step_of rfl (wanted_none rfl) ?_) (step_of rfl (wanted_none rfl) ?_)
    · intro v21 hS21 hE21 K hK
      have cq : v21.cell? ⟨br, 0, none⟩ = some (.slice none 0 0) := (cell_of_row _ br 0 _ _ _ (hE21 _ _ ebr)).trans rfl
      go_wp2_with fail
      refine hK _ _ (hS21) ?_
      clear hK K
      try ((repeat rw [put_none]); (try simp only [put_some, List.setIfInBounds_toArray, List.set_cons_succ, List.set_cons_zero]))
      refine rem_one 6 (by kernel_rfl) (step_of rfl (wanted_none rfl) ?_)
      intro v22 hS22 hE22 K hK
      go_wp2_with fail
      refine hK _ _ (hS22.alloc _) ?_
      clear hK K
      try ((repeat rw [put_none]); (try simp only [put_some, List.setIfInBounds_toArray, List.set_cons_succ, List.set_cons_zero]))
      refine rem_one 7 (by kernel_rfl) (step_of rfl (wanted_none rfl) ?_)
      intro v23 hS23 hE23 K hK
      refine wp_append_nil _ _ 86 rfl (e := 38) Try.underlying86 hi0 hz0 hz1 hz2 rfl (by omega) rfl rfl (cs := #[x0, x1, x2, x3, x4]) (hE23 _ _ (alloc_at v22 _)) rfl H1.out (by omega) ?_
      intro gw cw cur u23 hgw hcur hcap htk hk23
      clear hcap htk hcur
      refine hK _ _ (hS23.keep hk23) ?_
      clear hK K
      try ((repeat rw [put_none]); (try simp only [put_some, List.setIfInBounds_toArray, List.set_cons_succ, List.set_cons_zero]))
      apply rem_sure 8 (by kernel_rfl) rfl (wanted_none rfl)
      · intro w2 hS K hK
        go_wp2_with fail
        exact hK _ hS (Ext.refl _)
      · kernel_rfl
      · kernel_rfl
      try ((repeat rw [put_none]); (try simp only [put_some, List.setIfInBounds_toArray, List.set_cons_succ, List.set_cons_zero]))
      apply rem_sure 9 (by kernel_rfl) rfl (wanted_none rfl)
      · intro w2 hS K hK
        go_wp2_with fail
        exact hK _ hS (Ext.refl _)
      · kernel_rfl
      · kernel_rfl
      try ((repeat rw [put_none]); (try simp only [put_some, List.setIfInBounds_toArray, List.set_cons_succ, List.set_cons_zero]))
      refine rem_one 10 (by kernel_rfl) (step_of rfl (wanted_none rfl) ?_)
      intro v24 hS24 hE24 K hK
      have hbr := (hE24 _ _ (blk_stay hk23 (hE23 _ _ (blk_stay ((Below.refl _ _).alloc (Nat.le_refl _) _) (hE22 _ _ (hE21 _ _ ebr))))))
      have cq : v24.cell? ⟨br, 0, none⟩ = some (.slice none 0 0) := (cell_of_row _ br 0 _ _ _ hbr).trans rfl
      have fq : v24.frozen? ⟨br, 0, none⟩ = false := frozen_of_row v24 br 0 _ _ hbr
      have hfin := Lib.hid (Kq.setCell hS24 hbr hb (fun p hp => by
        rcases List.mem_cons.1 hp with rfl | hp
        · show W.heap.size ≠ br
          omega
        · exact HNE.out p hp) 0 (.slice (some ⟨gw, 0, none⟩) 1 cw))
      clear hbr
      go_wp2_with fail
      refine hK _ _ (hfin.out.sub (fun _ h => List.mem_cons_of_mem _ h)) ?_
      clear hK K
      try ((repeat rw [put_none]); (try simp only [put_some, List.setIfInBounds_toArray, List.set_cons_succ, List.set_cons_zero]))
      refine rem_nil ?_
      intro v9 hS9 hE9
      refine ⟨v22.heap.size, gw, cw, ?_, (hS9.sub (fun _ h => List.mem_cons_of_mem _ h)).add (hE9 _ _ ((hfin.out).at_ (g := br) (ob := rowB (.slice (some ⟨gw, 0, none⟩) 1 cw)) (List.mem_cons_self ..)))⟩
      try rfl
    · intro v25 hS25 hE25 K hK
      go_wp2_with fail
      refine hK _ _ (hS25.alloc _) ?_
      clear hK K
      try ((repeat rw [put_none]); (try simp only [put_some, List.setIfInBounds_toArray, List.set_cons_succ, List.set_cons_zero]))
      refine rem_one 4 (by kernel_rfl) (step_of rfl (wanted_none rfl) ?_)
      intro v26 hS26 hE26 K hK
      have cq : v26.cell? ⟨br, 0, none⟩ = some (.slice none 0 0) := (cell_of_row _ br 0 _ _ _ (hE26 _ _ (blk_stay ((Below.refl _ _).alloc (Nat.le_refl _) _) (hE25 _ _ ebr)))).trans rfl
      go_wp2_with fail
      refine hK _ _ (hS26) ?_
      clear hK K
      try ((repeat rw [put_none]); (try simp only [put_some, List.setIfInBounds_toArray, List.set_cons_succ, List.set_cons_zero]))
      refine rem_one 7 (by kernel_rfl) (step_of rfl (wanted_none rfl) ?_)
      intro v27 hS27 hE27 K hK
      refine wp_append_nil _ _ 86 rfl (e := 38) Try.underlying86 hi0 hz0 hz1 hz2 rfl (by omega) rfl rfl (cs := #[x0, x1, x2, x3, x4]) (hE27 _ _ (hE26 _ _ (alloc_at v25 _))) rfl H1.out (by omega) ?_
      intro gw cw cur u27 hgw hcur hcap htk hk27
      clear hcap htk hcur
      refine hK _ _ (hS27.keep hk27) ?_
      clear hK K
      try ((repeat rw [put_none]); (try simp only [put_some, List.setIfInBounds_toArray, List.set_cons_succ, List.set_cons_zero]))
      apply rem_sure 8 (by kernel_rfl) rfl (wanted_none rfl)
      · intro w2 hS K hK
        go_wp2_with fail
        exact hK _ hS (Ext.refl _)
      · kernel_rfl
      · kernel_rfl
      try ((repeat rw [put_none]); (try simp only [put_some, List.setIfInBounds_toArray, List.set_cons_succ, List.set_cons_zero]))
      apply rem_sure 9 (by kernel_rfl) rfl (wanted_none rfl)
      · intro w2 hS K hK
        go_wp2_with fail
        exact hK _ hS (Ext.refl _)
      · kernel_rfl
      · kernel_rfl
      try ((repeat rw [put_none]); (try simp only [put_some, List.setIfInBounds_toArray, List.set_cons_succ, List.set_cons_zero]))
      refine rem_one 10 (by kernel_rfl) (step_of rfl (wanted_none rfl) ?_)
      intro v28 hS28 hE28 K hK
      have hbr := (hE28 _ _ (blk_stay hk27 (hE27 _ _ (hE26 _ _ (blk_stay ((Below.refl _ _).alloc (Nat.le_refl _) _) (hE25 _ _ ebr))))))
      have cq : v28.cell? ⟨br, 0, none⟩ = some (.slice none 0 0) := (cell_of_row _ br 0 _ _ _ hbr).trans rfl
      have fq : v28.frozen? ⟨br, 0, none⟩ = false := frozen_of_row v28 br 0 _ _ hbr
      have hfin := Lib.hid (Kq.setCell hS28 hbr hb (fun p hp => by
        rcases List.mem_cons.1 hp with rfl | hp
        · show W.heap.size ≠ br
          omega
        · exact HNE.out p hp) 0 (.slice (some ⟨gw, 0, none⟩) 1 cw))
      clear hbr
      go_wp2_with fail
      refine hK _ _ (hfin.out.sub (fun _ h => List.mem_cons_of_mem _ h)) ?_
      clear hK K
      try ((repeat rw [put_none]); (try simp only [put_some, List.setIfInBounds_toArray, List.set_cons_succ, List.set_cons_zero]))
      refine rem_nil ?_
      intro v9 hS9 hE9
      refine ⟨v25.heap.size, gw, cw, ?_, (hS9.sub (fun _ h => List.mem_cons_of_mem _ h)).add (hE9 _ _ ((hfin.out).at_ (g := br) (ob := rowB (.slice (some ⟨gw, 0, none⟩) 1 cw)) (List.mem_cons_self ..)))⟩
      try rfl
  rintro b' w' ⟨gn, gw, cw, rfl, hk⟩
  try ((repeat rw [put_none]); (try simp only [put_some, List.setIfInBounds_toArray, List.set_cons_succ, List.set_cons_zero]))
  go_end0
  exact ⟨⟨_, rfl⟩, gw, cw, hk⟩
end Go.Proofs.Ytiebggfpjkhlaaa
