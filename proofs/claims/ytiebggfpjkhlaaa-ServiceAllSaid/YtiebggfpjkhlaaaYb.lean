/- row.put and service.of at any row: what they turn. No condition. -/
import Derived.Test.YtiebggfpjkhlaaaYa
namespace Go.Proofs.Ytiebggfpjkhlaaa
open Go Go.RowKit
open Go.ChangeMaps (setBlock heap_setBlock_same heap_setBlock_other)
set_option linter.unusedSimpArgs false
/-- A row of packages. -/
def rowP (l : Value) : Obj := .cells #[l] 79 (0, 0)
theorem infoSl : (Try.prog.info? 29).map (fun i => (i.zero, i.size, i.bytes)) = some (some (.slice none 0 0), 1, 24) := by kernel_rfl
/-- What 'put' leaves: the row holds one element more. -/
def PutR (ROW : Value → Obj) (B e sz r : Nat) (v : Value) (n : Nat) (xs cs : List Value) (W W' : World) : Prop :=
  ∃ v', W'.heap[r]? = some (ROW v') ∧ W'.ownsRow B e sz v' (n + 1) (xs ++ cs) ∧ (v'.ownBlock = v.ownBlock ∨ ∃ g, v'.ownBlock = some g ∧ W.heap.size ≤ g) ∧ Chg (r :: v.ownBlock.toList) W W'
set_option maxRecDepth 100000 in
set_option maxHeartbeats 4000000 in
theorem putW_any (B r n : Nat) (v : Value) (xs : List Value) (x0 x1 x2 x3 x4 : Value) (h1 : ∀ u ∈ [x0, x1, x2, x3, x4], u.oneCell' = true) (W : World) (hn : n ≤ 100000) (hB : B ≤ W.heap.size) (hr : W.heap[r]? = some (rowB v)) (hown : W.ownsRow B 38 5 v n xs) (hne : v.ownBlock ≠ some r) :
    Calls Try.prog 30 #[.pointer (some ⟨r, 0, none⟩), .agg #[x0, x1, x2, x3, x4]] W fun e W' => (∃ y, e = .returned y) ∧ PutR rowB B 38 5 r v n xs [x0, x1, x2, x3, x4] W W' := by
  obtain ⟨i0, hi0, hz0, hz1, hz2⟩ := info_of infoW
  have H1 := Lib.hid h1
  have HNE := Lib.hid hne
  have hb1 : Below W.heap.size W (W.alloc (.cells #[x0, x1, x2, x3, x4] 38)) := (Below.refl _ _).alloc (Nat.le_refl _) _
  have er : (W.alloc (.cells #[x0, x1, x2, x3, x4] 38)).heap[r]? = some (rowB v) := blk_stay hb1 hr
  have ex : (W.alloc (.cells #[x0, x1, x2, x3, x4] 38)).heap[W.heap.size]? = some (.cells #[x0, x1, x2, x3, x4] 38 (0, 0)) := alloc_at W _
  have lr : r < W.heap.size := (Array.getElem?_eq_some_iff.1 hr).1
  have lo : ∀ k, v.ownBlock = some k → B ≤ k ∧ k < W.heap.size := hown.lt
  have eo : (W.alloc (.cells #[x0, x1, x2, x3, x4] 38)).ownsRow B 38 5 v n xs := hown.alloc _
  have hS : Chg (r :: v.ownBlock.toList) W (W.alloc (.cells #[x0, x1, x2, x3, x4] 38)) := (Chg.refl _ _).alloc _
  have HLO := Lib.hid lo
  clear h1 hne hr hown hb1 lo
  go_enter Try.func30, Try.ntmps30
  go_wp2_with fail
  refine wp_region_then (fun a b' w' => ∃ (gn : Nat) (v' : Value), b' = ((((((((((a.put (some 4) (.pointer (some ⟨r, 0, none⟩))).put (some 5) (.pointer (some ⟨r, 0, none⟩))).put (some 6) (.pointer (some ⟨r, 0, none⟩))).put (some 7) (.pointer (some ⟨r, 0, none⟩))).put (some 8) (v)).put (some 9) (.agg #[x0, x1, x2, x3, x4])).put (some 10) (.slice (some ⟨gn, 0, none⟩) 1 1)).put (some 11) (v')).put (some 12) (.pointer (some ⟨r, 0, none⟩))).put (some 13) (.pointer (some ⟨r, 0, none⟩))) ∧ PutR rowB B 38 5 r v n xs [x0, x1, x2, x3, x4] W w') ?_ ?_
  · refine wp_region_rem (Chg (r :: v.ownBlock.toList) W) (by kernel_rfl) (by kernel_rfl) (fun _ _ _ _ _ h => h.elim) hS.drew ?_
    apply rem_sure 0 (by kernel_rfl) rfl (wanted_none rfl)
    · intro w2 hS K hK
      go_wp2_with fail
      exact hK _ hS (Ext.refl _)
    · kernel_rfl
    · kernel_rfl
    try ((repeat rw [put_none]); (try simp only [put_some, List.setIfInBounds_toArray, List.set_cons_succ, List.set_cons_zero]))
    apply rem_sure 1 (by kernel_rfl) rfl (wanted_none rfl)
    · intro w2 hS K hK
      go_wp2_with fail
      exact hK _ hS (Ext.refl _)
    · kernel_rfl
    · kernel_rfl
    try ((repeat rw [put_none]); (try simp only [put_some, List.setIfInBounds_toArray, List.set_cons_succ, List.set_cons_zero]))
    apply rem_sure 2 (by kernel_rfl) rfl (wanted_none rfl)
    · intro w2 hS K hK
      go_wp2_with fail
      exact hK _ hS (Ext.refl _)
    · kernel_rfl
    · kernel_rfl
    try ((repeat rw [put_none]); (try simp only [put_some, List.setIfInBounds_toArray, List.set_cons_succ, List.set_cons_zero]))
    apply rem_sure 3 (by kernel_rfl) rfl (wanted_none rfl)
    · intro w2 hS K hK
      go_wp2_with fail
      exact hK _ hS (Ext.refl _)
    · kernel_rfl
    · kernel_rfl
    try ((repeat rw [put_none]); (try simp only [put_some, List.setIfInBounds_toArray, List.set_cons_succ, List.set_cons_zero]))
    refine rem_two 4 5 (by kernel_rfl) (step_of rfl (wanted_none rfl) ?_) (step_of rfl (wanted_none rfl) ?_)
    · intro v21 hS21 hE21 K hK
      have cq : v21.cell? ⟨r, 0, none⟩ = some v := (cell_of_row _ r 0 _ _ _ (hE21 _ _ er)).trans rfl
      go_wp2_with fail
      refine hK _ _ (hS21) ?_
      clear hK K
      try ((repeat rw [put_none]); (try simp only [put_some, List.setIfInBounds_toArray, List.set_cons_succ, List.set_cons_zero]))
      refine rem_one 5 (by kernel_rfl) (step_of rfl (wanted_none rfl) ?_)
      intro v22 hS22 hE22 K hK
      have hx := (hE22 _ _ (hE21 _ _ ex))
      refine wp_load_row 38 _ rfl W.heap.size rfl 38 #[x0, x1, x2, x3, x4] (0, 0) _ hx Try.underlying38 rfl infoW5 ?_
      refine hK _ _ (hS22) ?_
      clear hK K
      try ((repeat rw [put_none]); (try simp only [put_some, List.setIfInBounds_toArray, List.set_cons_succ, List.set_cons_zero]))
      refine rem_one 6 (by kernel_rfl) (step_of rfl (wanted_none rfl) ?_)
      intro v23 hS23 hE23 K hK
      have hb23 : Below v23.heap.size v23 (v23.alloc (.cells #[x0, x1, x2, x3, x4] 38)) := (Below.refl _ _).alloc (Nat.le_refl _) _
      go_wp2_with fail
      refine hK _ _ (hS23.alloc _) ?_
      clear hK K
      try ((repeat rw [put_none]); (try simp only [put_some, List.setIfInBounds_toArray, List.set_cons_succ, List.set_cons_zero]))
      refine rem_one 7 (by kernel_rfl) (step_of rfl (wanted_none rfl) ?_)
      intro v24 hS24 hE24 K hK
      have ho := (own_E (own_ext (own_E (own_E (own_E eo hE21) hE22) hE23) (fun g hg => hb23.block g (by have := HLO.out g hg; have := hS23.size; omega))) hE24)
      have hnw := (hE24 _ _ (alloc_at v23 _))
      have hrr := (hE24 _ _ (blk_stay hb23 (hE23 _ _ (hE22 _ _ (hE21 _ _ er)))))
      have lsz := hS24.size
      refine wp_append_at _ _ 86 rfl B 38 i0 _ 5 64 Try.underlying86 hi0 hz0 hz1 hz2 rfl (by omega) v n xs rfl ho ⟨v23.heap.size, 0, none⟩ 1 1 [x0, x1, x2, x3, x4] rfl rfl (fun j u hu => by
          rw [addr_add, Nat.zero_add]
          unfold World.cell?
          simp only [hnw]
          simpa using hu) H1.out (by unfold maxLen; omega) (by omega) (by omega) ?_
      intro v' w5 hown hgr hat
      obtain ⟨g5, c5, rfl⟩ := own_form hown (by omega)
      have hr5 : w5.heap[r]? = some (rowB v) := (hgr.block r (by omega) (fun h => HNE.out h.symm)).trans hrr
      have hS5 : Chg (r :: v.ownBlock.toList) W w5 := hS24.grown hgr (fun k hk => .inl (by rw [hk]; simp))
      have hat5 : (Value.slice (some ⟨g5, 0, none⟩) (n + 1) c5).ownBlock = v.ownBlock ∨ ∃ g, (Value.slice (some ⟨g5, 0, none⟩) (n + 1) c5).ownBlock = some g ∧ W.heap.size ≤ g := hat.imp id (fun h => ⟨_, h, lsz⟩)
      have hne5 : (Value.slice (some ⟨g5, 0, none⟩) (n + 1) c5).ownBlock ≠ some r := by
        rcases hat5 with h | ⟨g, h, hg⟩
        · rw [h]; exact HNE.out
        · rw [h]; intro h2; cases h2; omega
      have HR := Lib.hid (And.intro hown (And.intro hat5 hne5))
      clear hown hgr hat hat5 hne5 ho hnw hrr lsz
      refine hK _ _ (hS5) ?_
      clear hK K
      try ((repeat rw [put_none]); (try simp only [put_some, List.setIfInBounds_toArray, List.set_cons_succ, List.set_cons_zero]))
      apply rem_sure 8 (by kernel_rfl) rfl (wanted_none rfl)
      · intro w2 hS K hK
        go_wp2_with fail
        exact hK _ hS (Ext.refl _)
      · kernel_rfl
      · kernel_rfl
      try ((repeat rw [put_none]); (try simp only [put_some, List.setIfInBounds_toArray, List.set_cons_succ, List.set_cons_zero]))
      apply rem_sure 9 (by kernel_rfl) rfl (wanted_none rfl)
      · intro w2 hS K hK
        go_wp2_with fail
        exact hK _ hS (Ext.refl _)
      · kernel_rfl
      · kernel_rfl
      try ((repeat rw [put_none]); (try simp only [put_some, List.setIfInBounds_toArray, List.set_cons_succ, List.set_cons_zero]))
      refine rem_one 10 (by kernel_rfl) (step_of rfl (wanted_none rfl) ?_)
      intro v25 hS25 hE25 K hK
      have hbr := (hE25 _ _ hr5)
      have ho9 := (own_E HR.out.1 hE25)
      have cq : v25.cell? ⟨r, 0, none⟩ = some v := (cell_of_row _ r 0 _ _ _ hbr).trans rfl
      have fq : v25.frozen? ⟨r, 0, none⟩ = false := frozen_of_row v25 r 0 _ _ hbr
      have hend := Lib.hid (And.intro (heap_setCell_same v25 r 0 _ _ (.slice (some ⟨g5, 0, none⟩) (n + 1) c5) hbr) (own_ext ho9 (W1 := v25.setCell ⟨r, 0, none⟩ (.slice (some ⟨g5, 0, none⟩) (n + 1) c5)) (fun g hg => Below.heap_setCell _ _ _ _ (by rintro rfl; exact HR.out.2.2 hg))))
      have hS8 := Lib.hid (hS25.setCell (g := r) (.inl (by simp)) 0 (.slice (some ⟨g5, 0, none⟩) (n + 1) c5))
      clear hbr ho9
      go_wp2_with fail
      refine hK _ _ (hS8.out) ?_
      clear hK K
      try ((repeat rw [put_none]); (try simp only [put_some, List.setIfInBounds_toArray, List.set_cons_succ, List.set_cons_zero]))
      refine rem_nil ?_
      intro v9 hS9 hE9
      exact ⟨v23.heap.size, (.slice (some ⟨g5, 0, none⟩) (n + 1) c5), rfl, (.slice (some ⟨g5, 0, none⟩) (n + 1) c5), (hE9 _ _ hend.out.1), (own_E hend.out.2 hE9), HR.out.2.1, hS9⟩
    · intro v26 hS26 hE26 K hK
      have hx := (hE26 _ _ ex)
      refine wp_load_row 38 _ rfl W.heap.size rfl 38 #[x0, x1, x2, x3, x4] (0, 0) _ hx Try.underlying38 rfl infoW5 ?_
      refine hK _ _ (hS26) ?_
      clear hK K
      try ((repeat rw [put_none]); (try simp only [put_some, List.setIfInBounds_toArray, List.set_cons_succ, List.set_cons_zero]))
      refine rem_two 4 6 (by kernel_rfl) (step_of rfl (wanted_none rfl) ?_) (step_of rfl (wanted_none rfl) ?_)
      · intro v27 hS27 hE27 K hK
        have cq : v27.cell? ⟨r, 0, none⟩ = some v := (cell_of_row _ r 0 _ _ _ (hE27 _ _ (hE26 _ _ er))).trans rfl
        go_wp2_with fail
        refine hK _ _ (hS27) ?_
        clear hK K
        try ((repeat rw [put_none]); (try simp only [put_some, List.setIfInBounds_toArray, List.set_cons_succ, List.set_cons_zero]))
        refine rem_one 6 (by kernel_rfl) (step_of rfl (wanted_none rfl) ?_)
        intro v28 hS28 hE28 K hK
        have hb28 : Below v28.heap.size v28 (v28.alloc (.cells #[x0, x1, x2, x3, x4] 38)) := (Below.refl _ _).alloc (Nat.le_refl _) _
        go_wp2_with fail
        refine hK _ _ (hS28.alloc _) ?_
        clear hK K
        try ((repeat rw [put_none]); (try simp only [put_some, List.setIfInBounds_toArray, List.set_cons_succ, List.set_cons_zero]))
        refine rem_one 7 (by kernel_rfl) (step_of rfl (wanted_none rfl) ?_)
        intro v29 hS29 hE29 K hK
        have ho := (own_E (own_ext (own_E (own_E (own_E eo hE26) hE27) hE28) (fun g hg => hb28.block g (by have := HLO.out g hg; have := hS28.size; omega))) hE29)
        have hnw := (hE29 _ _ (alloc_at v28 _))
        have hrr := (hE29 _ _ (blk_stay hb28 (hE28 _ _ (hE27 _ _ (hE26 _ _ er)))))
        have lsz := hS29.size
        refine wp_append_at _ _ 86 rfl B 38 i0 _ 5 64 Try.underlying86 hi0 hz0 hz1 hz2 rfl (by omega) v n xs rfl ho ⟨v28.heap.size, 0, none⟩ 1 1 [x0, x1, x2, x3, x4] rfl rfl (fun j u hu => by
            rw [addr_add, Nat.zero_add]
            unfold World.cell?
            simp only [hnw]
            simpa using hu) H1.out (by unfold maxLen; omega) (by omega) (by omega) ?_
        intro v' w5 hown hgr hat
        obtain ⟨g5, c5, rfl⟩ := own_form hown (by omega)
        have hr5 : w5.heap[r]? = some (rowB v) := (hgr.block r (by omega) (fun h => HNE.out h.symm)).trans hrr
        have hS5 : Chg (r :: v.ownBlock.toList) W w5 := hS29.grown hgr (fun k hk => .inl (by rw [hk]; simp))
        have hat5 : (Value.slice (some ⟨g5, 0, none⟩) (n + 1) c5).ownBlock = v.ownBlock ∨ ∃ g, (Value.slice (some ⟨g5, 0, none⟩) (n + 1) c5).ownBlock = some g ∧ W.heap.size ≤ g := hat.imp id (fun h => ⟨_, h, lsz⟩)
        have hne5 : (Value.slice (some ⟨g5, 0, none⟩) (n + 1) c5).ownBlock ≠ some r := by
          rcases hat5 with h | ⟨g, h, hg⟩
          · rw [h]; exact HNE.out
          · rw [h]; intro h2; cases h2; omega
        have HR := Lib.hid (And.intro hown (And.intro hat5 hne5))
        clear hown hgr hat hat5 hne5 ho hnw hrr lsz
        refine hK _ _ (hS5) ?_
        clear hK K
        try ((repeat rw [put_none]); (try simp only [put_some, List.setIfInBounds_toArray, List.set_cons_succ, List.set_cons_zero]))
        apply rem_sure 8 (by kernel_rfl) rfl (wanted_none rfl)
        · intro w2 hS K hK
          go_wp2_with fail
          exact hK _ hS (Ext.refl _)
        · kernel_rfl
        · kernel_rfl
        try ((repeat rw [put_none]); (try simp only [put_some, List.setIfInBounds_toArray, List.set_cons_succ, List.set_cons_zero]))
        apply rem_sure 9 (by kernel_rfl) rfl (wanted_none rfl)
        · intro w2 hS K hK
          go_wp2_with fail
          exact hK _ hS (Ext.refl _)
        · kernel_rfl
        · kernel_rfl
        try ((repeat rw [put_none]); (try simp only [put_some, List.setIfInBounds_toArray, List.set_cons_succ, List.set_cons_zero]))
        refine rem_one 10 (by kernel_rfl) (step_of rfl (wanted_none rfl) ?_)
        intro v30 hS30 hE30 K hK
        have hbr := (hE30 _ _ hr5)
        have ho9 := (own_E HR.out.1 hE30)
        have cq : v30.cell? ⟨r, 0, none⟩ = some v := (cell_of_row _ r 0 _ _ _ hbr).trans rfl
        have fq : v30.frozen? ⟨r, 0, none⟩ = false := frozen_of_row v30 r 0 _ _ hbr
        have hend := Lib.hid (And.intro (heap_setCell_same v30 r 0 _ _ (.slice (some ⟨g5, 0, none⟩) (n + 1) c5) hbr) (own_ext ho9 (W1 := v30.setCell ⟨r, 0, none⟩ (.slice (some ⟨g5, 0, none⟩) (n + 1) c5)) (fun g hg => Below.heap_setCell _ _ _ _ (by rintro rfl; exact HR.out.2.2 hg))))
        have hS8 := Lib.hid (hS30.setCell (g := r) (.inl (by simp)) 0 (.slice (some ⟨g5, 0, none⟩) (n + 1) c5))
        clear hbr ho9
        go_wp2_with fail
        refine hK _ _ (hS8.out) ?_
        clear hK K
        try ((repeat rw [put_none]); (try simp only [put_some, List.setIfInBounds_toArray, List.set_cons_succ, List.set_cons_zero]))
        refine rem_nil ?_
        intro v9 hS9 hE9
        exact ⟨v28.heap.size, (.slice (some ⟨g5, 0, none⟩) (n + 1) c5), rfl, (.slice (some ⟨g5, 0, none⟩) (n + 1) c5), (hE9 _ _ hend.out.1), (own_E hend.out.2 hE9), HR.out.2.1, hS9⟩
      · intro v31 hS31 hE31 K hK
        have hb31 : Below v31.heap.size v31 (v31.alloc (.cells #[x0, x1, x2, x3, x4] 38)) := (Below.refl _ _).alloc (Nat.le_refl _) _
        go_wp2_with fail
        refine hK _ _ (hS31.alloc _) ?_
        clear hK K
        try ((repeat rw [put_none]); (try simp only [put_some, List.setIfInBounds_toArray, List.set_cons_succ, List.set_cons_zero]))
        refine rem_one 4 (by kernel_rfl) (step_of rfl (wanted_none rfl) ?_)
        intro v32 hS32 hE32 K hK
        have cq : v32.cell? ⟨r, 0, none⟩ = some v := (cell_of_row _ r 0 _ _ _ (hE32 _ _ (blk_stay hb31 (hE31 _ _ (hE26 _ _ er))))).trans rfl
        go_wp2_with fail
        refine hK _ _ (hS32) ?_
        clear hK K
        try ((repeat rw [put_none]); (try simp only [put_some, List.setIfInBounds_toArray, List.set_cons_succ, List.set_cons_zero]))
        refine rem_one 7 (by kernel_rfl) (step_of rfl (wanted_none rfl) ?_)
        intro v33 hS33 hE33 K hK
        have ho := (own_E (own_E (own_ext (own_E (own_E eo hE26) hE31) (fun g hg => hb31.block g (by have := HLO.out g hg; have := hS31.size; omega))) hE32) hE33)
        have hnw := (hE33 _ _ (hE32 _ _ (alloc_at v31 _)))
        have hrr := (hE33 _ _ (hE32 _ _ (blk_stay hb31 (hE31 _ _ (hE26 _ _ er)))))
        have lsz := hS33.size
        refine wp_append_at _ _ 86 rfl B 38 i0 _ 5 64 Try.underlying86 hi0 hz0 hz1 hz2 rfl (by omega) v n xs rfl ho ⟨v31.heap.size, 0, none⟩ 1 1 [x0, x1, x2, x3, x4] rfl rfl (fun j u hu => by
            rw [addr_add, Nat.zero_add]
            unfold World.cell?
            simp only [hnw]
            simpa using hu) H1.out (by unfold maxLen; omega) (by omega) (by omega) ?_
        intro v' w5 hown hgr hat
        obtain ⟨g5, c5, rfl⟩ := own_form hown (by omega)
        have hr5 : w5.heap[r]? = some (rowB v) := (hgr.block r (by omega) (fun h => HNE.out h.symm)).trans hrr
        have hS5 : Chg (r :: v.ownBlock.toList) W w5 := hS33.grown hgr (fun k hk => .inl (by rw [hk]; simp))
        have hat5 : (Value.slice (some ⟨g5, 0, none⟩) (n + 1) c5).ownBlock = v.ownBlock ∨ ∃ g, (Value.slice (some ⟨g5, 0, none⟩) (n + 1) c5).ownBlock = some g ∧ W.heap.size ≤ g := hat.imp id (fun h => ⟨_, h, lsz⟩)
        have hne5 : (Value.slice (some ⟨g5, 0, none⟩) (n + 1) c5).ownBlock ≠ some r := by
          rcases hat5 with h | ⟨g, h, hg⟩
          · rw [h]; exact HNE.out
          · rw [h]; intro h2; cases h2; omega
        have HR := Lib.hid (And.intro hown (And.intro hat5 hne5))
        clear hown hgr hat hat5 hne5 ho hnw hrr lsz
        refine hK _ _ (hS5) ?_
        clear hK K
        try ((repeat rw [put_none]); (try simp only [put_some, List.setIfInBounds_toArray, List.set_cons_succ, List.set_cons_zero]))
        apply rem_sure 8 (by kernel_rfl) rfl (wanted_none rfl)
        · intro w2 hS K hK
          go_wp2_with fail
          exact hK _ hS (Ext.refl _)
        · kernel_rfl
        · kernel_rfl
        try ((repeat rw [put_none]); (try simp only [put_some, List.setIfInBounds_toArray, List.set_cons_succ, List.set_cons_zero]))
        apply rem_sure 9 (by kernel_rfl) rfl (wanted_none rfl)
        · intro w2 hS K hK
          go_wp2_with fail
          exact hK _ hS (Ext.refl _)
        · kernel_rfl
        · kernel_rfl
        try ((repeat rw [put_none]); (try simp only [put_some, List.setIfInBounds_toArray, List.set_cons_succ, List.set_cons_zero]))
        refine rem_one 10 (by kernel_rfl) (step_of rfl (wanted_none rfl) ?_)
        intro v34 hS34 hE34 K hK
        have hbr := (hE34 _ _ hr5)
        have ho9 := (own_E HR.out.1 hE34)
        have cq : v34.cell? ⟨r, 0, none⟩ = some v := (cell_of_row _ r 0 _ _ _ hbr).trans rfl
        have fq : v34.frozen? ⟨r, 0, none⟩ = false := frozen_of_row v34 r 0 _ _ hbr
        have hend := Lib.hid (And.intro (heap_setCell_same v34 r 0 _ _ (.slice (some ⟨g5, 0, none⟩) (n + 1) c5) hbr) (own_ext ho9 (W1 := v34.setCell ⟨r, 0, none⟩ (.slice (some ⟨g5, 0, none⟩) (n + 1) c5)) (fun g hg => Below.heap_setCell _ _ _ _ (by rintro rfl; exact HR.out.2.2 hg))))
        have hS8 := Lib.hid (hS34.setCell (g := r) (.inl (by simp)) 0 (.slice (some ⟨g5, 0, none⟩) (n + 1) c5))
        clear hbr ho9
        go_wp2_with fail
        refine hK _ _ (hS8.out) ?_
        clear hK K
        try ((repeat rw [put_none]); (try simp only [put_some, List.setIfInBounds_toArray, List.set_cons_succ, List.set_cons_zero]))
        refine rem_nil ?_
        intro v9 hS9 hE9
        exact ⟨v31.heap.size, (.slice (some ⟨g5, 0, none⟩) (n + 1) c5), rfl, (.slice (some ⟨g5, 0, none⟩) (n + 1) c5), (hE9 _ _ hend.out.1), (own_E hend.out.2 hE9), HR.out.2.1, hS9⟩
  rintro b' w' ⟨gn, v', rfl, hk⟩
  go_end0
  exact ⟨⟨_, rfl⟩, hk⟩
set_option maxRecDepth 100000 in
set_option maxHeartbeats 4000000 in
theorem putP_any (B r n : Nat) (v : Value) (xs : List Value) (q k c : Nat) (W : World) (hn : n ≤ 100000) (hB : B ≤ W.heap.size) (hr : W.heap[r]? = some (rowP v)) (hown : W.ownsRow B 29 1 v n xs) (hne : v.ownBlock ≠ some r) :
    Calls Try.prog 32 #[.pointer (some ⟨r, 0, none⟩), .slice (some ⟨q, 0, none⟩) k c] W fun e W' => (∃ y, e = .returned y) ∧ PutR rowP B 29 1 r v n xs [.slice (some ⟨q, 0, none⟩) k c] W W' := by
  obtain ⟨i0, hi0, hz0, hz1, hz2⟩ := info_of infoSl
  have cq : W.cell? ⟨r, 0, none⟩ = some v := (cell_of_row _ r 0 _ _ _ hr).trans rfl
  have lr : r < W.heap.size := (Array.getElem?_eq_some_iff.1 hr).1
  have lo : ∀ k, v.ownBlock = some k → B ≤ k ∧ k < W.heap.size := hown.lt
  have hb1 : Below W.heap.size W (W.alloc (.cells #[.slice (some ⟨q, 0, none⟩) k c] 29)) := (Below.refl _ _).alloc (Nat.le_refl _) _
  have hr1 := blk_stay hb1 hr
  have ho1 : (W.alloc (.cells #[.slice (some ⟨q, 0, none⟩) k c] 29)).ownsRow B 29 1 v n xs := hown.alloc _
  have hnw := alloc_at W (.cells #[.slice (some ⟨q, 0, none⟩) k c] 29)
  have HNE := Lib.hid hne
  have HR1 := Lib.hid hr1
  have HO1 := Lib.hid ho1
  have HNW := Lib.hid hnw
  have HLO := Lib.hid lo
  clear hb1 hr1 ho1 hnw hne lo hown hr
  go_enter Try.func32, Try.ntmps32
  go_wp2_with (at_builtin; refine Stp.go ?_)
  refine Stp.mk ?_
  refine wpList_append_own_at _ rfl _ _ 77 rfl B 29 i0 _ 1 24 Try.underlying77 hi0 hz0 hz1 hz2 rfl (by omega) v n xs rfl HO1.out ⟨W.heap.size, 0, none⟩ 1 1 [.slice (some ⟨q, 0, none⟩) k c] rfl rfl (fun j u hu => by
    rw [addr_add, Nat.zero_add]
    unfold World.cell?
    simp only [HNW.out]
    simpa using hu) (by simp [Value.oneCell']) (by unfold maxLen; omega) (by omega) (by simp; omega) ?_
  intro v' w5 hown hgr _ hat
  obtain ⟨g5, c5, rfl⟩ := own_form hown (by omega)
  have lsz : W.heap.size ≤ (W.alloc (.cells #[.slice (some ⟨q, 0, none⟩) k c] 29)).heap.size := by simp
  have hr5 : w5.heap[r]? = some (rowP v) := (hgr.block r (by omega) (fun h => HNE.out h.symm)).trans HR1.out
  have hS5 : Chg (r :: v.ownBlock.toList) W w5 := ((Chg.refl _ W).alloc _).grown hgr (fun k hk => .inl (by rw [hk]; simp))
  have hat5 : (Value.slice (some ⟨g5, 0, none⟩) (n + 1) c5).ownBlock = v.ownBlock ∨ ∃ g, (Value.slice (some ⟨g5, 0, none⟩) (n + 1) c5).ownBlock = some g ∧ W.heap.size ≤ g := hat.imp id (fun h => ⟨_, h, lsz⟩)
  have hne5 : (Value.slice (some ⟨g5, 0, none⟩) (n + 1) c5).ownBlock ≠ some r := by
    rcases hat5 with h | ⟨g, h, hg⟩
    · rw [h]; exact HNE.out
    · rw [h]; intro h2; cases h2; omega
  have cq5 : w5.cell? ⟨r, 0, none⟩ = some v := (cell_of_row _ r 0 _ _ _ hr5).trans rfl
  have fq5 : w5.frozen? ⟨r, 0, none⟩ = false := frozen_of_row w5 r 0 _ _ hr5
  have hend : PutR rowP B 29 1 r v n xs [.slice (some ⟨q, 0, none⟩) k c] W (w5.setCell ⟨r, 0, none⟩ (.slice (some ⟨g5, 0, none⟩) (n + 1) c5)) :=
    ⟨_, heap_setCell_same w5 r 0 _ _ _ hr5, own_ext hown (fun g hg => Below.heap_setCell _ _ _ _ (by rintro rfl; exact hne5 hg)), hat5, hS5.setCell (.inl (by simp)) 0 _⟩
  have HE := Lib.hid hend
  clear hown hgr hat lsz hr5 hS5 hat5 hne5 hend cq
  go_wp2_with fail
  go_end0
  exact ⟨⟨_, rfl⟩, HE.out⟩
end Go.Proofs.Ytiebggfpjkhlaaa
