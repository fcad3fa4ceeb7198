/- The walk of ladder.walker.step. No condition. -/
import Derived.Test.YtenppmciabdefaaQa
namespace Go.Proofs.Ytenppmciabdefaa
open Go Go.RowKit
set_option maxRecDepth 100000 in
set_option maxHeartbeats 40000000 in
theorem step_fe (b : Nat) (A0 A1 A2 A3 A4 : Array Value) (X1 Z1 X2 Z2 U : Int) (w : World) (hb : b < w.heap.size) (r0 : w.rangeAt b 0 (pr A0 A1)) (r1 : w.rangeAt b 10 (pr A2 A3)) (r2 : w.rangeAt b 20 A4.toList) (ht : w.there b 0 25)
    (h0 : FeA A0 X1) (h1 : FeA A1 Z1) (h2 : FeA A2 X2) (h3 : FeA A3 Z2) (h4 : FeA A4 U) :
    Calls Try.prog 83 #[.pointer (some ⟨b, 0, none⟩)] w fun e w' => ∃ v B0 B1 B2 B3, e = .returned v ∧ FeA B0 (((X1 + Z1) * (X1 + Z1)) * ((X1 - Z1) * (X1 - Z1))) ∧
      FeA B1 (((X1 + Z1) * (X1 + Z1) - (X1 - Z1) * (X1 - Z1)) * ((X1 + Z1) * (X1 + Z1) + 121665 * ((X1 + Z1) * (X1 + Z1) - (X1 - Z1) * (X1 - Z1)))) ∧
      FeA B2 (((X2 - Z2) * (X1 + Z1) + (X2 + Z2) * (X1 - Z1)) * ((X2 - Z2) * (X1 + Z1) + (X2 + Z2) * (X1 - Z1))) ∧
      FeA B3 (U * (((X2 - Z2) * (X1 + Z1) - (X2 + Z2) * (X1 - Z1)) * ((X2 - Z2) * (X1 + Z1) - (X2 + Z2) * (X1 - Z1)))) ∧
      w'.rangeAt b 0 (pr B0 B1) ∧ w'.rangeAt b 10 (pr B2 B3) ∧ w'.rangeAt b 20 A4.toList ∧ w'.there b 0 25 ∧ Tn w b w' := by
  have L01 := Lib.hid (pr_length h0 h1)
  have L23 := Lib.hid (pr_length h2 h3)
  have L4 : Hid (A4.toList.length = 5) := by
    show A4.toList.length = 5
    rw [Array.length_toList]; exact h4.size
  have sA4 := h4.size
  have HA0 := Lib.hid h0
  have HA1 := Lib.hid h1
  have HA2 := Lib.hid h2
  have HA3 := Lib.hid h3
  have HA4 := Lib.hid h4
  have hst : Kt w b [] [(0, pr A0 A1), (10, pr A2 A3), (20, A4.toList)] w := ⟨by simp, by simp; exact ⟨r0, r1, r2⟩, ht, hb, Tn.refl w b⟩
  clear h0 h1 h2 h3 h4 r0 r1 r2 ht
  go_enter Try.func83, Try.ntmps83
  go_wp2_with fail
  refine wp_region_then (fun a b' w' => ∃ (A B : Array Value) (g2 g3 : Nat), b' = ((((((((((((a.put (some 11) (.pointer (some ⟨b, 0, none⟩))).put (some 12) (.pointer (some ⟨b, 0, none⟩))).put (some 13) (.pointer (some ⟨b, 0, none⟩))).put (some 14) (.agg (pr A0 A1).toArray)).put (some 15) (.agg A)).put (some 16) (.pointer (some ⟨b, 0, none⟩))).put (some 17) (.pointer (some ⟨b, 0, none⟩))).put (some 18) (.pointer (some ⟨b, 0, none⟩))).put (some 19) (.agg (pr A0 A1).toArray)).put (some 20) (.agg B)).put (some 2) (.pointer (some ⟨g2, 0, none⟩))).put (some 3) (.pointer (some ⟨g3, 0, none⟩))) ∧ FeA A (X1 + Z1) ∧ FeA B (X1 - Z1) ∧ Kt w b [(g2, A), (g3, B)] [(0, pr A0 A1), (10, pr A2 A3), (20, A4.toList)] w') ?_ ?_
  · refine wp_region_rem (Kt w b [] [(0, pr A0 A1), (10, pr A2 A3), (20, A4.toList)]) (by kernel_rfl) (by kernel_rfl) (fun _ _ _ _ _ h => h.elim) hst.drew ?_
    apply rem_sure 0 (by kernel_rfl) rfl (wanted_none rfl)
    · intro w2 hS K hK
      go_wp2_with fail
      exact hK _ hS (Ext.refl _)
    · kernel_rfl
    · kernel_rfl
    try ((repeat rw [put_none]); (try simp only [put_some, List.setIfInBounds_toArray, List.set_cons_succ, List.set_cons_zero]))
    apply rem_sure 1 (by kernel_rfl) rfl (wanted_none rfl)
    · intro w2 hS K hK
      go_wp2_with fail
      exact hK _ hS (Ext.refl _)
    · kernel_rfl
    · kernel_rfl
    try ((repeat rw [put_none]); (try simp only [put_some, List.setIfInBounds_toArray, List.set_cons_succ, List.set_cons_zero]))
    apply rem_sure 2 (by kernel_rfl) rfl (wanted_none rfl)
    · intro w2 hS K hK
      go_wp2_with fail
      exact hK _ hS (Ext.refl _)
    · kernel_rfl
    · kernel_rfl
    try ((repeat rw [put_none]); (try simp only [put_some, List.setIfInBounds_toArray, List.set_cons_succ, List.set_cons_zero]))
    apply rem_sure 3 (by kernel_rfl) rfl (wanted_none rfl)
    · intro w2 hS K hK
      exact wp_load_mid 84 _ rfl b 0 rfl (pr A0 A1) _ (hS.rg (by simp)) Try.underlying84 rfl (by rw [L01.out]; exact infoPr) (hK _ hS (Ext.refl _))
    · kernel_rfl
    · kernel_rfl
    try ((repeat rw [put_none]); (try simp only [put_some, List.setIfInBounds_toArray, List.set_cons_succ, List.set_cons_zero]))
    apply rem_sure 5 (by kernel_rfl) rfl (wanted_none rfl)
    · intro w2 hS K hK
      go_wp2_with fail
      exact hK _ hS (Ext.refl _)
    · kernel_rfl
    · kernel_rfl
    try ((repeat rw [put_none]); (try simp only [put_some, List.setIfInBounds_toArray, List.set_cons_succ, List.set_cons_zero]))
    apply rem_sure 6 (by kernel_rfl) rfl (wanted_none rfl)
    · intro w2 hS K hK
      go_wp2_with fail
      exact hK _ hS (Ext.refl _)
    · kernel_rfl
    · kernel_rfl
    try ((repeat rw [put_none]); (try simp only [put_some, List.setIfInBounds_toArray, List.set_cons_succ, List.set_cons_zero]))
    apply rem_sure 7 (by kernel_rfl) rfl (wanted_none rfl)
    · intro w2 hS K hK
      go_wp2_with fail
      exact hK _ hS (Ext.refl _)
    · kernel_rfl
    · kernel_rfl
    try ((repeat rw [put_none]); (try simp only [put_some, List.setIfInBounds_toArray, List.set_cons_succ, List.set_cons_zero]))
    apply rem_sure 8 (by kernel_rfl) rfl (wanted_none rfl)
    · intro w2 hS K hK
      exact wp_load_mid 84 _ rfl b 0 rfl (pr A0 A1) _ (hS.rg (by simp)) Try.underlying84 rfl (by rw [L01.out]; exact infoPr) (hK _ hS (Ext.refl _))
    · kernel_rfl
    · kernel_rfl
    try ((repeat rw [put_none]); (try simp only [put_some, List.setIfInBounds_toArray, List.set_cons_succ, List.set_cons_zero]))
    refine rem_three 4 10 11 (by kernel_rfl) (step_of rfl (wanted_none rfl) ?_) (step_of rfl (wanted_none rfl) ?_) (step_of rfl (wanted_none rfl) ?_)
    · intro v21 hS21 hE21 K hK
      go_wp2_with fail
      refine (lsum_fe A0 A1 X1 Z1 _ HA0.out HA1.out).mono ?_
      rintro e u21 ⟨A, rfl, hA, hk21⟩
      have sA := hA.size
      have oA := Lib.hid hA.one
      have HA := Lib.hid hA
      clear hA
      refine hK _ _ (hS21.keep hk21) ?_
      clear hK K
      try ((repeat rw [put_none]); (try simp only [put_some, List.setIfInBounds_toArray, List.set_cons_succ, List.set_cons_zero]))
      refine rem_three 9 10 11 (by kernel_rfl) (step_of rfl (wanted_none rfl) ?_) (step_of rfl (wanted_none rfl) ?_) (step_of rfl (wanted_none rfl) ?_)
      · intro v22 hS22 hE22 K hK
        go_wp2_with fail
        refine (ldiff_fe A0 A1 X1 Z1 _ HA0.out HA1.out).mono ?_
        rintro e u22 ⟨B, rfl, hB, hk22⟩
        have sB := hB.size
        have oB := Lib.hid hB.one
        have HB := Lib.hid hB
        clear hB
        refine hK _ _ (hS22.keep hk22) ?_
        clear hK K
        try ((repeat rw [put_none]); (try simp only [put_some, List.setIfInBounds_toArray, List.set_cons_succ, List.set_cons_zero]))
        refine rem_two 10 11 (by kernel_rfl) (step_of rfl (wanted_none rfl) ?_) (step_of rfl (wanted_none rfl) ?_)
        · intro v23 hS23 hE23 K hK
          go_wp2_with fail
          have al_nA := hS23
          refine hK _ _ (hS23.alloc _) ?_
          clear hK K
          try ((repeat rw [put_none]); (try simp only [put_some, List.setIfInBounds_toArray, List.set_cons_succ, List.set_cons_zero]))
          refine rem_one 11 (by kernel_rfl) (step_of rfl (wanted_none rfl) ?_)
          intro v24 hS24 hE24 K hK
          go_wp2_with fail
          have al_nB := hS24
          have lt_nA_nB := (Array.getElem?_eq_some_iff.1 (hE24 _ _ (heap_alloc_new v23 _))).1
          refine hK _ _ (hS24.alloc _) ?_
          clear hK K
          try ((repeat rw [put_none]); (try simp only [put_some, List.setIfInBounds_toArray, List.set_cons_succ, List.set_cons_zero]))
          refine rem_one 12 (by kernel_rfl) (step_of rfl (wanted_none rfl) ?_)
          intro v25 hS25 hE25 K hK
          have hg_nA := (hE25 _ _ (Ext.alloc v24 _ _ _ (hE24 _ _ (heap_alloc_new v23 _))))
          refine wp_store_row 46 _ _ rfl v23.heap.size A rfl rfl 46 _ hg_nA (by rw [sA]; exact infoNu) (by rw [sA]; rfl) oA.out ?_
          refine hK _ _ (al_nA.storeNew hS25 _) ?_
          clear hK K
          try ((repeat rw [put_none]); (try simp only [put_some, List.setIfInBounds_toArray, List.set_cons_succ, List.set_cons_zero]))
          refine rem_one 13 (by kernel_rfl) (step_of rfl (wanted_none rfl) ?_)
          intro v26 hS26 hE26 K hK
          have hg_nB := (hE26 _ _ ((setRow_other _ _ _ A (by omega)).trans (hE25 _ _ (heap_alloc_new v24 _))))
          refine wp_store_row 46 _ _ rfl v24.heap.size B rfl rfl 46 _ hg_nB (by rw [sB]; exact infoNu) (by rw [sB]; rfl) oB.out ?_
          refine hK _ _ (al_nB.storeNew hS26 _) ?_
          clear hK K
          try ((repeat rw [put_none]); (try simp only [put_some, List.setIfInBounds_toArray, List.set_cons_succ, List.set_cons_zero]))
          refine rem_nil ?_
          intro v9 hS9 hE9
          exact ⟨A, B, v23.heap.size, v24.heap.size, rfl, HA.out, HB.out, ((hS9.add (hE9 _ _ (setRow_here hg_nB B)) (by have := al_nB.tn.size; omega)).add (hE9 _ _ ((setRow_other _ _ _ B (by omega)).trans (hE26 _ _ (setRow_here hg_nA A)))) (by have := al_nA.tn.size; omega))⟩
        · intro v27 hS27 hE27 K hK
          go_wp2_with fail
          have al_nB := hS27
          refine hK _ _ (hS27.alloc _) ?_
          clear hK K
          try ((repeat rw [put_none]); (try simp only [put_some, List.setIfInBounds_toArray, List.set_cons_succ, List.set_cons_zero]))
          refine rem_one 10 (by kernel_rfl) (step_of rfl (wanted_none rfl) ?_)
          intro v28 hS28 hE28 K hK
          go_wp2_with fail
          have al_nA := hS28
          have lt_nB_nA := (Array.getElem?_eq_some_iff.1 (hE28 _ _ (heap_alloc_new v27 _))).1
          refine hK _ _ (hS28.alloc _) ?_
          clear hK K
          try ((repeat rw [put_none]); (try simp only [put_some, List.setIfInBounds_toArray, List.set_cons_succ, List.set_cons_zero]))
          refine rem_one 12 (by kernel_rfl) (step_of rfl (wanted_none rfl) ?_)
          intro v29 hS29 hE29 K hK
          have hg_nA := (hE29 _ _ (heap_alloc_new v28 _))
          refine wp_store_row 46 _ _ rfl v28.heap.size A rfl rfl 46 _ hg_nA (by rw [sA]; exact infoNu) (by rw [sA]; rfl) oA.out ?_
          refine hK _ _ (al_nA.storeNew hS29 _) ?_
          clear hK K
          try ((repeat rw [put_none]); (try simp only [put_some, List.setIfInBounds_toArray, List.set_cons_succ, List.set_cons_zero]))
          refine rem_one 13 (by kernel_rfl) (step_of rfl (wanted_none rfl) ?_)
          intro v30 hS30 hE30 K hK
          have hg_nB := (hE30 _ _ ((setRow_other _ _ _ A (by omega)).trans (hE29 _ _ (Ext.alloc v28 _ _ _ (hE28 _ _ (heap_alloc_new v27 _))))))
          refine wp_store_row 46 _ _ rfl v27.heap.size B rfl rfl 46 _ hg_nB (by rw [sB]; exact infoNu) (by rw [sB]; rfl) oB.out ?_
          refine hK _ _ (al_nB.storeNew hS30 _) ?_
          clear hK K
          try ((repeat rw [put_none]); (try simp only [put_some, List.setIfInBounds_toArray, List.set_cons_succ, List.set_cons_zero]))
          refine rem_nil ?_
          intro v9 hS9 hE9
          exact ⟨A, B, v28.heap.size, v27.heap.size, rfl, HA.out, HB.out, ((hS9.add (hE9 _ _ (setRow_here hg_nB B)) (by have := al_nB.tn.size; omega)).add (hE9 _ _ ((setRow_other _ _ _ B (by omega)).trans (hE30 _ _ (setRow_here hg_nA A)))) (by have := al_nA.tn.size; omega))⟩
      · intro v31 hS31 hE31 K hK
        go_wp2_with fail
        have al_nA := hS31
        refine hK _ _ (hS31.alloc _) ?_
        clear hK K
        try ((repeat rw [put_none]); (try simp only [put_some, List.setIfInBounds_toArray, List.set_cons_succ, List.set_cons_zero]))
        refine rem_two 9 11 (by kernel_rfl) (step_of rfl (wanted_none rfl) ?_) (step_of rfl (wanted_none rfl) ?_)
        · intro v32 hS32 hE32 K hK
          go_wp2_with fail
          refine (ldiff_fe A0 A1 X1 Z1 _ HA0.out HA1.out).mono ?_
          rintro e u32 ⟨B, rfl, hB, hk32⟩
          have sB := hB.size
          have oB := Lib.hid hB.one
          have HB := Lib.hid hB
          clear hB
          refine hK _ _ (hS32.keep hk32) ?_
          clear hK K
          try ((repeat rw [put_none]); (try simp only [put_some, List.setIfInBounds_toArray, List.set_cons_succ, List.set_cons_zero]))
          refine rem_one 11 (by kernel_rfl) (step_of rfl (wanted_none rfl) ?_)
          intro v33 hS33 hE33 K hK
          go_wp2_with fail
          have al_nB := hS33
          have lt_nA_nB := (Array.getElem?_eq_some_iff.1 (hE33 _ _ (block_stay hk32 (hE32 _ _ (heap_alloc_new v31 _))))).1
          refine hK _ _ (hS33.alloc _) ?_
          clear hK K
          try ((repeat rw [put_none]); (try simp only [put_some, List.setIfInBounds_toArray, List.set_cons_succ, List.set_cons_zero]))
          refine rem_one 12 (by kernel_rfl) (step_of rfl (wanted_none rfl) ?_)
          intro v34 hS34 hE34 K hK
          have hg_nA := (hE34 _ _ (Ext.alloc v33 _ _ _ (hE33 _ _ (block_stay hk32 (hE32 _ _ (heap_alloc_new v31 _))))))
          refine wp_store_row 46 _ _ rfl v31.heap.size A rfl rfl 46 _ hg_nA (by rw [sA]; exact infoNu) (by rw [sA]; rfl) oA.out ?_
          refine hK _ _ (al_nA.storeNew hS34 _) ?_
          clear hK K
          try ((repeat rw [put_none]); (try simp only [put_some, List.setIfInBounds_toArray, List.set_cons_succ, List.set_cons_zero]))
          refine rem_one 13 (by kernel_rfl) (step_of rfl (wanted_none rfl) ?_)
          intro v35 hS35 hE35 K hK
          have hg_nB := (hE35 _ _ ((setRow_other _ _ _ A (by omega)).trans (hE34 _ _ (heap_alloc_new v33 _))))
          refine wp_store_row 46 _ _ rfl v33.heap.size B rfl rfl 46 _ hg_nB (by rw [sB]; exact infoNu) (by rw [sB]; rfl) oB.out ?_
          refine hK _ _ (al_nB.storeNew hS35 _) ?_
          clear hK K
          try ((repeat rw [put_none]); (try simp only [put_some, List.setIfInBounds_toArray, List.set_cons_succ, List.set_cons_zero]))
          refine rem_nil ?_
          intro v9 hS9 hE9
          exact ⟨A, B, v31.heap.size, v33.heap.size, rfl, HA.out, HB.out, ((hS9.add (hE9 _ _ (setRow_here hg_nB B)) (by have := al_nB.tn.size; omega)).add (hE9 _ _ ((setRow_other _ _ _ B (by omega)).trans (hE35 _ _ (setRow_here hg_nA A)))) (by have := al_nA.tn.size; omega))⟩
        · intro v36 hS36 hE36 K hK
          go_wp2_with fail
          have al_nB := hS36
          have lt_nA_nB := (Array.getElem?_eq_some_iff.1 (hE36 _ _ (heap_alloc_new v31 _))).1
          refine hK _ _ (hS36.alloc _) ?_
          clear hK K
          try ((repeat rw [put_none]); (try simp only [put_some, List.setIfInBounds_toArray, List.set_cons_succ, List.set_cons_zero]))
          refine rem_one 9 (by kernel_rfl) (step_of rfl (wanted_none rfl) ?_)
          intro v37 hS37 hE37 K hK
          go_wp2_with fail
          refine (ldiff_fe A0 A1 X1 Z1 _ HA0.out HA1.out).mono ?_
          rintro e u37 ⟨B, rfl, hB, hk37⟩
          have sB := hB.size
          have oB := Lib.hid hB.one
          have HB := Lib.hid hB
          clear hB
          refine hK _ _ (hS37.keep hk37) ?_
          clear hK K
          try ((repeat rw [put_none]); (try simp only [put_some, List.setIfInBounds_toArray, List.set_cons_succ, List.set_cons_zero]))
          refine rem_one 12 (by kernel_rfl) (step_of rfl (wanted_none rfl) ?_)
          intro v38 hS38 hE38 K hK
          have hg_nA := (hE38 _ _ (block_stay hk37 (hE37 _ _ (Ext.alloc v36 _ _ _ (hE36 _ _ (heap_alloc_new v31 _))))))
          refine wp_store_row 46 _ _ rfl v31.heap.size A rfl rfl 46 _ hg_nA (by rw [sA]; exact infoNu) (by rw [sA]; rfl) oA.out ?_
          refine hK _ _ (al_nA.storeNew hS38 _) ?_
          clear hK K
          try ((repeat rw [put_none]); (try simp only [put_some, List.setIfInBounds_toArray, List.set_cons_succ, List.set_cons_zero]))
          refine rem_one 13 (by kernel_rfl) (step_of rfl (wanted_none rfl) ?_)
          intro v39 hS39 hE39 K hK
          have hg_nB := (hE39 _ _ ((setRow_other _ _ _ A (by omega)).trans (hE38 _ _ (block_stay hk37 (hE37 _ _ (heap_alloc_new v36 _))))))
          refine wp_store_row 46 _ _ rfl v36.heap.size B rfl rfl 46 _ hg_nB (by rw [sB]; exact infoNu) (by rw [sB]; rfl) oB.out ?_
          refine hK _ _ (al_nB.storeNew hS39 _) ?_
          clear hK K
          try ((repeat rw [put_none]); (try simp only [put_some, List.setIfInBounds_toArray, List.set_cons_succ, List.set_cons_zero]))
          refine rem_nil ?_
          intro v9 hS9 hE9
          exact ⟨A, B, v31.heap.size, v36.heap.size, rfl, HA.out, HB.out, ((hS9.add (hE9 _ _ (setRow_here hg_nB B)) (by have := al_nB.tn.size; omega)).add (hE9 _ _ ((setRow_other _ _ _ B (by omega)).trans (hE39 _ _ (setRow_here hg_nA A)))) (by have := al_nA.tn.size; omega))⟩
      · intro v40 hS40 hE40 K hK
        go_wp2_with fail
        have al_nB := hS40
        refine hK _ _ (hS40.alloc _) ?_
        clear hK K
        try ((repeat rw [put_none]); (try simp only [put_some, List.setIfInBounds_toArray, List.set_cons_succ, List.set_cons_zero]))
        refine rem_two 9 10 (by kernel_rfl) (step_of rfl (wanted_none rfl) ?_) (step_of rfl (wanted_none rfl) ?_)
        · intro v41 hS41 hE41 K hK
          go_wp2_with fail
          refine (ldiff_fe A0 A1 X1 Z1 _ HA0.out HA1.out).mono ?_
          rintro e u41 ⟨B, rfl, hB, hk41⟩
          have sB := hB.size
          have oB := Lib.hid hB.one
          have HB := Lib.hid hB
          clear hB
          refine hK _ _ (hS41.keep hk41) ?_
          clear hK K
          try ((repeat rw [put_none]); (try simp only [put_some, List.setIfInBounds_toArray, List.set_cons_succ, List.set_cons_zero]))
          refine rem_one 10 (by kernel_rfl) (step_of rfl (wanted_none rfl) ?_)
          intro v42 hS42 hE42 K hK
          go_wp2_with fail
          have al_nA := hS42
          have lt_nB_nA := (Array.getElem?_eq_some_iff.1 (hE42 _ _ (block_stay hk41 (hE41 _ _ (heap_alloc_new v40 _))))).1
          refine hK _ _ (hS42.alloc _) ?_
          clear hK K
          try ((repeat rw [put_none]); (try simp only [put_some, List.setIfInBounds_toArray, List.set_cons_succ, List.set_cons_zero]))
          refine rem_one 12 (by kernel_rfl) (step_of rfl (wanted_none rfl) ?_)
          intro v43 hS43 hE43 K hK
          have hg_nA := (hE43 _ _ (heap_alloc_new v42 _))
          refine wp_store_row 46 _ _ rfl v42.heap.size A rfl rfl 46 _ hg_nA (by rw [sA]; exact infoNu) (by rw [sA]; rfl) oA.out ?_
          refine hK _ _ (al_nA.storeNew hS43 _) ?_
          clear hK K
          try ((repeat rw [put_none]); (try simp only [put_some, List.setIfInBounds_toArray, List.set_cons_succ, List.set_cons_zero]))
          refine rem_one 13 (by kernel_rfl) (step_of rfl (wanted_none rfl) ?_)
          intro v44 hS44 hE44 K hK
          have hg_nB := (hE44 _ _ ((setRow_other _ _ _ A (by omega)).trans (hE43 _ _ (Ext.alloc v42 _ _ _ (hE42 _ _ (block_stay hk41 (hE41 _ _ (heap_alloc_new v40 _))))))))
          refine wp_store_row 46 _ _ rfl v40.heap.size B rfl rfl 46 _ hg_nB (by rw [sB]; exact infoNu) (by rw [sB]; rfl) oB.out ?_
          refine hK _ _ (al_nB.storeNew hS44 _) ?_
          clear hK K
          try ((repeat rw [put_none]); (try simp only [put_some, List.setIfInBounds_toArray, List.set_cons_succ, List.set_cons_zero]))
          refine rem_nil ?_
          intro v9 hS9 hE9
          exact ⟨A, B, v42.heap.size, v40.heap.size, rfl, HA.out, HB.out, ((hS9.add (hE9 _ _ (setRow_here hg_nB B)) (by have := al_nB.tn.size; omega)).add (hE9 _ _ ((setRow_other _ _ _ B (by omega)).trans (hE44 _ _ (setRow_here hg_nA A)))) (by have := al_nA.tn.size; omega))⟩
        · intro v45 hS45 hE45 K hK
          go_wp2_with fail
          have al_nA := hS45
          have lt_nB_nA := (Array.getElem?_eq_some_iff.1 (hE45 _ _ (heap_alloc_new v40 _))).1
          refine hK _ _ (hS45.alloc _) ?_
          clear hK K
          try ((repeat rw [put_none]); (try simp only [put_some, List.setIfInBounds_toArray, List.set_cons_succ, List.set_cons_zero]))
          refine rem_one 9 (by kernel_rfl) (step_of rfl (wanted_none rfl) ?_)
          intro v46 hS46 hE46 K hK
          go_wp2_with fail
          refine (ldiff_fe A0 A1 X1 Z1 _ HA0.out HA1.out).mono ?_
          rintro e u46 ⟨B, rfl, hB, hk46⟩
          have sB := hB.size
          have oB := Lib.hid hB.one
          have HB := Lib.hid hB
          clear hB
          refine hK _ _ (hS46.keep hk46) ?_
          clear hK K
          try ((repeat rw [put_none]); (try simp only [put_some, List.setIfInBounds_toArray, List.set_cons_succ, List.set_cons_zero]))
          refine rem_one 12 (by kernel_rfl) (step_of rfl (wanted_none rfl) ?_)
          intro v47 hS47 hE47 K hK
          have hg_nA := (hE47 _ _ (block_stay hk46 (hE46 _ _ (heap_alloc_new v45 _))))
          refine wp_store_row 46 _ _ rfl v45.heap.size A rfl rfl 46 _ hg_nA (by rw [sA]; exact infoNu) (by rw [sA]; rfl) oA.out ?_
          refine hK _ _ (al_nA.storeNew hS47 _) ?_
          clear hK K
          try ((repeat rw [put_none]); (try simp only [put_some, List.setIfInBounds_toArray, List.set_cons_succ, List.set_cons_zero]))
          refine rem_one 13 (by kernel_rfl) (step_of rfl (wanted_none rfl) ?_)
          intro v48 hS48 hE48 K hK
          have hg_nB := (hE48 _ _ ((setRow_other _ _ _ A (by omega)).trans (hE47 _ _ (block_stay hk46 (hE46 _ _ (Ext.alloc v45 _ _ _ (hE45 _ _ (heap_alloc_new v40 _))))))))
          refine wp_store_row 46 _ _ rfl v40.heap.size B rfl rfl 46 _ hg_nB (by rw [sB]; exact infoNu) (by rw [sB]; rfl) oB.out ?_
          refine hK _ _ (al_nB.storeNew hS48 _) ?_
          clear hK K
          try ((repeat rw [put_none]); (try simp only [put_some, List.setIfInBounds_toArray, List.set_cons_succ, List.set_cons_zero]))
          refine rem_nil ?_
          intro v9 hS9 hE9
          exact ⟨A, B, v45.heap.size, v40.heap.size, rfl, HA.out, HB.out, ((hS9.add (hE9 _ _ (setRow_here hg_nB B)) (by have := al_nB.tn.size; omega)).add (hE9 _ _ ((setRow_other _ _ _ B (by omega)).trans (hE48 _ _ (setRow_here hg_nA A)))) (by have := al_nA.tn.size; omega))⟩
    · intro v49 hS49 hE49 K hK
      go_wp2_with fail
      have al_nA := hS49
      refine hK _ _ (hS49.alloc _) ?_
      clear hK K
      try ((repeat rw [put_none]); (try simp only [put_some, List.setIfInBounds_toArray, List.set_cons_succ, List.set_cons_zero]))
      refine rem_two 4 11 (by kernel_rfl) (step_of rfl (wanted_none rfl) ?_) (step_of rfl (wanted_none rfl) ?_)
      · intro v50 hS50 hE50 K hK
        go_wp2_with fail
        refine (lsum_fe A0 A1 X1 Z1 _ HA0.out HA1.out).mono ?_
        rintro e u50 ⟨A, rfl, hA, hk50⟩
        have sA := hA.size
        have oA := Lib.hid hA.one
        have HA := Lib.hid hA
        clear hA
        refine hK _ _ (hS50.keep hk50) ?_
        clear hK K
        try ((repeat rw [put_none]); (try simp only [put_some, List.setIfInBounds_toArray, List.set_cons_succ, List.set_cons_zero]))
        refine rem_two 9 11 (by kernel_rfl) (step_of rfl (wanted_none rfl) ?_) (step_of rfl (wanted_none rfl) ?_)
        · intro v51 hS51 hE51 K hK
          go_wp2_with fail
          refine (ldiff_fe A0 A1 X1 Z1 _ HA0.out HA1.out).mono ?_
          rintro e u51 ⟨B, rfl, hB, hk51⟩
          have sB := hB.size
          have oB := Lib.hid hB.one
          have HB := Lib.hid hB
          clear hB
          refine hK _ _ (hS51.keep hk51) ?_
          clear hK K
          try ((repeat rw [put_none]); (try simp only [put_some, List.setIfInBounds_toArray, List.set_cons_succ, List.set_cons_zero]))
          refine rem_one 11 (by kernel_rfl) (step_of rfl (wanted_none rfl) ?_)
          intro v52 hS52 hE52 K hK
          go_wp2_with fail
          have al_nB := hS52
          have lt_nA_nB := (Array.getElem?_eq_some_iff.1 (hE52 _ _ (block_stay hk51 (hE51 _ _ (block_stay hk50 (hE50 _ _ (heap_alloc_new v49 _))))))).1
          refine hK _ _ (hS52.alloc _) ?_
          clear hK K
          try ((repeat rw [put_none]); (try simp only [put_some, List.setIfInBounds_toArray, List.set_cons_succ, List.set_cons_zero]))
          refine rem_one 12 (by kernel_rfl) (step_of rfl (wanted_none rfl) ?_)
          intro v53 hS53 hE53 K hK
          have hg_nA := (hE53 _ _ (Ext.alloc v52 _ _ _ (hE52 _ _ (block_stay hk51 (hE51 _ _ (block_stay hk50 (hE50 _ _ (heap_alloc_new v49 _))))))))
          refine wp_store_row 46 _ _ rfl v49.heap.size A rfl rfl 46 _ hg_nA (by rw [sA]; exact infoNu) (by rw [sA]; rfl) oA.out ?_
          refine hK _ _ (al_nA.storeNew hS53 _) ?_
          clear hK K
          try ((repeat rw [put_none]); (try simp only [put_some, List.setIfInBounds_toArray, List.set_cons_succ, List.set_cons_zero]))
          refine rem_one 13 (by kernel_rfl) (step_of rfl (wanted_none rfl) ?_)
          intro v54 hS54 hE54 K hK
          have hg_nB := (hE54 _ _ ((setRow_other _ _ _ A (by omega)).trans (hE53 _ _ (heap_alloc_new v52 _))))
          refine wp_store_row 46 _ _ rfl v52.heap.size B rfl rfl 46 _ hg_nB (by rw [sB]; exact infoNu) (by rw [sB]; rfl) oB.out ?_
          refine hK _ _ (al_nB.storeNew hS54 _) ?_
          clear hK K
          try ((repeat rw [put_none]); (try simp only [put_some, List.setIfInBounds_toArray, List.set_cons_succ, List.set_cons_zero]))
          refine rem_nil ?_
          intro v9 hS9 hE9
          exact ⟨A, B, v49.heap.size, v52.heap.size, rfl, HA.out, HB.out, ((hS9.add (hE9 _ _ (setRow_here hg_nB B)) (by have := al_nB.tn.size; omega)).add (hE9 _ _ ((setRow_other _ _ _ B (by omega)).trans (hE54 _ _ (setRow_here hg_nA A)))) (by have := al_nA.tn.size; omega))⟩
        · intro v55 hS55 hE55 K hK
          go_wp2_with fail
          have al_nB := hS55
          have lt_nA_nB := (Array.getElem?_eq_some_iff.1 (hE55 _ _ (block_stay hk50 (hE50 _ _ (heap_alloc_new v49 _))))).1
          refine hK _ _ (hS55.alloc _) ?_
          clear hK K
          try ((repeat rw [put_none]); (try simp only [put_some, List.setIfInBounds_toArray, List.set_cons_succ, List.set_cons_zero]))
          refine rem_one 9 (by kernel_rfl) (step_of rfl (wanted_none rfl) ?_)
          intro v56 hS56 hE56 K hK
          go_wp2_with fail
          refine (ldiff_fe A0 A1 X1 Z1 _ HA0.out HA1.out).mono ?_
          rintro e u56 ⟨B, rfl, hB, hk56⟩
          have sB := hB.size
          have oB := Lib.hid hB.one
          have HB := Lib.hid hB
          clear hB
          refine hK _ _ (hS56.keep hk56) ?_
          clear hK K
          try ((repeat rw [put_none]); (try simp only [put_some, List.setIfInBounds_toArray, List.set_cons_succ, List.set_cons_zero]))
          refine rem_one 12 (by kernel_rfl) (step_of rfl (wanted_none rfl) ?_)
          intro v57 hS57 hE57 K hK
          have hg_nA := (hE57 _ _ (block_stay hk56 (hE56 _ _ (Ext.alloc v55 _ _ _ (hE55 _ _ (block_stay hk50 (hE50 _ _ (heap_alloc_new v49 _))))))))
          refine wp_store_row 46 _ _ rfl v49.heap.size A rfl rfl 46 _ hg_nA (by rw [sA]; exact infoNu) (by rw [sA]; rfl) oA.out ?_
          refine hK _ _ (al_nA.storeNew hS57 _) ?_
          clear hK K
          try ((repeat rw [put_none]); (try simp only [put_some, List.setIfInBounds_toArray, List.set_cons_succ, List.set_cons_zero]))
          refine rem_one 13 (by kernel_rfl) (step_of rfl (wanted_none rfl) ?_)
          intro v58 hS58 hE58 K hK
          have hg_nB := (hE58 _ _ ((setRow_other _ _ _ A (by omega)).trans (hE57 _ _ (block_stay hk56 (hE56 _ _ (heap_alloc_new v55 _))))))
          refine wp_store_row 46 _ _ rfl v55.heap.size B rfl rfl 46 _ hg_nB (by rw [sB]; exact infoNu) (by rw [sB]; rfl) oB.out ?_
          refine hK _ _ (al_nB.storeNew hS58 _) ?_
          clear hK K
          try ((repeat rw [put_none]); (try simp only [put_some, List.setIfInBounds_toArray, List.set_cons_succ, List.set_cons_zero]))
          refine rem_nil ?_
          intro v9 hS9 hE9
          exact ⟨A, B, v49.heap.size, v55.heap.size, rfl, HA.out, HB.out, ((hS9.add (hE9 _ _ (setRow_here hg_nB B)) (by have := al_nB.tn.size; omega)).add (hE9 _ _ ((setRow_other _ _ _ B (by omega)).trans (hE58 _ _ (setRow_here hg_nA A)))) (by have := al_nA.tn.size; omega))⟩
      · intro v59 hS59 hE59 K hK
        go_wp2_with fail
        have al_nB := hS59
        have lt_nA_nB := (Array.getElem?_eq_some_iff.1 (hE59 _ _ (heap_alloc_new v49 _))).1
        refine hK _ _ (hS59.alloc _) ?_
        clear hK K
        try ((repeat rw [put_none]); (try simp only [put_some, List.setIfInBounds_toArray, List.set_cons_succ, List.set_cons_zero]))
        refine rem_one 4 (by kernel_rfl) (step_of rfl (wanted_none rfl) ?_)
        intro v60 hS60 hE60 K hK
        go_wp2_with fail
        refine (lsum_fe A0 A1 X1 Z1 _ HA0.out HA1.out).mono ?_
        rintro e u60 ⟨A, rfl, hA, hk60⟩
        have sA := hA.size
        have oA := Lib.hid hA.one
        have HA := Lib.hid hA
        clear hA
        refine hK _ _ (hS60.keep hk60) ?_
        clear hK K
        try ((repeat rw [put_none]); (try simp only [put_some, List.setIfInBounds_toArray, List.set_cons_succ, List.set_cons_zero]))
        refine rem_one 9 (by kernel_rfl) (step_of rfl (wanted_none rfl) ?_)
        intro v61 hS61 hE61 K hK
        go_wp2_with fail
        refine (ldiff_fe A0 A1 X1 Z1 _ HA0.out HA1.out).mono ?_
        rintro e u61 ⟨B, rfl, hB, hk61⟩
        have sB := hB.size
        have oB := Lib.hid hB.one
        have HB := Lib.hid hB
        clear hB
        refine hK _ _ (hS61.keep hk61) ?_
        clear hK K
        try ((repeat rw [put_none]); (try simp only [put_some, List.setIfInBounds_toArray, List.set_cons_succ, List.set_cons_zero]))
        refine rem_one 12 (by kernel_rfl) (step_of rfl (wanted_none rfl) ?_)
        intro v62 hS62 hE62 K hK
        have hg_nA := (hE62 _ _ (block_stay hk61 (hE61 _ _ (block_stay hk60 (hE60 _ _ (Ext.alloc v59 _ _ _ (hE59 _ _ (heap_alloc_new v49 _))))))))
        refine wp_store_row 46 _ _ rfl v49.heap.size A rfl rfl 46 _ hg_nA (by rw [sA]; exact infoNu) (by rw [sA]; rfl) oA.out ?_
        refine hK _ _ (al_nA.storeNew hS62 _) ?_
        clear hK K
        try ((repeat rw [put_none]); (try simp only [put_some, List.setIfInBounds_toArray, List.set_cons_succ, List.set_cons_zero]))
        refine rem_one 13 (by kernel_rfl) (step_of rfl (wanted_none rfl) ?_)
        intro v63 hS63 hE63 K hK
        have hg_nB := (hE63 _ _ ((setRow_other _ _ _ A (by omega)).trans (hE62 _ _ (block_stay hk61 (hE61 _ _ (block_stay hk60 (hE60 _ _ (heap_alloc_new v59 _))))))))
        refine wp_store_row 46 _ _ rfl v59.heap.size B rfl rfl 46 _ hg_nB (by rw [sB]; exact infoNu) (by rw [sB]; rfl) oB.out ?_
        refine hK _ _ (al_nB.storeNew hS63 _) ?_
        clear hK K
        try ((repeat rw [put_none]); (try simp only [put_some, List.setIfInBounds_toArray, List.set_cons_succ, List.set_cons_zero]))
        refine rem_nil ?_
        intro v9 hS9 hE9
        exact ⟨A, B, v49.heap.size, v59.heap.size, rfl, HA.out, HB.out, ((hS9.add (hE9 _ _ (setRow_here hg_nB B)) (by have := al_nB.tn.size; omega)).add (hE9 _ _ ((setRow_other _ _ _ B (by omega)).trans (hE63 _ _ (setRow_here hg_nA A)))) (by have := al_nA.tn.size; omega))⟩
    · intro v64 hS64 hE64 K hK
      go_wp2_with fail
      have al_nB := hS64
      refine hK _ _ (hS64.alloc _) ?_
      clear hK K
      try ((repeat rw [put_none]); (try simp only [put_some, List.setIfInBounds_toArray, List.set_cons_succ, List.set_cons_zero]))
      refine rem_two 4 10 (by kernel_rfl) (step_of rfl (wanted_none rfl) ?_) (step_of rfl (wanted_none rfl) ?_)
      · intro v65 hS65 hE65 K hK
        go_wp2_with fail
        refine (lsum_fe A0 A1 X1 Z1 _ HA0.out HA1.out).mono ?_
        rintro e u65 ⟨A, rfl, hA, hk65⟩
        have sA := hA.size
        have oA := Lib.hid hA.one
        have HA := Lib.hid hA
        clear hA
        refine hK _ _ (hS65.keep hk65) ?_
        clear hK K
        try ((repeat rw [put_none]); (try simp only [put_some, List.setIfInBounds_toArray, List.set_cons_succ, List.set_cons_zero]))
        refine rem_two 9 10 (by kernel_rfl) (step_of rfl (wanted_none rfl) ?_) (step_of rfl (wanted_none rfl) ?_)
        · intro v66 hS66 hE66 K hK
          go_wp2_with fail
          refine (ldiff_fe A0 A1 X1 Z1 _ HA0.out HA1.out).mono ?_
          rintro e u66 ⟨B, rfl, hB, hk66⟩
          have sB := hB.size
          have oB := Lib.hid hB.one
          have HB := Lib.hid hB
          clear hB
          refine hK _ _ (hS66.keep hk66) ?_
          clear hK K
          try ((repeat rw [put_none]); (try simp only [put_some, List.setIfInBounds_toArray, List.set_cons_succ, List.set_cons_zero]))
          refine rem_one 10 (by kernel_rfl) (step_of rfl (wanted_none rfl) ?_)
          intro v67 hS67 hE67 K hK
          go_wp2_with fail
          have al_nA := hS67
          have lt_nB_nA := (Array.getElem?_eq_some_iff.1 (hE67 _ _ (block_stay hk66 (hE66 _ _ (block_stay hk65 (hE65 _ _ (heap_alloc_new v64 _))))))).1
          refine hK _ _ (hS67.alloc _) ?_
          clear hK K
          try ((repeat rw [put_none]); (try simp only [put_some, List.setIfInBounds_toArray, List.set_cons_succ, List.set_cons_zero]))
          refine rem_one 12 (by kernel_rfl) (step_of rfl (wanted_none rfl) ?_)
          intro v68 hS68 hE68 K hK
          have hg_nA := (hE68 _ _ (heap_alloc_new v67 _))
          refine wp_store_row 46 _ _ rfl v67.heap.size A rfl rfl 46 _ hg_nA (by rw [sA]; exact infoNu) (by rw [sA]; rfl) oA.out ?_
          refine hK _ _ (al_nA.storeNew hS68 _) ?_
          clear hK K
          try ((repeat rw [put_none]); (try simp only [put_some, List.setIfInBounds_toArray, List.set_cons_succ, List.set_cons_zero]))
          refine rem_one 13 (by kernel_rfl) (step_of rfl (wanted_none rfl) ?_)
          intro v69 hS69 hE69 K hK
          have hg_nB := (hE69 _ _ ((setRow_other _ _ _ A (by omega)).trans (hE68 _ _ (Ext.alloc v67 _ _ _ (hE67 _ _ (block_stay hk66 (hE66 _ _ (block_stay hk65 (hE65 _ _ (heap_alloc_new v64 _))))))))))
          refine wp_store_row 46 _ _ rfl v64.heap.size B rfl rfl 46 _ hg_nB (by rw [sB]; exact infoNu) (by rw [sB]; rfl) oB.out ?_
          refine hK _ _ (al_nB.storeNew hS69 _) ?_
          clear hK K
          try ((repeat rw [put_none]); (try simp only [put_some, List.setIfInBounds_toArray, List.set_cons_succ, List.set_cons_zero]))
          refine rem_nil ?_
          intro v9 hS9 hE9
          exact ⟨A, B, v67.heap.size, v64.heap.size, rfl, HA.out, HB.out, ((hS9.add (hE9 _ _ (setRow_here hg_nB B)) (by have := al_nB.tn.size; omega)).add (hE9 _ _ ((setRow_other _ _ _ B (by omega)).trans (hE69 _ _ (setRow_here hg_nA A)))) (by have := al_nA.tn.size; omega))⟩
        · intro v70 hS70 hE70 K hK
          go_wp2_with fail
          have al_nA := hS70
          have lt_nB_nA := (Array.getElem?_eq_some_iff.1 (hE70 _ _ (block_stay hk65 (hE65 _ _ (heap_alloc_new v64 _))))).1
          refine hK _ _ (hS70.alloc _) ?_
          clear hK K
          try ((repeat rw [put_none]); (try simp only [put_some, List.setIfInBounds_toArray, List.set_cons_succ, List.set_cons_zero]))
          refine rem_one 9 (by kernel_rfl) (step_of rfl (wanted_none rfl) ?_)
          intro v71 hS71 hE71 K hK
          go_wp2_with fail
          refine (ldiff_fe A0 A1 X1 Z1 _ HA0.out HA1.out).mono ?_
          rintro e u71 ⟨B, rfl, hB, hk71⟩
          have sB := hB.size
          have oB := Lib.hid hB.one
          have HB := Lib.hid hB
          clear hB
          refine hK _ _ (hS71.keep hk71) ?_
          clear hK K
          try ((repeat rw [put_none]); (try simp only [put_some, List.setIfInBounds_toArray, List.set_cons_succ, List.set_cons_zero]))
          refine rem_one 12 (by kernel_rfl) (step_of rfl (wanted_none rfl) ?_)
          intro v72 hS72 hE72 K hK
          have hg_nA := (hE72 _ _ (block_stay hk71 (hE71 _ _ (heap_alloc_new v70 _))))
          refine wp_store_row 46 _ _ rfl v70.heap.size A rfl rfl 46 _ hg_nA (by rw [sA]; exact infoNu) (by rw [sA]; rfl) oA.out ?_
          refine hK _ _ (al_nA.storeNew hS72 _) ?_
          clear hK K
          try ((repeat rw [put_none]); (try simp only [put_some, List.setIfInBounds_toArray, List.set_cons_succ, List.set_cons_zero]))
          refine rem_one 13 (by kernel_rfl) (step_of rfl (wanted_none rfl) ?_)
          intro v73 hS73 hE73 K hK
          have hg_nB := (hE73 _ _ ((setRow_other _ _ _ A (by omega)).trans (hE72 _ _ (block_stay hk71 (hE71 _ _ (Ext.alloc v70 _ _ _ (hE70 _ _ (block_stay hk65 (hE65 _ _ (heap_alloc_new v64 _))))))))))
          refine wp_store_row 46 _ _ rfl v64.heap.size B rfl rfl 46 _ hg_nB (by rw [sB]; exact infoNu) (by rw [sB]; rfl) oB.out ?_
          refine hK _ _ (al_nB.storeNew hS73 _) ?_
          clear hK K
          try ((repeat rw [put_none]); (try simp only [put_some, List.setIfInBounds_toArray, List.set_cons_succ, List.set_cons_zero]))
          refine rem_nil ?_
          intro v9 hS9 hE9
          exact ⟨A, B, v70.heap.size, v64.heap.size, rfl, HA.out, HB.out, ((hS9.add (hE9 _ _ (setRow_here hg_nB B)) (by have := al_nB.tn.size; omega)).add (hE9 _ _ ((setRow_other _ _ _ B (by omega)).trans (hE73 _ _ (setRow_here hg_nA A)))) (by have := al_nA.tn.size; omega))⟩
      · intro v74 hS74 hE74 K hK
        go_wp2_with fail
        have al_nA := hS74
        have lt_nB_nA := (Array.getElem?_eq_some_iff.1 (hE74 _ _ (heap_alloc_new v64 _))).1
        refine hK _ _ (hS74.alloc _) ?_
        clear hK K
        try ((repeat rw [put_none]); (try simp only [put_some, List.setIfInBounds_toArray, List.set_cons_succ, List.set_cons_zero]))
        refine rem_one 4 (by kernel_rfl) (step_of rfl (wanted_none rfl) ?_)
        intro v75 hS75 hE75 K hK
        go_wp2_with fail
        refine (lsum_fe A0 A1 X1 Z1 _ HA0.out HA1.out).mono ?_
        rintro e u75 ⟨A, rfl, hA, hk75⟩
        have sA := hA.size
        have oA := Lib.hid hA.one
        have HA := Lib.hid hA
        clear hA
        refine hK _ _ (hS75.keep hk75) ?_
        clear hK K
        try ((repeat rw [put_none]); (try simp only [put_some, List.setIfInBounds_toArray, List.set_cons_succ, List.set_cons_zero]))
        refine rem_one 9 (by kernel_rfl) (step_of rfl (wanted_none rfl) ?_)
        intro v76 hS76 hE76 K hK
        go_wp2_with fail
        refine (ldiff_fe A0 A1 X1 Z1 _ HA0.out HA1.out).mono ?_
        rintro e u76 ⟨B, rfl, hB, hk76⟩
        have sB := hB.size
        have oB := Lib.hid hB.one
        have HB := Lib.hid hB
        clear hB
        refine hK _ _ (hS76.keep hk76) ?_
        clear hK K
        try ((repeat rw [put_none]); (try simp only [put_some, List.setIfInBounds_toArray, List.set_cons_succ, List.set_cons_zero]))
        refine rem_one 12 (by kernel_rfl) (step_of rfl (wanted_none rfl) ?_)
        intro v77 hS77 hE77 K hK
        have hg_nA := (hE77 _ _ (block_stay hk76 (hE76 _ _ (block_stay hk75 (hE75 _ _ (heap_alloc_new v74 _))))))
        refine wp_store_row 46 _ _ rfl v74.heap.size A rfl rfl 46 _ hg_nA (by rw [sA]; exact infoNu) (by rw [sA]; rfl) oA.out ?_
        refine hK _ _ (al_nA.storeNew hS77 _) ?_
        clear hK K
        try ((repeat rw [put_none]); (try simp only [put_some, List.setIfInBounds_toArray, List.set_cons_succ, List.set_cons_zero]))
        refine rem_one 13 (by kernel_rfl) (step_of rfl (wanted_none rfl) ?_)
        intro v78 hS78 hE78 K hK
        have hg_nB := (hE78 _ _ ((setRow_other _ _ _ A (by omega)).trans (hE77 _ _ (block_stay hk76 (hE76 _ _ (block_stay hk75 (hE75 _ _ (Ext.alloc v74 _ _ _ (hE74 _ _ (heap_alloc_new v64 _))))))))))
        refine wp_store_row 46 _ _ rfl v64.heap.size B rfl rfl 46 _ hg_nB (by rw [sB]; exact infoNu) (by rw [sB]; rfl) oB.out ?_
        refine hK _ _ (al_nB.storeNew hS78 _) ?_
        clear hK K
        try ((repeat rw [put_none]); (try simp only [put_some, List.setIfInBounds_toArray, List.set_cons_succ, List.set_cons_zero]))
        refine rem_nil ?_
        intro v9 hS9 hE9
        exact ⟨A, B, v74.heap.size, v64.heap.size, rfl, HA.out, HB.out, ((hS9.add (hE9 _ _ (setRow_here hg_nB B)) (by have := al_nB.tn.size; omega)).add (hE9 _ _ ((setRow_other _ _ _ B (by omega)).trans (hE78 _ _ (setRow_here hg_nA A)))) (by have := al_nA.tn.size; omega))⟩
  rintro b' w' ⟨A, B, g2, g3, rfl, hA, hB, hst⟩
  have sA := hA.size
  have oA := Lib.hid hA.one
  have HA := Lib.hid hA
  clear hA
  have sB := hB.size
  have oB := Lib.hid hB.one
  have HB := Lib.hid hB
  clear hB
  try ((repeat rw [put_none]); (try simp only [put_some, List.setIfInBounds_toArray, List.set_cons_succ, List.set_cons_zero]))
  go_wp2_with fail
  refine wp_region_then (fun a b' w' => ∃ (DX SX DA CB : Array Value) (g4 g5 : Nat), b' = ((((((((((((((((a.put (some 21) (.pointer (some ⟨b, 0, none⟩))).put (some 22) (.pointer (some ⟨b, 0, none⟩))).put (some 23) (.pointer (some ⟨b, 10, none⟩))).put (some 24) (.agg (pr A2 A3).toArray)).put (some 25) (.agg DX)).put (some 26) (.agg A)).put (some 27) (.agg DA)).put (some 28) (.pointer (some ⟨b, 0, none⟩))).put (some 29) (.pointer (some ⟨b, 0, none⟩))).put (some 30) (.pointer (some ⟨b, 10, none⟩))).put (some 31) (.agg (pr A2 A3).toArray)).put (some 32) (.agg SX)).put (some 33) (.agg B)).put (some 34) (.agg CB)).put (some 4) (.pointer (some ⟨g4, 0, none⟩))).put (some 5) (.pointer (some ⟨g5, 0, none⟩))) ∧ FeA DA ((X2 - Z2) * (X1 + Z1)) ∧ FeA CB ((X2 + Z2) * (X1 - Z1)) ∧ Kt w b [(g4, DA), (g5, CB), (g2, A), (g3, B)] [(0, pr A0 A1), (10, pr A2 A3), (20, A4.toList)] w') ?_ ?_
  · refine wp_region_rem (Kt w b [(g2, A), (g3, B)] [(0, pr A0 A1), (10, pr A2 A3), (20, A4.toList)]) (by kernel_rfl) (by kernel_rfl) (fun _ _ _ _ _ h => h.elim) hst.drew ?_
    apply rem_sure 0 (by kernel_rfl) rfl (wanted_none rfl)
    · intro w2 hS K hK
      go_wp2_with fail
      exact hK _ hS (Ext.refl _)
    · kernel_rfl
    · kernel_rfl
    try ((repeat rw [put_none]); (try simp only [put_some, List.setIfInBounds_toArray, List.set_cons_succ, List.set_cons_zero]))
    apply rem_sure 1 (by kernel_rfl) rfl (wanted_none rfl)
    · intro w2 hS K hK
      go_wp2_with fail
      exact hK _ hS (Ext.refl _)
    · kernel_rfl
    · kernel_rfl
    try ((repeat rw [put_none]); (try simp only [put_some, List.setIfInBounds_toArray, List.set_cons_succ, List.set_cons_zero]))
    apply rem_sure 2 (by kernel_rfl) rfl (wanted_none rfl)
    · intro w2 hS K hK
      go_wp2_with fail
      exact hK _ hS (Ext.refl _)
    · kernel_rfl
    · kernel_rfl
    try ((repeat rw [put_none]); (try simp only [put_some, List.setIfInBounds_toArray, List.set_cons_succ, List.set_cons_zero]))
    apply rem_sure 3 (by kernel_rfl) rfl (wanted_none rfl)
    · intro w2 hS K hK
      exact wp_load_mid 84 _ rfl b 10 rfl (pr A2 A3) _ (hS.rg (by simp)) Try.underlying84 rfl (by rw [L23.out]; exact infoPr) (hK _ hS (Ext.refl _))
    · kernel_rfl
    · kernel_rfl
    try ((repeat rw [put_none]); (try simp only [put_some, List.setIfInBounds_toArray, List.set_cons_succ, List.set_cons_zero]))
    apply rem_sure 5 (by kernel_rfl) rfl (wanted_none rfl)
    · intro w2 hS K hK
      exact wp_load_row 46 _ rfl g2 rfl _ A _ _ (hS.at_ (by simp)) Try.underlying46 rfl (by rw [sA]; exact infoNu) (hK _ hS (Ext.refl _))
    · kernel_rfl
    · kernel_rfl
    try ((repeat rw [put_none]); (try simp only [put_some, List.setIfInBounds_toArray, List.set_cons_succ, List.set_cons_zero]))
    apply rem_sure 7 (by kernel_rfl) rfl (wanted_none rfl)
    · intro w2 hS K hK
      go_wp2_with fail
      exact hK _ hS (Ext.refl _)
    · kernel_rfl
    · kernel_rfl
    try ((repeat rw [put_none]); (try simp only [put_some, List.setIfInBounds_toArray, List.set_cons_succ, List.set_cons_zero]))
    apply rem_sure 8 (by kernel_rfl) rfl (wanted_none rfl)
    · intro w2 hS K hK
      go_wp2_with fail
      exact hK _ hS (Ext.refl _)
    · kernel_rfl
    · kernel_rfl
    try ((repeat rw [put_none]); (try simp only [put_some, List.setIfInBounds_toArray, List.set_cons_succ, List.set_cons_zero]))
    apply rem_sure 9 (by kernel_rfl) rfl (wanted_none rfl)
    · intro w2 hS K hK
      go_wp2_with fail
      exact hK _ hS (Ext.refl _)
    · kernel_rfl
    · kernel_rfl
    try ((repeat rw [put_none]); (try simp only [put_some, List.setIfInBounds_toArray, List.set_cons_succ, List.set_cons_zero]))
    apply rem_sure 10 (by kernel_rfl) rfl (wanted_none rfl)
    · intro w2 hS K hK
      exact wp_load_mid 84 _ rfl b 10 rfl (pr A2 A3) _ (hS.rg (by simp)) Try.underlying84 rfl (by rw [L23.out]; exact infoPr) (hK _ hS (Ext.refl _))
    · kernel_rfl
    · kernel_rfl
    try ((repeat rw [put_none]); (try simp only [put_some, List.setIfInBounds_toArray, List.set_cons_succ, List.set_cons_zero]))
    apply rem_sure 12 (by kernel_rfl) rfl (wanted_none rfl)
    · intro w2 hS K hK
      exact wp_load_row 46 _ rfl g3 rfl _ B _ _ (hS.at_ (by simp)) Try.underlying46 rfl (by rw [sB]; exact infoNu) (hK _ hS (Ext.refl _))
    · kernel_rfl
    · kernel_rfl
    try ((repeat rw [put_none]); (try simp only [put_some, List.setIfInBounds_toArray, List.set_cons_succ, List.set_cons_zero]))
    refine rem_three 4 14 15 (by kernel_rfl) (step_of rfl (wanted_none rfl) ?_) (step_of rfl (wanted_none rfl) ?_) (step_of rfl (wanted_none rfl) ?_)
    · intro v21 hS21 hE21 K hK
      go_wp2_with fail
      refine (ldiff_fe A2 A3 X2 Z2 _ HA2.out HA3.out).mono ?_
      rintro e u21 ⟨DX, rfl, hDX, hk21⟩
      have sDX := hDX.size
      have oDX := Lib.hid hDX.one
      have HDX := Lib.hid hDX
      clear hDX
      refine hK _ _ (hS21.keep hk21) ?_
      clear hK K
      try ((repeat rw [put_none]); (try simp only [put_some, List.setIfInBounds_toArray, List.set_cons_succ, List.set_cons_zero]))
      refine rem_three 6 14 15 (by kernel_rfl) (step_of rfl (wanted_none rfl) ?_) (step_of rfl (wanted_none rfl) ?_) (step_of rfl (wanted_none rfl) ?_)
      · intro v22 hS22 hE22 K hK
        go_wp2_with fail
        refine (gTimes_fe DX A (X2 - Z2) (X1 + Z1) _ HDX.out HA.out).mono ?_
        rintro e u22 ⟨DA, rfl, hDA, hk22⟩
        have sDA := hDA.size
        have oDA := Lib.hid hDA.one
        have HDA := Lib.hid hDA
        clear hDA
        refine hK _ _ (hS22.keep hk22) ?_
        clear hK K
        try ((repeat rw [put_none]); (try simp only [put_some, List.setIfInBounds_toArray, List.set_cons_succ, List.set_cons_zero]))
        refine rem_three 11 14 15 (by kernel_rfl) (step_of rfl (wanted_none rfl) ?_) (step_of rfl (wanted_none rfl) ?_) (step_of rfl (wanted_none rfl) ?_)
        · intro v23 hS23 hE23 K hK
          go_wp2_with fail
          refine (lsum_fe A2 A3 X2 Z2 _ HA2.out HA3.out).mono ?_
          rintro e u23 ⟨SX, rfl, hSX, hk23⟩
          have sSX := hSX.size
          have oSX := Lib.hid hSX.one
          have HSX := Lib.hid hSX
          clear hSX
          refine hK _ _ (hS23.keep hk23) ?_
          clear hK K
          try ((repeat rw [put_none]); (try simp only [put_some, List.setIfInBounds_toArray, List.set_cons_succ, List.set_cons_zero]))
          refine rem_three 13 14 15 (by kernel_rfl) (step_of rfl (wanted_none rfl) ?_) (step_of rfl (wanted_none rfl) ?_) (step_of rfl (wanted_none rfl) ?_)
          · intro v24 hS24 hE24 K hK
            go_wp2_with fail
            refine (gTimes_fe SX B (X2 + Z2) (X1 - Z1) _ HSX.out HB.out).mono ?_
            rintro e u24 ⟨CB, rfl, hCB, hk24⟩
            have sCB := hCB.size
            have oCB := Lib.hid hCB.one
            have HCB := Lib.hid hCB
            clear hCB
            refine hK _ _ (hS24.keep hk24) ?_
            clear hK K
            try ((repeat rw [put_none]); (try simp only [put_some, List.setIfInBounds_toArray, List.set_cons_succ, List.set_cons_zero]))
            refine rem_two 14 15 (by kernel_rfl) (step_of rfl (wanted_none rfl) ?_) (step_of rfl (wanted_none rfl) ?_)
            · intro v25 hS25 hE25 K hK
              go_wp2_with fail
              have al_nDA := hS25
              refine hK _ _ (hS25.alloc _) ?_
              clear hK K
              try ((repeat rw [put_none]); (try simp only [put_some, List.setIfInBounds_toArray, List.set_cons_succ, List.set_cons_zero]))
              refine rem_one 15 (by kernel_rfl) (step_of rfl (wanted_none rfl) ?_)
              intro v26 hS26 hE26 K hK
              go_wp2_with fail
              have al_nCB := hS26
              have lt_nDA_nCB := (Array.getElem?_eq_some_iff.1 (hE26 _ _ (heap_alloc_new v25 _))).1
              refine hK _ _ (hS26.alloc _) ?_
              clear hK K
              try ((repeat rw [put_none]); (try simp only [put_some, List.setIfInBounds_toArray, List.set_cons_succ, List.set_cons_zero]))
              refine rem_one 16 (by kernel_rfl) (step_of rfl (wanted_none rfl) ?_)
              intro v27 hS27 hE27 K hK
              have hg_nDA := (hE27 _ _ (Ext.alloc v26 _ _ _ (hE26 _ _ (heap_alloc_new v25 _))))
              refine wp_store_row 46 _ _ rfl v25.heap.size DA rfl rfl 46 _ hg_nDA (by rw [sDA]; exact infoNu) (by rw [sDA]; rfl) oDA.out ?_
              refine hK _ _ (al_nDA.storeNew hS27 _) ?_
              clear hK K
              try ((repeat rw [put_none]); (try simp only [put_some, List.setIfInBounds_toArray, List.set_cons_succ, List.set_cons_zero]))
              refine rem_one 17 (by kernel_rfl) (step_of rfl (wanted_none rfl) ?_)
              intro v28 hS28 hE28 K hK
              have hg_nCB := (hE28 _ _ ((setRow_other _ _ _ DA (by omega)).trans (hE27 _ _ (heap_alloc_new v26 _))))
              refine wp_store_row 46 _ _ rfl v26.heap.size CB rfl rfl 46 _ hg_nCB (by rw [sCB]; exact infoNu) (by rw [sCB]; rfl) oCB.out ?_
              refine hK _ _ (al_nCB.storeNew hS28 _) ?_
              clear hK K
              try ((repeat rw [put_none]); (try simp only [put_some, List.setIfInBounds_toArray, List.set_cons_succ, List.set_cons_zero]))
              refine rem_nil ?_
              intro v9 hS9 hE9
              exact ⟨DX, SX, DA, CB, v25.heap.size, v26.heap.size, rfl, HDA.out, HCB.out, ((hS9.add (hE9 _ _ (setRow_here hg_nCB CB)) (by have := al_nCB.tn.size; omega)).add (hE9 _ _ ((setRow_other _ _ _ CB (by omega)).trans (hE28 _ _ (setRow_here hg_nDA DA)))) (by have := al_nDA.tn.size; omega))⟩
            · intro v29 hS29 hE29 K hK
              go_wp2_with fail
              have al_nCB := hS29
              refine hK _ _ (hS29.alloc _) ?_
              clear hK K
              try ((repeat rw [put_none]); (try simp only [put_some, List.setIfInBounds_toArray, List.set_cons_succ, List.set_cons_zero]))
              refine rem_one 14 (by kernel_rfl) (step_of rfl (wanted_none rfl) ?_)
              intro v30 hS30 hE30 K hK
              go_wp2_with fail
              have al_nDA := hS30
              have lt_nCB_nDA := (Array.getElem?_eq_some_iff.1 (hE30 _ _ (heap_alloc_new v29 _))).1
              refine hK _ _ (hS30.alloc _) ?_
              clear hK K
              try ((repeat rw [put_none]); (try simp only [put_some, List.setIfInBounds_toArray, List.set_cons_succ, List.set_cons_zero]))
              refine rem_one 16 (by kernel_rfl) (step_of rfl (wanted_none rfl) ?_)
              intro v31 hS31 hE31 K hK
              have hg_nDA := (hE31 _ _ (heap_alloc_new v30 _))
              refine wp_store_row 46 _ _ rfl v30.heap.size DA rfl rfl 46 _ hg_nDA (by rw [sDA]; exact infoNu) (by rw [sDA]; rfl) oDA.out ?_
              refine hK _ _ (al_nDA.storeNew hS31 _) ?_
              clear hK K
              try ((repeat rw [put_none]); (try simp only [put_some, List.setIfInBounds_toArray, List.set_cons_succ, List.set_cons_zero]))
              refine rem_one 17 (by kernel_rfl) (step_of rfl (wanted_none rfl) ?_)
              intro v32 hS32 hE32 K hK
              have hg_nCB := (hE32 _ _ ((setRow_other _ _ _ DA (by omega)).trans (hE31 _ _ (Ext.alloc v30 _ _ _ (hE30 _ _ (heap_alloc_new v29 _))))))
              refine wp_store_row 46 _ _ rfl v29.heap.size CB rfl rfl 46 _ hg_nCB (by rw [sCB]; exact infoNu) (by rw [sCB]; rfl) oCB.out ?_
              refine hK _ _ (al_nCB.storeNew hS32 _) ?_
              clear hK K
              try ((repeat rw [put_none]); (try simp only [put_some, List.setIfInBounds_toArray, List.set_cons_succ, List.set_cons_zero]))
              refine rem_nil ?_
              intro v9 hS9 hE9
              exact ⟨DX, SX, DA, CB, v30.heap.size, v29.heap.size, rfl, HDA.out, HCB.out, ((hS9.add (hE9 _ _ (setRow_here hg_nCB CB)) (by have := al_nCB.tn.size; omega)).add (hE9 _ _ ((setRow_other _ _ _ CB (by omega)).trans (hE32 _ _ (setRow_here hg_nDA DA)))) (by have := al_nDA.tn.size; omega))⟩
          · intro v33 hS33 hE33 K hK
            go_wp2_with fail
            have al_nDA := hS33
            refine hK _ _ (hS33.alloc _) ?_
            clear hK K
            try ((repeat rw [put_none]); (try simp only [put_some, List.setIfInBounds_toArray, List.set_cons_succ, List.set_cons_zero]))
            refine rem_two 13 15 (by kernel_rfl) (step_of rfl (wanted_none rfl) ?_) (step_of rfl (wanted_none rfl) ?_)
            · intro v34 hS34 hE34 K hK
              go_wp2_with fail
              refine (gTimes_fe SX B (X2 + Z2) (X1 - Z1) _ HSX.out HB.out).mono ?_
              rintro e u34 ⟨CB, rfl, hCB, hk34⟩
              have sCB := hCB.size
              have oCB := Lib.hid hCB.one
              have HCB := Lib.hid hCB
              clear hCB
              refine hK _ _ (hS34.keep hk34) ?_
              clear hK K
              try ((repeat rw [put_none]); (try simp only [put_some, List.setIfInBounds_toArray, List.set_cons_succ, List.set_cons_zero]))
              refine rem_one 15 (by kernel_rfl) (step_of rfl (wanted_none rfl) ?_)
              intro v35 hS35 hE35 K hK
              go_wp2_with fail
              have al_nCB := hS35
              have lt_nDA_nCB := (Array.getElem?_eq_some_iff.1 (hE35 _ _ (block_stay hk34 (hE34 _ _ (heap_alloc_new v33 _))))).1
              refine hK _ _ (hS35.alloc _) ?_
              clear hK K
              try ((repeat rw [put_none]); (try simp only [put_some, List.setIfInBounds_toArray, List.set_cons_succ, List.set_cons_zero]))
              refine rem_one 16 (by kernel_rfl) (step_of rfl (wanted_none rfl) ?_)
              intro v36 hS36 hE36 K hK
              have hg_nDA := (hE36 _ _ (Ext.alloc v35 _ _ _ (hE35 _ _ (block_stay hk34 (hE34 _ _ (heap_alloc_new v33 _))))))
              refine wp_store_row 46 _ _ rfl v33.heap.size DA rfl rfl 46 _ hg_nDA (by rw [sDA]; exact infoNu) (by rw [sDA]; rfl) oDA.out ?_
              refine hK _ _ (al_nDA.storeNew hS36 _) ?_
              clear hK K
              try ((repeat rw [put_none]); (try simp only [put_some, List.setIfInBounds_toArray, List.set_cons_succ, List.set_cons_zero]))
              refine rem_one 17 (by kernel_rfl) (step_of rfl (wanted_none rfl) ?_)
              intro v37 hS37 hE37 K hK
              have hg_nCB := (hE37 _ _ ((setRow_other _ _ _ DA (by omega)).trans (hE36 _ _ (heap_alloc_new v35 _))))
              refine wp_store_row 46 _ _ rfl v35.heap.size CB rfl rfl 46 _ hg_nCB (by rw [sCB]; exact infoNu) (by rw [sCB]; rfl) oCB.out ?_
              refine hK _ _ (al_nCB.storeNew hS37 _) ?_
              clear hK K
              try ((repeat rw [put_none]); (try simp only [put_some, List.setIfInBounds_toArray, List.set_cons_succ, List.set_cons_zero]))
              refine rem_nil ?_
              intro v9 hS9 hE9
              exact ⟨DX, SX, DA, CB, v33.heap.size, v35.heap.size, rfl, HDA.out, HCB.out, ((hS9.add (hE9 _ _ (setRow_here hg_nCB CB)) (by have := al_nCB.tn.size; omega)).add (hE9 _ _ ((setRow_other _ _ _ CB (by omega)).trans (hE37 _ _ (setRow_here hg_nDA DA)))) (by have := al_nDA.tn.size; omega))⟩
            · intro v38 hS38 hE38 K hK
              go_wp2_with fail
              have al_nCB := hS38
              have lt_nDA_nCB := (Array.getElem?_eq_some_iff.1 (hE38 _ _ (heap_alloc_new v33 _))).1
              refine hK _ _ (hS38.alloc _) ?_
              clear hK K
              try ((repeat rw [put_none]); (try simp only [put_some, List.setIfInBounds_toArray, List.set_cons_succ, List.set_cons_zero]))
              refine rem_one 13 (by kernel_rfl) (step_of rfl (wanted_none rfl) ?_)
              intro v39 hS39 hE39 K hK
              go_wp2_with fail
              refine (gTimes_fe SX B (X2 + Z2) (X1 - Z1) _ HSX.out HB.out).mono ?_
              rintro e u39 ⟨CB, rfl, hCB, hk39⟩
              have sCB := hCB.size
              have oCB := Lib.hid hCB.one
              have HCB := Lib.hid hCB
              clear hCB
              refine hK _ _ (hS39.keep hk39) ?_
              clear hK K
              try ((repeat rw [put_none]); (try simp only [put_some, List.setIfInBounds_toArray, List.set_cons_succ, List.set_cons_zero]))
              refine rem_one 16 (by kernel_rfl) (step_of rfl (wanted_none rfl) ?_)
              intro v40 hS40 hE40 K hK
              have hg_nDA := (hE40 _ _ (block_stay hk39 (hE39 _ _ (Ext.alloc v38 _ _ _ (hE38 _ _ (heap_alloc_new v33 _))))))
              refine wp_store_row 46 _ _ rfl v33.heap.size DA rfl rfl 46 _ hg_nDA (by rw [sDA]; exact infoNu) (by rw [sDA]; rfl) oDA.out ?_
              refine hK _ _ (al_nDA.storeNew hS40 _) ?_
              clear hK K
              try ((repeat rw [put_none]); (try simp only [put_some, List.setIfInBounds_toArray, List.set_cons_succ, List.set_cons_zero]))
              refine rem_one 17 (by kernel_rfl) (step_of rfl (wanted_none rfl) ?_)
              intro v41 hS41 hE41 K hK
              have hg_nCB := (hE41 _ _ ((setRow_other _ _ _ DA (by omega)).trans (hE40 _ _ (block_stay hk39 (hE39 _ _ (heap_alloc_new v38 _))))))
              refine wp_store_row 46 _ _ rfl v38.heap.size CB rfl rfl 46 _ hg_nCB (by rw [sCB]; exact infoNu) (by rw [sCB]; rfl) oCB.out ?_
              refine hK _ _ (al_nCB.storeNew hS41 _) ?_
              clear hK K
              try ((repeat rw [put_none]); (try simp only [put_some, List.setIfInBounds_toArray, List.set_cons_succ, List.set_cons_zero]))
              refine rem_nil ?_
              intro v9 hS9 hE9
              exact ⟨DX, SX, DA, CB, v33.heap.size, v38.heap.size, rfl, HDA.out, HCB.out, ((hS9.add (hE9 _ _ (setRow_here hg_nCB CB)) (by have := al_nCB.tn.size; omega)).add (hE9 _ _ ((setRow_other _ _ _ CB (by omega)).trans (hE41 _ _ (setRow_here hg_nDA DA)))) (by have := al_nDA.tn.size; omega))⟩
          · intro v42 hS42 hE42 K hK
            go_wp2_with fail
            have al_nCB := hS42
            refine hK _ _ (hS42.alloc _) ?_
            clear hK K
            try ((repeat rw [put_none]); (try simp only [put_some, List.setIfInBounds_toArray, List.set_cons_succ, List.set_cons_zero]))
            refine rem_two 13 14 (by kernel_rfl) (step_of rfl (wanted_none rfl) ?_) (step_of rfl (wanted_none rfl) ?_)
            · intro v43 hS43 hE43 K hK
              go_wp2_with fail
              refine (gTimes_fe SX B (X2 + Z2) (X1 - Z1) _ HSX.out HB.out).mono ?_
              rintro e u43 ⟨CB, rfl, hCB, hk43⟩
              have sCB := hCB.size
              have oCB := Lib.hid hCB.one
              have HCB := Lib.hid hCB
              clear hCB
              refine hK _ _ (hS43.keep hk43) ?_
              clear hK K
              try ((repeat rw [put_none]); (try simp only [put_some, List.setIfInBounds_toArray, List.set_cons_succ, List.set_cons_zero]))
              refine rem_one 14 (by kernel_rfl) (step_of rfl (wanted_none rfl) ?_)
              intro v44 hS44 hE44 K hK
              go_wp2_with fail
              have al_nDA := hS44
              have lt_nCB_nDA := (Array.getElem?_eq_some_iff.1 (hE44 _ _ (block_stay hk43 (hE43 _ _ (heap_alloc_new v42 _))))).1
              refine hK _ _ (hS44.alloc _) ?_
              clear hK K
              try ((repeat rw [put_none]); (try simp only [put_some, List.setIfInBounds_toArray, List.set_cons_succ, List.set_cons_zero]))
              refine rem_one 16 (by kernel_rfl) (step_of rfl (wanted_none rfl) ?_)
              intro v45 hS45 hE45 K hK
              have hg_nDA := (hE45 _ _ (heap_alloc_new v44 _))
              refine wp_store_row 46 _ _ rfl v44.heap.size DA rfl rfl 46 _ hg_nDA (by rw [sDA]; exact infoNu) (by rw [sDA]; rfl) oDA.out ?_
              refine hK _ _ (al_nDA.storeNew hS45 _) ?_
              clear hK K
              try ((repeat rw [put_none]); (try simp only [put_some, List.setIfInBounds_toArray, List.set_cons_succ, List.set_cons_zero]))
              refine rem_one 17 (by kernel_rfl) (step_of rfl (wanted_none rfl) ?_)
              intro v46 hS46 hE46 K hK
              have hg_nCB := (hE46 _ _ ((setRow_other _ _ _ DA (by omega)).trans (hE45 _ _ (Ext.alloc v44 _ _ _ (hE44 _ _ (block_stay hk43 (hE43 _ _ (heap_alloc_new v42 _))))))))
              refine wp_store_row 46 _ _ rfl v42.heap.size CB rfl rfl 46 _ hg_nCB (by rw [sCB]; exact infoNu) (by rw [sCB]; rfl) oCB.out ?_
              refine hK _ _ (al_nCB.storeNew hS46 _) ?_
              clear hK K
              try ((repeat rw [put_none]); (try simp only [put_some, List.setIfInBounds_toArray, List.set_cons_succ, List.set_cons_zero]))
              refine rem_nil ?_
              intro v9 hS9 hE9
              exact ⟨DX, SX, DA, CB, v44.heap.size, v42.heap.size, rfl, HDA.out, HCB.out, ((hS9.add (hE9 _ _ (setRow_here hg_nCB CB)) (by have := al_nCB.tn.size; omega)).add (hE9 _ _ ((setRow_other _ _ _ CB (by omega)).trans (hE46 _ _ (setRow_here hg_nDA DA)))) (by have := al_nDA.tn.size; omega))⟩
            · intro v47 hS47 hE47 K hK
              go_wp2_with fail
              have al_nDA := hS47
              have lt_nCB_nDA := (Array.getElem?_eq_some_iff.1 (hE47 _ _ (heap_alloc_new v42 _))).1
              refine hK _ _ (hS47.alloc _) ?_
              clear hK K
              try ((repeat rw [put_none]); (try simp only [put_some, List.setIfInBounds_toArray, List.set_cons_succ, List.set_cons_zero]))
              refine rem_one 13 (by kernel_rfl) (step_of rfl (wanted_none rfl) ?_)
              intro v48 hS48 hE48 K hK
              go_wp2_with fail
              refine (gTimes_fe SX B (X2 + Z2) (X1 - Z1) _ HSX.out HB.out).mono ?_
              rintro e u48 ⟨CB, rfl, hCB, hk48⟩
              have sCB := hCB.size
              have oCB := Lib.hid hCB.one
              have HCB := Lib.hid hCB
              clear hCB
              refine hK _ _ (hS48.keep hk48) ?_
              clear hK K
              try ((repeat rw [put_none]); (try simp only [put_some, List.setIfInBounds_toArray, List.set_cons_succ, List.set_cons_zero]))
              refine rem_one 16 (by kernel_rfl) (step_of rfl (wanted_none rfl) ?_)
              intro v49 hS49 hE49 K hK
              have hg_nDA := (hE49 _ _ (block_stay hk48 (hE48 _ _ (heap_alloc_new v47 _))))
              refine wp_store_row 46 _ _ rfl v47.heap.size DA rfl rfl 46 _ hg_nDA (by rw [sDA]; exact infoNu) (by rw [sDA]; rfl) oDA.out ?_
              refine hK _ _ (al_nDA.storeNew hS49 _) ?_
              clear hK K
              try ((repeat rw [put_none]); (try simp only [put_some, List.setIfInBounds_toArray, List.set_cons_succ, List.set_cons_zero]))
              refine rem_one 17 (by kernel_rfl) (step_of rfl (wanted_none rfl) ?_)
              intro v50 hS50 hE50 K hK
              have hg_nCB := (hE50 _ _ ((setRow_other _ _ _ DA (by omega)).trans (hE49 _ _ (block_stay hk48 (hE48 _ _ (Ext.alloc v47 _ _ _ (hE47 _ _ (heap_alloc_new v42 _))))))))
              refine wp_store_row 46 _ _ rfl v42.heap.size CB rfl rfl 46 _ hg_nCB (by rw [sCB]; exact infoNu) (by rw [sCB]; rfl) oCB.out ?_
              refine hK _ _ (al_nCB.storeNew hS50 _) ?_
              clear hK K
              try ((repeat rw [put_none]); (try simp only [put_some, List.setIfInBounds_toArray, List.set_cons_succ, List.set_cons_zero]))
              refine rem_nil ?_
              intro v9 hS9 hE9
              exact ⟨DX, SX, DA, CB, v47.heap.size, v42.heap.size, rfl, HDA.out, HCB.out, ((hS9.add (hE9 _ _ (setRow_here hg_nCB CB)) (by have := al_nCB.tn.size; omega)).add (hE9 _ _ ((setRow_other _ _ _ CB (by omega)).trans (hE50 _ _ (setRow_here hg_nDA DA)))) (by have := al_nDA.tn.size; omega))⟩
        · intro v51 hS51 hE51 K hK
          go_wp2_with fail
          have al_nDA := hS51
          refine hK _ _ (hS51.alloc _) ?_
          clear hK K
          try ((repeat rw [put_none]); (try simp only [put_some, List.setIfInBounds_toArray, List.set_cons_succ, List.set_cons_zero]))
          refine rem_two 11 15 (by kernel_rfl) (step_of rfl (wanted_none rfl) ?_) (step_of rfl (wanted_none rfl) ?_)
          · intro v52 hS52 hE52 K hK
            go_wp2_with fail
            refine (lsum_fe A2 A3 X2 Z2 _ HA2.out HA3.out).mono ?_
            rintro e u52 ⟨SX, rfl, hSX, hk52⟩
            have sSX := hSX.size
            have oSX := Lib.hid hSX.one
            have HSX := Lib.hid hSX
            clear hSX
            refine hK _ _ (hS52.keep hk52) ?_
            clear hK K
            try ((repeat rw [put_none]); (try simp only [put_some, List.setIfInBounds_toArray, List.set_cons_succ, List.set_cons_zero]))
            refine rem_two 13 15 (by kernel_rfl) (step_of rfl (wanted_none rfl) ?_) (step_of rfl (wanted_none rfl) ?_)
            · intro v53 hS53 hE53 K hK
              go_wp2_with fail
              refine (gTimes_fe SX B (X2 + Z2) (X1 - Z1) _ HSX.out HB.out).mono ?_
              rintro e u53 ⟨CB, rfl, hCB, hk53⟩
              have sCB := hCB.size
              have oCB := Lib.hid hCB.one
              have HCB := Lib.hid hCB
              clear hCB
              refine hK _ _ (hS53.keep hk53) ?_
              clear hK K
              try ((repeat rw [put_none]); (try simp only [put_some, List.setIfInBounds_toArray, List.set_cons_succ, List.set_cons_zero]))
              refine rem_one 15 (by kernel_rfl) (step_of rfl (wanted_none rfl) ?_)
              intro v54 hS54 hE54 K hK
              go_wp2_with fail
              have al_nCB := hS54
              have lt_nDA_nCB := (Array.getElem?_eq_some_iff.1 (hE54 _ _ (block_stay hk53 (hE53 _ _ (block_stay hk52 (hE52 _ _ (heap_alloc_new v51 _))))))).1
              refine hK _ _ (hS54.alloc _) ?_
              clear hK K
              try ((repeat rw [put_none]); (try simp only [put_some, List.setIfInBounds_toArray, List.set_cons_succ, List.set_cons_zero]))
              refine rem_one 16 (by kernel_rfl) (step_of rfl (wanted_none rfl) ?_)
              intro v55 hS55 hE55 K hK
              have hg_nDA := (hE55 _ _ (Ext.alloc v54 _ _ _ (hE54 _ _ (block_stay hk53 (hE53 _ _ (block_stay hk52 (hE52 _ _ (heap_alloc_new v51 _))))))))
              refine wp_store_row 46 _ _ rfl v51.heap.size DA rfl rfl 46 _ hg_nDA (by rw [sDA]; exact infoNu) (by rw [sDA]; rfl) oDA.out ?_
              refine hK _ _ (al_nDA.storeNew hS55 _) ?_
              clear hK K
              try ((repeat rw [put_none]); (try simp only [put_some, List.setIfInBounds_toArray, List.set_cons_succ, List.set_cons_zero]))
              refine rem_one 17 (by kernel_rfl) (step_of rfl (wanted_none rfl) ?_)
              intro v56 hS56 hE56 K hK
              have hg_nCB := (hE56 _ _ ((setRow_other _ _ _ DA (by omega)).trans (hE55 _ _ (heap_alloc_new v54 _))))
              refine wp_store_row 46 _ _ rfl v54.heap.size CB rfl rfl 46 _ hg_nCB (by rw [sCB]; exact infoNu) (by rw [sCB]; rfl) oCB.out ?_
              refine hK _ _ (al_nCB.storeNew hS56 _) ?_
              clear hK K
              try ((repeat rw [put_none]); (try simp only [put_some, List.setIfInBounds_toArray, List.set_cons_succ, List.set_cons_zero]))
              refine rem_nil ?_
              intro v9 hS9 hE9
              exact ⟨DX, SX, DA, CB, v51.heap.size, v54.heap.size, rfl, HDA.out, HCB.out, ((hS9.add (hE9 _ _ (setRow_here hg_nCB CB)) (by have := al_nCB.tn.size; omega)).add (hE9 _ _ ((setRow_other _ _ _ CB (by omega)).trans (hE56 _ _ (setRow_here hg_nDA DA)))) (by have := al_nDA.tn.size; omega))⟩
            · intro v57 hS57 hE57 K hK
              go_wp2_with fail
              have al_nCB := hS57
              have lt_nDA_nCB := (Array.getElem?_eq_some_iff.1 (hE57 _ _ (block_stay hk52 (hE52 _ _ (heap_alloc_new v51 _))))).1
              refine hK _ _ (hS57.alloc _) ?_
              clear hK K
              try ((repeat rw [put_none]); (try simp only [put_some, List.setIfInBounds_toArray, List.set_cons_succ, List.set_cons_zero]))
              refine rem_one 13 (by kernel_rfl) (step_of rfl (wanted_none rfl) ?_)
              intro v58 hS58 hE58 K hK
              go_wp2_with fail
              refine (gTimes_fe SX B (X2 + Z2) (X1 - Z1) _ HSX.out HB.out).mono ?_
              rintro e u58 ⟨CB, rfl, hCB, hk58⟩
              have sCB := hCB.size
              have oCB := Lib.hid hCB.one
              have HCB := Lib.hid hCB
              clear hCB
              refine hK _ _ (hS58.keep hk58) ?_
              clear hK K
              try ((repeat rw [put_none]); (try simp only [put_some, List.setIfInBounds_toArray, List.set_cons_succ, List.set_cons_zero]))
              refine rem_one 16 (by kernel_rfl) (step_of rfl (wanted_none rfl) ?_)
              intro v59 hS59 hE59 K hK
              have hg_nDA := (hE59 _ _ (block_stay hk58 (hE58 _ _ (Ext.alloc v57 _ _ _ (hE57 _ _ (block_stay hk52 (hE52 _ _ (heap_alloc_new v51 _))))))))
              refine wp_store_row 46 _ _ rfl v51.heap.size DA rfl rfl 46 _ hg_nDA (by rw [sDA]; exact infoNu) (by rw [sDA]; rfl) oDA.out ?_
              refine hK _ _ (al_nDA.storeNew hS59 _) ?_
              clear hK K
              try ((repeat rw [put_none]); (try simp only [put_some, List.setIfInBounds_toArray, List.set_cons_succ, List.set_cons_zero]))
              refine rem_one 17 (by kernel_rfl) (step_of rfl (wanted_none rfl) ?_)
              intro v60 hS60 hE60 K hK
              have hg_nCB := (hE60 _ _ ((setRow_other _ _ _ DA (by omega)).trans (hE59 _ _ (block_stay hk58 (hE58 _ _ (heap_alloc_new v57 _))))))
              refine wp_store_row 46 _ _ rfl v57.heap.size CB rfl rfl 46 _ hg_nCB (by rw [sCB]; exact infoNu) (by rw [sCB]; rfl) oCB.out ?_
              refine hK _ _ (al_nCB.storeNew hS60 _) ?_
              clear hK K
              try ((repeat rw [put_none]); (try simp only [put_some, List.setIfInBounds_toArray, List.set_cons_succ, List.set_cons_zero]))
              refine rem_nil ?_
              intro v9 hS9 hE9
              exact ⟨DX, SX, DA, CB, v51.heap.size, v57.heap.size, rfl, HDA.out, HCB.out, ((hS9.add (hE9 _ _ (setRow_here hg_nCB CB)) (by have := al_nCB.tn.size; omega)).add (hE9 _ _ ((setRow_other _ _ _ CB (by omega)).trans (hE60 _ _ (setRow_here hg_nDA DA)))) (by have := al_nDA.tn.size; omega))⟩
          · intro v61 hS61 hE61 K hK
            go_wp2_with fail
            have al_nCB := hS61
            have lt_nDA_nCB := (Array.getElem?_eq_some_iff.1 (hE61 _ _ (heap_alloc_new v51 _))).1
            refine hK _ _ (hS61.alloc _) ?_
            clear hK K
            try ((repeat rw [put_none]); (try simp only [put_some, List.setIfInBounds_toArray, List.set_cons_succ, List.set_cons_zero]))
            refine rem_one 11 (by kernel_rfl) (step_of rfl (wanted_none rfl) ?_)
            intro v62 hS62 hE62 K hK
            go_wp2_with fail
            refine (lsum_fe A2 A3 X2 Z2 _ HA2.out HA3.out).mono ?_
            rintro e u62 ⟨SX, rfl, hSX, hk62⟩
            have sSX := hSX.size
            have oSX := Lib.hid hSX.one
            have HSX := Lib.hid hSX
            clear hSX
            refine hK _ _ (hS62.keep hk62) ?_
            clear hK K
            try ((repeat rw [put_none]); (try simp only [put_some, List.setIfInBounds_toArray, List.set_cons_succ, List.set_cons_zero]))
            refine rem_one 13 (by kernel_rfl) (step_of rfl (wanted_none rfl) ?_)
            intro v63 hS63 hE63 K hK
            go_wp2_with fail
            refine (gTimes_fe SX B (X2 + Z2) (X1 - Z1) _ HSX.out HB.out).mono ?_
            rintro e u63 ⟨CB, rfl, hCB, hk63⟩
            have sCB := hCB.size
            have oCB := Lib.hid hCB.one
            have HCB := Lib.hid hCB
            clear hCB
            refine hK _ _ (hS63.keep hk63) ?_
            clear hK K
            try ((repeat rw [put_none]); (try simp only [put_some, List.setIfInBounds_toArray, List.set_cons_succ, List.set_cons_zero]))
            refine rem_one 16 (by kernel_rfl) (step_of rfl (wanted_none rfl) ?_)
            intro v64 hS64 hE64 K hK
            have hg_nDA := (hE64 _ _ (block_stay hk63 (hE63 _ _ (block_stay hk62 (hE62 _ _ (Ext.alloc v61 _ _ _ (hE61 _ _ (heap_alloc_new v51 _))))))))
            refine wp_store_row 46 _ _ rfl v51.heap.size DA rfl rfl 46 _ hg_nDA (by rw [sDA]; exact infoNu) (by rw [sDA]; rfl) oDA.out ?_
            refine hK _ _ (al_nDA.storeNew hS64 _) ?_
            clear hK K
            try ((repeat rw [put_none]); (try simp only [put_some, List.setIfInBounds_toArray, List.set_cons_succ, List.set_cons_zero]))
            refine rem_one 17 (by kernel_rfl) (step_of rfl (wanted_none rfl) ?_)
            intro v65 hS65 hE65 K hK
            have hg_nCB := (hE65 _ _ ((setRow_other _ _ _ DA (by omega)).trans (hE64 _ _ (block_stay hk63 (hE63 _ _ (block_stay hk62 (hE62 _ _ (heap_alloc_new v61 _))))))))
            refine wp_store_row 46 _ _ rfl v61.heap.size CB rfl rfl 46 _ hg_nCB (by rw [sCB]; exact infoNu) (by rw [sCB]; rfl) oCB.out ?_
            refine hK _ _ (al_nCB.storeNew hS65 _) ?_
            clear hK K
            try ((repeat rw [put_none]); (try simp only [put_some, List.setIfInBounds_toArray, List.set_cons_succ, List.set_cons_zero]))
            refine rem_nil ?_
            intro v9 hS9 hE9
            exact ⟨DX, SX, DA, CB, v51.heap.size, v61.heap.size, rfl, HDA.out, HCB.out, ((hS9.add (hE9 _ _ (setRow_here hg_nCB CB)) (by have := al_nCB.tn.size; omega)).add (hE9 _ _ ((setRow_other _ _ _ CB (by omega)).trans (hE65 _ _ (setRow_here hg_nDA DA)))) (by have := al_nDA.tn.size; omega))⟩
        · intro v66 hS66 hE66 K hK
          go_wp2_with fail
          have al_nCB := hS66
          refine hK _ _ (hS66.alloc _) ?_
          clear hK K
          try ((repeat rw [put_none]); (try simp only [put_some, List.setIfInBounds_toArray, List.set_cons_succ, List.set_cons_zero]))
          refine rem_two 11 14 (by kernel_rfl) (step_of rfl (wanted_none rfl) ?_) (step_of rfl (wanted_none rfl) ?_)
          · intro v67 hS67 hE67 K hK
            go_wp2_with fail
            refine (lsum_fe A2 A3 X2 Z2 _ HA2.out HA3.out).mono ?_
            rintro e u67 ⟨SX, rfl, hSX, hk67⟩
            have sSX := hSX.size
            have oSX := Lib.hid hSX.one
            have HSX := Lib.hid hSX
            clear hSX
            refine hK _ _ (hS67.keep hk67) ?_
            clear hK K
            try ((repeat rw [put_none]); (try simp only [put_some, List.setIfInBounds_toArray, List.set_cons_succ, List.set_cons_zero]))
            refine rem_two 13 14 (by kernel_rfl) (step_of rfl (wanted_none rfl) ?_) (step_of rfl (wanted_none rfl) ?_)
            · intro v68 hS68 hE68 K hK
              go_wp2_with fail
              refine (gTimes_fe SX B (X2 + Z2) (X1 - Z1) _ HSX.out HB.out).mono ?_
              rintro e u68 ⟨CB, rfl, hCB, hk68⟩
              have sCB := hCB.size
              have oCB := Lib.hid hCB.one
              have HCB := Lib.hid hCB
              clear hCB
              refine hK _ _ (hS68.keep hk68) ?_
              clear hK K
              try ((repeat rw [put_none]); (try simp only [put_some, List.setIfInBounds_toArray, List.set_cons_succ, List.set_cons_zero]))
              refine rem_one 14 (by kernel_rfl) (step_of rfl (wanted_none rfl) ?_)
              intro v69 hS69 hE69 K hK
              go_wp2_with fail
              have al_nDA := hS69
              have lt_nCB_nDA := (Array.getElem?_eq_some_iff.1 (hE69 _ _ (block_stay hk68 (hE68 _ _ (block_stay hk67 (hE67 _ _ (heap_alloc_new v66 _))))))).1
              refine hK _ _ (hS69.alloc _) ?_
              clear hK K
              try ((repeat rw [put_none]); (try simp only [put_some, List.setIfInBounds_toArray, List.set_cons_succ, List.set_cons_zero]))
              refine rem_one 16 (by kernel_rfl) (step_of rfl (wanted_none rfl) ?_)
              intro v70 hS70 hE70 K hK
              have hg_nDA := (hE70 _ _ (heap_alloc_new v69 _))
              refine wp_store_row 46 _ _ rfl v69.heap.size DA rfl rfl 46 _ hg_nDA (by rw [sDA]; exact infoNu) (by rw [sDA]; rfl) oDA.out ?_
              refine hK _ _ (al_nDA.storeNew hS70 _) ?_
              clear hK K
              try ((repeat rw [put_none]); (try simp only [put_some, List.setIfInBounds_toArray, List.set_cons_succ, List.set_cons_zero]))
              refine rem_one 17 (by kernel_rfl) (step_of rfl (wanted_none rfl) ?_)
              intro v71 hS71 hE71 K hK
              have hg_nCB := (hE71 _ _ ((setRow_other _ _ _ DA (by omega)).trans (hE70 _ _ (Ext.alloc v69 _ _ _ (hE69 _ _ (block_stay hk68 (hE68 _ _ (block_stay hk67 (hE67 _ _ (heap_alloc_new v66 _))))))))))
              refine wp_store_row 46 _ _ rfl v66.heap.size CB rfl rfl 46 _ hg_nCB (by rw [sCB]; exact infoNu) (by rw [sCB]; rfl) oCB.out ?_
              refine hK _ _ (al_nCB.storeNew hS71 _) ?_
              clear hK K
              try ((repeat rw [put_none]); (try simp only [put_some, List.setIfInBounds_toArray, List.set_cons_succ, List.set_cons_zero]))
              refine rem_nil ?_
              intro v9 hS9 hE9
              exact ⟨DX, SX, DA, CB, v69.heap.size, v66.heap.size, rfl, HDA.out, HCB.out, ((hS9.add (hE9 _ _ (setRow_here hg_nCB CB)) (by have := al_nCB.tn.size; omega)).add (hE9 _ _ ((setRow_other _ _ _ CB (by omega)).trans (hE71 _ _ (setRow_here hg_nDA DA)))) (by have := al_nDA.tn.size; omega))⟩
            · intro v72 hS72 hE72 K hK
              go_wp2_with fail
              have al_nDA := hS72
              have lt_nCB_nDA := (Array.getElem?_eq_some_iff.1 (hE72 _ _ (block_stay hk67 (hE67 _ _ (heap_alloc_new v66 _))))).1
              refine hK _ _ (hS72.alloc _) ?_
              clear hK K
              try ((repeat rw [put_none]); (try simp only [put_some, List.setIfInBounds_toArray, List.set_cons_succ, List.set_cons_zero]))
              refine rem_one 13 (by kernel_rfl) (step_of rfl (wanted_none rfl) ?_)
              intro v73 hS73 hE73 K hK
              go_wp2_with fail
              refine (gTimes_fe SX B (X2 + Z2) (X1 - Z1) _ HSX.out HB.out).mono ?_
              rintro e u73 ⟨CB, rfl, hCB, hk73⟩
              have sCB := hCB.size
              have oCB := Lib.hid hCB.one
              have HCB := Lib.hid hCB
              clear hCB
              refine hK _ _ (hS73.keep hk73) ?_
              clear hK K
              try ((repeat rw [put_none]); (try simp only [put_some, List.setIfInBounds_toArray, List.set_cons_succ, List.set_cons_zero]))
              refine rem_one 16 (by kernel_rfl) (step_of rfl (wanted_none rfl) ?_)
              intro v74 hS74 hE74 K hK
              have hg_nDA := (hE74 _ _ (block_stay hk73 (hE73 _ _ (heap_alloc_new v72 _))))
              refine wp_store_row 46 _ _ rfl v72.heap.size DA rfl rfl 46 _ hg_nDA (by rw [sDA]; exact infoNu) (by rw [sDA]; rfl) oDA.out ?_
              refine hK _ _ (al_nDA.storeNew hS74 _) ?_
              clear hK K
              try ((repeat rw [put_none]); (try simp only [put_some, List.setIfInBounds_toArray, List.set_cons_succ, List.set_cons_zero]))
              refine rem_one 17 (by kernel_rfl) (step_of rfl (wanted_none rfl) ?_)
              intro v75 hS75 hE75 K hK
              have hg_nCB := (hE75 _ _ ((setRow_other _ _ _ DA (by omega)).trans (hE74 _ _ (block_stay hk73 (hE73 _ _ (Ext.alloc v72 _ _ _ (hE72 _ _ (block_stay hk67 (hE67 _ _ (heap_alloc_new v66 _))))))))))
              refine wp_store_row 46 _ _ rfl v66.heap.size CB rfl rfl 46 _ hg_nCB (by rw [sCB]; exact infoNu) (by rw [sCB]; rfl) oCB.out ?_
              refine hK _ _ (al_nCB.storeNew hS75 _) ?_
              clear hK K
              try ((repeat rw [put_none]); (try simp only [put_some, List.setIfInBounds_toArray, List.set_cons_succ, List.set_cons_zero]))
              refine rem_nil ?_
              intro v9 hS9 hE9
              exact ⟨DX, SX, DA, CB, v72.heap.size, v66.heap.size, rfl, HDA.out, HCB.out, ((hS9.add (hE9 _ _ (setRow_here hg_nCB CB)) (by have := al_nCB.tn.size; omega)).add (hE9 _ _ ((setRow_other _ _ _ CB (by omega)).trans (hE75 _ _ (setRow_here hg_nDA DA)))) (by have := al_nDA.tn.size; omega))⟩
          · intro v76 hS76 hE76 K hK
            go_wp2_with fail
            have al_nDA := hS76
            have lt_nCB_nDA := (Array.getElem?_eq_some_iff.1 (hE76 _ _ (heap_alloc_new v66 _))).1
            refine hK _ _ (hS76.alloc _) ?_
            clear hK K
            try ((repeat rw [put_none]); (try simp only [put_some, List.setIfInBounds_toArray, List.set_cons_succ, List.set_cons_zero]))
            refine rem_one 11 (by kernel_rfl) (step_of rfl (wanted_none rfl) ?_)
            intro v77 hS77 hE77 K hK
            go_wp2_with fail
            refine (lsum_fe A2 A3 X2 Z2 _ HA2.out HA3.out).mono ?_
            rintro e u77 ⟨SX, rfl, hSX, hk77⟩
            have sSX := hSX.size
            have oSX := Lib.hid hSX.one
            have HSX := Lib.hid hSX
            clear hSX
            refine hK _ _ (hS77.keep hk77) ?_
            clear hK K
            try ((repeat rw [put_none]); (try simp only [put_some, List.setIfInBounds_toArray, List.set_cons_succ, List.set_cons_zero]))
            refine rem_one 13 (by kernel_rfl) (step_of rfl (wanted_none rfl) ?_)
            intro v78 hS78 hE78 K hK
            go_wp2_with fail
            refine (gTimes_fe SX B (X2 + Z2) (X1 - Z1) _ HSX.out HB.out).mono ?_
            rintro e u78 ⟨CB, rfl, hCB, hk78⟩
            have sCB := hCB.size
            have oCB := Lib.hid hCB.one
            have HCB := Lib.hid hCB
            clear hCB
            refine hK _ _ (hS78.keep hk78) ?_
            clear hK K
            try ((repeat rw [put_none]); (try simp only [put_some, List.setIfInBounds_toArray, List.set_cons_succ, List.set_cons_zero]))
            refine rem_one 16 (by kernel_rfl) (step_of rfl (wanted_none rfl) ?_)
            intro v79 hS79 hE79 K hK
            have hg_nDA := (hE79 _ _ (block_stay hk78 (hE78 _ _ (block_stay hk77 (hE77 _ _ (heap_alloc_new v76 _))))))
            refine wp_store_row 46 _ _ rfl v76.heap.size DA rfl rfl 46 _ hg_nDA (by rw [sDA]; exact infoNu) (by rw [sDA]; rfl) oDA.out ?_
            refine hK _ _ (al_nDA.storeNew hS79 _) ?_
            clear hK K
            try ((repeat rw [put_none]); (try simp only [put_some, List.setIfInBounds_toArray, List.set_cons_succ, List.set_cons_zero]))
            refine rem_one 17 (by kernel_rfl) (step_of rfl (wanted_none rfl) ?_)
            intro v80 hS80 hE80 K hK
            have hg_nCB := (hE80 _ _ ((setRow_other _ _ _ DA (by omega)).trans (hE79 _ _ (block_stay hk78 (hE78 _ _ (block_stay hk77 (hE77 _ _ (Ext.alloc v76 _ _ _ (hE76 _ _ (heap_alloc_new v66 _))))))))))
            refine wp_store_row 46 _ _ rfl v66.heap.size CB rfl rfl 46 _ hg_nCB (by rw [sCB]; exact infoNu) (by rw [sCB]; rfl) oCB.out ?_
            refine hK _ _ (al_nCB.storeNew hS80 _) ?_
            clear hK K
            try ((repeat rw [put_none]); (try simp only [put_some, List.setIfInBounds_toArray, List.set_cons_succ, List.set_cons_zero]))
            refine rem_nil ?_
            intro v9 hS9 hE9
            exact ⟨DX, SX, DA, CB, v76.heap.size, v66.heap.size, rfl, HDA.out, HCB.out, ((hS9.add (hE9 _ _ (setRow_here hg_nCB CB)) (by have := al_nCB.tn.size; omega)).add (hE9 _ _ ((setRow_other _ _ _ CB (by omega)).trans (hE80 _ _ (setRow_here hg_nDA DA)))) (by have := al_nDA.tn.size; omega))⟩
      · intro v81 hS81 hE81 K hK
        go_wp2_with fail
        have al_nDA := hS81
        refine hK _ _ (hS81.alloc _) ?_
        clear hK K
        try ((repeat rw [put_none]); (try simp only [put_some, List.setIfInBounds_toArray, List.set_cons_succ, List.set_cons_zero]))
        refine rem_two 6 15 (by kernel_rfl) (step_of rfl (wanted_none rfl) ?_) (step_of rfl (wanted_none rfl) ?_)
        · intro v82 hS82 hE82 K hK
          go_wp2_with fail
          refine (gTimes_fe DX A (X2 - Z2) (X1 + Z1) _ HDX.out HA.out).mono ?_
          rintro e u82 ⟨DA, rfl, hDA, hk82⟩
          have sDA := hDA.size
          have oDA := Lib.hid hDA.one
          have HDA := Lib.hid hDA
          clear hDA
          refine hK _ _ (hS82.keep hk82) ?_
          clear hK K
          try ((repeat rw [put_none]); (try simp only [put_some, List.setIfInBounds_toArray, List.set_cons_succ, List.set_cons_zero]))
          refine rem_two 11 15 (by kernel_rfl) (step_of rfl (wanted_none rfl) ?_) (step_of rfl (wanted_none rfl) ?_)
          · intro v83 hS83 hE83 K hK
            go_wp2_with fail
            refine (lsum_fe A2 A3 X2 Z2 _ HA2.out HA3.out).mono ?_
            rintro e u83 ⟨SX, rfl, hSX, hk83⟩
            have sSX := hSX.size
            have oSX := Lib.hid hSX.one
            have HSX := Lib.hid hSX
            clear hSX
            refine hK _ _ (hS83.keep hk83) ?_
            clear hK K
            try ((repeat rw [put_none]); (try simp only [put_some, List.setIfInBounds_toArray, List.set_cons_succ, List.set_cons_zero]))
            refine rem_two 13 15 (by kernel_rfl) (step_of rfl (wanted_none rfl) ?_) (step_of rfl (wanted_none rfl) ?_)
            · intro v84 hS84 hE84 K hK
              go_wp2_with fail
              refine (gTimes_fe SX B (X2 + Z2) (X1 - Z1) _ HSX.out HB.out).mono ?_
              rintro e u84 ⟨CB, rfl, hCB, hk84⟩
              have sCB := hCB.size
              have oCB := Lib.hid hCB.one
              have HCB := Lib.hid hCB
              clear hCB
              refine hK _ _ (hS84.keep hk84) ?_
              clear hK K
              try ((repeat rw [put_none]); (try simp only [put_some, List.setIfInBounds_toArray, List.set_cons_succ, List.set_cons_zero]))
              refine rem_one 15 (by kernel_rfl) (step_of rfl (wanted_none rfl) ?_)
              intro v85 hS85 hE85 K hK
              go_wp2_with fail
              have al_nCB := hS85
              have lt_nDA_nCB := (Array.getElem?_eq_some_iff.1 (hE85 _ _ (block_stay hk84 (hE84 _ _ (block_stay hk83 (hE83 _ _ (block_stay hk82 (hE82 _ _ (heap_alloc_new v81 _))))))))).1
              refine hK _ _ (hS85.alloc _) ?_
              clear hK K
              try ((repeat rw [put_none]); (try simp only [put_some, List.setIfInBounds_toArray, List.set_cons_succ, List.set_cons_zero]))
              refine rem_one 16 (by kernel_rfl) (step_of rfl (wanted_none rfl) ?_)
              intro v86 hS86 hE86 K hK
              have hg_nDA := (hE86 _ _ (Ext.alloc v85 _ _ _ (hE85 _ _ (block_stay hk84 (hE84 _ _ (block_stay hk83 (hE83 _ _ (block_stay hk82 (hE82 _ _ (heap_alloc_new v81 _))))))))))
              refine wp_store_row 46 _ _ rfl v81.heap.size DA rfl rfl 46 _ hg_nDA (by rw [sDA]; exact infoNu) (by rw [sDA]; rfl) oDA.out ?_
              refine hK _ _ (al_nDA.storeNew hS86 _) ?_
              clear hK K
              try ((repeat rw [put_none]); (try simp only [put_some, List.setIfInBounds_toArray, List.set_cons_succ, List.set_cons_zero]))
              refine rem_one 17 (by kernel_rfl) (step_of rfl (wanted_none rfl) ?_)
              intro v87 hS87 hE87 K hK
              have hg_nCB := (hE87 _ _ ((setRow_other _ _ _ DA (by omega)).trans (hE86 _ _ (heap_alloc_new v85 _))))
              refine wp_store_row 46 _ _ rfl v85.heap.size CB rfl rfl 46 _ hg_nCB (by rw [sCB]; exact infoNu) (by rw [sCB]; rfl) oCB.out ?_
              refine hK _ _ (al_nCB.storeNew hS87 _) ?_
              clear hK K
              try ((repeat rw [put_none]); (try simp only [put_some, List.setIfInBounds_toArray, List.set_cons_succ, List.set_cons_zero]))
              refine rem_nil ?_
              intro v9 hS9 hE9
              exact ⟨DX, SX, DA, CB, v81.heap.size, v85.heap.size, rfl, HDA.out, HCB.out, ((hS9.add (hE9 _ _ (setRow_here hg_nCB CB)) (by have := al_nCB.tn.size; omega)).add (hE9 _ _ ((setRow_other _ _ _ CB (by omega)).trans (hE87 _ _ (setRow_here hg_nDA DA)))) (by have := al_nDA.tn.size; omega))⟩
            · intro v88 hS88 hE88 K hK
              go_wp2_with fail
              have al_nCB := hS88
              have lt_nDA_nCB := (Array.getElem?_eq_some_iff.1 (hE88 _ _ (block_stay hk83 (hE83 _ _ (block_stay hk82 (hE82 _ _ (heap_alloc_new v81 _))))))).1
              refine hK _ _ (hS88.alloc _) ?_
              clear hK K
              try ((repeat rw [put_none]); (try simp only [put_some, List.setIfInBounds_toArray, List.set_cons_succ, List.set_cons_zero]))
              refine rem_one 13 (by kernel_rfl) (step_of rfl (wanted_none rfl) ?_)
              intro v89 hS89 hE89 K hK
              go_wp2_with fail
              refine (gTimes_fe SX B (X2 + Z2) (X1 - Z1) _ HSX.out HB.out).mono ?_
              rintro e u89 ⟨CB, rfl, hCB, hk89⟩
              have sCB := hCB.size
              have oCB := Lib.hid hCB.one
              have HCB := Lib.hid hCB
              clear hCB
              refine hK _ _ (hS89.keep hk89) ?_
              clear hK K
              try ((repeat rw [put_none]); (try simp only [put_some, List.setIfInBounds_toArray, List.set_cons_succ, List.set_cons_zero]))
              refine rem_one 16 (by kernel_rfl) (step_of rfl (wanted_none rfl) ?_)
              intro v90 hS90 hE90 K hK
              have hg_nDA := (hE90 _ _ (block_stay hk89 (hE89 _ _ (Ext.alloc v88 _ _ _ (hE88 _ _ (block_stay hk83 (hE83 _ _ (block_stay hk82 (hE82 _ _ (heap_alloc_new v81 _))))))))))
              refine wp_store_row 46 _ _ rfl v81.heap.size DA rfl rfl 46 _ hg_nDA (by rw [sDA]; exact infoNu) (by rw [sDA]; rfl) oDA.out ?_
              refine hK _ _ (al_nDA.storeNew hS90 _) ?_
              clear hK K
              try ((repeat rw [put_none]); (try simp only [put_some, List.setIfInBounds_toArray, List.set_cons_succ, List.set_cons_zero]))
              refine rem_one 17 (by kernel_rfl) (step_of rfl (wanted_none rfl) ?_)
              intro v91 hS91 hE91 K hK
              have hg_nCB := (hE91 _ _ ((setRow_other _ _ _ DA (by omega)).trans (hE90 _ _ (block_stay hk89 (hE89 _ _ (heap_alloc_new v88 _))))))
              refine wp_store_row 46 _ _ rfl v88.heap.size CB rfl rfl 46 _ hg_nCB (by rw [sCB]; exact infoNu) (by rw [sCB]; rfl) oCB.out ?_
              refine hK _ _ (al_nCB.storeNew hS91 _) ?_
              clear hK K
              try ((repeat rw [put_none]); (try simp only [put_some, List.setIfInBounds_toArray, List.set_cons_succ, List.set_cons_zero]))
              refine rem_nil ?_
              intro v9 hS9 hE9
              exact ⟨DX, SX, DA, CB, v81.heap.size, v88.heap.size, rfl, HDA.out, HCB.out, ((hS9.add (hE9 _ _ (setRow_here hg_nCB CB)) (by have := al_nCB.tn.size; omega)).add (hE9 _ _ ((setRow_other _ _ _ CB (by omega)).trans (hE91 _ _ (setRow_here hg_nDA DA)))) (by have := al_nDA.tn.size; omega))⟩
          · intro v92 hS92 hE92 K hK
            go_wp2_with fail
            have al_nCB := hS92
            have lt_nDA_nCB := (Array.getElem?_eq_some_iff.1 (hE92 _ _ (block_stay hk82 (hE82 _ _ (heap_alloc_new v81 _))))).1
            refine hK _ _ (hS92.alloc _) ?_
            clear hK K
            try ((repeat rw [put_none]); (try simp only [put_some, List.setIfInBounds_toArray, List.set_cons_succ, List.set_cons_zero]))
            refine rem_one 11 (by kernel_rfl) (step_of rfl (wanted_none rfl) ?_)
            intro v93 hS93 hE93 K hK
            go_wp2_with fail
            refine (lsum_fe A2 A3 X2 Z2 _ HA2.out HA3.out).mono ?_
            rintro e u93 ⟨SX, rfl, hSX, hk93⟩
            have sSX := hSX.size
            have oSX := Lib.hid hSX.one
            have HSX := Lib.hid hSX
            clear hSX
            refine hK _ _ (hS93.keep hk93) ?_
            clear hK K
            try ((repeat rw [put_none]); (try simp only [put_some, List.setIfInBounds_toArray, List.set_cons_succ, List.set_cons_zero]))
            refine rem_one 13 (by kernel_rfl) (step_of rfl (wanted_none rfl) ?_)
            intro v94 hS94 hE94 K hK
            go_wp2_with fail
            refine (gTimes_fe SX B (X2 + Z2) (X1 - Z1) _ HSX.out HB.out).mono ?_
            rintro e u94 ⟨CB, rfl, hCB, hk94⟩
            have sCB := hCB.size
            have oCB := Lib.hid hCB.one
            have HCB := Lib.hid hCB
            clear hCB
            refine hK _ _ (hS94.keep hk94) ?_
            clear hK K
            try ((repeat rw [put_none]); (try simp only [put_some, List.setIfInBounds_toArray, List.set_cons_succ, List.set_cons_zero]))
            refine rem_one 16 (by kernel_rfl) (step_of rfl (wanted_none rfl) ?_)
            intro v95 hS95 hE95 K hK
            have hg_nDA := (hE95 _ _ (block_stay hk94 (hE94 _ _ (block_stay hk93 (hE93 _ _ (Ext.alloc v92 _ _ _ (hE92 _ _ (block_stay hk82 (hE82 _ _ (heap_alloc_new v81 _))))))))))
            refine wp_store_row 46 _ _ rfl v81.heap.size DA rfl rfl 46 _ hg_nDA (by rw [sDA]; exact infoNu) (by rw [sDA]; rfl) oDA.out ?_
            refine hK _ _ (al_nDA.storeNew hS95 _) ?_
            clear hK K
            try ((repeat rw [put_none]); (try simp only [put_some, List.setIfInBounds_toArray, List.set_cons_succ, List.set_cons_zero]))
            refine rem_one 17 (by kernel_rfl) (step_of rfl (wanted_none rfl) ?_)
            intro v96 hS96 hE96 K hK
            have hg_nCB := (hE96 _ _ ((setRow_other _ _ _ DA (by omega)).trans (hE95 _ _ (block_stay hk94 (hE94 _ _ (block_stay hk93 (hE93 _ _ (heap_alloc_new v92 _))))))))
            refine wp_store_row 46 _ _ rfl v92.heap.size CB rfl rfl 46 _ hg_nCB (by rw [sCB]; exact infoNu) (by rw [sCB]; rfl) oCB.out ?_
            refine hK _ _ (al_nCB.storeNew hS96 _) ?_
            clear hK K
            try ((repeat rw [put_none]); (try simp only [put_some, List.setIfInBounds_toArray, List.set_cons_succ, List.set_cons_zero]))
            refine rem_nil ?_
            intro v9 hS9 hE9
            exact ⟨DX, SX, DA, CB, v81.heap.size, v92.heap.size, rfl, HDA.out, HCB.out, ((hS9.add (hE9 _ _ (setRow_here hg_nCB CB)) (by have := al_nCB.tn.size; omega)).add (hE9 _ _ ((setRow_other _ _ _ CB (by omega)).trans (hE96 _ _ (setRow_here hg_nDA DA)))) (by have := al_nDA.tn.size; omega))⟩
        · intro v97 hS97 hE97 K hK
          go_wp2_with fail
          have al_nCB := hS97
          have lt_nDA_nCB := (Array.getElem?_eq_some_iff.1 (hE97 _ _ (heap_alloc_new v81 _))).1
          refine hK _ _ (hS97.alloc _) ?_
          clear hK K
          try ((repeat rw [put_none]); (try simp only [put_some, List.setIfInBounds_toArray, List.set_cons_succ, List.set_cons_zero]))
          refine rem_one 6 (by kernel_rfl) (step_of rfl (wanted_none rfl) ?_)
          intro v98 hS98 hE98 K hK
          go_wp2_with fail
          refine (gTimes_fe DX A (X2 - Z2) (X1 + Z1) _ HDX.out HA.out).mono ?_
          rintro e u98 ⟨DA, rfl, hDA, hk98⟩
          have sDA := hDA.size
          have oDA := Lib.hid hDA.one
          have HDA := Lib.hid hDA
          clear hDA
          refine hK _ _ (hS98.keep hk98) ?_
          clear hK K
          try ((repeat rw [put_none]); (try simp only [put_some, List.setIfInBounds_toArray, List.set_cons_succ, List.set_cons_zero]))
          refine rem_one 11 (by kernel_rfl) (step_of rfl (wanted_none rfl) ?_)
          intro v99 hS99 hE99 K hK
          go_wp2_with fail
          refine (lsum_fe A2 A3 X2 Z2 _ HA2.out HA3.out).mono ?_
          rintro e u99 ⟨SX, rfl, hSX, hk99⟩
          have sSX := hSX.size
          have oSX := Lib.hid hSX.one
          have HSX := Lib.hid hSX
          clear hSX
          refine hK _ _ (hS99.keep hk99) ?_
          clear hK K
          try ((repeat rw [put_none]); (try simp only [put_some, List.setIfInBounds_toArray, List.set_cons_succ, List.set_cons_zero]))
          refine rem_one 13 (by kernel_rfl) (step_of rfl (wanted_none rfl) ?_)
          intro v100 hS100 hE100 K hK
          go_wp2_with fail
          refine (gTimes_fe SX B (X2 + Z2) (X1 - Z1) _ HSX.out HB.out).mono ?_
          rintro e u100 ⟨CB, rfl, hCB, hk100⟩
          have sCB := hCB.size
          have oCB := Lib.hid hCB.one
          have HCB := Lib.hid hCB
          clear hCB
          refine hK _ _ (hS100.keep hk100) ?_
          clear hK K
          try ((repeat rw [put_none]); (try simp only [put_some, List.setIfInBounds_toArray, List.set_cons_succ, List.set_cons_zero]))
          refine rem_one 16 (by kernel_rfl) (step_of rfl (wanted_none rfl) ?_)
          intro v101 hS101 hE101 K hK
          have hg_nDA := (hE101 _ _ (block_stay hk100 (hE100 _ _ (block_stay hk99 (hE99 _ _ (block_stay hk98 (hE98 _ _ (Ext.alloc v97 _ _ _ (hE97 _ _ (heap_alloc_new v81 _))))))))))
          refine wp_store_row 46 _ _ rfl v81.heap.size DA rfl rfl 46 _ hg_nDA (by rw [sDA]; exact infoNu) (by rw [sDA]; rfl) oDA.out ?_
          refine hK _ _ (al_nDA.storeNew hS101 _) ?_
          clear hK K
          try ((repeat rw [put_none]); (try simp only [put_some, List.setIfInBounds_toArray, List.set_cons_succ, List.set_cons_zero]))
          refine rem_one 17 (by kernel_rfl) (step_of rfl (wanted_none rfl) ?_)
          intro v102 hS102 hE102 K hK
          have hg_nCB := (hE102 _ _ ((setRow_other _ _ _ DA (by omega)).trans (hE101 _ _ (block_stay hk100 (hE100 _ _ (block_stay hk99 (hE99 _ _ (block_stay hk98 (hE98 _ _ (heap_alloc_new v97 _))))))))))
          refine wp_store_row 46 _ _ rfl v97.heap.size CB rfl rfl 46 _ hg_nCB (by rw [sCB]; exact infoNu) (by rw [sCB]; rfl) oCB.out ?_
          refine hK _ _ (al_nCB.storeNew hS102 _) ?_
          clear hK K
          try ((repeat rw [put_none]); (try simp only [put_some, List.setIfInBounds_toArray, List.set_cons_succ, List.set_cons_zero]))
          refine rem_nil ?_
          intro v9 hS9 hE9
          exact ⟨DX, SX, DA, CB, v81.heap.size, v97.heap.size, rfl, HDA.out, HCB.out, ((hS9.add (hE9 _ _ (setRow_here hg_nCB CB)) (by have := al_nCB.tn.size; omega)).add (hE9 _ _ ((setRow_other _ _ _ CB (by omega)).trans (hE102 _ _ (setRow_here hg_nDA DA)))) (by have := al_nDA.tn.size; omega))⟩
      · intro v103 hS103 hE103 K hK
        go_wp2_with fail
        have al_nCB := hS103
        refine hK _ _ (hS103.alloc _) ?_
        clear hK K
        try ((repeat rw [put_none]); (try simp only [put_some, List.setIfInBounds_toArray, List.set_cons_succ, List.set_cons_zero]))
        refine rem_two 6 14 (by kernel_rfl) (step_of rfl (wanted_none rfl) ?_) (step_of rfl (wanted_none rfl) ?_)
        · intro v104 hS104 hE104 K hK
          go_wp2_with fail
          refine (gTimes_fe DX A (X2 - Z2) (X1 + Z1) _ HDX.out HA.out).mono ?_
          rintro e u104 ⟨DA, rfl, hDA, hk104⟩
          have sDA := hDA.size
          have oDA := Lib.hid hDA.one
          have HDA := Lib.hid hDA
          clear hDA
          refine hK _ _ (hS104.keep hk104) ?_
          clear hK K
          try ((repeat rw [put_none]); (try simp only [put_some, List.setIfInBounds_toArray, List.set_cons_succ, List.set_cons_zero]))
          refine rem_two 11 14 (by kernel_rfl) (step_of rfl (wanted_none rfl) ?_) (step_of rfl (wanted_none rfl) ?_)
          · intro v105 hS105 hE105 K hK
            go_wp2_with fail
            refine (lsum_fe A2 A3 X2 Z2 _ HA2.out HA3.out).mono ?_
            rintro e u105 ⟨SX, rfl, hSX, hk105⟩
            have sSX := hSX.size
            have oSX := Lib.hid hSX.one
            have HSX := Lib.hid hSX
            clear hSX
            refine hK _ _ (hS105.keep hk105) ?_
            clear hK K
            try ((repeat rw [put_none]); (try simp only [put_some, List.setIfInBounds_toArray, List.set_cons_succ, List.set_cons_zero]))
            refine rem_two 13 14 (by kernel_rfl) (step_of rfl (wanted_none rfl) ?_) (step_of rfl (wanted_none rfl) ?_)
            · intro v106 hS106 hE106 K hK
              go_wp2_with fail
              refine (gTimes_fe SX B (X2 + Z2) (X1 - Z1) _ HSX.out HB.out).mono ?_
              rintro e u106 ⟨CB, rfl, hCB, hk106⟩
              have sCB := hCB.size
              have oCB := Lib.hid hCB.one
              have HCB := Lib.hid hCB
              clear hCB
              refine hK _ _ (hS106.keep hk106) ?_
              clear hK K
              try ((repeat rw [put_none]); (try simp only [put_some, List.setIfInBounds_toArray, List.set_cons_succ, List.set_cons_zero]))
              refine rem_one 14 (by kernel_rfl) (step_of rfl (wanted_none rfl) ?_)
              intro v107 hS107 hE107 K hK
              go_wp2_with fail
              have al_nDA := hS107
              have lt_nCB_nDA := (Array.getElem?_eq_some_iff.1 (hE107 _ _ (block_stay hk106 (hE106 _ _ (block_stay hk105 (hE105 _ _ (block_stay hk104 (hE104 _ _ (heap_alloc_new v103 _))))))))).1
              refine hK _ _ (hS107.alloc _) ?_
              clear hK K
              try ((repeat rw [put_none]); (try simp only [put_some, List.setIfInBounds_toArray, List.set_cons_succ, List.set_cons_zero]))
              refine rem_one 16 (by kernel_rfl) (step_of rfl (wanted_none rfl) ?_)
              intro v108 hS108 hE108 K hK
              have hg_nDA := (hE108 _ _ (heap_alloc_new v107 _))
              refine wp_store_row 46 _ _ rfl v107.heap.size DA rfl rfl 46 _ hg_nDA (by rw [sDA]; exact infoNu) (by rw [sDA]; rfl) oDA.out ?_
              refine hK _ _ (al_nDA.storeNew hS108 _) ?_
              clear hK K
              try ((repeat rw [put_none]); (try simp only [put_some, List.setIfInBounds_toArray, List.set_cons_succ, List.set_cons_zero]))
              refine rem_one 17 (by kernel_rfl) (step_of rfl (wanted_none rfl) ?_)
              intro v109 hS109 hE109 K hK
              have hg_nCB := (hE109 _ _ ((setRow_other _ _ _ DA (by omega)).trans (hE108 _ _ (Ext.alloc v107 _ _ _ (hE107 _ _ (block_stay hk106 (hE106 _ _ (block_stay hk105 (hE105 _ _ (block_stay hk104 (hE104 _ _ (heap_alloc_new v103 _))))))))))))
              refine wp_store_row 46 _ _ rfl v103.heap.size CB rfl rfl 46 _ hg_nCB (by rw [sCB]; exact infoNu) (by rw [sCB]; rfl) oCB.out ?_
              refine hK _ _ (al_nCB.storeNew hS109 _) ?_
              clear hK K
              try ((repeat rw [put_none]); (try simp only [put_some, List.setIfInBounds_toArray, List.set_cons_succ, List.set_cons_zero]))
              refine rem_nil ?_
              intro v9 hS9 hE9
              exact ⟨DX, SX, DA, CB, v107.heap.size, v103.heap.size, rfl, HDA.out, HCB.out, ((hS9.add (hE9 _ _ (setRow_here hg_nCB CB)) (by have := al_nCB.tn.size; omega)).add (hE9 _ _ ((setRow_other _ _ _ CB (by omega)).trans (hE109 _ _ (setRow_here hg_nDA DA)))) (by have := al_nDA.tn.size; omega))⟩
            · intro v110 hS110 hE110 K hK
              go_wp2_with fail
              have al_nDA := hS110
              have lt_nCB_nDA := (Array.getElem?_eq_some_iff.1 (hE110 _ _ (block_stay hk105 (hE105 _ _ (block_stay hk104 (hE104 _ _ (heap_alloc_new v103 _))))))).1
              refine hK _ _ (hS110.alloc _) ?_
              clear hK K
              try ((repeat rw [put_none]); (try simp only [put_some, List.setIfInBounds_toArray, List.set_cons_succ, List.set_cons_zero]))
              refine rem_one 13 (by kernel_rfl) (step_of rfl (wanted_none rfl) ?_)
              intro v111 hS111 hE111 K hK
              go_wp2_with fail
              refine (gTimes_fe SX B (X2 + Z2) (X1 - Z1) _ HSX.out HB.out).mono ?_
              rintro e u111 ⟨CB, rfl, hCB, hk111⟩
              have sCB := hCB.size
              have oCB := Lib.hid hCB.one
              have HCB := Lib.hid hCB
              clear hCB
              refine hK _ _ (hS111.keep hk111) ?_
              clear hK K
              try ((repeat rw [put_none]); (try simp only [put_some, List.setIfInBounds_toArray, List.set_cons_succ, List.set_cons_zero]))
              refine rem_one 16 (by kernel_rfl) (step_of rfl (wanted_none rfl) ?_)
              intro v112 hS112 hE112 K hK
              have hg_nDA := (hE112 _ _ (block_stay hk111 (hE111 _ _ (heap_alloc_new v110 _))))
              refine wp_store_row 46 _ _ rfl v110.heap.size DA rfl rfl 46 _ hg_nDA (by rw [sDA]; exact infoNu) (by rw [sDA]; rfl) oDA.out ?_
              refine hK _ _ (al_nDA.storeNew hS112 _) ?_
              clear hK K
              try ((repeat rw [put_none]); (try simp only [put_some, List.setIfInBounds_toArray, List.set_cons_succ, List.set_cons_zero]))
              refine rem_one 17 (by kernel_rfl) (step_of rfl (wanted_none rfl) ?_)
              intro v113 hS113 hE113 K hK
              have hg_nCB := (hE113 _ _ ((setRow_other _ _ _ DA (by omega)).trans (hE112 _ _ (block_stay hk111 (hE111 _ _ (Ext.alloc v110 _ _ _ (hE110 _ _ (block_stay hk105 (hE105 _ _ (block_stay hk104 (hE104 _ _ (heap_alloc_new v103 _))))))))))))
              refine wp_store_row 46 _ _ rfl v103.heap.size CB rfl rfl 46 _ hg_nCB (by rw [sCB]; exact infoNu) (by rw [sCB]; rfl) oCB.out ?_
              refine hK _ _ (al_nCB.storeNew hS113 _) ?_
              clear hK K
              try ((repeat rw [put_none]); (try simp only [put_some, List.setIfInBounds_toArray, List.set_cons_succ, List.set_cons_zero]))
              refine rem_nil ?_
              intro v9 hS9 hE9
              exact ⟨DX, SX, DA, CB, v110.heap.size, v103.heap.size, rfl, HDA.out, HCB.out, ((hS9.add (hE9 _ _ (setRow_here hg_nCB CB)) (by have := al_nCB.tn.size; omega)).add (hE9 _ _ ((setRow_other _ _ _ CB (by omega)).trans (hE113 _ _ (setRow_here hg_nDA DA)))) (by have := al_nDA.tn.size; omega))⟩
          · intro v114 hS114 hE114 K hK
            go_wp2_with fail
            have al_nDA := hS114
            have lt_nCB_nDA := (Array.getElem?_eq_some_iff.1 (hE114 _ _ (block_stay hk104 (hE104 _ _ (heap_alloc_new v103 _))))).1
            refine hK _ _ (hS114.alloc _) ?_
            clear hK K
            try ((repeat rw [put_none]); (try simp only [put_some, List.setIfInBounds_toArray, List.set_cons_succ, List.set_cons_zero]))
            refine rem_one 11 (by kernel_rfl) (step_of rfl (wanted_none rfl) ?_)
            intro v115 hS115 hE115 K hK
            go_wp2_with fail
            refine (lsum_fe A2 A3 X2 Z2 _ HA2.out HA3.out).mono ?_
            rintro e u115 ⟨SX, rfl, hSX, hk115⟩
            have sSX := hSX.size
            have oSX := Lib.hid hSX.one
            have HSX := Lib.hid hSX
            clear hSX
            refine hK _ _ (hS115.keep hk115) ?_
            clear hK K
            try ((repeat rw [put_none]); (try simp only [put_some, List.setIfInBounds_toArray, List.set_cons_succ, List.set_cons_zero]))
            refine rem_one 13 (by kernel_rfl) (step_of rfl (wanted_none rfl) ?_)
            intro v116 hS116 hE116 K hK
            go_wp2_with fail
            refine (gTimes_fe SX B (X2 + Z2) (X1 - Z1) _ HSX.out HB.out).mono ?_
            rintro e u116 ⟨CB, rfl, hCB, hk116⟩
            have sCB := hCB.size
            have oCB := Lib.hid hCB.one
            have HCB := Lib.hid hCB
            clear hCB
            refine hK _ _ (hS116.keep hk116) ?_
            clear hK K
            try ((repeat rw [put_none]); (try simp only [put_some, List.setIfInBounds_toArray, List.set_cons_succ, List.set_cons_zero]))
            refine rem_one 16 (by kernel_rfl) (step_of rfl (wanted_none rfl) ?_)
            intro v117 hS117 hE117 K hK
            have hg_nDA := (hE117 _ _ (block_stay hk116 (hE116 _ _ (block_stay hk115 (hE115 _ _ (heap_alloc_new v114 _))))))
            refine wp_store_row 46 _ _ rfl v114.heap.size DA rfl rfl 46 _ hg_nDA (by rw [sDA]; exact infoNu) (by rw [sDA]; rfl) oDA.out ?_
            refine hK _ _ (al_nDA.storeNew hS117 _) ?_
            clear hK K
            try ((repeat rw [put_none]); (try simp only [put_some, List.setIfInBounds_toArray, List.set_cons_succ, List.set_cons_zero]))
            refine rem_one 17 (by kernel_rfl) (step_of rfl (wanted_none rfl) ?_)
            intro v118 hS118 hE118 K hK
            have hg_nCB := (hE118 _ _ ((setRow_other _ _ _ DA (by omega)).trans (hE117 _ _ (block_stay hk116 (hE116 _ _ (block_stay hk115 (hE115 _ _ (Ext.alloc v114 _ _ _ (hE114 _ _ (block_stay hk104 (hE104 _ _ (heap_alloc_new v103 _))))))))))))
            refine wp_store_row 46 _ _ rfl v103.heap.size CB rfl rfl 46 _ hg_nCB (by rw [sCB]; exact infoNu) (by rw [sCB]; rfl) oCB.out ?_
            refine hK _ _ (al_nCB.storeNew hS118 _) ?_
            clear hK K
            try ((repeat rw [put_none]); (try simp only [put_some, List.setIfInBounds_toArray, List.set_cons_succ, List.set_cons_zero]))
            refine rem_nil ?_
            intro v9 hS9 hE9
            exact ⟨DX, SX, DA, CB, v114.heap.size, v103.heap.size, rfl, HDA.out, HCB.out, ((hS9.add (hE9 _ _ (setRow_here hg_nCB CB)) (by have := al_nCB.tn.size; omega)).add (hE9 _ _ ((setRow_other _ _ _ CB (by omega)).trans (hE118 _ _ (setRow_here hg_nDA DA)))) (by have := al_nDA.tn.size; omega))⟩
        · intro v119 hS119 hE119 K hK
          go_wp2_with fail
          have al_nDA := hS119
          have lt_nCB_nDA := (Array.getElem?_eq_some_iff.1 (hE119 _ _ (heap_alloc_new v103 _))).1
          refine hK _ _ (hS119.alloc _) ?_
          clear hK K
          try ((repeat rw [put_none]); (try simp only [put_some, List.setIfInBounds_toArray, List.set_cons_succ, List.set_cons_zero]))
          refine rem_one 6 (by kernel_rfl) (step_of rfl (wanted_none rfl) ?_)
          intro v120 hS120 hE120 K hK
          go_wp2_with fail
          refine (gTimes_fe DX A (X2 - Z2) (X1 + Z1) _ HDX.out HA.out).mono ?_
          rintro e u120 ⟨DA, rfl, hDA, hk120⟩
          have sDA := hDA.size
          have oDA := Lib.hid hDA.one
          have HDA := Lib.hid hDA
          clear hDA
          refine hK _ _ (hS120.keep hk120) ?_
          clear hK K
          try ((repeat rw [put_none]); (try simp only [put_some, List.setIfInBounds_toArray, List.set_cons_succ, List.set_cons_zero]))
          refine rem_one 11 (by kernel_rfl) (step_of rfl (wanted_none rfl) ?_)
          intro v121 hS121 hE121 K hK
          go_wp2_with fail
          refine (lsum_fe A2 A3 X2 Z2 _ HA2.out HA3.out).mono ?_
          rintro e u121 ⟨SX, rfl, hSX, hk121⟩
          have sSX := hSX.size
          have oSX := Lib.hid hSX.one
          have HSX := Lib.hid hSX
          clear hSX
          refine hK _ _ (hS121.keep hk121) ?_
          clear hK K
          try ((repeat rw [put_none]); (try simp only [put_some, List.setIfInBounds_toArray, List.set_cons_succ, List.set_cons_zero]))
          refine rem_one 13 (by kernel_rfl) (step_of rfl (wanted_none rfl) ?_)
          intro v122 hS122 hE122 K hK
          go_wp2_with fail
          refine (gTimes_fe SX B (X2 + Z2) (X1 - Z1) _ HSX.out HB.out).mono ?_
          rintro e u122 ⟨CB, rfl, hCB, hk122⟩
          have sCB := hCB.size
          have oCB := Lib.hid hCB.one
          have HCB := Lib.hid hCB
          clear hCB
          refine hK _ _ (hS122.keep hk122) ?_
          clear hK K
          try ((repeat rw [put_none]); (try simp only [put_some, List.setIfInBounds_toArray, List.set_cons_succ, List.set_cons_zero]))
          refine rem_one 16 (by kernel_rfl) (step_of rfl (wanted_none rfl) ?_)
          intro v123 hS123 hE123 K hK
          have hg_nDA := (hE123 _ _ (block_stay hk122 (hE122 _ _ (block_stay hk121 (hE121 _ _ (block_stay hk120 (hE120 _ _ (heap_alloc_new v119 _))))))))
          refine wp_store_row 46 _ _ rfl v119.heap.size DA rfl rfl 46 _ hg_nDA (by rw [sDA]; exact infoNu) (by rw [sDA]; rfl) oDA.out ?_
          refine hK _ _ (al_nDA.storeNew hS123 _) ?_
          clear hK K
          try ((repeat rw [put_none]); (try simp only [put_some, List.setIfInBounds_toArray, List.set_cons_succ, List.set_cons_zero]))
          refine rem_one 17 (by kernel_rfl) (step_of rfl (wanted_none rfl) ?_)
          intro v124 hS124 hE124 K hK
          have hg_nCB := (hE124 _ _ ((setRow_other _ _ _ DA (by omega)).trans (hE123 _ _ (block_stay hk122 (hE122 _ _ (block_stay hk121 (hE121 _ _ (block_stay hk120 (hE120 _ _ (Ext.alloc v119 _ _ _ (hE119 _ _ (heap_alloc_new v103 _))))))))))))
          refine wp_store_row 46 _ _ rfl v103.heap.size CB rfl rfl 46 _ hg_nCB (by rw [sCB]; exact infoNu) (by rw [sCB]; rfl) oCB.out ?_
          refine hK _ _ (al_nCB.storeNew hS124 _) ?_
          clear hK K
          try ((repeat rw [put_none]); (try simp only [put_some, List.setIfInBounds_toArray, List.set_cons_succ, List.set_cons_zero]))
          refine rem_nil ?_
          intro v9 hS9 hE9
          exact ⟨DX, SX, DA, CB, v119.heap.size, v103.heap.size, rfl, HDA.out, HCB.out, ((hS9.add (hE9 _ _ (setRow_here hg_nCB CB)) (by have := al_nCB.tn.size; omega)).add (hE9 _ _ ((setRow_other _ _ _ CB (by omega)).trans (hE124 _ _ (setRow_here hg_nDA DA)))) (by have := al_nDA.tn.size; omega))⟩
    · intro v125 hS125 hE125 K hK
      go_wp2_with fail
      have al_nDA := hS125
      refine hK _ _ (hS125.alloc _) ?_
      clear hK K
      try ((repeat rw [put_none]); (try simp only [put_some, List.setIfInBounds_toArray, List.set_cons_succ, List.set_cons_zero]))
      refine rem_two 4 15 (by kernel_rfl) (step_of rfl (wanted_none rfl) ?_) (step_of rfl (wanted_none rfl) ?_)
      · intro v126 hS126 hE126 K hK
        go_wp2_with fail
        refine (ldiff_fe A2 A3 X2 Z2 _ HA2.out HA3.out).mono ?_
        rintro e u126 ⟨DX, rfl, hDX, hk126⟩
        have sDX := hDX.size
        have oDX := Lib.hid hDX.one
        have HDX := Lib.hid hDX
        clear hDX
        refine hK _ _ (hS126.keep hk126) ?_
        clear hK K
        try ((repeat rw [put_none]); (try simp only [put_some, List.setIfInBounds_toArray, List.set_cons_succ, List.set_cons_zero]))
        refine rem_two 6 15 (by kernel_rfl) (step_of rfl (wanted_none rfl) ?_) (step_of rfl (wanted_none rfl) ?_)
        · intro v127 hS127 hE127 K hK
          go_wp2_with fail
          refine (gTimes_fe DX A (X2 - Z2) (X1 + Z1) _ HDX.out HA.out).mono ?_
          rintro e u127 ⟨DA, rfl, hDA, hk127⟩
          have sDA := hDA.size
          have oDA := Lib.hid hDA.one
          have HDA := Lib.hid hDA
          clear hDA
          refine hK _ _ (hS127.keep hk127) ?_
          clear hK K
          try ((repeat rw [put_none]); (try simp only [put_some, List.setIfInBounds_toArray, List.set_cons_succ, List.set_cons_zero]))
          refine rem_two 11 15 (by kernel_rfl) (step_of rfl (wanted_none rfl) ?_) (step_of rfl (wanted_none rfl) ?_)
          · intro v128 hS128 hE128 K hK
            go_wp2_with fail
            refine (lsum_fe A2 A3 X2 Z2 _ HA2.out HA3.out).mono ?_
            rintro e u128 ⟨SX, rfl, hSX, hk128⟩
            have sSX := hSX.size
            have oSX := Lib.hid hSX.one
            have HSX := Lib.hid hSX
            clear hSX
            refine hK _ _ (hS128.keep hk128) ?_
            clear hK K
            try ((repeat rw [put_none]); (try simp only [put_some, List.setIfInBounds_toArray, List.set_cons_succ, List.set_cons_zero]))
            refine rem_two 13 15 (by kernel_rfl) (step_of rfl (wanted_none rfl) ?_) (step_of rfl (wanted_none rfl) ?_)
            · intro v129 hS129 hE129 K hK
              go_wp2_with fail
              refine (gTimes_fe SX B (X2 + Z2) (X1 - Z1) _ HSX.out HB.out).mono ?_
              rintro e u129 ⟨CB, rfl, hCB, hk129⟩
              have sCB := hCB.size
              have oCB := Lib.hid hCB.one
              have HCB := Lib.hid hCB
              clear hCB
              refine hK _ _ (hS129.keep hk129) ?_
              clear hK K
              try ((repeat rw [put_none]); (try simp only [put_some, List.setIfInBounds_toArray, List.set_cons_succ, List.set_cons_zero]))
              refine rem_one 15 (by kernel_rfl) (step_of rfl (wanted_none rfl) ?_)
              intro v130 hS130 hE130 K hK
              go_wp2_with fail
              have al_nCB := hS130
              have lt_nDA_nCB := (Array.getElem?_eq_some_iff.1 (hE130 _ _ (block_stay hk129 (hE129 _ _ (block_stay hk128 (hE128 _ _ (block_stay hk127 (hE127 _ _ (block_stay hk126 (hE126 _ _ (heap_alloc_new v125 _))))))))))).1
              refine hK _ _ (hS130.alloc _) ?_
              clear hK K
              try ((repeat rw [put_none]); (try simp only [put_some, List.setIfInBounds_toArray, List.set_cons_succ, List.set_cons_zero]))
              refine rem_one 16 (by kernel_rfl) (step_of rfl (wanted_none rfl) ?_)
              intro v131 hS131 hE131 K hK
              have hg_nDA := (hE131 _ _ (Ext.alloc v130 _ _ _ (hE130 _ _ (block_stay hk129 (hE129 _ _ (block_stay hk128 (hE128 _ _ (block_stay hk127 (hE127 _ _ (block_stay hk126 (hE126 _ _ (heap_alloc_new v125 _))))))))))))
              refine wp_store_row 46 _ _ rfl v125.heap.size DA rfl rfl 46 _ hg_nDA (by rw [sDA]; exact infoNu) (by rw [sDA]; rfl) oDA.out ?_
              refine hK _ _ (al_nDA.storeNew hS131 _) ?_
              clear hK K
              try ((repeat rw [put_none]); (try simp only [put_some, List.setIfInBounds_toArray, List.set_cons_succ, List.set_cons_zero]))
              refine rem_one 17 (by kernel_rfl) (step_of rfl (wanted_none rfl) ?_)
              intro v132 hS132 hE132 K hK
              have hg_nCB := (hE132 _ _ ((setRow_other _ _ _ DA (by omega)).trans (hE131 _ _ (heap_alloc_new v130 _))))
              refine wp_store_row 46 _ _ rfl v130.heap.size CB rfl rfl 46 _ hg_nCB (by rw [sCB]; exact infoNu) (by rw [sCB]; rfl) oCB.out ?_
              refine hK _ _ (al_nCB.storeNew hS132 _) ?_
              clear hK K
              try ((repeat rw [put_none]); (try simp only [put_some, List.setIfInBounds_toArray, List.set_cons_succ, List.set_cons_zero]))
              refine rem_nil ?_
              intro v9 hS9 hE9
              exact ⟨DX, SX, DA, CB, v125.heap.size, v130.heap.size, rfl, HDA.out, HCB.out, ((hS9.add (hE9 _ _ (setRow_here hg_nCB CB)) (by have := al_nCB.tn.size; omega)).add (hE9 _ _ ((setRow_other _ _ _ CB (by omega)).trans (hE132 _ _ (setRow_here hg_nDA DA)))) (by have := al_nDA.tn.size; omega))⟩
            · intro v133 hS133 hE133 K hK
              go_wp2_with fail
              have al_nCB := hS133
              have lt_nDA_nCB := (Array.getElem?_eq_some_iff.1 (hE133 _ _ (block_stay hk128 (hE128 _ _ (block_stay hk127 (hE127 _ _ (block_stay hk126 (hE126 _ _ (heap_alloc_new v125 _))))))))).1
              refine hK _ _ (hS133.alloc _) ?_
              clear hK K
              try ((repeat rw [put_none]); (try simp only [put_some, List.setIfInBounds_toArray, List.set_cons_succ, List.set_cons_zero]))
              refine rem_one 13 (by kernel_rfl) (step_of rfl (wanted_none rfl) ?_)
              intro v134 hS134 hE134 K hK
              go_wp2_with fail
              refine (gTimes_fe SX B (X2 + Z2) (X1 - Z1) _ HSX.out HB.out).mono ?_
              rintro e u134 ⟨CB, rfl, hCB, hk134⟩
              have sCB := hCB.size
              have oCB := Lib.hid hCB.one
              have HCB := Lib.hid hCB
              clear hCB
              refine hK _ _ (hS134.keep hk134) ?_
              clear hK K
              try ((repeat rw [put_none]); (try simp only [put_some, List.setIfInBounds_toArray, List.set_cons_succ, List.set_cons_zero]))
              refine rem_one 16 (by kernel_rfl) (step_of rfl (wanted_none rfl) ?_)
              intro v135 hS135 hE135 K hK
              have hg_nDA := (hE135 _ _ (block_stay hk134 (hE134 _ _ (Ext.alloc v133 _ _ _ (hE133 _ _ (block_stay hk128 (hE128 _ _ (block_stay hk127 (hE127 _ _ (block_stay hk126 (hE126 _ _ (heap_alloc_new v125 _))))))))))))
              refine wp_store_row 46 _ _ rfl v125.heap.size DA rfl rfl 46 _ hg_nDA (by rw [sDA]; exact infoNu) (by rw [sDA]; rfl) oDA.out ?_
              refine hK _ _ (al_nDA.storeNew hS135 _) ?_
              clear hK K
              try ((repeat rw [put_none]); (try simp only [put_some, List.setIfInBounds_toArray, List.set_cons_succ, List.set_cons_zero]))
              refine rem_one 17 (by kernel_rfl) (step_of rfl (wanted_none rfl) ?_)
              intro v136 hS136 hE136 K hK
              have hg_nCB := (hE136 _ _ ((setRow_other _ _ _ DA (by omega)).trans (hE135 _ _ (block_stay hk134 (hE134 _ _ (heap_alloc_new v133 _))))))
              refine wp_store_row 46 _ _ rfl v133.heap.size CB rfl rfl 46 _ hg_nCB (by rw [sCB]; exact infoNu) (by rw [sCB]; rfl) oCB.out ?_
              refine hK _ _ (al_nCB.storeNew hS136 _) ?_
              clear hK K
              try ((repeat rw [put_none]); (try simp only [put_some, List.setIfInBounds_toArray, List.set_cons_succ, List.set_cons_zero]))
              refine rem_nil ?_
              intro v9 hS9 hE9
              exact ⟨DX, SX, DA, CB, v125.heap.size, v133.heap.size, rfl, HDA.out, HCB.out, ((hS9.add (hE9 _ _ (setRow_here hg_nCB CB)) (by have := al_nCB.tn.size; omega)).add (hE9 _ _ ((setRow_other _ _ _ CB (by omega)).trans (hE136 _ _ (setRow_here hg_nDA DA)))) (by have := al_nDA.tn.size; omega))⟩
          · intro v137 hS137 hE137 K hK
            go_wp2_with fail
            have al_nCB := hS137
            have lt_nDA_nCB := (Array.getElem?_eq_some_iff.1 (hE137 _ _ (block_stay hk127 (hE127 _ _ (block_stay hk126 (hE126 _ _ (heap_alloc_new v125 _))))))).1
            refine hK _ _ (hS137.alloc _) ?_
            clear hK K
            try ((repeat rw [put_none]); (try simp only [put_some, List.setIfInBounds_toArray, List.set_cons_succ, List.set_cons_zero]))
            refine rem_one 11 (by kernel_rfl) (step_of rfl (wanted_none rfl) ?_)
            intro v138 hS138 hE138 K hK
            go_wp2_with fail
            refine (lsum_fe A2 A3 X2 Z2 _ HA2.out HA3.out).mono ?_
            rintro e u138 ⟨SX, rfl, hSX, hk138⟩
            have sSX := hSX.size
            have oSX := Lib.hid hSX.one
            have HSX := Lib.hid hSX
            clear hSX
            refine hK _ _ (hS138.keep hk138) ?_
            clear hK K
            try ((repeat rw [put_none]); (try simp only [put_some, List.setIfInBounds_toArray, List.set_cons_succ, List.set_cons_zero]))
            refine rem_one 13 (by kernel_rfl) (step_of rfl (wanted_none rfl) ?_)
            intro v139 hS139 hE139 K hK
            go_wp2_with fail
            refine (gTimes_fe SX B (X2 + Z2) (X1 - Z1) _ HSX.out HB.out).mono ?_
            rintro e u139 ⟨CB, rfl, hCB, hk139⟩
            have sCB := hCB.size
            have oCB := Lib.hid hCB.one
            have HCB := Lib.hid hCB
            clear hCB
            refine hK _ _ (hS139.keep hk139) ?_
            clear hK K
            try ((repeat rw [put_none]); (try simp only [put_some, List.setIfInBounds_toArray, List.set_cons_succ, List.set_cons_zero]))
            refine rem_one 16 (by kernel_rfl) (step_of rfl (wanted_none rfl) ?_)
            intro v140 hS140 hE140 K hK
            have hg_nDA := (hE140 _ _ (block_stay hk139 (hE139 _ _ (block_stay hk138 (hE138 _ _ (Ext.alloc v137 _ _ _ (hE137 _ _ (block_stay hk127 (hE127 _ _ (block_stay hk126 (hE126 _ _ (heap_alloc_new v125 _))))))))))))
            refine wp_store_row 46 _ _ rfl v125.heap.size DA rfl rfl 46 _ hg_nDA (by rw [sDA]; exact infoNu) (by rw [sDA]; rfl) oDA.out ?_
            refine hK _ _ (al_nDA.storeNew hS140 _) ?_
            clear hK K
            try ((repeat rw [put_none]); (try simp only [put_some, List.setIfInBounds_toArray, List.set_cons_succ, List.set_cons_zero]))
            refine rem_one 17 (by kernel_rfl) (step_of rfl (wanted_none rfl) ?_)
            intro v141 hS141 hE141 K hK
            have hg_nCB := (hE141 _ _ ((setRow_other _ _ _ DA (by omega)).trans (hE140 _ _ (block_stay hk139 (hE139 _ _ (block_stay hk138 (hE138 _ _ (heap_alloc_new v137 _))))))))
            refine wp_store_row 46 _ _ rfl v137.heap.size CB rfl rfl 46 _ hg_nCB (by rw [sCB]; exact infoNu) (by rw [sCB]; rfl) oCB.out ?_
            refine hK _ _ (al_nCB.storeNew hS141 _) ?_
            clear hK K
            try ((repeat rw [put_none]); (try simp only [put_some, List.setIfInBounds_toArray, List.set_cons_succ, List.set_cons_zero]))
            refine rem_nil ?_
            intro v9 hS9 hE9
            exact ⟨DX, SX, DA, CB, v125.heap.size, v137.heap.size, rfl, HDA.out, HCB.out, ((hS9.add (hE9 _ _ (setRow_here hg_nCB CB)) (by have := al_nCB.tn.size; omega)).add (hE9 _ _ ((setRow_other _ _ _ CB (by omega)).trans (hE141 _ _ (setRow_here hg_nDA DA)))) (by have := al_nDA.tn.size; omega))⟩
        · intro v142 hS142 hE142 K hK
          go_wp2_with fail
          have al_nCB := hS142
          have lt_nDA_nCB := (Array.getElem?_eq_some_iff.1 (hE142 _ _ (block_stay hk126 (hE126 _ _ (heap_alloc_new v125 _))))).1
          refine hK _ _ (hS142.alloc _) ?_
          clear hK K
          try ((repeat rw [put_none]); (try simp only [put_some, List.setIfInBounds_toArray, List.set_cons_succ, List.set_cons_zero]))
          refine rem_one 6 (by kernel_rfl) (step_of rfl (wanted_none rfl) ?_)
          intro v143 hS143 hE143 K hK
          go_wp2_with fail
          refine (gTimes_fe DX A (X2 - Z2) (X1 + Z1) _ HDX.out HA.out).mono ?_
          rintro e u143 ⟨DA, rfl, hDA, hk143⟩
          have sDA := hDA.size
          have oDA := Lib.hid hDA.one
          have HDA := Lib.hid hDA
          clear hDA
          refine hK _ _ (hS143.keep hk143) ?_
          clear hK K
          try ((repeat rw [put_none]); (try simp only [put_some, List.setIfInBounds_toArray, List.set_cons_succ, List.set_cons_zero]))
          refine rem_one 11 (by kernel_rfl) (step_of rfl (wanted_none rfl) ?_)
          intro v144 hS144 hE144 K hK
          go_wp2_with fail
          refine (lsum_fe A2 A3 X2 Z2 _ HA2.out HA3.out).mono ?_
          rintro e u144 ⟨SX, rfl, hSX, hk144⟩
          have sSX := hSX.size
          have oSX := Lib.hid hSX.one
          have HSX := Lib.hid hSX
          clear hSX
          refine hK _ _ (hS144.keep hk144) ?_
          clear hK K
          try ((repeat rw [put_none]); (try simp only [put_some, List.setIfInBounds_toArray, List.set_cons_succ, List.set_cons_zero]))
          refine rem_one 13 (by kernel_rfl) (step_of rfl (wanted_none rfl) ?_)
          intro v145 hS145 hE145 K hK
          go_wp2_with fail
          refine (gTimes_fe SX B (X2 + Z2) (X1 - Z1) _ HSX.out HB.out).mono ?_
          rintro e u145 ⟨CB, rfl, hCB, hk145⟩
          have sCB := hCB.size
          have oCB := Lib.hid hCB.one
          have HCB := Lib.hid hCB
          clear hCB
          refine hK _ _ (hS145.keep hk145) ?_
          clear hK K
          try ((repeat rw [put_none]); (try simp only [put_some, List.setIfInBounds_toArray, List.set_cons_succ, List.set_cons_zero]))
          refine rem_one 16 (by kernel_rfl) (step_of rfl (wanted_none rfl) ?_)
          intro v146 hS146 hE146 K hK
          have hg_nDA := (hE146 _ _ (block_stay hk145 (hE145 _ _ (block_stay hk144 (hE144 _ _ (block_stay hk143 (hE143 _ _ (Ext.alloc v142 _ _ _ (hE142 _ _ (block_stay hk126 (hE126 _ _ (heap_alloc_new v125 _))))))))))))
          refine wp_store_row 46 _ _ rfl v125.heap.size DA rfl rfl 46 _ hg_nDA (by rw [sDA]; exact infoNu) (by rw [sDA]; rfl) oDA.out ?_
          refine hK _ _ (al_nDA.storeNew hS146 _) ?_
          clear hK K
          try ((repeat rw [put_none]); (try simp only [put_some, List.setIfInBounds_toArray, List.set_cons_succ, List.set_cons_zero]))
          refine rem_one 17 (by kernel_rfl) (step_of rfl (wanted_none rfl) ?_)
          intro v147 hS147 hE147 K hK
          have hg_nCB := (hE147 _ _ ((setRow_other _ _ _ DA (by omega)).trans (hE146 _ _ (block_stay hk145 (hE145 _ _ (block_stay hk144 (hE144 _ _ (block_stay hk143 (hE143 _ _ (heap_alloc_new v142 _))))))))))
          refine wp_store_row 46 _ _ rfl v142.heap.size CB rfl rfl 46 _ hg_nCB (by rw [sCB]; exact infoNu) (by rw [sCB]; rfl) oCB.out ?_
          refine hK _ _ (al_nCB.storeNew hS147 _) ?_
          clear hK K
          try ((repeat rw [put_none]); (try simp only [put_some, List.setIfInBounds_toArray, List.set_cons_succ, List.set_cons_zero]))
          refine rem_nil ?_
          intro v9 hS9 hE9
          exact ⟨DX, SX, DA, CB, v125.heap.size, v142.heap.size, rfl, HDA.out, HCB.out, ((hS9.add (hE9 _ _ (setRow_here hg_nCB CB)) (by have := al_nCB.tn.size; omega)).add (hE9 _ _ ((setRow_other _ _ _ CB (by omega)).trans (hE147 _ _ (setRow_here hg_nDA DA)))) (by have := al_nDA.tn.size; omega))⟩
      · intro v148 hS148 hE148 K hK
        go_wp2_with fail
        have al_nCB := hS148
        have lt_nDA_nCB := (Array.getElem?_eq_some_iff.1 (hE148 _ _ (heap_alloc_new v125 _))).1
        refine hK _ _ (hS148.alloc _) ?_
        clear hK K
        try ((repeat rw [put_none]); (try simp only [put_some, List.setIfInBounds_toArray, List.set_cons_succ, List.set_cons_zero]))
        refine rem_one 4 (by kernel_rfl) (step_of rfl (wanted_none rfl) ?_)
        intro v149 hS149 hE149 K hK
        go_wp2_with fail
        refine (ldiff_fe A2 A3 X2 Z2 _ HA2.out HA3.out).mono ?_
        rintro e u149 ⟨DX, rfl, hDX, hk149⟩
        have sDX := hDX.size
        have oDX := Lib.hid hDX.one
        have HDX := Lib.hid hDX
        clear hDX
        refine hK _ _ (hS149.keep hk149) ?_
        clear hK K
        try ((repeat rw [put_none]); (try simp only [put_some, List.setIfInBounds_toArray, List.set_cons_succ, List.set_cons_zero]))
        refine rem_one 6 (by kernel_rfl) (step_of rfl (wanted_none rfl) ?_)
        intro v150 hS150 hE150 K hK
        go_wp2_with fail
        refine (gTimes_fe DX A (X2 - Z2) (X1 + Z1) _ HDX.out HA.out).mono ?_
        rintro e u150 ⟨DA, rfl, hDA, hk150⟩
        have sDA := hDA.size
        have oDA := Lib.hid hDA.one
        have HDA := Lib.hid hDA
        clear hDA
        refine hK _ _ (hS150.keep hk150) ?_
        clear hK K
        try ((repeat rw [put_none]); (try simp only [put_some, List.setIfInBounds_toArray, List.set_cons_succ, List.set_cons_zero]))
        refine rem_one 11 (by kernel_rfl) (step_of rfl (wanted_none rfl) ?_)
        intro v151 hS151 hE151 K hK
        go_wp2_with fail
        refine (lsum_fe A2 A3 X2 Z2 _ HA2.out HA3.out).mono ?_
        rintro e u151 ⟨SX, rfl, hSX, hk151⟩
        have sSX := hSX.size
        have oSX := Lib.hid hSX.one
        have HSX := Lib.hid hSX
        clear hSX
        refine hK _ _ (hS151.keep hk151) ?_
        clear hK K
        try ((repeat rw [put_none]); (try simp only [put_some, List.setIfInBounds_toArray, List.set_cons_succ, List.set_cons_zero]))
        refine rem_one 13 (by kernel_rfl) (step_of rfl (wanted_none rfl) ?_)
        intro v152 hS152 hE152 K hK
        go_wp2_with fail
        refine (gTimes_fe SX B (X2 + Z2) (X1 - Z1) _ HSX.out HB.out).mono ?_
        rintro e u152 ⟨CB, rfl, hCB, hk152⟩
        have sCB := hCB.size
        have oCB := Lib.hid hCB.one
        have HCB := Lib.hid hCB
        clear hCB
        refine hK _ _ (hS152.keep hk152) ?_
        clear hK K
        try ((repeat rw [put_none]); (try simp only [put_some, List.setIfInBounds_toArray, List.set_cons_succ, List.set_cons_zero]))
        refine rem_one 16 (by kernel_rfl) (step_of rfl (wanted_none rfl) ?_)
        intro v153 hS153 hE153 K hK
        have hg_nDA := (hE153 _ _ (block_stay hk152 (hE152 _ _ (block_stay hk151 (hE151 _ _ (block_stay hk150 (hE150 _ _ (block_stay hk149 (hE149 _ _ (Ext.alloc v148 _ _ _ (hE148 _ _ (heap_alloc_new v125 _))))))))))))
        refine wp_store_row 46 _ _ rfl v125.heap.size DA rfl rfl 46 _ hg_nDA (by rw [sDA]; exact infoNu) (by rw [sDA]; rfl) oDA.out ?_
        refine hK _ _ (al_nDA.storeNew hS153 _) ?_
        clear hK K
        try ((repeat rw [put_none]); (try simp only [put_some, List.setIfInBounds_toArray, List.set_cons_succ, List.set_cons_zero]))
        refine rem_one 17 (by kernel_rfl) (step_of rfl (wanted_none rfl) ?_)
        intro v154 hS154 hE154 K hK
        have hg_nCB := (hE154 _ _ ((setRow_other _ _ _ DA (by omega)).trans (hE153 _ _ (block_stay hk152 (hE152 _ _ (block_stay hk151 (hE151 _ _ (block_stay hk150 (hE150 _ _ (block_stay hk149 (hE149 _ _ (heap_alloc_new v148 _))))))))))))
        refine wp_store_row 46 _ _ rfl v148.heap.size CB rfl rfl 46 _ hg_nCB (by rw [sCB]; exact infoNu) (by rw [sCB]; rfl) oCB.out ?_
        refine hK _ _ (al_nCB.storeNew hS154 _) ?_
        clear hK K
        try ((repeat rw [put_none]); (try simp only [put_some, List.setIfInBounds_toArray, List.set_cons_succ, List.set_cons_zero]))
        refine rem_nil ?_
        intro v9 hS9 hE9
        exact ⟨DX, SX, DA, CB, v125.heap.size, v148.heap.size, rfl, HDA.out, HCB.out, ((hS9.add (hE9 _ _ (setRow_here hg_nCB CB)) (by have := al_nCB.tn.size; omega)).add (hE9 _ _ ((setRow_other _ _ _ CB (by omega)).trans (hE154 _ _ (setRow_here hg_nDA DA)))) (by have := al_nDA.tn.size; omega))⟩
    · intro v155 hS155 hE155 K hK
      go_wp2_with fail
      have al_nCB := hS155
      refine hK _ _ (hS155.alloc _) ?_
      clear hK K
      try ((repeat rw [put_none]); (try simp only [put_some, List.setIfInBounds_toArray, List.set_cons_succ, List.set_cons_zero]))
      refine rem_two 4 14 (by kernel_rfl) (step_of rfl (wanted_none rfl) ?_) (step_of rfl (wanted_none rfl) ?_)
      · intro v156 hS156 hE156 K hK
        go_wp2_with fail
        refine (ldiff_fe A2 A3 X2 Z2 _ HA2.out HA3.out).mono ?_
        rintro e u156 ⟨DX, rfl, hDX, hk156⟩
        have sDX := hDX.size
        have oDX := Lib.hid hDX.one
        have HDX := Lib.hid hDX
        clear hDX
        refine hK _ _ (hS156.keep hk156) ?_
        clear hK K
        try ((repeat rw [put_none]); (try simp only [put_some, List.setIfInBounds_toArray, List.set_cons_succ, List.set_cons_zero]))
        refine rem_two 6 14 (by kernel_rfl) (step_of rfl (wanted_none rfl) ?_) (step_of rfl (wanted_none rfl) ?_)
        · intro v157 hS157 hE157 K hK
          go_wp2_with fail
          refine (gTimes_fe DX A (X2 - Z2) (X1 + Z1) _ HDX.out HA.out).mono ?_
          rintro e u157 ⟨DA, rfl, hDA, hk157⟩
          have sDA := hDA.size
          have oDA := Lib.hid hDA.one
          have HDA := Lib.hid hDA
          clear hDA
          refine hK _ _ (hS157.keep hk157) ?_
          clear hK K
          try ((repeat rw [put_none]); (try simp only [put_some, List.setIfInBounds_toArray, List.set_cons_succ, List.set_cons_zero]))
          refine rem_two 11 14 (by kernel_rfl) (step_of rfl (wanted_none rfl) ?_) (step_of rfl (wanted_none rfl) ?_)
          · intro v158 hS158 hE158 K hK
            go_wp2_with fail
            refine (lsum_fe A2 A3 X2 Z2 _ HA2.out HA3.out).mono ?_
            rintro e u158 ⟨SX, rfl, hSX, hk158⟩
            have sSX := hSX.size
            have oSX := Lib.hid hSX.one
            have HSX := Lib.hid hSX
            clear hSX
            refine hK _ _ (hS158.keep hk158) ?_
            clear hK K
            try ((repeat rw [put_none]); (try simp only [put_some, List.setIfInBounds_toArray, List.set_cons_succ, List.set_cons_zero]))
            refine rem_two 13 14 (by kernel_rfl) (step_of rfl (wanted_none rfl) ?_) (step_of rfl (wanted_none rfl) ?_)
            · intro v159 hS159 hE159 K hK
              go_wp2_with fail
              refine (gTimes_fe SX B (X2 + Z2) (X1 - Z1) _ HSX.out HB.out).mono ?_
              rintro e u159 ⟨CB, rfl, hCB, hk159⟩
              have sCB := hCB.size
              have oCB := Lib.hid hCB.one
              have HCB := Lib.hid hCB
              clear hCB
              refine hK _ _ (hS159.keep hk159) ?_
              clear hK K
              try ((repeat rw [put_none]); (try simp only [put_some, List.setIfInBounds_toArray, List.set_cons_succ, List.set_cons_zero]))
              refine rem_one 14 (by kernel_rfl) (step_of rfl (wanted_none rfl) ?_)
              intro v160 hS160 hE160 K hK
              go_wp2_with fail
              have al_nDA := hS160
              have lt_nCB_nDA := (Array.getElem?_eq_some_iff.1 (hE160 _ _ (block_stay hk159 (hE159 _ _ (block_stay hk158 (hE158 _ _ (block_stay hk157 (hE157 _ _ (block_stay hk156 (hE156 _ _ (heap_alloc_new v155 _))))))))))).1
              refine hK _ _ (hS160.alloc _) ?_
              clear hK K
              try ((repeat rw [put_none]); (try simp only [put_some, List.setIfInBounds_toArray, List.set_cons_succ, List.set_cons_zero]))
              refine rem_one 16 (by kernel_rfl) (step_of rfl (wanted_none rfl) ?_)
              intro v161 hS161 hE161 K hK
              have hg_nDA := (hE161 _ _ (heap_alloc_new v160 _))
              refine wp_store_row 46 _ _ rfl v160.heap.size DA rfl rfl 46 _ hg_nDA (by rw [sDA]; exact infoNu) (by rw [sDA]; rfl) oDA.out ?_
              refine hK _ _ (al_nDA.storeNew hS161 _) ?_
              clear hK K
              try ((repeat rw [put_none]); (try simp only [put_some, List.setIfInBounds_toArray, List.set_cons_succ, List.set_cons_zero]))
              refine rem_one 17 (by kernel_rfl) (step_of rfl (wanted_none rfl) ?_)
              intro v162 hS162 hE162 K hK
              have hg_nCB := (hE162 _ _ ((setRow_other _ _ _ DA (by omega)).trans (hE161 _ _ (Ext.alloc v160 _ _ _ (hE160 _ _ (block_stay hk159 (hE159 _ _ (block_stay hk158 (hE158 _ _ (block_stay hk157 (hE157 _ _ (block_stay hk156 (hE156 _ _ (heap_alloc_new v155 _))))))))))))))
              refine wp_store_row 46 _ _ rfl v155.heap.size CB rfl rfl 46 _ hg_nCB (by rw [sCB]; exact infoNu) (by rw [sCB]; rfl) oCB.out ?_
              refine hK _ _ (al_nCB.storeNew hS162 _) ?_
              clear hK K
              try ((repeat rw [put_none]); (try simp only [put_some, List.setIfInBounds_toArray, List.set_cons_succ, List.set_cons_zero]))
              refine rem_nil ?_
              intro v9 hS9 hE9
              exact ⟨DX, SX, DA, CB, v160.heap.size, v155.heap.size, rfl, HDA.out, HCB.out, ((hS9.add (hE9 _ _ (setRow_here hg_nCB CB)) (by have := al_nCB.tn.size; omega)).add (hE9 _ _ ((setRow_other _ _ _ CB (by omega)).trans (hE162 _ _ (setRow_here hg_nDA DA)))) (by have := al_nDA.tn.size; omega))⟩
            · intro v163 hS163 hE163 K hK
              go_wp2_with fail
              have al_nDA := hS163
              have lt_nCB_nDA := (Array.getElem?_eq_some_iff.1 (hE163 _ _ (block_stay hk158 (hE158 _ _ (block_stay hk157 (hE157 _ _ (block_stay hk156 (hE156 _ _ (heap_alloc_new v155 _))))))))).1
              refine hK _ _ (hS163.alloc _) ?_
              clear hK K
              try ((repeat rw [put_none]); (try simp only [put_some, List.setIfInBounds_toArray, List.set_cons_succ, List.set_cons_zero]))
              refine rem_one 13 (by kernel_rfl) (step_of rfl (wanted_none rfl) ?_)
              intro v164 hS164 hE164 K hK
              go_wp2_with fail
              refine (gTimes_fe SX B (X2 + Z2) (X1 - Z1) _ HSX.out HB.out).mono ?_
              rintro e u164 ⟨CB, rfl, hCB, hk164⟩
              have sCB := hCB.size
              have oCB := Lib.hid hCB.one
              have HCB := Lib.hid hCB
              clear hCB
              refine hK _ _ (hS164.keep hk164) ?_
              clear hK K
              try ((repeat rw [put_none]); (try simp only [put_some, List.setIfInBounds_toArray, List.set_cons_succ, List.set_cons_zero]))
              refine rem_one 16 (by kernel_rfl) (step_of rfl (wanted_none rfl) ?_)
              intro v165 hS165 hE165 K hK
              have hg_nDA := (hE165 _ _ (block_stay hk164 (hE164 _ _ (heap_alloc_new v163 _))))
              refine wp_store_row 46 _ _ rfl v163.heap.size DA rfl rfl 46 _ hg_nDA (by rw [sDA]; exact infoNu) (by rw [sDA]; rfl) oDA.out ?_
              refine hK _ _ (al_nDA.storeNew hS165 _) ?_
              clear hK K
              try ((repeat rw [put_none]); (try simp only [put_some, List.setIfInBounds_toArray, List.set_cons_succ, List.set_cons_zero]))
              refine rem_one 17 (by kernel_rfl) (step_of rfl (wanted_none rfl) ?_)
              intro v166 hS166 hE166 K hK
              have hg_nCB := (hE166 _ _ ((setRow_other _ _ _ DA (by omega)).trans (hE165 _ _ (block_stay hk164 (hE164 _ _ (Ext.alloc v163 _ _ _ (hE163 _ _ (block_stay hk158 (hE158 _ _ (block_stay hk157 (hE157 _ _ (block_stay hk156 (hE156 _ _ (heap_alloc_new v155 _))))))))))))))
              refine wp_store_row 46 _ _ rfl v155.heap.size CB rfl rfl 46 _ hg_nCB (by rw [sCB]; exact infoNu) (by rw [sCB]; rfl) oCB.out ?_
              refine hK _ _ (al_nCB.storeNew hS166 _) ?_
              clear hK K
              try ((repeat rw [put_none]); (try simp only [put_some, List.setIfInBounds_toArray, List.set_cons_succ, List.set_cons_zero]))
              refine rem_nil ?_
              intro v9 hS9 hE9
              exact ⟨DX, SX, DA, CB, v163.heap.size, v155.heap.size, rfl, HDA.out, HCB.out, ((hS9.add (hE9 _ _ (setRow_here hg_nCB CB)) (by have := al_nCB.tn.size; omega)).add (hE9 _ _ ((setRow_other _ _ _ CB (by omega)).trans (hE166 _ _ (setRow_here hg_nDA DA)))) (by have := al_nDA.tn.size; omega))⟩
          · intro v167 hS167 hE167 K hK
            go_wp2_with fail
            have al_nDA := hS167
            have lt_nCB_nDA := (Array.getElem?_eq_some_iff.1 (hE167 _ _ (block_stay hk157 (hE157 _ _ (block_stay hk156 (hE156 _ _ (heap_alloc_new v155 _))))))).1
            refine hK _ _ (hS167.alloc _) ?_
            clear hK K
            try ((repeat rw [put_none]); (try simp only [put_some, List.setIfInBounds_toArray, List.set_cons_succ, List.set_cons_zero]))
            refine rem_one 11 (by kernel_rfl) (step_of rfl (wanted_none rfl) ?_)
            intro v168 hS168 hE168 K hK
            go_wp2_with fail
            refine (lsum_fe A2 A3 X2 Z2 _ HA2.out HA3.out).mono ?_
            rintro e u168 ⟨SX, rfl, hSX, hk168⟩
            have sSX := hSX.size
            have oSX := Lib.hid hSX.one
            have HSX := Lib.hid hSX
            clear hSX
            refine hK _ _ (hS168.keep hk168) ?_
            clear hK K
            try ((repeat rw [put_none]); (try simp only [put_some, List.setIfInBounds_toArray, List.set_cons_succ, List.set_cons_zero]))
            refine rem_one 13 (by kernel_rfl) (step_of rfl (wanted_none rfl) ?_)
            intro v169 hS169 hE169 K hK
            go_wp2_with fail
            refine (gTimes_fe SX B (X2 + Z2) (X1 - Z1) _ HSX.out HB.out).mono ?_
            rintro e u169 ⟨CB, rfl, hCB, hk169⟩
            have sCB := hCB.size
            have oCB := Lib.hid hCB.one
            have HCB := Lib.hid hCB
            clear hCB
            refine hK _ _ (hS169.keep hk169) ?_
            clear hK K
            try ((repeat rw [put_none]); (try simp only [put_some, List.setIfInBounds_toArray, List.set_cons_succ, List.set_cons_zero]))
            refine rem_one 16 (by kernel_rfl) (step_of rfl (wanted_none rfl) ?_)
            intro v170 hS170 hE170 K hK
            have hg_nDA := (hE170 _ _ (block_stay hk169 (hE169 _ _ (block_stay hk168 (hE168 _ _ (heap_alloc_new v167 _))))))
            refine wp_store_row 46 _ _ rfl v167.heap.size DA rfl rfl 46 _ hg_nDA (by rw [sDA]; exact infoNu) (by rw [sDA]; rfl) oDA.out ?_
            refine hK _ _ (al_nDA.storeNew hS170 _) ?_
            clear hK K
            try ((repeat rw [put_none]); (try simp only [put_some, List.setIfInBounds_toArray, List.set_cons_succ, List.set_cons_zero]))
            refine rem_one 17 (by kernel_rfl) (step_of rfl (wanted_none rfl) ?_)
            intro v171 hS171 hE171 K hK
            have hg_nCB := (hE171 _ _ ((setRow_other _ _ _ DA (by omega)).trans (hE170 _ _ (block_stay hk169 (hE169 _ _ (block_stay hk168 (hE168 _ _ (Ext.alloc v167 _ _ _ (hE167 _ _ (block_stay hk157 (hE157 _ _ (block_stay hk156 (hE156 _ _ (heap_alloc_new v155 _))))))))))))))
            refine wp_store_row 46 _ _ rfl v155.heap.size CB rfl rfl 46 _ hg_nCB (by rw [sCB]; exact infoNu) (by rw [sCB]; rfl) oCB.out ?_
            refine hK _ _ (al_nCB.storeNew hS171 _) ?_
            clear hK K
            try ((repeat rw [put_none]); (try simp only [put_some, List.setIfInBounds_toArray, List.set_cons_succ, List.set_cons_zero]))
            refine rem_nil ?_
            intro v9 hS9 hE9
            exact ⟨DX, SX, DA, CB, v167.heap.size, v155.heap.size, rfl, HDA.out, HCB.out, ((hS9.add (hE9 _ _ (setRow_here hg_nCB CB)) (by have := al_nCB.tn.size; omega)).add (hE9 _ _ ((setRow_other _ _ _ CB (by omega)).trans (hE171 _ _ (setRow_here hg_nDA DA)))) (by have := al_nDA.tn.size; omega))⟩
        · intro v172 hS172 hE172 K hK
          go_wp2_with fail
          have al_nDA := hS172
          have lt_nCB_nDA := (Array.getElem?_eq_some_iff.1 (hE172 _ _ (block_stay hk156 (hE156 _ _ (heap_alloc_new v155 _))))).1
          refine hK _ _ (hS172.alloc _) ?_
          clear hK K
          try ((repeat rw [put_none]); (try simp only [put_some, List.setIfInBounds_toArray, List.set_cons_succ, List.set_cons_zero]))
          refine rem_one 6 (by kernel_rfl) (step_of rfl (wanted_none rfl) ?_)
          intro v173 hS173 hE173 K hK
          go_wp2_with fail
          refine (gTimes_fe DX A (X2 - Z2) (X1 + Z1) _ HDX.out HA.out).mono ?_
          rintro e u173 ⟨DA, rfl, hDA, hk173⟩
          have sDA := hDA.size
          have oDA := Lib.hid hDA.one
          have HDA := Lib.hid hDA
          clear hDA
          refine hK _ _ (hS173.keep hk173) ?_
          clear hK K
          try ((repeat rw [put_none]); (try simp only [put_some, List.setIfInBounds_toArray, List.set_cons_succ, List.set_cons_zero]))
          refine rem_one 11 (by kernel_rfl) (step_of rfl (wanted_none rfl) ?_)
          intro v174 hS174 hE174 K hK
          go_wp2_with fail
          refine (lsum_fe A2 A3 X2 Z2 _ HA2.out HA3.out).mono ?_
          rintro e u174 ⟨SX, rfl, hSX, hk174⟩
          have sSX := hSX.size
          have oSX := Lib.hid hSX.one
          have HSX := Lib.hid hSX
          clear hSX
          refine hK _ _ (hS174.keep hk174) ?_
          clear hK K
          try ((repeat rw [put_none]); (try simp only [put_some, List.setIfInBounds_toArray, List.set_cons_succ, List.set_cons_zero]))
          refine rem_one 13 (by kernel_rfl) (step_of rfl (wanted_none rfl) ?_)
          intro v175 hS175 hE175 K hK
          go_wp2_with fail
          refine (gTimes_fe SX B (X2 + Z2) (X1 - Z1) _ HSX.out HB.out).mono ?_
          rintro e u175 ⟨CB, rfl, hCB, hk175⟩
          have sCB := hCB.size
          have oCB := Lib.hid hCB.one
          have HCB := Lib.hid hCB
          clear hCB
          refine hK _ _ (hS175.keep hk175) ?_
          clear hK K
          try ((repeat rw [put_none]); (try simp only [put_some, List.setIfInBounds_toArray, List.set_cons_succ, List.set_cons_zero]))
          refine rem_one 16 (by kernel_rfl) (step_of rfl (wanted_none rfl) ?_)
          intro v176 hS176 hE176 K hK
          have hg_nDA := (hE176 _ _ (block_stay hk175 (hE175 _ _ (block_stay hk174 (hE174 _ _ (block_stay hk173 (hE173 _ _ (heap_alloc_new v172 _))))))))
          refine wp_store_row 46 _ _ rfl v172.heap.size DA rfl rfl 46 _ hg_nDA (by rw [sDA]; exact infoNu) (by rw [sDA]; rfl) oDA.out ?_
          refine hK _ _ (al_nDA.storeNew hS176 _) ?_
          clear hK K
          try ((repeat rw [put_none]); (try simp only [put_some, List.setIfInBounds_toArray, List.set_cons_succ, List.set_cons_zero]))
          refine rem_one 17 (by kernel_rfl) (step_of rfl (wanted_none rfl) ?_)
          intro v177 hS177 hE177 K hK
          have hg_nCB := (hE177 _ _ ((setRow_other _ _ _ DA (by omega)).trans (hE176 _ _ (block_stay hk175 (hE175 _ _ (block_stay hk174 (hE174 _ _ (block_stay hk173 (hE173 _ _ (Ext.alloc v172 _ _ _ (hE172 _ _ (block_stay hk156 (hE156 _ _ (heap_alloc_new v155 _))))))))))))))
          refine wp_store_row 46 _ _ rfl v155.heap.size CB rfl rfl 46 _ hg_nCB (by rw [sCB]; exact infoNu) (by rw [sCB]; rfl) oCB.out ?_
          refine hK _ _ (al_nCB.storeNew hS177 _) ?_
          clear hK K
          try ((repeat rw [put_none]); (try simp only [put_some, List.setIfInBounds_toArray, List.set_cons_succ, List.set_cons_zero]))
          refine rem_nil ?_
          intro v9 hS9 hE9
          exact ⟨DX, SX, DA, CB, v172.heap.size, v155.heap.size, rfl, HDA.out, HCB.out, ((hS9.add (hE9 _ _ (setRow_here hg_nCB CB)) (by have := al_nCB.tn.size; omega)).add (hE9 _ _ ((setRow_other _ _ _ CB (by omega)).trans (hE177 _ _ (setRow_here hg_nDA DA)))) (by have := al_nDA.tn.size; omega))⟩
      · intro v178 hS178 hE178 K hK
        go_wp2_with fail
        have al_nDA := hS178
        have lt_nCB_nDA := (Array.getElem?_eq_some_iff.1 (hE178 _ _ (heap_alloc_new v155 _))).1
        refine hK _ _ (hS178.alloc _) ?_
        clear hK K
        try ((repeat rw [put_none]); (try simp only [put_some, List.setIfInBounds_toArray, List.set_cons_succ, List.set_cons_zero]))
        refine rem_one 4 (by kernel_rfl) (step_of rfl (wanted_none rfl) ?_)
        intro v179 hS179 hE179 K hK
        go_wp2_with fail
        refine (ldiff_fe A2 A3 X2 Z2 _ HA2.out HA3.out).mono ?_
        rintro e u179 ⟨DX, rfl, hDX, hk179⟩
        have sDX := hDX.size
        have oDX := Lib.hid hDX.one
        have HDX := Lib.hid hDX
        clear hDX
        refine hK _ _ (hS179.keep hk179) ?_
        clear hK K
        try ((repeat rw [put_none]); (try simp only [put_some, List.setIfInBounds_toArray, List.set_cons_succ, List.set_cons_zero]))
        refine rem_one 6 (by kernel_rfl) (step_of rfl (wanted_none rfl) ?_)
        intro v180 hS180 hE180 K hK
        go_wp2_with fail
        refine (gTimes_fe DX A (X2 - Z2) (X1 + Z1) _ HDX.out HA.out).mono ?_
        rintro e u180 ⟨DA, rfl, hDA, hk180⟩
        have sDA := hDA.size
        have oDA := Lib.hid hDA.one
        have HDA := Lib.hid hDA
        clear hDA
        refine hK _ _ (hS180.keep hk180) ?_
        clear hK K
        try ((repeat rw [put_none]); (try simp only [put_some, List.setIfInBounds_toArray, List.set_cons_succ, List.set_cons_zero]))
        refine rem_one 11 (by kernel_rfl) (step_of rfl (wanted_none rfl) ?_)
        intro v181 hS181 hE181 K hK
        go_wp2_with fail
        refine (lsum_fe A2 A3 X2 Z2 _ HA2.out HA3.out).mono ?_
        rintro e u181 ⟨SX, rfl, hSX, hk181⟩
        have sSX := hSX.size
        have oSX := Lib.hid hSX.one
        have HSX := Lib.hid hSX
        clear hSX
        refine hK _ _ (hS181.keep hk181) ?_
        clear hK K
        try ((repeat rw [put_none]); (try simp only [put_some, List.setIfInBounds_toArray, List.set_cons_succ, List.set_cons_zero]))
        refine rem_one 13 (by kernel_rfl) (step_of rfl (wanted_none rfl) ?_)
        intro v182 hS182 hE182 K hK
        go_wp2_with fail
        refine (gTimes_fe SX B (X2 + Z2) (X1 - Z1) _ HSX.out HB.out).mono ?_
        rintro e u182 ⟨CB, rfl, hCB, hk182⟩
        have sCB := hCB.size
        have oCB := Lib.hid hCB.one
        have HCB := Lib.hid hCB
        clear hCB
        refine hK _ _ (hS182.keep hk182) ?_
        clear hK K
        try ((repeat rw [put_none]); (try simp only [put_some, List.setIfInBounds_toArray, List.set_cons_succ, List.set_cons_zero]))
        refine rem_one 16 (by kernel_rfl) (step_of rfl (wanted_none rfl) ?_)
        intro v183 hS183 hE183 K hK
        have hg_nDA := (hE183 _ _ (block_stay hk182 (hE182 _ _ (block_stay hk181 (hE181 _ _ (block_stay hk180 (hE180 _ _ (block_stay hk179 (hE179 _ _ (heap_alloc_new v178 _))))))))))
        refine wp_store_row 46 _ _ rfl v178.heap.size DA rfl rfl 46 _ hg_nDA (by rw [sDA]; exact infoNu) (by rw [sDA]; rfl) oDA.out ?_
        refine hK _ _ (al_nDA.storeNew hS183 _) ?_
        clear hK K
        try ((repeat rw [put_none]); (try simp only [put_some, List.setIfInBounds_toArray, List.set_cons_succ, List.set_cons_zero]))
        refine rem_one 17 (by kernel_rfl) (step_of rfl (wanted_none rfl) ?_)
        intro v184 hS184 hE184 K hK
        have hg_nCB := (hE184 _ _ ((setRow_other _ _ _ DA (by omega)).trans (hE183 _ _ (block_stay hk182 (hE182 _ _ (block_stay hk181 (hE181 _ _ (block_stay hk180 (hE180 _ _ (block_stay hk179 (hE179 _ _ (Ext.alloc v178 _ _ _ (hE178 _ _ (heap_alloc_new v155 _))))))))))))))
        refine wp_store_row 46 _ _ rfl v155.heap.size CB rfl rfl 46 _ hg_nCB (by rw [sCB]; exact infoNu) (by rw [sCB]; rfl) oCB.out ?_
        refine hK _ _ (al_nCB.storeNew hS184 _) ?_
        clear hK K
        try ((repeat rw [put_none]); (try simp only [put_some, List.setIfInBounds_toArray, List.set_cons_succ, List.set_cons_zero]))
        refine rem_nil ?_
        intro v9 hS9 hE9
        exact ⟨DX, SX, DA, CB, v178.heap.size, v155.heap.size, rfl, HDA.out, HCB.out, ((hS9.add (hE9 _ _ (setRow_here hg_nCB CB)) (by have := al_nCB.tn.size; omega)).add (hE9 _ _ ((setRow_other _ _ _ CB (by omega)).trans (hE184 _ _ (setRow_here hg_nDA DA)))) (by have := al_nDA.tn.size; omega))⟩
  rintro b' w' ⟨DX, SX, DA, CB, g4, g5, rfl, hDA, hCB, hst⟩
  have sDA := hDA.size
  have oDA := Lib.hid hDA.one
  have HDA := Lib.hid hDA
  clear hDA
  have sCB := hCB.size
  have oCB := Lib.hid hCB.one
  have HCB := Lib.hid hCB
  clear hCB
  try ((repeat rw [put_none]); (try simp only [put_some, List.setIfInBounds_toArray, List.set_cons_succ, List.set_cons_zero]))
  go_wp2_with fail
  refine wp_region_then (fun a b' w' => ∃ (AA BB : Array Value) (g6 g7 : Nat), b' = ((((((((a.put (some 35) (.agg A)).put (some 36) (.agg A)).put (some 37) (.agg AA)).put (some 38) (.agg B)).put (some 39) (.agg B)).put (some 40) (.agg BB)).put (some 6) (.pointer (some ⟨g6, 0, none⟩))).put (some 7) (.pointer (some ⟨g7, 0, none⟩))) ∧ FeA AA ((X1 + Z1) * (X1 + Z1)) ∧ FeA BB ((X1 - Z1) * (X1 - Z1)) ∧ Kt w b [(g6, AA), (g7, BB), (g4, DA), (g5, CB), (g2, A), (g3, B)] [(0, pr A0 A1), (10, pr A2 A3), (20, A4.toList)] w') ?_ ?_
  · refine wp_region_rem (Kt w b [(g4, DA), (g5, CB), (g2, A), (g3, B)] [(0, pr A0 A1), (10, pr A2 A3), (20, A4.toList)]) (by kernel_rfl) (by kernel_rfl) (fun _ _ _ _ _ h => h.elim) hst.drew ?_
    apply rem_sure 0 (by kernel_rfl) rfl (wanted_none rfl)
    · intro w2 hS K hK
      exact wp_load_row 46 _ rfl g2 rfl _ A _ _ (hS.at_ (by simp)) Try.underlying46 rfl (by rw [sA]; exact infoNu) (hK _ hS (Ext.refl _))
    · kernel_rfl
    · kernel_rfl
    try ((repeat rw [put_none]); (try simp only [put_some, List.setIfInBounds_toArray, List.set_cons_succ, List.set_cons_zero]))
    apply rem_sure 1 (by kernel_rfl) rfl (wanted_none rfl)
    · intro w2 hS K hK
      exact wp_load_row 46 _ rfl g2 rfl _ A _ _ (hS.at_ (by simp)) Try.underlying46 rfl (by rw [sA]; exact infoNu) (hK _ hS (Ext.refl _))
    · kernel_rfl
    · kernel_rfl
    try ((repeat rw [put_none]); (try simp only [put_some, List.setIfInBounds_toArray, List.set_cons_succ, List.set_cons_zero]))
    apply rem_sure 3 (by kernel_rfl) rfl (wanted_none rfl)
    · intro w2 hS K hK
      exact wp_load_row 46 _ rfl g3 rfl _ B _ _ (hS.at_ (by simp)) Try.underlying46 rfl (by rw [sB]; exact infoNu) (hK _ hS (Ext.refl _))
    · kernel_rfl
    · kernel_rfl
    try ((repeat rw [put_none]); (try simp only [put_some, List.setIfInBounds_toArray, List.set_cons_succ, List.set_cons_zero]))
    apply rem_sure 4 (by kernel_rfl) rfl (wanted_none rfl)
    · intro w2 hS K hK
      exact wp_load_row 46 _ rfl g3 rfl _ B _ _ (hS.at_ (by simp)) Try.underlying46 rfl (by rw [sB]; exact infoNu) (hK _ hS (Ext.refl _))
    · kernel_rfl
    · kernel_rfl
    try ((repeat rw [put_none]); (try simp only [put_some, List.setIfInBounds_toArray, List.set_cons_succ, List.set_cons_zero]))
    refine rem_three 2 6 7 (by kernel_rfl) (step_of rfl (wanted_none rfl) ?_) (step_of rfl (wanted_none rfl) ?_) (step_of rfl (wanted_none rfl) ?_)
    · intro v21 hS21 hE21 K hK
      go_wp2_with fail
      refine (gTimes_fe A A (X1 + Z1) (X1 + Z1) _ HA.out HA.out).mono ?_
      rintro e u21 ⟨AA, rfl, hAA, hk21⟩
      have sAA := hAA.size
      have oAA := Lib.hid hAA.one
      have HAA := Lib.hid hAA
      clear hAA
      refine hK _ _ (hS21.keep hk21) ?_
      clear hK K
      try ((repeat rw [put_none]); (try simp only [put_some, List.setIfInBounds_toArray, List.set_cons_succ, List.set_cons_zero]))
      refine rem_three 5 6 7 (by kernel_rfl) (step_of rfl (wanted_none rfl) ?_) (step_of rfl (wanted_none rfl) ?_) (step_of rfl (wanted_none rfl) ?_)
      · intro v22 hS22 hE22 K hK
        go_wp2_with fail
        refine (gTimes_fe B B (X1 - Z1) (X1 - Z1) _ HB.out HB.out).mono ?_
        rintro e u22 ⟨BB, rfl, hBB, hk22⟩
        have sBB := hBB.size
        have oBB := Lib.hid hBB.one
        have HBB := Lib.hid hBB
        clear hBB
        refine hK _ _ (hS22.keep hk22) ?_
        clear hK K
        try ((repeat rw [put_none]); (try simp only [put_some, List.setIfInBounds_toArray, List.set_cons_succ, List.set_cons_zero]))
        refine rem_two 6 7 (by kernel_rfl) (step_of rfl (wanted_none rfl) ?_) (step_of rfl (wanted_none rfl) ?_)
        · intro v23 hS23 hE23 K hK
          go_wp2_with fail
          have al_nAA := hS23
          refine hK _ _ (hS23.alloc _) ?_
          clear hK K
          try ((repeat rw [put_none]); (try simp only [put_some, List.setIfInBounds_toArray, List.set_cons_succ, List.set_cons_zero]))
          refine rem_one 7 (by kernel_rfl) (step_of rfl (wanted_none rfl) ?_)
          intro v24 hS24 hE24 K hK
          go_wp2_with fail
          have al_nBB := hS24
          have lt_nAA_nBB := (Array.getElem?_eq_some_iff.1 (hE24 _ _ (heap_alloc_new v23 _))).1
          refine hK _ _ (hS24.alloc _) ?_
          clear hK K
          try ((repeat rw [put_none]); (try simp only [put_some, List.setIfInBounds_toArray, List.set_cons_succ, List.set_cons_zero]))
          refine rem_one 8 (by kernel_rfl) (step_of rfl (wanted_none rfl) ?_)
          intro v25 hS25 hE25 K hK
          have hg_nAA := (hE25 _ _ (Ext.alloc v24 _ _ _ (hE24 _ _ (heap_alloc_new v23 _))))
          refine wp_store_row 46 _ _ rfl v23.heap.size AA rfl rfl 46 _ hg_nAA (by rw [sAA]; exact infoNu) (by rw [sAA]; rfl) oAA.out ?_
          refine hK _ _ (al_nAA.storeNew hS25 _) ?_
          clear hK K
          try ((repeat rw [put_none]); (try simp only [put_some, List.setIfInBounds_toArray, List.set_cons_succ, List.set_cons_zero]))
          refine rem_one 9 (by kernel_rfl) (step_of rfl (wanted_none rfl) ?_)
          intro v26 hS26 hE26 K hK
          have hg_nBB := (hE26 _ _ ((setRow_other _ _ _ AA (by omega)).trans (hE25 _ _ (heap_alloc_new v24 _))))
          refine wp_store_row 46 _ _ rfl v24.heap.size BB rfl rfl 46 _ hg_nBB (by rw [sBB]; exact infoNu) (by rw [sBB]; rfl) oBB.out ?_
          refine hK _ _ (al_nBB.storeNew hS26 _) ?_
          clear hK K
          try ((repeat rw [put_none]); (try simp only [put_some, List.setIfInBounds_toArray, List.set_cons_succ, List.set_cons_zero]))
          refine rem_nil ?_
          intro v9 hS9 hE9
          exact ⟨AA, BB, v23.heap.size, v24.heap.size, rfl, HAA.out, HBB.out, ((hS9.add (hE9 _ _ (setRow_here hg_nBB BB)) (by have := al_nBB.tn.size; omega)).add (hE9 _ _ ((setRow_other _ _ _ BB (by omega)).trans (hE26 _ _ (setRow_here hg_nAA AA)))) (by have := al_nAA.tn.size; omega))⟩
        · intro v27 hS27 hE27 K hK
          go_wp2_with fail
          have al_nBB := hS27
          refine hK _ _ (hS27.alloc _) ?_
          clear hK K
          try ((repeat rw [put_none]); (try simp only [put_some, List.setIfInBounds_toArray, List.set_cons_succ, List.set_cons_zero]))
          refine rem_one 6 (by kernel_rfl) (step_of rfl (wanted_none rfl) ?_)
          intro v28 hS28 hE28 K hK
          go_wp2_with fail
          have al_nAA := hS28
          have lt_nBB_nAA := (Array.getElem?_eq_some_iff.1 (hE28 _ _ (heap_alloc_new v27 _))).1
          refine hK _ _ (hS28.alloc _) ?_
          clear hK K
          try ((repeat rw [put_none]); (try simp only [put_some, List.setIfInBounds_toArray, List.set_cons_succ, List.set_cons_zero]))
          refine rem_one 8 (by kernel_rfl) (step_of rfl (wanted_none rfl) ?_)
          intro v29 hS29 hE29 K hK
          have hg_nAA := (hE29 _ _ (heap_alloc_new v28 _))
          refine wp_store_row 46 _ _ rfl v28.heap.size AA rfl rfl 46 _ hg_nAA (by rw [sAA]; exact infoNu) (by rw [sAA]; rfl) oAA.out ?_
          refine hK _ _ (al_nAA.storeNew hS29 _) ?_
          clear hK K
          try ((repeat rw [put_none]); (try simp only [put_some, List.setIfInBounds_toArray, List.set_cons_succ, List.set_cons_zero]))
          refine rem_one 9 (by kernel_rfl) (step_of rfl (wanted_none rfl) ?_)
          intro v30 hS30 hE30 K hK
          have hg_nBB := (hE30 _ _ ((setRow_other _ _ _ AA (by omega)).trans (hE29 _ _ (Ext.alloc v28 _ _ _ (hE28 _ _ (heap_alloc_new v27 _))))))
          refine wp_store_row 46 _ _ rfl v27.heap.size BB rfl rfl 46 _ hg_nBB (by rw [sBB]; exact infoNu) (by rw [sBB]; rfl) oBB.out ?_
          refine hK _ _ (al_nBB.storeNew hS30 _) ?_
          clear hK K
          try ((repeat rw [put_none]); (try simp only [put_some, List.setIfInBounds_toArray, List.set_cons_succ, List.set_cons_zero]))
          refine rem_nil ?_
          intro v9 hS9 hE9
          exact ⟨AA, BB, v28.heap.size, v27.heap.size, rfl, HAA.out, HBB.out, ((hS9.add (hE9 _ _ (setRow_here hg_nBB BB)) (by have := al_nBB.tn.size; omega)).add (hE9 _ _ ((setRow_other _ _ _ BB (by omega)).trans (hE30 _ _ (setRow_here hg_nAA AA)))) (by have := al_nAA.tn.size; omega))⟩
      · intro v31 hS31 hE31 K hK
        go_wp2_with fail
        have al_nAA := hS31
        refine hK _ _ (hS31.alloc _) ?_
        clear hK K
        try ((repeat rw [put_none]); (try simp only [put_some, List.setIfInBounds_toArray, List.set_cons_succ, List.set_cons_zero]))
        refine rem_two 5 7 (by kernel_rfl) (step_of rfl (wanted_none rfl) ?_) (step_of rfl (wanted_none rfl) ?_)
        · intro v32 hS32 hE32 K hK
          go_wp2_with fail
          refine (gTimes_fe B B (X1 - Z1) (X1 - Z1) _ HB.out HB.out).mono ?_
          rintro e u32 ⟨BB, rfl, hBB, hk32⟩
          have sBB := hBB.size
          have oBB := Lib.hid hBB.one
          have HBB := Lib.hid hBB
          clear hBB
          refine hK _ _ (hS32.keep hk32) ?_
          clear hK K
          try ((repeat rw [put_none]); (try simp only [put_some, List.setIfInBounds_toArray, List.set_cons_succ, List.set_cons_zero]))
          refine rem_one 7 (by kernel_rfl) (step_of rfl (wanted_none rfl) ?_)
          intro v33 hS33 hE33 K hK
          go_wp2_with fail
          have al_nBB := hS33
          have lt_nAA_nBB := (Array.getElem?_eq_some_iff.1 (hE33 _ _ (block_stay hk32 (hE32 _ _ (heap_alloc_new v31 _))))).1
          refine hK _ _ (hS33.alloc _) ?_
          clear hK K
          try ((repeat rw [put_none]); (try simp only [put_some, List.setIfInBounds_toArray, List.set_cons_succ, List.set_cons_zero]))
          refine rem_one 8 (by kernel_rfl) (step_of rfl (wanted_none rfl) ?_)
          intro v34 hS34 hE34 K hK
          have hg_nAA := (hE34 _ _ (Ext.alloc v33 _ _ _ (hE33 _ _ (block_stay hk32 (hE32 _ _ (heap_alloc_new v31 _))))))
          refine wp_store_row 46 _ _ rfl v31.heap.size AA rfl rfl 46 _ hg_nAA (by rw [sAA]; exact infoNu) (by rw [sAA]; rfl) oAA.out ?_
          refine hK _ _ (al_nAA.storeNew hS34 _) ?_
          clear hK K
          try ((repeat rw [put_none]); (try simp only [put_some, List.setIfInBounds_toArray, List.set_cons_succ, List.set_cons_zero]))
          refine rem_one 9 (by kernel_rfl) (step_of rfl (wanted_none rfl) ?_)
          intro v35 hS35 hE35 K hK
          have hg_nBB := (hE35 _ _ ((setRow_other _ _ _ AA (by omega)).trans (hE34 _ _ (heap_alloc_new v33 _))))
          refine wp_store_row 46 _ _ rfl v33.heap.size BB rfl rfl 46 _ hg_nBB (by rw [sBB]; exact infoNu) (by rw [sBB]; rfl) oBB.out ?_
          refine hK _ _ (al_nBB.storeNew hS35 _) ?_
          clear hK K
          try ((repeat rw [put_none]); (try simp only [put_some, List.setIfInBounds_toArray, List.set_cons_succ, List.set_cons_zero]))
          refine rem_nil ?_
          intro v9 hS9 hE9
          exact ⟨AA, BB, v31.heap.size, v33.heap.size, rfl, HAA.out, HBB.out, ((hS9.add (hE9 _ _ (setRow_here hg_nBB BB)) (by have := al_nBB.tn.size; omega)).add (hE9 _ _ ((setRow_other _ _ _ BB (by omega)).trans (hE35 _ _ (setRow_here hg_nAA AA)))) (by have := al_nAA.tn.size; omega))⟩
        · intro v36 hS36 hE36 K hK
          go_wp2_with fail
          have al_nBB := hS36
          have lt_nAA_nBB := (Array.getElem?_eq_some_iff.1 (hE36 _ _ (heap_alloc_new v31 _))).1
          refine hK _ _ (hS36.alloc _) ?_
          clear hK K
          try ((repeat rw [put_none]); (try simp only [put_some, List.setIfInBounds_toArray, List.set_cons_succ, List.set_cons_zero]))
          refine rem_one 5 (by kernel_rfl) (step_of rfl (wanted_none rfl) ?_)
          intro v37 hS37 hE37 K hK
          go_wp2_with fail
          refine (gTimes_fe B B (X1 - Z1) (X1 - Z1) _ HB.out HB.out).mono ?_
          rintro e u37 ⟨BB, rfl, hBB, hk37⟩
          have sBB := hBB.size
          have oBB := Lib.hid hBB.one
          have HBB := Lib.hid hBB
          clear hBB
          refine hK _ _ (hS37.keep hk37) ?_
          clear hK K
          try ((repeat rw [put_none]); (try simp only [put_some, List.setIfInBounds_toArray, List.set_cons_succ, List.set_cons_zero]))
          refine rem_one 8 (by kernel_rfl) (step_of rfl (wanted_none rfl) ?_)
          intro v38 hS38 hE38 K hK
          have hg_nAA := (hE38 _ _ (block_stay hk37 (hE37 _ _ (Ext.alloc v36 _ _ _ (hE36 _ _ (heap_alloc_new v31 _))))))
          refine wp_store_row 46 _ _ rfl v31.heap.size AA rfl rfl 46 _ hg_nAA (by rw [sAA]; exact infoNu) (by rw [sAA]; rfl) oAA.out ?_
          refine hK _ _ (al_nAA.storeNew hS38 _) ?_
          clear hK K
          try ((repeat rw [put_none]); (try simp only [put_some, List.setIfInBounds_toArray, List.set_cons_succ, List.set_cons_zero]))
          refine rem_one 9 (by kernel_rfl) (step_of rfl (wanted_none rfl) ?_)
          intro v39 hS39 hE39 K hK
          have hg_nBB := (hE39 _ _ ((setRow_other _ _ _ AA (by omega)).trans (hE38 _ _ (block_stay hk37 (hE37 _ _ (heap_alloc_new v36 _))))))
          refine wp_store_row 46 _ _ rfl v36.heap.size BB rfl rfl 46 _ hg_nBB (by rw [sBB]; exact infoNu) (by rw [sBB]; rfl) oBB.out ?_
          refine hK _ _ (al_nBB.storeNew hS39 _) ?_
          clear hK K
          try ((repeat rw [put_none]); (try simp only [put_some, List.setIfInBounds_toArray, List.set_cons_succ, List.set_cons_zero]))
          refine rem_nil ?_
          intro v9 hS9 hE9
          exact ⟨AA, BB, v31.heap.size, v36.heap.size, rfl, HAA.out, HBB.out, ((hS9.add (hE9 _ _ (setRow_here hg_nBB BB)) (by have := al_nBB.tn.size; omega)).add (hE9 _ _ ((setRow_other _ _ _ BB (by omega)).trans (hE39 _ _ (setRow_here hg_nAA AA)))) (by have := al_nAA.tn.size; omega))⟩
      · intro v40 hS40 hE40 K hK
        go_wp2_with fail
        have al_nBB := hS40
        refine hK _ _ (hS40.alloc _) ?_
        clear hK K
        try ((repeat rw [put_none]); (try simp only [put_some, List.setIfInBounds_toArray, List.set_cons_succ, List.set_cons_zero]))
        refine rem_two 5 6 (by kernel_rfl) (step_of rfl (wanted_none rfl) ?_) (step_of rfl (wanted_none rfl) ?_)
        · intro v41 hS41 hE41 K hK
          go_wp2_with fail
          refine (gTimes_fe B B (X1 - Z1) (X1 - Z1) _ HB.out HB.out).mono ?_
          rintro e u41 ⟨BB, rfl, hBB, hk41⟩
          have sBB := hBB.size
          have oBB := Lib.hid hBB.one
          have HBB := Lib.hid hBB
          clear hBB
          refine hK _ _ (hS41.keep hk41) ?_
          clear hK K
          try ((repeat rw [put_none]); (try simp only [put_some, List.setIfInBounds_toArray, List.set_cons_succ, List.set_cons_zero]))
          refine rem_one 6 (by kernel_rfl) (step_of rfl (wanted_none rfl) ?_)
          intro v42 hS42 hE42 K hK
          go_wp2_with fail
          have al_nAA := hS42
          have lt_nBB_nAA := (Array.getElem?_eq_some_iff.1 (hE42 _ _ (block_stay hk41 (hE41 _ _ (heap_alloc_new v40 _))))).1
          refine hK _ _ (hS42.alloc _) ?_
          clear hK K
          try ((repeat rw [put_none]); (try simp only [put_some, List.setIfInBounds_toArray, List.set_cons_succ, List.set_cons_zero]))
          refine rem_one 8 (by kernel_rfl) (step_of rfl (wanted_none rfl) ?_)
          intro v43 hS43 hE43 K hK
          have hg_nAA := (hE43 _ _ (heap_alloc_new v42 _))
          refine wp_store_row 46 _ _ rfl v42.heap.size AA rfl rfl 46 _ hg_nAA (by rw [sAA]; exact infoNu) (by rw [sAA]; rfl) oAA.out ?_
          refine hK _ _ (al_nAA.storeNew hS43 _) ?_
          clear hK K
          try ((repeat rw [put_none]); (try simp only [put_some, List.setIfInBounds_toArray, List.set_cons_succ, List.set_cons_zero]))
          refine rem_one 9 (by kernel_rfl) (step_of rfl (wanted_none rfl) ?_)
          intro v44 hS44 hE44 K hK
          have hg_nBB := (hE44 _ _ ((setRow_other _ _ _ AA (by omega)).trans (hE43 _ _ (Ext.alloc v42 _ _ _ (hE42 _ _ (block_stay hk41 (hE41 _ _ (heap_alloc_new v40 _))))))))
          refine wp_store_row 46 _ _ rfl v40.heap.size BB rfl rfl 46 _ hg_nBB (by rw [sBB]; exact infoNu) (by rw [sBB]; rfl) oBB.out ?_
          refine hK _ _ (al_nBB.storeNew hS44 _) ?_
          clear hK K
          try ((repeat rw [put_none]); (try simp only [put_some, List.setIfInBounds_toArray, List.set_cons_succ, List.set_cons_zero]))
          refine rem_nil ?_
          intro v9 hS9 hE9
          exact ⟨AA, BB, v42.heap.size, v40.heap.size, rfl, HAA.out, HBB.out, ((hS9.add (hE9 _ _ (setRow_here hg_nBB BB)) (by have := al_nBB.tn.size; omega)).add (hE9 _ _ ((setRow_other _ _ _ BB (by omega)).trans (hE44 _ _ (setRow_here hg_nAA AA)))) (by have := al_nAA.tn.size; omega))⟩
        · intro v45 hS45 hE45 K hK
          go_wp2_with fail
          have al_nAA := hS45
          have lt_nBB_nAA := (Array.getElem?_eq_some_iff.1 (hE45 _ _ (heap_alloc_new v40 _))).1
          refine hK _ _ (hS45.alloc _) ?_
          clear hK K
          try ((repeat rw [put_none]); (try simp only [put_some, List.setIfInBounds_toArray, List.set_cons_succ, List.set_cons_zero]))
          refine rem_one 5 (by kernel_rfl) (step_of rfl (wanted_none rfl) ?_)
          intro v46 hS46 hE46 K hK
          go_wp2_with fail
          refine (gTimes_fe B B (X1 - Z1) (X1 - Z1) _ HB.out HB.out).mono ?_
          rintro e u46 ⟨BB, rfl, hBB, hk46⟩
          have sBB := hBB.size
          have oBB := Lib.hid hBB.one
          have HBB := Lib.hid hBB
          clear hBB
          refine hK _ _ (hS46.keep hk46) ?_
          clear hK K
          try ((repeat rw [put_none]); (try simp only [put_some, List.setIfInBounds_toArray, List.set_cons_succ, List.set_cons_zero]))
          refine rem_one 8 (by kernel_rfl) (step_of rfl (wanted_none rfl) ?_)
          intro v47 hS47 hE47 K hK
          have hg_nAA := (hE47 _ _ (block_stay hk46 (hE46 _ _ (heap_alloc_new v45 _))))
          refine wp_store_row 46 _ _ rfl v45.heap.size AA rfl rfl 46 _ hg_nAA (by rw [sAA]; exact infoNu) (by rw [sAA]; rfl) oAA.out ?_
          refine hK _ _ (al_nAA.storeNew hS47 _) ?_
          clear hK K
          try ((repeat rw [put_none]); (try simp only [put_some, List.setIfInBounds_toArray, List.set_cons_succ, List.set_cons_zero]))
          refine rem_one 9 (by kernel_rfl) (step_of rfl (wanted_none rfl) ?_)
          intro v48 hS48 hE48 K hK
          have hg_nBB := (hE48 _ _ ((setRow_other _ _ _ AA (by omega)).trans (hE47 _ _ (block_stay hk46 (hE46 _ _ (Ext.alloc v45 _ _ _ (hE45 _ _ (heap_alloc_new v40 _))))))))
          refine wp_store_row 46 _ _ rfl v40.heap.size BB rfl rfl 46 _ hg_nBB (by rw [sBB]; exact infoNu) (by rw [sBB]; rfl) oBB.out ?_
          refine hK _ _ (al_nBB.storeNew hS48 _) ?_
          clear hK K
          try ((repeat rw [put_none]); (try simp only [put_some, List.setIfInBounds_toArray, List.set_cons_succ, List.set_cons_zero]))
          refine rem_nil ?_
          intro v9 hS9 hE9
          exact ⟨AA, BB, v45.heap.size, v40.heap.size, rfl, HAA.out, HBB.out, ((hS9.add (hE9 _ _ (setRow_here hg_nBB BB)) (by have := al_nBB.tn.size; omega)).add (hE9 _ _ ((setRow_other _ _ _ BB (by omega)).trans (hE48 _ _ (setRow_here hg_nAA AA)))) (by have := al_nAA.tn.size; omega))⟩
    · intro v49 hS49 hE49 K hK
      go_wp2_with fail
      have al_nAA := hS49
      refine hK _ _ (hS49.alloc _) ?_
      clear hK K
      try ((repeat rw [put_none]); (try simp only [put_some, List.setIfInBounds_toArray, List.set_cons_succ, List.set_cons_zero]))
      refine rem_two 2 7 (by kernel_rfl) (step_of rfl (wanted_none rfl) ?_) (step_of rfl (wanted_none rfl) ?_)
      · intro v50 hS50 hE50 K hK
        go_wp2_with fail
        refine (gTimes_fe A A (X1 + Z1) (X1 + Z1) _ HA.out HA.out).mono ?_
        rintro e u50 ⟨AA, rfl, hAA, hk50⟩
        have sAA := hAA.size
        have oAA := Lib.hid hAA.one
        have HAA := Lib.hid hAA
        clear hAA
        refine hK _ _ (hS50.keep hk50) ?_
        clear hK K
        try ((repeat rw [put_none]); (try simp only [put_some, List.setIfInBounds_toArray, List.set_cons_succ, List.set_cons_zero]))
        refine rem_two 5 7 (by kernel_rfl) (step_of rfl (wanted_none rfl) ?_) (step_of rfl (wanted_none rfl) ?_)
        · intro v51 hS51 hE51 K hK
          go_wp2_with fail
          refine (gTimes_fe B B (X1 - Z1) (X1 - Z1) _ HB.out HB.out).mono ?_
          rintro e u51 ⟨BB, rfl, hBB, hk51⟩
          have sBB := hBB.size
          have oBB := Lib.hid hBB.one
          have HBB := Lib.hid hBB
          clear hBB
          refine hK _ _ (hS51.keep hk51) ?_
          clear hK K
          try ((repeat rw [put_none]); (try simp only [put_some, List.setIfInBounds_toArray, List.set_cons_succ, List.set_cons_zero]))
          refine rem_one 7 (by kernel_rfl) (step_of rfl (wanted_none rfl) ?_)
          intro v52 hS52 hE52 K hK
          go_wp2_with fail
          have al_nBB := hS52
          have lt_nAA_nBB := (Array.getElem?_eq_some_iff.1 (hE52 _ _ (block_stay hk51 (hE51 _ _ (block_stay hk50 (hE50 _ _ (heap_alloc_new v49 _))))))).1
          refine hK _ _ (hS52.alloc _) ?_
          clear hK K
          try ((repeat rw [put_none]); (try simp only [put_some, List.setIfInBounds_toArray, List.set_cons_succ, List.set_cons_zero]))
          refine rem_one 8 (by kernel_rfl) (step_of rfl (wanted_none rfl) ?_)
          intro v53 hS53 hE53 K hK
          have hg_nAA := (hE53 _ _ (Ext.alloc v52 _ _ _ (hE52 _ _ (block_stay hk51 (hE51 _ _ (block_stay hk50 (hE50 _ _ (heap_alloc_new v49 _))))))))
          refine wp_store_row 46 _ _ rfl v49.heap.size AA rfl rfl 46 _ hg_nAA (by rw [sAA]; exact infoNu) (by rw [sAA]; rfl) oAA.out ?_
          refine hK _ _ (al_nAA.storeNew hS53 _) ?_
          clear hK K
          try ((repeat rw [put_none]); (try simp only [put_some, List.setIfInBounds_toArray, List.set_cons_succ, List.set_cons_zero]))
          refine rem_one 9 (by kernel_rfl) (step_of rfl (wanted_none rfl) ?_)
          intro v54 hS54 hE54 K hK
          have hg_nBB := (hE54 _ _ ((setRow_other _ _ _ AA (by omega)).trans (hE53 _ _ (heap_alloc_new v52 _))))
          refine wp_store_row 46 _ _ rfl v52.heap.size BB rfl rfl 46 _ hg_nBB (by rw [sBB]; exact infoNu) (by rw [sBB]; rfl) oBB.out ?_
          refine hK _ _ (al_nBB.storeNew hS54 _) ?_
          clear hK K
          try ((repeat rw [put_none]); (try simp only [put_some, List.setIfInBounds_toArray, List.set_cons_succ, List.set_cons_zero]))
          refine rem_nil ?_
          intro v9 hS9 hE9
          exact ⟨AA, BB, v49.heap.size, v52.heap.size, rfl, HAA.out, HBB.out, ((hS9.add (hE9 _ _ (setRow_here hg_nBB BB)) (by have := al_nBB.tn.size; omega)).add (hE9 _ _ ((setRow_other _ _ _ BB (by omega)).trans (hE54 _ _ (setRow_here hg_nAA AA)))) (by have := al_nAA.tn.size; omega))⟩
        · intro v55 hS55 hE55 K hK
          go_wp2_with fail
          have al_nBB := hS55
          have lt_nAA_nBB := (Array.getElem?_eq_some_iff.1 (hE55 _ _ (block_stay hk50 (hE50 _ _ (heap_alloc_new v49 _))))).1
          refine hK _ _ (hS55.alloc _) ?_
          clear hK K
          try ((repeat rw [put_none]); (try simp only [put_some, List.setIfInBounds_toArray, List.set_cons_succ, List.set_cons_zero]))
          refine rem_one 5 (by kernel_rfl) (step_of rfl (wanted_none rfl) ?_)
          intro v56 hS56 hE56 K hK
          go_wp2_with fail
          refine (gTimes_fe B B (X1 - Z1) (X1 - Z1) _ HB.out HB.out).mono ?_
          rintro e u56 ⟨BB, rfl, hBB, hk56⟩
          have sBB := hBB.size
          have oBB := Lib.hid hBB.one
          have HBB := Lib.hid hBB
          clear hBB
          refine hK _ _ (hS56.keep hk56) ?_
          clear hK K
          try ((repeat rw [put_none]); (try simp only [put_some, List.setIfInBounds_toArray, List.set_cons_succ, List.set_cons_zero]))
          refine rem_one 8 (by kernel_rfl) (step_of rfl (wanted_none rfl) ?_)
          intro v57 hS57 hE57 K hK
          have hg_nAA := (hE57 _ _ (block_stay hk56 (hE56 _ _ (Ext.alloc v55 _ _ _ (hE55 _ _ (block_stay hk50 (hE50 _ _ (heap_alloc_new v49 _))))))))
          refine wp_store_row 46 _ _ rfl v49.heap.size AA rfl rfl 46 _ hg_nAA (by rw [sAA]; exact infoNu) (by rw [sAA]; rfl) oAA.out ?_
          refine hK _ _ (al_nAA.storeNew hS57 _) ?_
          clear hK K
          try ((repeat rw [put_none]); (try simp only [put_some, List.setIfInBounds_toArray, List.set_cons_succ, List.set_cons_zero]))
          refine rem_one 9 (by kernel_rfl) (step_of rfl (wanted_none rfl) ?_)
          intro v58 hS58 hE58 K hK
          have hg_nBB := (hE58 _ _ ((setRow_other _ _ _ AA (by omega)).trans (hE57 _ _ (block_stay hk56 (hE56 _ _ (heap_alloc_new v55 _))))))
          refine wp_store_row 46 _ _ rfl v55.heap.size BB rfl rfl 46 _ hg_nBB (by rw [sBB]; exact infoNu) (by rw [sBB]; rfl) oBB.out ?_
          refine hK _ _ (al_nBB.storeNew hS58 _) ?_
          clear hK K
          try ((repeat rw [put_none]); (try simp only [put_some, List.setIfInBounds_toArray, List.set_cons_succ, List.set_cons_zero]))
          refine rem_nil ?_
          intro v9 hS9 hE9
          exact ⟨AA, BB, v49.heap.size, v55.heap.size, rfl, HAA.out, HBB.out, ((hS9.add (hE9 _ _ (setRow_here hg_nBB BB)) (by have := al_nBB.tn.size; omega)).add (hE9 _ _ ((setRow_other _ _ _ BB (by omega)).trans (hE58 _ _ (setRow_here hg_nAA AA)))) (by have := al_nAA.tn.size; omega))⟩
      · intro v59 hS59 hE59 K hK
        go_wp2_with fail
        have al_nBB := hS59
        have lt_nAA_nBB := (Array.getElem?_eq_some_iff.1 (hE59 _ _ (heap_alloc_new v49 _))).1
        refine hK _ _ (hS59.alloc _) ?_
        clear hK K
        try ((repeat rw [put_none]); (try simp only [put_some, List.setIfInBounds_toArray, List.set_cons_succ, List.set_cons_zero]))
        refine rem_one 2 (by kernel_rfl) (step_of rfl (wanted_none rfl) ?_)
        intro v60 hS60 hE60 K hK
        go_wp2_with fail
        refine (gTimes_fe A A (X1 + Z1) (X1 + Z1) _ HA.out HA.out).mono ?_
        rintro e u60 ⟨AA, rfl, hAA, hk60⟩
        have sAA := hAA.size
        have oAA := Lib.hid hAA.one
        have HAA := Lib.hid hAA
        clear hAA
        refine hK _ _ (hS60.keep hk60) ?_
        clear hK K
        try ((repeat rw [put_none]); (try simp only [put_some, List.setIfInBounds_toArray, List.set_cons_succ, List.set_cons_zero]))
        refine rem_one 5 (by kernel_rfl) (step_of rfl (wanted_none rfl) ?_)
        intro v61 hS61 hE61 K hK
        go_wp2_with fail
        refine (gTimes_fe B B (X1 - Z1) (X1 - Z1) _ HB.out HB.out).mono ?_
        rintro e u61 ⟨BB, rfl, hBB, hk61⟩
        have sBB := hBB.size
        have oBB := Lib.hid hBB.one
        have HBB := Lib.hid hBB
        clear hBB
        refine hK _ _ (hS61.keep hk61) ?_
        clear hK K
        try ((repeat rw [put_none]); (try simp only [put_some, List.setIfInBounds_toArray, List.set_cons_succ, List.set_cons_zero]))
        refine rem_one 8 (by kernel_rfl) (step_of rfl (wanted_none rfl) ?_)
        intro v62 hS62 hE62 K hK
        have hg_nAA := (hE62 _ _ (block_stay hk61 (hE61 _ _ (block_stay hk60 (hE60 _ _ (Ext.alloc v59 _ _ _ (hE59 _ _ (heap_alloc_new v49 _))))))))
        refine wp_store_row 46 _ _ rfl v49.heap.size AA rfl rfl 46 _ hg_nAA (by rw [sAA]; exact infoNu) (by rw [sAA]; rfl) oAA.out ?_
        refine hK _ _ (al_nAA.storeNew hS62 _) ?_
        clear hK K
        try ((repeat rw [put_none]); (try simp only [put_some, List.setIfInBounds_toArray, List.set_cons_succ, List.set_cons_zero]))
        refine rem_one 9 (by kernel_rfl) (step_of rfl (wanted_none rfl) ?_)
        intro v63 hS63 hE63 K hK
        have hg_nBB := (hE63 _ _ ((setRow_other _ _ _ AA (by omega)).trans (hE62 _ _ (block_stay hk61 (hE61 _ _ (block_stay hk60 (hE60 _ _ (heap_alloc_new v59 _))))))))
        refine wp_store_row 46 _ _ rfl v59.heap.size BB rfl rfl 46 _ hg_nBB (by rw [sBB]; exact infoNu) (by rw [sBB]; rfl) oBB.out ?_
        refine hK _ _ (al_nBB.storeNew hS63 _) ?_
        clear hK K
        try ((repeat rw [put_none]); (try simp only [put_some, List.setIfInBounds_toArray, List.set_cons_succ, List.set_cons_zero]))
        refine rem_nil ?_
        intro v9 hS9 hE9
        exact ⟨AA, BB, v49.heap.size, v59.heap.size, rfl, HAA.out, HBB.out, ((hS9.add (hE9 _ _ (setRow_here hg_nBB BB)) (by have := al_nBB.tn.size; omega)).add (hE9 _ _ ((setRow_other _ _ _ BB (by omega)).trans (hE63 _ _ (setRow_here hg_nAA AA)))) (by have := al_nAA.tn.size; omega))⟩
    · intro v64 hS64 hE64 K hK
      go_wp2_with fail
      have al_nBB := hS64
      refine hK _ _ (hS64.alloc _) ?_
      clear hK K
      try ((repeat rw [put_none]); (try simp only [put_some, List.setIfInBounds_toArray, List.set_cons_succ, List.set_cons_zero]))
      refine rem_two 2 6 (by kernel_rfl) (step_of rfl (wanted_none rfl) ?_) (step_of rfl (wanted_none rfl) ?_)
      · intro v65 hS65 hE65 K hK
        go_wp2_with fail
        refine (gTimes_fe A A (X1 + Z1) (X1 + Z1) _ HA.out HA.out).mono ?_
        rintro e u65 ⟨AA, rfl, hAA, hk65⟩
        have sAA := hAA.size
        have oAA := Lib.hid hAA.one
        have HAA := Lib.hid hAA
        clear hAA
        refine hK _ _ (hS65.keep hk65) ?_
        clear hK K
        try ((repeat rw [put_none]); (try simp only [put_some, List.setIfInBounds_toArray, List.set_cons_succ, List.set_cons_zero]))
        refine rem_two 5 6 (by kernel_rfl) (step_of rfl (wanted_none rfl) ?_) (step_of rfl (wanted_none rfl) ?_)
        · intro v66 hS66 hE66 K hK
          go_wp2_with fail
          refine (gTimes_fe B B (X1 - Z1) (X1 - Z1) _ HB.out HB.out).mono ?_
          rintro e u66 ⟨BB, rfl, hBB, hk66⟩
          have sBB := hBB.size
          have oBB := Lib.hid hBB.one
          have HBB := Lib.hid hBB
          clear hBB
          refine hK _ _ (hS66.keep hk66) ?_
          clear hK K
          try ((repeat rw [put_none]); (try simp only [put_some, List.setIfInBounds_toArray, List.set_cons_succ, List.set_cons_zero]))
          refine rem_one 6 (by kernel_rfl) (step_of rfl (wanted_none rfl) ?_)
          intro v67 hS67 hE67 K hK
          go_wp2_with fail
          have al_nAA := hS67
          have lt_nBB_nAA := (Array.getElem?_eq_some_iff.1 (hE67 _ _ (block_stay hk66 (hE66 _ _ (block_stay hk65 (hE65 _ _ (heap_alloc_new v64 _))))))).1
          refine hK _ _ (hS67.alloc _) ?_
          clear hK K
          try ((repeat rw [put_none]); (try simp only [put_some, List.setIfInBounds_toArray, List.set_cons_succ, List.set_cons_zero]))
          refine rem_one 8 (by kernel_rfl) (step_of rfl (wanted_none rfl) ?_)
          intro v68 hS68 hE68 K hK
          have hg_nAA := (hE68 _ _ (heap_alloc_new v67 _))
          refine wp_store_row 46 _ _ rfl v67.heap.size AA rfl rfl 46 _ hg_nAA (by rw [sAA]; exact infoNu) (by rw [sAA]; rfl) oAA.out ?_
          refine hK _ _ (al_nAA.storeNew hS68 _) ?_
          clear hK K
          try ((repeat rw [put_none]); (try simp only [put_some, List.setIfInBounds_toArray, List.set_cons_succ, List.set_cons_zero]))
          refine rem_one 9 (by kernel_rfl) (step_of rfl (wanted_none rfl) ?_)
          intro v69 hS69 hE69 K hK
          have hg_nBB := (hE69 _ _ ((setRow_other _ _ _ AA (by omega)).trans (hE68 _ _ (Ext.alloc v67 _ _ _ (hE67 _ _ (block_stay hk66 (hE66 _ _ (block_stay hk65 (hE65 _ _ (heap_alloc_new v64 _))))))))))
          refine wp_store_row 46 _ _ rfl v64.heap.size BB rfl rfl 46 _ hg_nBB (by rw [sBB]; exact infoNu) (by rw [sBB]; rfl) oBB.out ?_
          refine hK _ _ (al_nBB.storeNew hS69 _) ?_
          clear hK K
          try ((repeat rw [put_none]); (try simp only [put_some, List.setIfInBounds_toArray, List.set_cons_succ, List.set_cons_zero]))
          refine rem_nil ?_
          intro v9 hS9 hE9
          exact ⟨AA, BB, v67.heap.size, v64.heap.size, rfl, HAA.out, HBB.out, ((hS9.add (hE9 _ _ (setRow_here hg_nBB BB)) (by have := al_nBB.tn.size; omega)).add (hE9 _ _ ((setRow_other _ _ _ BB (by omega)).trans (hE69 _ _ (setRow_here hg_nAA AA)))) (by have := al_nAA.tn.size; omega))⟩
        · intro v70 hS70 hE70 K hK
          go_wp2_with fail
          have al_nAA := hS70
          have lt_nBB_nAA := (Array.getElem?_eq_some_iff.1 (hE70 _ _ (block_stay hk65 (hE65 _ _ (heap_alloc_new v64 _))))).1
          refine hK _ _ (hS70.alloc _) ?_
          clear hK K
          try ((repeat rw [put_none]); (try simp only [put_some, List.setIfInBounds_toArray, List.set_cons_succ, List.set_cons_zero]))
          refine rem_one 5 (by kernel_rfl) (step_of rfl (wanted_none rfl) ?_)
          intro v71 hS71 hE71 K hK
          go_wp2_with fail
          refine (gTimes_fe B B (X1 - Z1) (X1 - Z1) _ HB.out HB.out).mono ?_
          rintro e u71 ⟨BB, rfl, hBB, hk71⟩
          have sBB := hBB.size
          have oBB := Lib.hid hBB.one
          have HBB := Lib.hid hBB
          clear hBB
          refine hK _ _ (hS71.keep hk71) ?_
          clear hK K
          try ((repeat rw [put_none]); (try simp only [put_some, List.setIfInBounds_toArray, List.set_cons_succ, List.set_cons_zero]))
          refine rem_one 8 (by kernel_rfl) (step_of rfl (wanted_none rfl) ?_)
          intro v72 hS72 hE72 K hK
          have hg_nAA := (hE72 _ _ (block_stay hk71 (hE71 _ _ (heap_alloc_new v70 _))))
          refine wp_store_row 46 _ _ rfl v70.heap.size AA rfl rfl 46 _ hg_nAA (by rw [sAA]; exact infoNu) (by rw [sAA]; rfl) oAA.out ?_
          refine hK _ _ (al_nAA.storeNew hS72 _) ?_
          clear hK K
          try ((repeat rw [put_none]); (try simp only [put_some, List.setIfInBounds_toArray, List.set_cons_succ, List.set_cons_zero]))
          refine rem_one 9 (by kernel_rfl) (step_of rfl (wanted_none rfl) ?_)
          intro v73 hS73 hE73 K hK
          have hg_nBB := (hE73 _ _ ((setRow_other _ _ _ AA (by omega)).trans (hE72 _ _ (block_stay hk71 (hE71 _ _ (Ext.alloc v70 _ _ _ (hE70 _ _ (block_stay hk65 (hE65 _ _ (heap_alloc_new v64 _))))))))))
          refine wp_store_row 46 _ _ rfl v64.heap.size BB rfl rfl 46 _ hg_nBB (by rw [sBB]; exact infoNu) (by rw [sBB]; rfl) oBB.out ?_
          refine hK _ _ (al_nBB.storeNew hS73 _) ?_
          clear hK K
          try ((repeat rw [put_none]); (try simp only [put_some, List.setIfInBounds_toArray, List.set_cons_succ, List.set_cons_zero]))
          refine rem_nil ?_
          intro v9 hS9 hE9
          exact ⟨AA, BB, v70.heap.size, v64.heap.size, rfl, HAA.out, HBB.out, ((hS9.add (hE9 _ _ (setRow_here hg_nBB BB)) (by have := al_nBB.tn.size; omega)).add (hE9 _ _ ((setRow_other _ _ _ BB (by omega)).trans (hE73 _ _ (setRow_here hg_nAA AA)))) (by have := al_nAA.tn.size; omega))⟩
      · intro v74 hS74 hE74 K hK
        go_wp2_with fail
        have al_nAA := hS74
        have lt_nBB_nAA := (Array.getElem?_eq_some_iff.1 (hE74 _ _ (heap_alloc_new v64 _))).1
        refine hK _ _ (hS74.alloc _) ?_
        clear hK K
        try ((repeat rw [put_none]); (try simp only [put_some, List.setIfInBounds_toArray, List.set_cons_succ, List.set_cons_zero]))
        refine rem_one 2 (by kernel_rfl) (step_of rfl (wanted_none rfl) ?_)
        intro v75 hS75 hE75 K hK
        go_wp2_with fail
        refine (gTimes_fe A A (X1 + Z1) (X1 + Z1) _ HA.out HA.out).mono ?_
        rintro e u75 ⟨AA, rfl, hAA, hk75⟩
        have sAA := hAA.size
        have oAA := Lib.hid hAA.one
        have HAA := Lib.hid hAA
        clear hAA
        refine hK _ _ (hS75.keep hk75) ?_
        clear hK K
        try ((repeat rw [put_none]); (try simp only [put_some, List.setIfInBounds_toArray, List.set_cons_succ, List.set_cons_zero]))
        refine rem_one 5 (by kernel_rfl) (step_of rfl (wanted_none rfl) ?_)
        intro v76 hS76 hE76 K hK
        go_wp2_with fail
        refine (gTimes_fe B B (X1 - Z1) (X1 - Z1) _ HB.out HB.out).mono ?_
        rintro e u76 ⟨BB, rfl, hBB, hk76⟩
        have sBB := hBB.size
        have oBB := Lib.hid hBB.one
        have HBB := Lib.hid hBB
        clear hBB
        refine hK _ _ (hS76.keep hk76) ?_
        clear hK K
        try ((repeat rw [put_none]); (try simp only [put_some, List.setIfInBounds_toArray, List.set_cons_succ, List.set_cons_zero]))
        refine rem_one 8 (by kernel_rfl) (step_of rfl (wanted_none rfl) ?_)
        intro v77 hS77 hE77 K hK
        have hg_nAA := (hE77 _ _ (block_stay hk76 (hE76 _ _ (block_stay hk75 (hE75 _ _ (heap_alloc_new v74 _))))))
        refine wp_store_row 46 _ _ rfl v74.heap.size AA rfl rfl 46 _ hg_nAA (by rw [sAA]; exact infoNu) (by rw [sAA]; rfl) oAA.out ?_
        refine hK _ _ (al_nAA.storeNew hS77 _) ?_
        clear hK K
        try ((repeat rw [put_none]); (try simp only [put_some, List.setIfInBounds_toArray, List.set_cons_succ, List.set_cons_zero]))
        refine rem_one 9 (by kernel_rfl) (step_of rfl (wanted_none rfl) ?_)
        intro v78 hS78 hE78 K hK
        have hg_nBB := (hE78 _ _ ((setRow_other _ _ _ AA (by omega)).trans (hE77 _ _ (block_stay hk76 (hE76 _ _ (block_stay hk75 (hE75 _ _ (Ext.alloc v74 _ _ _ (hE74 _ _ (heap_alloc_new v64 _))))))))))
        refine wp_store_row 46 _ _ rfl v64.heap.size BB rfl rfl 46 _ hg_nBB (by rw [sBB]; exact infoNu) (by rw [sBB]; rfl) oBB.out ?_
        refine hK _ _ (al_nBB.storeNew hS78 _) ?_
        clear hK K
        try ((repeat rw [put_none]); (try simp only [put_some, List.setIfInBounds_toArray, List.set_cons_succ, List.set_cons_zero]))
        refine rem_nil ?_
        intro v9 hS9 hE9
        exact ⟨AA, BB, v74.heap.size, v64.heap.size, rfl, HAA.out, HBB.out, ((hS9.add (hE9 _ _ (setRow_here hg_nBB BB)) (by have := al_nBB.tn.size; omega)).add (hE9 _ _ ((setRow_other _ _ _ BB (by omega)).trans (hE78 _ _ (setRow_here hg_nAA AA)))) (by have := al_nAA.tn.size; omega))⟩
  rintro b' w' ⟨AA, BB, g6, g7, rfl, hAA, hBB, hst⟩
  have sAA := hAA.size
  have oAA := Lib.hid hAA.one
  have HAA := Lib.hid hAA
  clear hAA
  have sBB := hBB.size
  have oBB := Lib.hid hBB.one
  have HBB := Lib.hid hBB
  clear hBB
  try ((repeat rw [put_none]); (try simp only [put_some, List.setIfInBounds_toArray, List.set_cons_succ, List.set_cons_zero]))
  have cAA := hst.at_ (g := g6) (cs := AA) (by simp)
  have cBB := hst.at_ (g := g7) (cs := BB) (by simp)
  go_wp2_with (first | (refine wpList_load_row rfl 46 (.tmp 6) rfl g6 rfl _ AA _ _ cAA Try.underlying46 rfl (by rw [sAA]; exact infoNu) ?_) | (refine wpList_load_row rfl 46 (.tmp 7) rfl g7 rfl _ BB _ _ cBB Try.underlying46 rfl (by rw [sBB]; exact infoNu) ?_) | fail)
  refine (gMinus_fe AA BB _ _ _ HAA.out HBB.out).mono ?_
  rintro e w3 ⟨E, rfl, hE, hk⟩
  have hst := hst.keep hk
  have hsz := hst.tn.size
  have sE := hE.size
  have oE := Lib.hid hE.one
  have HE := Lib.hid hE
  have hnew := setRow_here (heap_alloc_new w3 (.cells #[.int .u64 0, .int .u64 0, .int .u64 0, .int .u64 0, .int .u64 0] 46)) E
  have hst := ((hst.storeNew (hst.alloc (.cells #[.int .u64 0, .int .u64 0, .int .u64 0, .int .u64 0, .int .u64 0] 46)) E)).add hnew hsz
  clear hE hk cAA cBB hnew
  go_wp2_with (first | (refine wpList_store_row rfl 46 (.tmp 8) (.tmp 43) rfl w3.heap.size E rfl rfl 46 _ (heap_alloc_new w3 _) (by rw [sE]; exact infoNu) (by rw [sE]; rfl) oE.out ?_) | fail)
  generalize (w3.alloc (.cells #[.int .u64 0, .int .u64 0, .int .u64 0, .int .u64 0, .int .u64 0] 46)).setRow w3.heap.size E = w4 at *
  generalize w3.heap.size = g8 at *
  try ((repeat rw [put_none]); (try simp only [put_some, List.setIfInBounds_toArray, List.set_cons_succ, List.set_cons_zero]))
  refine wp_region_then (fun a b' w' => ∃ (SS DD : Array Value) (g9 g10 : Nat), b' = ((((((((a.put (some 44) (.agg DA)).put (some 45) (.agg CB)).put (some 46) (.agg SS)).put (some 47) (.agg DA)).put (some 48) (.agg CB)).put (some 49) (.agg DD)).put (some 9) (.pointer (some ⟨g9, 0, none⟩))).put (some 10) (.pointer (some ⟨g10, 0, none⟩))) ∧ FeA SS ((X2 - Z2) * (X1 + Z1) + (X2 + Z2) * (X1 - Z1)) ∧ FeA DD ((X2 - Z2) * (X1 + Z1) - (X2 + Z2) * (X1 - Z1)) ∧ Kt w b [(g9, SS), (g10, DD), (g8, E), (g6, AA), (g7, BB), (g4, DA), (g5, CB), (g2, A), (g3, B)] [(0, pr A0 A1), (10, pr A2 A3), (20, A4.toList)] w') ?_ ?_
  · refine wp_region_rem (Kt w b [(g8, E), (g6, AA), (g7, BB), (g4, DA), (g5, CB), (g2, A), (g3, B)] [(0, pr A0 A1), (10, pr A2 A3), (20, A4.toList)]) (by kernel_rfl) (by kernel_rfl) (fun _ _ _ _ _ h => h.elim) hst.drew ?_
    apply rem_sure 0 (by kernel_rfl) rfl (wanted_none rfl)
    · intro w2 hS K hK
      exact wp_load_row 46 _ rfl g4 rfl _ DA _ _ (hS.at_ (by simp)) Try.underlying46 rfl (by rw [sDA]; exact infoNu) (hK _ hS (Ext.refl _))
    · kernel_rfl
    · kernel_rfl
    try ((repeat rw [put_none]); (try simp only [put_some, List.setIfInBounds_toArray, List.set_cons_succ, List.set_cons_zero]))
    apply rem_sure 1 (by kernel_rfl) rfl (wanted_none rfl)
    · intro w2 hS K hK
      exact wp_load_row 46 _ rfl g5 rfl _ CB _ _ (hS.at_ (by simp)) Try.underlying46 rfl (by rw [sCB]; exact infoNu) (hK _ hS (Ext.refl _))
    · kernel_rfl
    · kernel_rfl
    try ((repeat rw [put_none]); (try simp only [put_some, List.setIfInBounds_toArray, List.set_cons_succ, List.set_cons_zero]))
    apply rem_sure 3 (by kernel_rfl) rfl (wanted_none rfl)
    · intro w2 hS K hK
      exact wp_load_row 46 _ rfl g4 rfl _ DA _ _ (hS.at_ (by simp)) Try.underlying46 rfl (by rw [sDA]; exact infoNu) (hK _ hS (Ext.refl _))
    · kernel_rfl
    · kernel_rfl
    try ((repeat rw [put_none]); (try simp only [put_some, List.setIfInBounds_toArray, List.set_cons_succ, List.set_cons_zero]))
    apply rem_sure 4 (by kernel_rfl) rfl (wanted_none rfl)
    · intro w2 hS K hK
      exact wp_load_row 46 _ rfl g5 rfl _ CB _ _ (hS.at_ (by simp)) Try.underlying46 rfl (by rw [sCB]; exact infoNu) (hK _ hS (Ext.refl _))
    · kernel_rfl
    · kernel_rfl
    try ((repeat rw [put_none]); (try simp only [put_some, List.setIfInBounds_toArray, List.set_cons_succ, List.set_cons_zero]))
    refine rem_three 2 6 7 (by kernel_rfl) (step_of rfl (wanted_none rfl) ?_) (step_of rfl (wanted_none rfl) ?_) (step_of rfl (wanted_none rfl) ?_)
    · intro v21 hS21 hE21 K hK
      go_wp2_with fail
      refine (gPlus_fe DA CB _ _ _ HDA.out HCB.out).mono ?_
      rintro e u21 ⟨SS, rfl, hSS, hk21⟩
      have sSS := hSS.size
      have oSS := Lib.hid hSS.one
      have HSS := Lib.hid hSS
      clear hSS
      refine hK _ _ (hS21.keep hk21) ?_
      clear hK K
      try ((repeat rw [put_none]); (try simp only [put_some, List.setIfInBounds_toArray, List.set_cons_succ, List.set_cons_zero]))
      refine rem_three 5 6 7 (by kernel_rfl) (step_of rfl (wanted_none rfl) ?_) (step_of rfl (wanted_none rfl) ?_) (step_of rfl (wanted_none rfl) ?_)
      · intro v22 hS22 hE22 K hK
        go_wp2_with fail
        refine (gMinus_fe DA CB _ _ _ HDA.out HCB.out).mono ?_
        rintro e u22 ⟨DD, rfl, hDD, hk22⟩
        have sDD := hDD.size
        have oDD := Lib.hid hDD.one
        have HDD := Lib.hid hDD
        clear hDD
        refine hK _ _ (hS22.keep hk22) ?_
        clear hK K
        try ((repeat rw [put_none]); (try simp only [put_some, List.setIfInBounds_toArray, List.set_cons_succ, List.set_cons_zero]))
        refine rem_two 6 7 (by kernel_rfl) (step_of rfl (wanted_none rfl) ?_) (step_of rfl (wanted_none rfl) ?_)
        · intro v23 hS23 hE23 K hK
          go_wp2_with fail
          have al_nSS := hS23
          refine hK _ _ (hS23.alloc _) ?_
          clear hK K
          try ((repeat rw [put_none]); (try simp only [put_some, List.setIfInBounds_toArray, List.set_cons_succ, List.set_cons_zero]))
          refine rem_one 7 (by kernel_rfl) (step_of rfl (wanted_none rfl) ?_)
          intro v24 hS24 hE24 K hK
          go_wp2_with fail
          have al_nDD := hS24
          have lt_nSS_nDD := (Array.getElem?_eq_some_iff.1 (hE24 _ _ (heap_alloc_new v23 _))).1
          refine hK _ _ (hS24.alloc _) ?_
          clear hK K
          try ((repeat rw [put_none]); (try simp only [put_some, List.setIfInBounds_toArray, List.set_cons_succ, List.set_cons_zero]))
          refine rem_one 8 (by kernel_rfl) (step_of rfl (wanted_none rfl) ?_)
          intro v25 hS25 hE25 K hK
          have hg_nSS := (hE25 _ _ (Ext.alloc v24 _ _ _ (hE24 _ _ (heap_alloc_new v23 _))))
          refine wp_store_row 46 _ _ rfl v23.heap.size SS rfl rfl 46 _ hg_nSS (by rw [sSS]; exact infoNu) (by rw [sSS]; rfl) oSS.out ?_
          refine hK _ _ (al_nSS.storeNew hS25 _) ?_
          clear hK K
          try ((repeat rw [put_none]); (try simp only [put_some, List.setIfInBounds_toArray, List.set_cons_succ, List.set_cons_zero]))
          refine rem_one 9 (by kernel_rfl) (step_of rfl (wanted_none rfl) ?_)
          intro v26 hS26 hE26 K hK
          have hg_nDD := (hE26 _ _ ((setRow_other _ _ _ SS (by omega)).trans (hE25 _ _ (heap_alloc_new v24 _))))
          refine wp_store_row 46 _ _ rfl v24.heap.size DD rfl rfl 46 _ hg_nDD (by rw [sDD]; exact infoNu) (by rw [sDD]; rfl) oDD.out ?_
          refine hK _ _ (al_nDD.storeNew hS26 _) ?_
          clear hK K
          try ((repeat rw [put_none]); (try simp only [put_some, List.setIfInBounds_toArray, List.set_cons_succ, List.set_cons_zero]))
          refine rem_nil ?_
          intro v9 hS9 hE9
          exact ⟨SS, DD, v23.heap.size, v24.heap.size, rfl, HSS.out, HDD.out, ((hS9.add (hE9 _ _ (setRow_here hg_nDD DD)) (by have := al_nDD.tn.size; omega)).add (hE9 _ _ ((setRow_other _ _ _ DD (by omega)).trans (hE26 _ _ (setRow_here hg_nSS SS)))) (by have := al_nSS.tn.size; omega))⟩
        · intro v27 hS27 hE27 K hK
          go_wp2_with fail
          have al_nDD := hS27
          refine hK _ _ (hS27.alloc _) ?_
          clear hK K
          try ((repeat rw [put_none]); (try simp only [put_some, List.setIfInBounds_toArray, List.set_cons_succ, List.set_cons_zero]))
          refine rem_one 6 (by kernel_rfl) (step_of rfl (wanted_none rfl) ?_)
          intro v28 hS28 hE28 K hK
          go_wp2_with fail
          have al_nSS := hS28
          have lt_nDD_nSS := (Array.getElem?_eq_some_iff.1 (hE28 _ _ (heap_alloc_new v27 _))).1
          refine hK _ _ (hS28.alloc _) ?_
          clear hK K
          try ((repeat rw [put_none]); (try simp only [put_some, List.setIfInBounds_toArray, List.set_cons_succ, List.set_cons_zero]))
          refine rem_one 8 (by kernel_rfl) (step_of rfl (wanted_none rfl) ?_)
          intro v29 hS29 hE29 K hK
          have hg_nSS := (hE29 _ _ (heap_alloc_new v28 _))
          refine wp_store_row 46 _ _ rfl v28.heap.size SS rfl rfl 46 _ hg_nSS (by rw [sSS]; exact infoNu) (by rw [sSS]; rfl) oSS.out ?_
          refine hK _ _ (al_nSS.storeNew hS29 _) ?_
          clear hK K
          try ((repeat rw [put_none]); (try simp only [put_some, List.setIfInBounds_toArray, List.set_cons_succ, List.set_cons_zero]))
          refine rem_one 9 (by kernel_rfl) (step_of rfl (wanted_none rfl) ?_)
          intro v30 hS30 hE30 K hK
          have hg_nDD := (hE30 _ _ ((setRow_other _ _ _ SS (by omega)).trans (hE29 _ _ (Ext.alloc v28 _ _ _ (hE28 _ _ (heap_alloc_new v27 _))))))
          refine wp_store_row 46 _ _ rfl v27.heap.size DD rfl rfl 46 _ hg_nDD (by rw [sDD]; exact infoNu) (by rw [sDD]; rfl) oDD.out ?_
          refine hK _ _ (al_nDD.storeNew hS30 _) ?_
          clear hK K
          try ((repeat rw [put_none]); (try simp only [put_some, List.setIfInBounds_toArray, List.set_cons_succ, List.set_cons_zero]))
          refine rem_nil ?_
          intro v9 hS9 hE9
          exact ⟨SS, DD, v28.heap.size, v27.heap.size, rfl, HSS.out, HDD.out, ((hS9.add (hE9 _ _ (setRow_here hg_nDD DD)) (by have := al_nDD.tn.size; omega)).add (hE9 _ _ ((setRow_other _ _ _ DD (by omega)).trans (hE30 _ _ (setRow_here hg_nSS SS)))) (by have := al_nSS.tn.size; omega))⟩
      · intro v31 hS31 hE31 K hK
        go_wp2_with fail
        have al_nSS := hS31
        refine hK _ _ (hS31.alloc _) ?_
        clear hK K
        try ((repeat rw [put_none]); (try simp only [put_some, List.setIfInBounds_toArray, List.set_cons_succ, List.set_cons_zero]))
        refine rem_two 5 7 (by kernel_rfl) (step_of rfl (wanted_none rfl) ?_) (step_of rfl (wanted_none rfl) ?_)
        · intro v32 hS32 hE32 K hK
          go_wp2_with fail
          refine (gMinus_fe DA CB _ _ _ HDA.out HCB.out).mono ?_
          rintro e u32 ⟨DD, rfl, hDD, hk32⟩
          have sDD := hDD.size
          have oDD := Lib.hid hDD.one
          have HDD := Lib.hid hDD
          clear hDD
          refine hK _ _ (hS32.keep hk32) ?_
          clear hK K
          try ((repeat rw [put_none]); (try simp only [put_some, List.setIfInBounds_toArray, List.set_cons_succ, List.set_cons_zero]))
          refine rem_one 7 (by kernel_rfl) (step_of rfl (wanted_none rfl) ?_)
          intro v33 hS33 hE33 K hK
          go_wp2_with fail
          have al_nDD := hS33
          have lt_nSS_nDD := (Array.getElem?_eq_some_iff.1 (hE33 _ _ (block_stay hk32 (hE32 _ _ (heap_alloc_new v31 _))))).1
          refine hK _ _ (hS33.alloc _) ?_
          clear hK K
          try ((repeat rw [put_none]); (try simp only [put_some, List.setIfInBounds_toArray, List.set_cons_succ, List.set_cons_zero]))
          refine rem_one 8 (by kernel_rfl) (step_of rfl (wanted_none rfl) ?_)
          intro v34 hS34 hE34 K hK
          have hg_nSS := (hE34 _ _ (Ext.alloc v33 _ _ _ (hE33 _ _ (block_stay hk32 (hE32 _ _ (heap_alloc_new v31 _))))))
          refine wp_store_row 46 _ _ rfl v31.heap.size SS rfl rfl 46 _ hg_nSS (by rw [sSS]; exact infoNu) (by rw [sSS]; rfl) oSS.out ?_
          refine hK _ _ (al_nSS.storeNew hS34 _) ?_
          clear hK K
          try ((repeat rw [put_none]); (try simp only [put_some, List.setIfInBounds_toArray, List.set_cons_succ, List.set_cons_zero]))
          refine rem_one 9 (by kernel_rfl) (step_of rfl (wanted_none rfl) ?_)
          intro v35 hS35 hE35 K hK
          have hg_nDD := (hE35 _ _ ((setRow_other _ _ _ SS (by omega)).trans (hE34 _ _ (heap_alloc_new v33 _))))
          refine wp_store_row 46 _ _ rfl v33.heap.size DD rfl rfl 46 _ hg_nDD (by rw [sDD]; exact infoNu) (by rw [sDD]; rfl) oDD.out ?_
          refine hK _ _ (al_nDD.storeNew hS35 _) ?_
          clear hK K
          try ((repeat rw [put_none]); (try simp only [put_some, List.setIfInBounds_toArray, List.set_cons_succ, List.set_cons_zero]))
          refine rem_nil ?_
          intro v9 hS9 hE9
          exact ⟨SS, DD, v31.heap.size, v33.heap.size, rfl, HSS.out, HDD.out, ((hS9.add (hE9 _ _ (setRow_here hg_nDD DD)) (by have := al_nDD.tn.size; omega)).add (hE9 _ _ ((setRow_other _ _ _ DD (by omega)).trans (hE35 _ _ (setRow_here hg_nSS SS)))) (by have := al_nSS.tn.size; omega))⟩
        · intro v36 hS36 hE36 K hK
          go_wp2_with fail
          have al_nDD := hS36
          have lt_nSS_nDD := (Array.getElem?_eq_some_iff.1 (hE36 _ _ (heap_alloc_new v31 _))).1
          refine hK _ _ (hS36.alloc _) ?_
          clear hK K
          try ((repeat rw [put_none]); (try simp only [put_some, List.setIfInBounds_toArray, List.set_cons_succ, List.set_cons_zero]))
          refine rem_one 5 (by kernel_rfl) (step_of rfl (wanted_none rfl) ?_)
          intro v37 hS37 hE37 K hK
          go_wp2_with fail
          refine (gMinus_fe DA CB _ _ _ HDA.out HCB.out).mono ?_
          rintro e u37 ⟨DD, rfl, hDD, hk37⟩
          have sDD := hDD.size
          have oDD := Lib.hid hDD.one
          have HDD := Lib.hid hDD
          clear hDD
          refine hK _ _ (hS37.keep hk37) ?_
          clear hK K
          try ((repeat rw [put_none]); (try simp only [put_some, List.setIfInBounds_toArray, List.set_cons_succ, List.set_cons_zero]))
          refine rem_one 8 (by kernel_rfl) (step_of rfl (wanted_none rfl) ?_)
          intro v38 hS38 hE38 K hK
          have hg_nSS := (hE38 _ _ (block_stay hk37 (hE37 _ _ (Ext.alloc v36 _ _ _ (hE36 _ _ (heap_alloc_new v31 _))))))
          refine wp_store_row 46 _ _ rfl v31.heap.size SS rfl rfl 46 _ hg_nSS (by rw [sSS]; exact infoNu) (by rw [sSS]; rfl) oSS.out ?_
          refine hK _ _ (al_nSS.storeNew hS38 _) ?_
          clear hK K
          try ((repeat rw [put_none]); (try simp only [put_some, List.setIfInBounds_toArray, List.set_cons_succ, List.set_cons_zero]))
          refine rem_one 9 (by kernel_rfl) (step_of rfl (wanted_none rfl) ?_)
          intro v39 hS39 hE39 K hK
          have hg_nDD := (hE39 _ _ ((setRow_other _ _ _ SS (by omega)).trans (hE38 _ _ (block_stay hk37 (hE37 _ _ (heap_alloc_new v36 _))))))
          refine wp_store_row 46 _ _ rfl v36.heap.size DD rfl rfl 46 _ hg_nDD (by rw [sDD]; exact infoNu) (by rw [sDD]; rfl) oDD.out ?_
          refine hK _ _ (al_nDD.storeNew hS39 _) ?_
          clear hK K
          try ((repeat rw [put_none]); (try simp only [put_some, List.setIfInBounds_toArray, List.set_cons_succ, List.set_cons_zero]))
          refine rem_nil ?_
          intro v9 hS9 hE9
          exact ⟨SS, DD, v31.heap.size, v36.heap.size, rfl, HSS.out, HDD.out, ((hS9.add (hE9 _ _ (setRow_here hg_nDD DD)) (by have := al_nDD.tn.size; omega)).add (hE9 _ _ ((setRow_other _ _ _ DD (by omega)).trans (hE39 _ _ (setRow_here hg_nSS SS)))) (by have := al_nSS.tn.size; omega))⟩
      · intro v40 hS40 hE40 K hK
        go_wp2_with fail
        have al_nDD := hS40
        refine hK _ _ (hS40.alloc _) ?_
        clear hK K
        try ((repeat rw [put_none]); (try simp only [put_some, List.setIfInBounds_toArray, List.set_cons_succ, List.set_cons_zero]))
        refine rem_two 5 6 (by kernel_rfl) (step_of rfl (wanted_none rfl) ?_) (step_of rfl (wanted_none rfl) ?_)
        · intro v41 hS41 hE41 K hK
          go_wp2_with fail
          refine (gMinus_fe DA CB _ _ _ HDA.out HCB.out).mono ?_
          rintro e u41 ⟨DD, rfl, hDD, hk41⟩
          have sDD := hDD.size
          have oDD := Lib.hid hDD.one
          have HDD := Lib.hid hDD
          clear hDD
          refine hK _ _ (hS41.keep hk41) ?_
          clear hK K
          try ((repeat rw [put_none]); (try simp only [put_some, List.setIfInBounds_toArray, List.set_cons_succ, List.set_cons_zero]))
          refine rem_one 6 (by kernel_rfl) (step_of rfl (wanted_none rfl) ?_)
          intro v42 hS42 hE42 K hK
          go_wp2_with fail
          have al_nSS := hS42
          have lt_nDD_nSS := (Array.getElem?_eq_some_iff.1 (hE42 _ _ (block_stay hk41 (hE41 _ _ (heap_alloc_new v40 _))))).1
          refine hK _ _ (hS42.alloc _) ?_
          clear hK K
          try ((repeat rw [put_none]); (try simp only [put_some, List.setIfInBounds_toArray, List.set_cons_succ, List.set_cons_zero]))
          refine rem_one 8 (by kernel_rfl) (step_of rfl (wanted_none rfl) ?_)
          intro v43 hS43 hE43 K hK
          have hg_nSS := (hE43 _ _ (heap_alloc_new v42 _))
          refine wp_store_row 46 _ _ rfl v42.heap.size SS rfl rfl 46 _ hg_nSS (by rw [sSS]; exact infoNu) (by rw [sSS]; rfl) oSS.out ?_
          refine hK _ _ (al_nSS.storeNew hS43 _) ?_
          clear hK K
          try ((repeat rw [put_none]); (try simp only [put_some, List.setIfInBounds_toArray, List.set_cons_succ, List.set_cons_zero]))
          refine rem_one 9 (by kernel_rfl) (step_of rfl (wanted_none rfl) ?_)
          intro v44 hS44 hE44 K hK
          have hg_nDD := (hE44 _ _ ((setRow_other _ _ _ SS (by omega)).trans (hE43 _ _ (Ext.alloc v42 _ _ _ (hE42 _ _ (block_stay hk41 (hE41 _ _ (heap_alloc_new v40 _))))))))
          refine wp_store_row 46 _ _ rfl v40.heap.size DD rfl rfl 46 _ hg_nDD (by rw [sDD]; exact infoNu) (by rw [sDD]; rfl) oDD.out ?_
          refine hK _ _ (al_nDD.storeNew hS44 _) ?_
          clear hK K
          try ((repeat rw [put_none]); (try simp only [put_some, List.setIfInBounds_toArray, List.set_cons_succ, List.set_cons_zero]))
          refine rem_nil ?_
          intro v9 hS9 hE9
          exact ⟨SS, DD, v42.heap.size, v40.heap.size, rfl, HSS.out, HDD.out, ((hS9.add (hE9 _ _ (setRow_here hg_nDD DD)) (by have := al_nDD.tn.size; omega)).add (hE9 _ _ ((setRow_other _ _ _ DD (by omega)).trans (hE44 _ _ (setRow_here hg_nSS SS)))) (by have := al_nSS.tn.size; omega))⟩
        · intro v45 hS45 hE45 K hK
          go_wp2_with fail
          have al_nSS := hS45
          have lt_nDD_nSS := (Array.getElem?_eq_some_iff.1 (hE45 _ _ (heap_alloc_new v40 _))).1
          refine hK _ _ (hS45.alloc _) ?_
          clear hK K
          try ((repeat rw [put_none]); (try simp only [put_some, List.setIfInBounds_toArray, List.set_cons_succ, List.set_cons_zero]))
          refine rem_one 5 (by kernel_rfl) (step_of rfl (wanted_none rfl) ?_)
          intro v46 hS46 hE46 K hK
          go_wp2_with fail
          refine (gMinus_fe DA CB _ _ _ HDA.out HCB.out).mono ?_
          rintro e u46 ⟨DD, rfl, hDD, hk46⟩
          have sDD := hDD.size
          have oDD := Lib.hid hDD.one
          have HDD := Lib.hid hDD
          clear hDD
          refine hK _ _ (hS46.keep hk46) ?_
          clear hK K
          try ((repeat rw [put_none]); (try simp only [put_some, List.setIfInBounds_toArray, List.set_cons_succ, List.set_cons_zero]))
          refine rem_one 8 (by kernel_rfl) (step_of rfl (wanted_none rfl) ?_)
          intro v47 hS47 hE47 K hK
          have hg_nSS := (hE47 _ _ (block_stay hk46 (hE46 _ _ (heap_alloc_new v45 _))))
          refine wp_store_row 46 _ _ rfl v45.heap.size SS rfl rfl 46 _ hg_nSS (by rw [sSS]; exact infoNu) (by rw [sSS]; rfl) oSS.out ?_
          refine hK _ _ (al_nSS.storeNew hS47 _) ?_
          clear hK K
          try ((repeat rw [put_none]); (try simp only [put_some, List.setIfInBounds_toArray, List.set_cons_succ, List.set_cons_zero]))
          refine rem_one 9 (by kernel_rfl) (step_of rfl (wanted_none rfl) ?_)
          intro v48 hS48 hE48 K hK
          have hg_nDD := (hE48 _ _ ((setRow_other _ _ _ SS (by omega)).trans (hE47 _ _ (block_stay hk46 (hE46 _ _ (Ext.alloc v45 _ _ _ (hE45 _ _ (heap_alloc_new v40 _))))))))
          refine wp_store_row 46 _ _ rfl v40.heap.size DD rfl rfl 46 _ hg_nDD (by rw [sDD]; exact infoNu) (by rw [sDD]; rfl) oDD.out ?_
          refine hK _ _ (al_nDD.storeNew hS48 _) ?_
          clear hK K
          try ((repeat rw [put_none]); (try simp only [put_some, List.setIfInBounds_toArray, List.set_cons_succ, List.set_cons_zero]))
          refine rem_nil ?_
          intro v9 hS9 hE9
          exact ⟨SS, DD, v45.heap.size, v40.heap.size, rfl, HSS.out, HDD.out, ((hS9.add (hE9 _ _ (setRow_here hg_nDD DD)) (by have := al_nDD.tn.size; omega)).add (hE9 _ _ ((setRow_other _ _ _ DD (by omega)).trans (hE48 _ _ (setRow_here hg_nSS SS)))) (by have := al_nSS.tn.size; omega))⟩
    · intro v49 hS49 hE49 K hK
      go_wp2_with fail
      have al_nSS := hS49
      refine hK _ _ (hS49.alloc _) ?_
      clear hK K
      try ((repeat rw [put_none]); (try simp only [put_some, List.setIfInBounds_toArray, List.set_cons_succ, List.set_cons_zero]))
      refine rem_two 2 7 (by kernel_rfl) (step_of rfl (wanted_none rfl) ?_) (step_of rfl (wanted_none rfl) ?_)
      · intro v50 hS50 hE50 K hK
        go_wp2_with fail
        refine (gPlus_fe DA CB _ _ _ HDA.out HCB.out).mono ?_
        rintro e u50 ⟨SS, rfl, hSS, hk50⟩
        have sSS := hSS.size
        have oSS := Lib.hid hSS.one
        have HSS := Lib.hid hSS
        clear hSS
        refine hK _ _ (hS50.keep hk50) ?_
        clear hK K
        try ((repeat rw [put_none]); (try simp only [put_some, List.setIfInBounds_toArray, List.set_cons_succ, List.set_cons_zero]))
        refine rem_two 5 7 (by kernel_rfl) (step_of rfl (wanted_none rfl) ?_) (step_of rfl (wanted_none rfl) ?_)
        · intro v51 hS51 hE51 K hK
          go_wp2_with fail
          refine (gMinus_fe DA CB _ _ _ HDA.out HCB.out).mono ?_
          rintro e u51 ⟨DD, rfl, hDD, hk51⟩
          have sDD := hDD.size
          have oDD := Lib.hid hDD.one
          have HDD := Lib.hid hDD
          clear hDD
          refine hK _ _ (hS51.keep hk51) ?_
          clear hK K
          try ((repeat rw [put_none]); (try simp only [put_some, List.setIfInBounds_toArray, List.set_cons_succ, List.set_cons_zero]))
          refine rem_one 7 (by kernel_rfl) (step_of rfl (wanted_none rfl) ?_)
          intro v52 hS52 hE52 K hK
          go_wp2_with fail
          have al_nDD := hS52
          have lt_nSS_nDD := (Array.getElem?_eq_some_iff.1 (hE52 _ _ (block_stay hk51 (hE51 _ _ (block_stay hk50 (hE50 _ _ (heap_alloc_new v49 _))))))).1
          refine hK _ _ (hS52.alloc _) ?_
          clear hK K
          try ((repeat rw [put_none]); (try simp only [put_some, List.setIfInBounds_toArray, List.set_cons_succ, List.set_cons_zero]))
          refine rem_one 8 (by kernel_rfl) (step_of rfl (wanted_none rfl) ?_)
          intro v53 hS53 hE53 K hK
          have hg_nSS := (hE53 _ _ (Ext.alloc v52 _ _ _ (hE52 _ _ (block_stay hk51 (hE51 _ _ (block_stay hk50 (hE50 _ _ (heap_alloc_new v49 _))))))))
          refine wp_store_row 46 _ _ rfl v49.heap.size SS rfl rfl 46 _ hg_nSS (by rw [sSS]; exact infoNu) (by rw [sSS]; rfl) oSS.out ?_
          refine hK _ _ (al_nSS.storeNew hS53 _) ?_
          clear hK K
          try ((repeat rw [put_none]); (try simp only [put_some, List.setIfInBounds_toArray, List.set_cons_succ, List.set_cons_zero]))
          refine rem_one 9 (by kernel_rfl) (step_of rfl (wanted_none rfl) ?_)
          intro v54 hS54 hE54 K hK
          have hg_nDD := (hE54 _ _ ((setRow_other _ _ _ SS (by omega)).trans (hE53 _ _ (heap_alloc_new v52 _))))
          refine wp_store_row 46 _ _ rfl v52.heap.size DD rfl rfl 46 _ hg_nDD (by rw [sDD]; exact infoNu) (by rw [sDD]; rfl) oDD.out ?_
          refine hK _ _ (al_nDD.storeNew hS54 _) ?_
          clear hK K
          try ((repeat rw [put_none]); (try simp only [put_some, List.setIfInBounds_toArray, List.set_cons_succ, List.set_cons_zero]))
          refine rem_nil ?_
          intro v9 hS9 hE9
          exact ⟨SS, DD, v49.heap.size, v52.heap.size, rfl, HSS.out, HDD.out, ((hS9.add (hE9 _ _ (setRow_here hg_nDD DD)) (by have := al_nDD.tn.size; omega)).add (hE9 _ _ ((setRow_other _ _ _ DD (by omega)).trans (hE54 _ _ (setRow_here hg_nSS SS)))) (by have := al_nSS.tn.size; omega))⟩
        · intro v55 hS55 hE55 K hK
          go_wp2_with fail
          have al_nDD := hS55
          have lt_nSS_nDD := (Array.getElem?_eq_some_iff.1 (hE55 _ _ (block_stay hk50 (hE50 _ _ (heap_alloc_new v49 _))))).1
          refine hK _ _ (hS55.alloc _) ?_
          clear hK K
          try ((repeat rw [put_none]); (try simp only [put_some, List.setIfInBounds_toArray, List.set_cons_succ, List.set_cons_zero]))
          refine rem_one 5 (by kernel_rfl) (step_of rfl (wanted_none rfl) ?_)
          intro v56 hS56 hE56 K hK
          go_wp2_with fail
          refine (gMinus_fe DA CB _ _ _ HDA.out HCB.out).mono ?_
          rintro e u56 ⟨DD, rfl, hDD, hk56⟩
          have sDD := hDD.size
          have oDD := Lib.hid hDD.one
          have HDD := Lib.hid hDD
          clear hDD
          refine hK _ _ (hS56.keep hk56) ?_
          clear hK K
          try ((repeat rw [put_none]); (try simp only [put_some, List.setIfInBounds_toArray, List.set_cons_succ, List.set_cons_zero]))
          refine rem_one 8 (by kernel_rfl) (step_of rfl (wanted_none rfl) ?_)
          intro v57 hS57 hE57 K hK
          have hg_nSS := (hE57 _ _ (block_stay hk56 (hE56 _ _ (Ext.alloc v55 _ _ _ (hE55 _ _ (block_stay hk50 (hE50 _ _ (heap_alloc_new v49 _))))))))
          refine wp_store_row 46 _ _ rfl v49.heap.size SS rfl rfl 46 _ hg_nSS (by rw [sSS]; exact infoNu) (by rw [sSS]; rfl) oSS.out ?_
          refine hK _ _ (al_nSS.storeNew hS57 _) ?_
          clear hK K
          try ((repeat rw [put_none]); (try simp only [put_some, List.setIfInBounds_toArray, List.set_cons_succ, List.set_cons_zero]))
          refine rem_one 9 (by kernel_rfl) (step_of rfl (wanted_none rfl) ?_)
          intro v58 hS58 hE58 K hK
          have hg_nDD := (hE58 _ _ ((setRow_other _ _ _ SS (by omega)).trans (hE57 _ _ (block_stay hk56 (hE56 _ _ (heap_alloc_new v55 _))))))
          refine wp_store_row 46 _ _ rfl v55.heap.size DD rfl rfl 46 _ hg_nDD (by rw [sDD]; exact infoNu) (by rw [sDD]; rfl) oDD.out ?_
          refine hK _ _ (al_nDD.storeNew hS58 _) ?_
          clear hK K
          try ((repeat rw [put_none]); (try simp only [put_some, List.setIfInBounds_toArray, List.set_cons_succ, List.set_cons_zero]))
          refine rem_nil ?_
          intro v9 hS9 hE9
          exact ⟨SS, DD, v49.heap.size, v55.heap.size, rfl, HSS.out, HDD.out, ((hS9.add (hE9 _ _ (setRow_here hg_nDD DD)) (by have := al_nDD.tn.size; omega)).add (hE9 _ _ ((setRow_other _ _ _ DD (by omega)).trans (hE58 _ _ (setRow_here hg_nSS SS)))) (by have := al_nSS.tn.size; omega))⟩
      · intro v59 hS59 hE59 K hK
        go_wp2_with fail
        have al_nDD := hS59
        have lt_nSS_nDD := (Array.getElem?_eq_some_iff.1 (hE59 _ _ (heap_alloc_new v49 _))).1
        refine hK _ _ (hS59.alloc _) ?_
        clear hK K
        try ((repeat rw [put_none]); (try simp only [put_some, List.setIfInBounds_toArray, List.set_cons_succ, List.set_cons_zero]))
        refine rem_one 2 (by kernel_rfl) (step_of rfl (wanted_none rfl) ?_)
        intro v60 hS60 hE60 K hK
        go_wp2_with fail
        refine (gPlus_fe DA CB _ _ _ HDA.out HCB.out).mono ?_
        rintro e u60 ⟨SS, rfl, hSS, hk60⟩
        have sSS := hSS.size
        have oSS := Lib.hid hSS.one
        have HSS := Lib.hid hSS
        clear hSS
        refine hK _ _ (hS60.keep hk60) ?_
        clear hK K
        try ((repeat rw [put_none]); (try simp only [put_some, List.setIfInBounds_toArray, List.set_cons_succ, List.set_cons_zero]))
        refine rem_one 5 (by kernel_rfl) (step_of rfl (wanted_none rfl) ?_)
        intro v61 hS61 hE61 K hK
        go_wp2_with fail
        refine (gMinus_fe DA CB _ _ _ HDA.out HCB.out).mono ?_
        rintro e u61 ⟨DD, rfl, hDD, hk61⟩
        have sDD := hDD.size
        have oDD := Lib.hid hDD.one
        have HDD := Lib.hid hDD
        clear hDD
        refine hK _ _ (hS61.keep hk61) ?_
        clear hK K
        try ((repeat rw [put_none]); (try simp only [put_some, List.setIfInBounds_toArray, List.set_cons_succ, List.set_cons_zero]))
        refine rem_one 8 (by kernel_rfl) (step_of rfl (wanted_none rfl) ?_)
        intro v62 hS62 hE62 K hK
        have hg_nSS := (hE62 _ _ (block_stay hk61 (hE61 _ _ (block_stay hk60 (hE60 _ _ (Ext.alloc v59 _ _ _ (hE59 _ _ (heap_alloc_new v49 _))))))))
        refine wp_store_row 46 _ _ rfl v49.heap.size SS rfl rfl 46 _ hg_nSS (by rw [sSS]; exact infoNu) (by rw [sSS]; rfl) oSS.out ?_
        refine hK _ _ (al_nSS.storeNew hS62 _) ?_
        clear hK K
        try ((repeat rw [put_none]); (try simp only [put_some, List.setIfInBounds_toArray, List.set_cons_succ, List.set_cons_zero]))
        refine rem_one 9 (by kernel_rfl) (step_of rfl (wanted_none rfl) ?_)
        intro v63 hS63 hE63 K hK
        have hg_nDD := (hE63 _ _ ((setRow_other _ _ _ SS (by omega)).trans (hE62 _ _ (block_stay hk61 (hE61 _ _ (block_stay hk60 (hE60 _ _ (heap_alloc_new v59 _))))))))
        refine wp_store_row 46 _ _ rfl v59.heap.size DD rfl rfl 46 _ hg_nDD (by rw [sDD]; exact infoNu) (by rw [sDD]; rfl) oDD.out ?_
        refine hK _ _ (al_nDD.storeNew hS63 _) ?_
        clear hK K
        try ((repeat rw [put_none]); (try simp only [put_some, List.setIfInBounds_toArray, List.set_cons_succ, List.set_cons_zero]))
        refine rem_nil ?_
        intro v9 hS9 hE9
        exact ⟨SS, DD, v49.heap.size, v59.heap.size, rfl, HSS.out, HDD.out, ((hS9.add (hE9 _ _ (setRow_here hg_nDD DD)) (by have := al_nDD.tn.size; omega)).add (hE9 _ _ ((setRow_other _ _ _ DD (by omega)).trans (hE63 _ _ (setRow_here hg_nSS SS)))) (by have := al_nSS.tn.size; omega))⟩
    · intro v64 hS64 hE64 K hK
      go_wp2_with fail
      have al_nDD := hS64
      refine hK _ _ (hS64.alloc _) ?_
      clear hK K
      try ((repeat rw [put_none]); (try simp only [put_some, List.setIfInBounds_toArray, List.set_cons_succ, List.set_cons_zero]))
      refine rem_two 2 6 (by kernel_rfl) (step_of rfl (wanted_none rfl) ?_) (step_of rfl (wanted_none rfl) ?_)
      · intro v65 hS65 hE65 K hK
        go_wp2_with fail
        refine (gPlus_fe DA CB _ _ _ HDA.out HCB.out).mono ?_
        rintro e u65 ⟨SS, rfl, hSS, hk65⟩
        have sSS := hSS.size
        have oSS := Lib.hid hSS.one
        have HSS := Lib.hid hSS
        clear hSS
        refine hK _ _ (hS65.keep hk65) ?_
        clear hK K
        try ((repeat rw [put_none]); (try simp only [put_some, List.setIfInBounds_toArray, List.set_cons_succ, List.set_cons_zero]))
        refine rem_two 5 6 (by kernel_rfl) (step_of rfl (wanted_none rfl) ?_) (step_of rfl (wanted_none rfl) ?_)
        · intro v66 hS66 hE66 K hK
          go_wp2_with fail
          refine (gMinus_fe DA CB _ _ _ HDA.out HCB.out).mono ?_
          rintro e u66 ⟨DD, rfl, hDD, hk66⟩
          have sDD := hDD.size
          have oDD := Lib.hid hDD.one
          have HDD := Lib.hid hDD
          clear hDD
          refine hK _ _ (hS66.keep hk66) ?_
          clear hK K
          try ((repeat rw [put_none]); (try simp only [put_some, List.setIfInBounds_toArray, List.set_cons_succ, List.set_cons_zero]))
          refine rem_one 6 (by kernel_rfl) (step_of rfl (wanted_none rfl) ?_)
          intro v67 hS67 hE67 K hK
          go_wp2_with fail
          have al_nSS := hS67
          have lt_nDD_nSS := (Array.getElem?_eq_some_iff.1 (hE67 _ _ (block_stay hk66 (hE66 _ _ (block_stay hk65 (hE65 _ _ (heap_alloc_new v64 _))))))).1
          refine hK _ _ (hS67.alloc _) ?_
          clear hK K
          try ((repeat rw [put_none]); (try simp only [put_some, List.setIfInBounds_toArray, List.set_cons_succ, List.set_cons_zero]))
          refine rem_one 8 (by kernel_rfl) (step_of rfl (wanted_none rfl) ?_)
          intro v68 hS68 hE68 K hK
          have hg_nSS := (hE68 _ _ (heap_alloc_new v67 _))
          refine wp_store_row 46 _ _ rfl v67.heap.size SS rfl rfl 46 _ hg_nSS (by rw [sSS]; exact infoNu) (by rw [sSS]; rfl) oSS.out ?_
          refine hK _ _ (al_nSS.storeNew hS68 _) ?_
          clear hK K
          try ((repeat rw [put_none]); (try simp only [put_some, List.setIfInBounds_toArray, List.set_cons_succ, List.set_cons_zero]))
          refine rem_one 9 (by kernel_rfl) (step_of rfl (wanted_none rfl) ?_)
          intro v69 hS69 hE69 K hK
          have hg_nDD := (hE69 _ _ ((setRow_other _ _ _ SS (by omega)).trans (hE68 _ _ (Ext.alloc v67 _ _ _ (hE67 _ _ (block_stay hk66 (hE66 _ _ (block_stay hk65 (hE65 _ _ (heap_alloc_new v64 _))))))))))
          refine wp_store_row 46 _ _ rfl v64.heap.size DD rfl rfl 46 _ hg_nDD (by rw [sDD]; exact infoNu) (by rw [sDD]; rfl) oDD.out ?_
          refine hK _ _ (al_nDD.storeNew hS69 _) ?_
          clear hK K
          try ((repeat rw [put_none]); (try simp only [put_some, List.setIfInBounds_toArray, List.set_cons_succ, List.set_cons_zero]))
          refine rem_nil ?_
          intro v9 hS9 hE9
          exact ⟨SS, DD, v67.heap.size, v64.heap.size, rfl, HSS.out, HDD.out, ((hS9.add (hE9 _ _ (setRow_here hg_nDD DD)) (by have := al_nDD.tn.size; omega)).add (hE9 _ _ ((setRow_other _ _ _ DD (by omega)).trans (hE69 _ _ (setRow_here hg_nSS SS)))) (by have := al_nSS.tn.size; omega))⟩
        · intro v70 hS70 hE70 K hK
          go_wp2_with fail
          have al_nSS := hS70
          have lt_nDD_nSS := (Array.getElem?_eq_some_iff.1 (hE70 _ _ (block_stay hk65 (hE65 _ _ (heap_alloc_new v64 _))))).1
          refine hK _ _ (hS70.alloc _) ?_
          clear hK K
          try ((repeat rw [put_none]); (try simp only [put_some, List.setIfInBounds_toArray, List.set_cons_succ, List.set_cons_zero]))
          refine rem_one 5 (by kernel_rfl) (step_of rfl (wanted_none rfl) ?_)
          intro v71 hS71 hE71 K hK
          go_wp2_with fail
          refine (gMinus_fe DA CB _ _ _ HDA.out HCB.out).mono ?_
          rintro e u71 ⟨DD, rfl, hDD, hk71⟩
          have sDD := hDD.size
          have oDD := Lib.hid hDD.one
          have HDD := Lib.hid hDD
          clear hDD
          refine hK _ _ (hS71.keep hk71) ?_
          clear hK K
          try ((repeat rw [put_none]); (try simp only [put_some, List.setIfInBounds_toArray, List.set_cons_succ, List.set_cons_zero]))
          refine rem_one 8 (by kernel_rfl) (step_of rfl (wanted_none rfl) ?_)
          intro v72 hS72 hE72 K hK
          have hg_nSS := (hE72 _ _ (block_stay hk71 (hE71 _ _ (heap_alloc_new v70 _))))
          refine wp_store_row 46 _ _ rfl v70.heap.size SS rfl rfl 46 _ hg_nSS (by rw [sSS]; exact infoNu) (by rw [sSS]; rfl) oSS.out ?_
          refine hK _ _ (al_nSS.storeNew hS72 _) ?_
          clear hK K
          try ((repeat rw [put_none]); (try simp only [put_some, List.setIfInBounds_toArray, List.set_cons_succ, List.set_cons_zero]))
          refine rem_one 9 (by kernel_rfl) (step_of rfl (wanted_none rfl) ?_)
          intro v73 hS73 hE73 K hK
          have hg_nDD := (hE73 _ _ ((setRow_other _ _ _ SS (by omega)).trans (hE72 _ _ (block_stay hk71 (hE71 _ _ (Ext.alloc v70 _ _ _ (hE70 _ _ (block_stay hk65 (hE65 _ _ (heap_alloc_new v64 _))))))))))
          refine wp_store_row 46 _ _ rfl v64.heap.size DD rfl rfl 46 _ hg_nDD (by rw [sDD]; exact infoNu) (by rw [sDD]; rfl) oDD.out ?_
          refine hK _ _ (al_nDD.storeNew hS73 _) ?_
          clear hK K
          try ((repeat rw [put_none]); (try simp only [put_some, List.setIfInBounds_toArray, List.set_cons_succ, List.set_cons_zero]))
          refine rem_nil ?_
          intro v9 hS9 hE9
          exact ⟨SS, DD, v70.heap.size, v64.heap.size, rfl, HSS.out, HDD.out, ((hS9.add (hE9 _ _ (setRow_here hg_nDD DD)) (by have := al_nDD.tn.size; omega)).add (hE9 _ _ ((setRow_other _ _ _ DD (by omega)).trans (hE73 _ _ (setRow_here hg_nSS SS)))) (by have := al_nSS.tn.size; omega))⟩
      · intro v74 hS74 hE74 K hK
        go_wp2_with fail
        have al_nSS := hS74
        have lt_nDD_nSS := (Array.getElem?_eq_some_iff.1 (hE74 _ _ (heap_alloc_new v64 _))).1
        refine hK _ _ (hS74.alloc _) ?_
        clear hK K
        try ((repeat rw [put_none]); (try simp only [put_some, List.setIfInBounds_toArray, List.set_cons_succ, List.set_cons_zero]))
        refine rem_one 2 (by kernel_rfl) (step_of rfl (wanted_none rfl) ?_)
        intro v75 hS75 hE75 K hK
        go_wp2_with fail
        refine (gPlus_fe DA CB _ _ _ HDA.out HCB.out).mono ?_
        rintro e u75 ⟨SS, rfl, hSS, hk75⟩
        have sSS := hSS.size
        have oSS := Lib.hid hSS.one
        have HSS := Lib.hid hSS
        clear hSS
        refine hK _ _ (hS75.keep hk75) ?_
        clear hK K
        try ((repeat rw [put_none]); (try simp only [put_some, List.setIfInBounds_toArray, List.set_cons_succ, List.set_cons_zero]))
        refine rem_one 5 (by kernel_rfl) (step_of rfl (wanted_none rfl) ?_)
        intro v76 hS76 hE76 K hK
        go_wp2_with fail
        refine (gMinus_fe DA CB _ _ _ HDA.out HCB.out).mono ?_
        rintro e u76 ⟨DD, rfl, hDD, hk76⟩
        have sDD := hDD.size
        have oDD := Lib.hid hDD.one
        have HDD := Lib.hid hDD
        clear hDD
        refine hK _ _ (hS76.keep hk76) ?_
        clear hK K
        try ((repeat rw [put_none]); (try simp only [put_some, List.setIfInBounds_toArray, List.set_cons_succ, List.set_cons_zero]))
        refine rem_one 8 (by kernel_rfl) (step_of rfl (wanted_none rfl) ?_)
        intro v77 hS77 hE77 K hK
        have hg_nSS := (hE77 _ _ (block_stay hk76 (hE76 _ _ (block_stay hk75 (hE75 _ _ (heap_alloc_new v74 _))))))
        refine wp_store_row 46 _ _ rfl v74.heap.size SS rfl rfl 46 _ hg_nSS (by rw [sSS]; exact infoNu) (by rw [sSS]; rfl) oSS.out ?_
        refine hK _ _ (al_nSS.storeNew hS77 _) ?_
        clear hK K
        try ((repeat rw [put_none]); (try simp only [put_some, List.setIfInBounds_toArray, List.set_cons_succ, List.set_cons_zero]))
        refine rem_one 9 (by kernel_rfl) (step_of rfl (wanted_none rfl) ?_)
        intro v78 hS78 hE78 K hK
        have hg_nDD := (hE78 _ _ ((setRow_other _ _ _ SS (by omega)).trans (hE77 _ _ (block_stay hk76 (hE76 _ _ (block_stay hk75 (hE75 _ _ (Ext.alloc v74 _ _ _ (hE74 _ _ (heap_alloc_new v64 _))))))))))
        refine wp_store_row 46 _ _ rfl v64.heap.size DD rfl rfl 46 _ hg_nDD (by rw [sDD]; exact infoNu) (by rw [sDD]; rfl) oDD.out ?_
        refine hK _ _ (al_nDD.storeNew hS78 _) ?_
        clear hK K
        try ((repeat rw [put_none]); (try simp only [put_some, List.setIfInBounds_toArray, List.set_cons_succ, List.set_cons_zero]))
        refine rem_nil ?_
        intro v9 hS9 hE9
        exact ⟨SS, DD, v74.heap.size, v64.heap.size, rfl, HSS.out, HDD.out, ((hS9.add (hE9 _ _ (setRow_here hg_nDD DD)) (by have := al_nDD.tn.size; omega)).add (hE9 _ _ ((setRow_other _ _ _ DD (by omega)).trans (hE78 _ _ (setRow_here hg_nSS SS)))) (by have := al_nSS.tn.size; omega))⟩
  rintro b' w' ⟨SS, DD, g9, g10, rfl, hSS, hDD, hst⟩
  have sSS := hSS.size
  have oSS := Lib.hid hSS.one
  have HSS := Lib.hid hSS
  clear hSS
  have sDD := hDD.size
  have oDD := Lib.hid hDD.one
  have HDD := Lib.hid hDD
  clear hDD
  try ((repeat rw [put_none]); (try simp only [put_some, List.setIfInBounds_toArray, List.set_cons_succ, List.set_cons_zero]))
  go_wp2_with fail
  have hst := hst.subR (rm := [(10, pr A2 A3), (20, A4.toList)]) (by simp)
  refine wp_region_then (fun a b' w' => ∃ (C KK KE PP5 D : Array Value), b' = ((((((((((((((a.put (some 50) (.pointer (some ⟨b, 0, none⟩))).put (some 51) (.agg AA)).put (some 52) (.agg BB)).put (some 53) (.agg C)).put (some 54) (.agg E)).put (some 55) (.agg AA)).put (some 56) (.agg KK)).put (some 57) (.agg E)).put (some 58) (.agg KE)).put (some 59) (.agg PP5)).put (some 60) (.agg D)).put (some 61) (.agg (pr C D).toArray)).put (some 62) (.pointer (some ⟨b, 0, none⟩))).put (some 63) (.pointer (some ⟨b, 0, none⟩))) ∧ FeA C (((X1 + Z1) * (X1 + Z1)) * ((X1 - Z1) * (X1 - Z1))) ∧ FeA D (((X1 + Z1) * (X1 + Z1) - (X1 - Z1) * (X1 - Z1)) * ((X1 + Z1) * (X1 + Z1) + 121665 * ((X1 + Z1) * (X1 + Z1) - (X1 - Z1) * (X1 - Z1)))) ∧ Kt w b [(g9, SS), (g10, DD), (g8, E), (g6, AA), (g7, BB), (g4, DA), (g5, CB), (g2, A), (g3, B)] [(10, pr A2 A3), (20, A4.toList)] w' ∧ w'.rangeAt b 0 (pr C D)) ?_ ?_
  · refine wp_region_rem (Kt w b [(g9, SS), (g10, DD), (g8, E), (g6, AA), (g7, BB), (g4, DA), (g5, CB), (g2, A), (g3, B)] [(10, pr A2 A3), (20, A4.toList)]) (by kernel_rfl) (by kernel_rfl) (fun _ _ _ _ _ h => h.elim) hst.drew ?_
    apply rem_sure 0 (by kernel_rfl) rfl (wanted_none rfl)
    · intro w2 hS K hK
      go_wp2_with fail
      exact hK _ hS (Ext.refl _)
    · kernel_rfl
    · kernel_rfl
    try ((repeat rw [put_none]); (try simp only [put_some, List.setIfInBounds_toArray, List.set_cons_succ, List.set_cons_zero]))
    apply rem_sure 1 (by kernel_rfl) rfl (wanted_none rfl)
    · intro w2 hS K hK
      exact wp_load_row 46 _ rfl g6 rfl _ AA _ _ (hS.at_ (by simp)) Try.underlying46 rfl (by rw [sAA]; exact infoNu) (hK _ hS (Ext.refl _))
    · kernel_rfl
    · kernel_rfl
    try ((repeat rw [put_none]); (try simp only [put_some, List.setIfInBounds_toArray, List.set_cons_succ, List.set_cons_zero]))
    apply rem_sure 2 (by kernel_rfl) rfl (wanted_none rfl)
    · intro w2 hS K hK
      exact wp_load_row 46 _ rfl g7 rfl _ BB _ _ (hS.at_ (by simp)) Try.underlying46 rfl (by rw [sBB]; exact infoNu) (hK _ hS (Ext.refl _))
    · kernel_rfl
    · kernel_rfl
    try ((repeat rw [put_none]); (try simp only [put_some, List.setIfInBounds_toArray, List.set_cons_succ, List.set_cons_zero]))
    apply rem_sure 4 (by kernel_rfl) rfl (wanted_none rfl)
    · intro w2 hS K hK
      exact wp_load_row 46 _ rfl g8 rfl _ E _ _ (hS.at_ (by simp)) Try.underlying46 rfl (by rw [sE]; exact infoNu) (hK _ hS (Ext.refl _))
    · kernel_rfl
    · kernel_rfl
    try ((repeat rw [put_none]); (try simp only [put_some, List.setIfInBounds_toArray, List.set_cons_succ, List.set_cons_zero]))
    apply rem_sure 5 (by kernel_rfl) rfl (wanted_none rfl)
    · intro w2 hS K hK
      exact wp_load_row 46 _ rfl g6 rfl _ AA _ _ (hS.at_ (by simp)) Try.underlying46 rfl (by rw [sAA]; exact infoNu) (hK _ hS (Ext.refl _))
    · kernel_rfl
    · kernel_rfl
    try ((repeat rw [put_none]); (try simp only [put_some, List.setIfInBounds_toArray, List.set_cons_succ, List.set_cons_zero]))
    apply rem_sure 7 (by kernel_rfl) rfl (wanted_none rfl)
    · intro w2 hS K hK
      exact wp_load_row 46 _ rfl g8 rfl _ E _ _ (hS.at_ (by simp)) Try.underlying46 rfl (by rw [sE]; exact infoNu) (hK _ hS (Ext.refl _))
    · kernel_rfl
    · kernel_rfl
    try ((repeat rw [put_none]); (try simp only [put_some, List.setIfInBounds_toArray, List.set_cons_succ, List.set_cons_zero]))
    refine rem_one 3 (by kernel_rfl) (step_of rfl (wanted_none rfl) ?_)
    intro v21 hS21 hE21 K hK
    go_wp2_with fail
    refine (gTimes_fe AA BB _ _ _ HAA.out HBB.out).mono ?_
    rintro e u21 ⟨C, rfl, hC, hk21⟩
    obtain ⟨C0, C1, C2, C3, C4, rfl⟩ := five_of hC
    have sC := hC.size
    have oC := Lib.hid hC.one
    have HC := Lib.hid hC
    clear hC
    refine hK _ _ (hS21.keep hk21) ?_
    clear hK K
    try ((repeat rw [put_none]); (try simp only [put_some, List.setIfInBounds_toArray, List.set_cons_succ, List.set_cons_zero]))
    refine rem_one 6 (by kernel_rfl) (step_of rfl (wanted_none rfl) ?_)
    intro v22 hS22 hE22 K hK
    go_wp2_with fail
    refine (gSmall_fe 121665 _ (by omega) (by omega)).mono ?_
    rintro e u22 ⟨KK, rfl, hKK, hk22⟩
    have sKK := hKK.size
    have oKK := Lib.hid hKK.one
    have HKK := Lib.hid hKK
    clear hKK
    refine hK _ _ (hS22.keep hk22) ?_
    clear hK K
    try ((repeat rw [put_none]); (try simp only [put_some, List.setIfInBounds_toArray, List.set_cons_succ, List.set_cons_zero]))
    refine rem_one 8 (by kernel_rfl) (step_of rfl (wanted_none rfl) ?_)
    intro v23 hS23 hE23 K hK
    go_wp2_with fail
    refine (gTimes_fe KK E _ _ _ HKK.out HE.out).mono ?_
    rintro e u23 ⟨KE, rfl, hKE, hk23⟩
    have sKE := hKE.size
    have oKE := Lib.hid hKE.one
    have HKE := Lib.hid hKE
    clear hKE
    refine hK _ _ (hS23.keep hk23) ?_
    clear hK K
    try ((repeat rw [put_none]); (try simp only [put_some, List.setIfInBounds_toArray, List.set_cons_succ, List.set_cons_zero]))
    refine rem_one 9 (by kernel_rfl) (step_of rfl (wanted_none rfl) ?_)
    intro v24 hS24 hE24 K hK
    go_wp2_with fail
    refine (gPlus_fe AA KE _ _ _ HAA.out HKE.out).mono ?_
    rintro e u24 ⟨PP5, rfl, hPP5, hk24⟩
    have sPP5 := hPP5.size
    have oPP5 := Lib.hid hPP5.one
    have HPP5 := Lib.hid hPP5
    clear hPP5
    refine hK _ _ (hS24.keep hk24) ?_
    clear hK K
    try ((repeat rw [put_none]); (try simp only [put_some, List.setIfInBounds_toArray, List.set_cons_succ, List.set_cons_zero]))
    refine rem_one 10 (by kernel_rfl) (step_of rfl (wanted_none rfl) ?_)
    intro v25 hS25 hE25 K hK
    go_wp2_with fail
    refine (gTimes_fe E PP5 _ _ _ HE.out HPP5.out).mono ?_
    rintro e u25 ⟨D, rfl, hD, hk25⟩
    obtain ⟨D0, D1, D2, D3, D4, rfl⟩ := five_of hD
    have sD := hD.size
    have oD := Lib.hid hD.one
    have HD := Lib.hid hD
    clear hD
    refine hK _ _ (hS25.keep hk25) ?_
    clear hK K
    try ((repeat rw [put_none]); (try simp only [put_some, List.setIfInBounds_toArray, List.set_cons_succ, List.set_cons_zero]))
    apply rem_sure 11 (by kernel_rfl) rfl (wanted_none rfl)
    · intro w2 hS K hK
      go_wp2_with fail
      exact hK _ hS (Ext.refl _)
    · kernel_rfl
    · kernel_rfl
    try ((repeat rw [put_none]); (try simp only [put_some, List.setIfInBounds_toArray, List.set_cons_succ, List.set_cons_zero]))
    apply rem_sure 12 (by kernel_rfl) rfl (wanted_none rfl)
    · intro w2 hS K hK
      go_wp2_with fail
      exact hK _ hS (Ext.refl _)
    · kernel_rfl
    · kernel_rfl
    try ((repeat rw [put_none]); (try simp only [put_some, List.setIfInBounds_toArray, List.set_cons_succ, List.set_cons_zero]))
    apply rem_sure 13 (by kernel_rfl) rfl (wanted_none rfl)
    · intro w2 hS K hK
      go_wp2_with fail
      exact hK _ hS (Ext.refl _)
    · kernel_rfl
    · kernel_rfl
    try ((repeat rw [put_none]); (try simp only [put_some, List.setIfInBounds_toArray, List.set_cons_succ, List.set_cons_zero]))
    refine rem_one 14 (by kernel_rfl) (step_of rfl (wanted_none rfl) ?_)
    intro v26 hS26 hE26 K hK
    have hth := hS26.thereAt 0 10 (by omega)
    refine wp_store_mid 84 _ _ rfl b 0 (pr #[.int .u64 C0, .int .u64 C1, .int .u64 C2, .int .u64 C3, .int .u64 C4] #[.int .u64 D0, .int .u64 D1, .int .u64 D2, .int .u64 D3, .int .u64 D4]).toArray rfl rfl hth (by kernel_rfl) (pr_one HC.out HD.out) ?_
    have hnr := World.rangeAt_setCells_same v26 b 0 (pr #[.int .u64 C0, .int .u64 C1, .int .u64 C2, .int .u64 C3, .int .u64 C4] #[.int .u64 D0, .int .u64 D1, .int .u64 D2, .int .u64 D3, .int .u64 D4]) hth
    refine hK _ _ (hS26.setMid 0 (pr #[.int .u64 C0, .int .u64 C1, .int .u64 C2, .int .u64 C3, .int .u64 C4] #[.int .u64 D0, .int .u64 D1, .int .u64 D2, .int .u64 D3, .int .u64 D4]) (by simp [pr])) ?_
    clear hK K
    refine rem_nil ?_
    intro v9 hS9 hE9
    exact ⟨#[.int .u64 C0, .int .u64 C1, .int .u64 C2, .int .u64 C3, .int .u64 C4], KK, KE, PP5, #[.int .u64 D0, .int .u64 D1, .int .u64 D2, .int .u64 D3, .int .u64 D4], rfl, HC.out, HD.out, hS9, rangeAt_ext hnr hE9⟩
  rintro b' w' ⟨C, KK, KE, PP5, D, rfl, hC, hD, hst, hr5⟩
  have sC := hC.size
  have HC := Lib.hid hC
  have sD := hD.size
  have HD := Lib.hid hD
  have L5 := Lib.hid (pr_length hC hD)
  clear hC hD
  try ((repeat rw [put_none]); (try simp only [put_some, List.setIfInBounds_toArray, List.set_cons_succ, List.set_cons_zero]))
  go_wp2_with fail
  have hst := (hst.subR (rm := [(20, A4.toList)]) (by simp)).addR hr5
  have HU : Hid (FeA A4.toList.toArray U) := by
    show FeA A4.toList.toArray U
    rw [Array.toArray_toList]; exact HA4.out
  refine wp_region_then (fun a b' w' => ∃ (F G H6 : Array Value), b' = (((((((((((((((a.put (some 64) (.pointer (some ⟨b, 0, none⟩))).put (some 65) (.agg SS)).put (some 66) (.agg SS)).put (some 67) (.agg F)).put (some 68) (.pointer (some ⟨b, 0, none⟩))).put (some 69) (.pointer (some ⟨b, 0, none⟩))).put (some 70) (.pointer (some ⟨b, 20, none⟩))).put (some 71) (.agg A4.toList.toArray)).put (some 72) (.agg DD)).put (some 73) (.agg DD)).put (some 74) (.agg G)).put (some 75) (.agg H6)).put (some 76) (.agg (pr F H6).toArray)).put (some 77) (.pointer (some ⟨b, 0, none⟩))).put (some 78) (.pointer (some ⟨b, 10, none⟩))) ∧ FeA F (((X2 - Z2) * (X1 + Z1) + (X2 + Z2) * (X1 - Z1)) * ((X2 - Z2) * (X1 + Z1) + (X2 + Z2) * (X1 - Z1))) ∧ FeA H6 (U * (((X2 - Z2) * (X1 + Z1) - (X2 + Z2) * (X1 - Z1)) * ((X2 - Z2) * (X1 + Z1) - (X2 + Z2) * (X1 - Z1)))) ∧ Kt w b [(g9, SS), (g10, DD), (g8, E), (g6, AA), (g7, BB), (g4, DA), (g5, CB), (g2, A), (g3, B)] [(0, pr C D), (20, A4.toList)] w' ∧ w'.rangeAt b 10 (pr F H6)) ?_ ?_
  · refine wp_region_rem (Kt w b [(g9, SS), (g10, DD), (g8, E), (g6, AA), (g7, BB), (g4, DA), (g5, CB), (g2, A), (g3, B)] [(0, pr C D), (20, A4.toList)]) (by kernel_rfl) (by kernel_rfl) (fun _ _ _ _ _ h => h.elim) hst.drew ?_
    apply rem_sure 0 (by kernel_rfl) rfl (wanted_none rfl)
    · intro w2 hS K hK
      go_wp2_with fail
      exact hK _ hS (Ext.refl _)
    · kernel_rfl
    · kernel_rfl
    try ((repeat rw [put_none]); (try simp only [put_some, List.setIfInBounds_toArray, List.set_cons_succ, List.set_cons_zero]))
    apply rem_sure 1 (by kernel_rfl) rfl (wanted_none rfl)
    · intro w2 hS K hK
      exact wp_load_row 46 _ rfl g9 rfl _ SS _ _ (hS.at_ (by simp)) Try.underlying46 rfl (by rw [sSS]; exact infoNu) (hK _ hS (Ext.refl _))
    · kernel_rfl
    · kernel_rfl
    try ((repeat rw [put_none]); (try simp only [put_some, List.setIfInBounds_toArray, List.set_cons_succ, List.set_cons_zero]))
    apply rem_sure 2 (by kernel_rfl) rfl (wanted_none rfl)
    · intro w2 hS K hK
      exact wp_load_row 46 _ rfl g9 rfl _ SS _ _ (hS.at_ (by simp)) Try.underlying46 rfl (by rw [sSS]; exact infoNu) (hK _ hS (Ext.refl _))
    · kernel_rfl
    · kernel_rfl
    try ((repeat rw [put_none]); (try simp only [put_some, List.setIfInBounds_toArray, List.set_cons_succ, List.set_cons_zero]))
    apply rem_sure 4 (by kernel_rfl) rfl (wanted_none rfl)
    · intro w2 hS K hK
      go_wp2_with fail
      exact hK _ hS (Ext.refl _)
    · kernel_rfl
    · kernel_rfl
    try ((repeat rw [put_none]); (try simp only [put_some, List.setIfInBounds_toArray, List.set_cons_succ, List.set_cons_zero]))
    apply rem_sure 5 (by kernel_rfl) rfl (wanted_none rfl)
    · intro w2 hS K hK
      go_wp2_with fail
      exact hK _ hS (Ext.refl _)
    · kernel_rfl
    · kernel_rfl
    try ((repeat rw [put_none]); (try simp only [put_some, List.setIfInBounds_toArray, List.set_cons_succ, List.set_cons_zero]))
    apply rem_sure 6 (by kernel_rfl) rfl (wanted_none rfl)
    · intro w2 hS K hK
      go_wp2_with fail
      exact hK _ hS (Ext.refl _)
    · kernel_rfl
    · kernel_rfl
    try ((repeat rw [put_none]); (try simp only [put_some, List.setIfInBounds_toArray, List.set_cons_succ, List.set_cons_zero]))
    apply rem_sure 7 (by kernel_rfl) rfl (wanted_none rfl)
    · intro w2 hS K hK
      exact wp_load_mid 46 _ rfl b 20 rfl (A4.toList) _ (hS.rg (by simp)) Try.underlying46 rfl (by rw [L4.out]; exact infoNu) (hK _ hS (Ext.refl _))
    · kernel_rfl
    · kernel_rfl
    try ((repeat rw [put_none]); (try simp only [put_some, List.setIfInBounds_toArray, List.set_cons_succ, List.set_cons_zero]))
    apply rem_sure 8 (by kernel_rfl) rfl (wanted_none rfl)
    · intro w2 hS K hK
      exact wp_load_row 46 _ rfl g10 rfl _ DD _ _ (hS.at_ (by simp)) Try.underlying46 rfl (by rw [sDD]; exact infoNu) (hK _ hS (Ext.refl _))
    · kernel_rfl
    · kernel_rfl
    try ((repeat rw [put_none]); (try simp only [put_some, List.setIfInBounds_toArray, List.set_cons_succ, List.set_cons_zero]))
    apply rem_sure 9 (by kernel_rfl) rfl (wanted_none rfl)
    · intro w2 hS K hK
      exact wp_load_row 46 _ rfl g10 rfl _ DD _ _ (hS.at_ (by simp)) Try.underlying46 rfl (by rw [sDD]; exact infoNu) (hK _ hS (Ext.refl _))
    · kernel_rfl
    · kernel_rfl
    try ((repeat rw [put_none]); (try simp only [put_some, List.setIfInBounds_toArray, List.set_cons_succ, List.set_cons_zero]))
    refine rem_one 3 (by kernel_rfl) (step_of rfl (wanted_none rfl) ?_)
    intro v21 hS21 hE21 K hK
    go_wp2_with fail
    refine (gTimes_fe SS SS _ _ _ HSS.out HSS.out).mono ?_
    rintro e u21 ⟨F, rfl, hF, hk21⟩
    obtain ⟨F0, F1, F2, F3, F4, rfl⟩ := five_of hF
    have sF := hF.size
    have oF := Lib.hid hF.one
    have HF := Lib.hid hF
    clear hF
    refine hK _ _ (hS21.keep hk21) ?_
    clear hK K
    try ((repeat rw [put_none]); (try simp only [put_some, List.setIfInBounds_toArray, List.set_cons_succ, List.set_cons_zero]))
    refine rem_one 10 (by kernel_rfl) (step_of rfl (wanted_none rfl) ?_)
    intro v22 hS22 hE22 K hK
    go_wp2_with fail
    refine (gTimes_fe DD DD _ _ _ HDD.out HDD.out).mono ?_
    rintro e u22 ⟨G, rfl, hG, hk22⟩
    have sG := hG.size
    have oG := Lib.hid hG.one
    have HG := Lib.hid hG
    clear hG
    refine hK _ _ (hS22.keep hk22) ?_
    clear hK K
    try ((repeat rw [put_none]); (try simp only [put_some, List.setIfInBounds_toArray, List.set_cons_succ, List.set_cons_zero]))
    refine rem_one 11 (by kernel_rfl) (step_of rfl (wanted_none rfl) ?_)
    intro v23 hS23 hE23 K hK
    go_wp2_with fail
    refine (gTimes_fe A4.toList.toArray G _ _ _ HU.out HG.out).mono ?_
    rintro e u23 ⟨H6, rfl, hH6, hk23⟩
    obtain ⟨H60, H61, H62, H63, H64, rfl⟩ := five_of hH6
    have sH6 := hH6.size
    have oH6 := Lib.hid hH6.one
    have HH6 := Lib.hid hH6
    clear hH6
    refine hK _ _ (hS23.keep hk23) ?_
    clear hK K
    try ((repeat rw [put_none]); (try simp only [put_some, List.setIfInBounds_toArray, List.set_cons_succ, List.set_cons_zero]))
    apply rem_sure 12 (by kernel_rfl) rfl (wanted_none rfl)
    · intro w2 hS K hK
      go_wp2_with fail
      exact hK _ hS (Ext.refl _)
    · kernel_rfl
    · kernel_rfl
    try ((repeat rw [put_none]); (try simp only [put_some, List.setIfInBounds_toArray, List.set_cons_succ, List.set_cons_zero]))
    apply rem_sure 13 (by kernel_rfl) rfl (wanted_none rfl)
    · intro w2 hS K hK
      go_wp2_with fail
      exact hK _ hS (Ext.refl _)
    · kernel_rfl
    · kernel_rfl
    try ((repeat rw [put_none]); (try simp only [put_some, List.setIfInBounds_toArray, List.set_cons_succ, List.set_cons_zero]))
    apply rem_sure 14 (by kernel_rfl) rfl (wanted_none rfl)
    · intro w2 hS K hK
      go_wp2_with fail
      exact hK _ hS (Ext.refl _)
    · kernel_rfl
    · kernel_rfl
    try ((repeat rw [put_none]); (try simp only [put_some, List.setIfInBounds_toArray, List.set_cons_succ, List.set_cons_zero]))
    refine rem_one 15 (by kernel_rfl) (step_of rfl (wanted_none rfl) ?_)
    intro v24 hS24 hE24 K hK
    have hth := hS24.thereAt 10 10 (by omega)
    refine wp_store_mid 84 _ _ rfl b 10 (pr #[.int .u64 F0, .int .u64 F1, .int .u64 F2, .int .u64 F3, .int .u64 F4] #[.int .u64 H60, .int .u64 H61, .int .u64 H62, .int .u64 H63, .int .u64 H64]).toArray rfl rfl hth (by kernel_rfl) (pr_one HF.out HH6.out) ?_
    have hnr := World.rangeAt_setCells_same v24 b 10 (pr #[.int .u64 F0, .int .u64 F1, .int .u64 F2, .int .u64 F3, .int .u64 F4] #[.int .u64 H60, .int .u64 H61, .int .u64 H62, .int .u64 H63, .int .u64 H64]) hth
    refine hK _ _ (hS24.setMid 10 (pr #[.int .u64 F0, .int .u64 F1, .int .u64 F2, .int .u64 F3, .int .u64 F4] #[.int .u64 H60, .int .u64 H61, .int .u64 H62, .int .u64 H63, .int .u64 H64]) (by simp [pr, sA4, sC, sD])) ?_
    clear hK K
    refine rem_nil ?_
    intro v9 hS9 hE9
    exact ⟨#[.int .u64 F0, .int .u64 F1, .int .u64 F2, .int .u64 F3, .int .u64 F4], G, #[.int .u64 H60, .int .u64 H61, .int .u64 H62, .int .u64 H63, .int .u64 H64], rfl, HF.out, HH6.out, hS9, rangeAt_ext hnr hE9⟩
  rintro b' w' ⟨F, G, H6, rfl, hF, hH6, hst, hr6⟩
  have sF := hF.size
  have HF := Lib.hid hF
  have sH6 := hH6.size
  have HH6 := Lib.hid hH6
  have L6 := Lib.hid (pr_length hF hH6)
  clear hF hH6
  try ((repeat rw [put_none]); (try simp only [put_some, List.setIfInBounds_toArray, List.set_cons_succ, List.set_cons_zero]))
  go_wp2_with fail
  go_end0
  exact ⟨_, C, D, F, H6, rfl, HC.out, HD.out, HF.out, HH6.out, hst.rg (by simp), hr6, hst.rg (by simp), hst.tre, hst.tn⟩
end Go.Proofs.Ytenppmciabdefaa
