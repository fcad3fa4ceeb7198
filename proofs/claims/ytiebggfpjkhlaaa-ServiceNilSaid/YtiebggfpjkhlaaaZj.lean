/- The walk of ServiceNil. No condition. -/
import Derived.Test.YtiebggfpjkhlaaaZi
namespace Go.Proofs.Ytiebggfpjkhlaaa
open Go Go.RowKit
set_option linter.unusedSimpArgs false
attribute [local go_sem] map_neq_some map_neq_nil
theorem NoS.drew {p : Value} {W : World} (h : NoS p W) : NoS p W.drew := by
  rcases h with h | ⟨b, h1, h2⟩
  · exact .inl h
  · exact .inr ⟨b, h1, h2⟩
set_option maxRecDepth 100000 in
set_option maxHeartbeats 4000000 in
theorem serviceNil_walk (v0 v1 v4 v5 v6 : Value) (g nm : ByteArray) (w : World) :
    Calls Try.prog 5 #[.agg #[v0, v1, .string g, .string nm, v4, v5, v6]] w fun e w' => e = .returned (.bool true) ∧ Below w.heap.size w w' := by
  have h0 : Kq w [] w := ⟨by simp, Below.refl _ _⟩
  have h1 := h0.new rfl (.cells #[v0, v1, .string g, .string nm, v4, v5, v6] 48)
  have H1 := Lib.hid h1
  clear h0 h1
  go_enter Try.func5, Try.ntmps5
  go_wp2_with fail
  go_loopw [3, 4] (fun v i wr => ∃ (s : Value) (c : Nat), s = v ∧ c ≤ 2 ∧ i = .int .i64 c ∧ NoS s wr ∧ Kq w [(w.heap.size, .cells #[v0, v1, .string g, .string nm, v4, v5, v6] 48 (0, 0))] wr) (fun _ i _ => (2 - intOf i).toNat)
  case atStart => exact ⟨_, 0, rfl, by omega, rfl, .inl rfl, H1.out⟩
  case round =>
    obtain ⟨s, c, rfl, hc, rfl, hN, hst⟩ := hrel
    by_cases hlt : c < 2
    · have hl : decide ((c : Int) < 2) = true := by simp; omega
      have cN : wr.cell? ⟨w.heap.size, 3, none⟩ = some (.string nm) := (cell_of_row _ w.heap.size 3 _ _ _ (hst.at_ (g := w.heap.size) (ob := .cells #[v0, v1, .string g, .string nm, v4, v5, v6] 48 (0, 0)) (by simp))).trans rfl
      go_wp2_with (go_at_call 9; refine (num22_any _ _).mono ?_; rintro e w' ⟨rfl, rfl⟩)
      refine (take_no s nm _ hN).mono ?_
      rintro e u1 ⟨rfl, hb⟩
      have hN := hN.keep hb
      have hst := hst.keep hb
      clear hb
      clear cN
      have cG : u1.cell? ⟨w.heap.size, 2, none⟩ = some (.string g) := (cell_of_row _ w.heap.size 2 _ _ _ (hst.at_ (g := w.heap.size) (ob := .cells #[v0, v1, .string g, .string nm, v4, v5, v6] 48 (0, 0)) (by simp))).trans rfl
      have hN := hN.alloc (.cells #[.int .u8 1] 5)
      have hst := hst.alloc (.cells #[.int .u8 1] 5)
      go_wp2_with (go_at_call 9; refine (num22_any _ _).mono ?_; rintro e w' ⟨rfl, rfl⟩)
      refine (send_no s g _ _ _ _ hN).mono ?_
      rintro e u2 ⟨rfl, hb⟩
      have hN := hN.keep hb
      have hst := hst.keep hb
      clear hb
      clear cG
      have cN : u2.cell? ⟨w.heap.size, 3, none⟩ = some (.string nm) := (cell_of_row _ w.heap.size 3 _ _ _ (hst.at_ (g := w.heap.size) (ob := .cells #[v0, v1, .string g, .string nm, v4, v5, v6] 48 (0, 0)) (by simp))).trans rfl
      go_wp2_with (go_at_call 9; refine (num22_any _ _).mono ?_; rintro e w' ⟨rfl, rfl⟩)
      refine (pick_no s nm _ hN).mono ?_
      rintro e u3 ⟨rfl, hb⟩
      have hN := hN.keep hb
      have hst := hst.keep hb
      clear hb
      clear cN
      have hN := hN.alloc (.cells #[.string { data := #[] }, .int .i64 0, .int .i64 0, .int .i64 0, .slice none 0 0] 38)
      have hst := hst.new rfl (.cells #[.string { data := #[] }, .int .i64 0, .int .i64 0, .int .i64 0, .slice none 0 0] 38)
      have cG : (u3.alloc (.cells #[.string { data := #[] }, .int .i64 0, .int .i64 0, .int .i64 0, .slice none 0 0] 38)).cell? ⟨w.heap.size, 2, none⟩ = some (.string g) := (cell_of_row _ w.heap.size 2 _ _ _ (hst.at_ (g := w.heap.size) (ob := .cells #[v0, v1, .string g, .string nm, v4, v5, v6] 48 (0, 0)) (by simp))).trans rfl
      go_wp2_with (go_at_call 9; refine (num22_any _ _).mono ?_; rintro e w' ⟨rfl, rfl⟩)
      refine (epoch_no s g _ hN).mono ?_
      rintro e u4 ⟨rfl, hb⟩
      have hN := hN.keep hb
      have hst := hst.keep hb
      clear hb
      clear cG
      go_wp2_with fail
      refine wp_region_then (fun a b' w' => b' = (((((((((((((((((((((((((((((((((((((((((a.put (some 47) (.slice none 0 0)).put (some 48) (.int .i64 0)).put (some 49) (.int .i64 0)).put (some 50) (.int .i64 0)).put (some 51) (.int .i64 0)).put (some 52) (.int .i64 0)).put (some 53) (.pointer (some ⟨u3.heap.size, 1, none⟩))).put (some 54) (.int .i64 0)).put (some 55) (.int .i64 0)).put (some 56) (s)).put (some 57) (.pointer (some ⟨w.heap.size, 2, none⟩))).put (some 58) (.string g)).put (some 59) (.slice none 0 0)).put (some 60) (.int .i64 0)).put (some 61) (.int .i64 0)).put (some 62) (s)).put (some 63) (.pointer (some ⟨w.heap.size, 3, none⟩))).put (some 64) (.string nm)).put (some 65) (.int .i64 0)).put (some 66) (.int .i64 0)).put (some 67) (.bool false)).put (some 68) (.bool false)).put (some 69) (.int .i64 1)).put (some 70) (.int .i64 1)).put (some 71) (.bool false)).put (some 72) (.bool false)).put (some 73) (.bool false)).put (some 74) (.int .i64 1)).put (some 75) (.int .i64 1)).put (some 76) (.bool false)).put (some 77) (.bool false)).put (some 78) (.bool false)).put (some 79) (.int .i64 1)).put (some 80) (.int .i64 1)).put (some 81) (.bool false)).put (some 82) (.bool false)).put (some 83) (.bool false)).put (some 84) (.int .i64 1)).put (some 85) (.int .i64 1)).put (some 86) (.bool false)).put (some 87) (.bool false)) ∧ Kq w [(u3.heap.size, .cells #[.string { data := #[] }, .int .i64 0, .int .i64 0, .int .i64 0, .slice none 0 0] 38 (0, 0)), (w.heap.size, .cells #[v0, v1, .string g, .string nm, v4, v5, v6] 48 (0, 0))] w' ∧ NoS s w') ?_ ?_
      · refine wp_region_rem (fun v => Kq w [(u3.heap.size, .cells #[.string { data := #[] }, .int .i64 0, .int .i64 0, .int .i64 0, .slice none 0 0] 38 (0, 0)), (w.heap.size, .cells #[v0, v1, .string g, .string nm, v4, v5, v6] 48 (0, 0))] v ∧ NoS s v) (by kernel_rfl) (by kernel_rfl) (fun _ _ _ _ _ h => h.elim) ⟨hst.drew, hN.drew⟩ ?_
        apply rem_sure 0 (by kernel_rfl) rfl (wanted_none rfl)
        · intro w2 hS K hK
          go_wp2_with fail
          exact hK _ hS (Ext.refl _)
        · kernel_rfl
        · kernel_rfl
        try ((repeat rw [put_none]); (try simp only [put_some, List.setIfInBounds_toArray, List.set_cons_succ, List.set_cons_zero]))
        apply rem_sure 1 (by kernel_rfl) rfl (wanted_none rfl)
        · intro w2 hS K hK
          go_wp2_with fail
          exact hK _ hS (Ext.refl _)
        · kernel_rfl
        · kernel_rfl
        try ((repeat rw [put_none]); (try simp only [put_some, List.setIfInBounds_toArray, List.set_cons_succ, List.set_cons_zero]))
        apply rem_sure 2 (by kernel_rfl) rfl (wanted_none rfl)
        · intro w2 hS K hK
          go_wp2_with fail
          exact hK _ hS (Ext.refl _)
        · kernel_rfl
        · kernel_rfl
        try ((repeat rw [put_none]); (try simp only [put_some, List.setIfInBounds_toArray, List.set_cons_succ, List.set_cons_zero]))
        apply rem_sure 3 (by kernel_rfl) rfl (wanted_none rfl)
        · intro w2 hS K hK
          go_wp2_with fail
          exact hK _ hS (Ext.refl _)
        · kernel_rfl
        · kernel_rfl
        try ((repeat rw [put_none]); (try simp only [put_some, List.setIfInBounds_toArray, List.set_cons_succ, List.set_cons_zero]))
        apply rem_sure 4 (by kernel_rfl) rfl (wanted_none rfl)
        · intro w2 hS K hK
          go_wp2_with fail
          exact hK _ hS (Ext.refl _)
        · kernel_rfl
        · kernel_rfl
        try ((repeat rw [put_none]); (try simp only [put_some, List.setIfInBounds_toArray, List.set_cons_succ, List.set_cons_zero]))
        apply rem_sure 5 (by kernel_rfl) rfl (wanted_none rfl)
        · intro w2 hS K hK
          go_wp2_with fail
          exact hK _ hS (Ext.refl _)
        · kernel_rfl
        · kernel_rfl
        try ((repeat rw [put_none]); (try simp only [put_some, List.setIfInBounds_toArray, List.set_cons_succ, List.set_cons_zero]))
        apply rem_sure 6 (by kernel_rfl) rfl (wanted_none rfl)
        · intro w2 hS K hK
          go_wp2_with fail
          exact hK _ hS (Ext.refl _)
        · kernel_rfl
        · kernel_rfl
        try ((repeat rw [put_none]); (try simp only [put_some, List.setIfInBounds_toArray, List.set_cons_succ, List.set_cons_zero]))
        apply rem_sure 7 (by kernel_rfl) rfl (wanted_none rfl)
        · intro w2 hS K hK
          have cq : w2.cell? ⟨u3.heap.size, 1, none⟩ = some (.int .i64 0) := (cell_of_row w2 u3.heap.size 1 _ _ _ (hS.1.at_ (g := u3.heap.size) (ob := .cells #[.string { data := #[] }, .int .i64 0, .int .i64 0, .int .i64 0, .slice none 0 0] 38 (0, 0)) (by simp))).trans rfl
          go_wp2_with fail
          exact hK _ hS (Ext.refl _)
        · kernel_rfl
        · kernel_rfl
        try ((repeat rw [put_none]); (try simp only [put_some, List.setIfInBounds_toArray, List.set_cons_succ, List.set_cons_zero]))
        apply rem_sure 8 (by kernel_rfl) rfl (wanted_none rfl)
        · intro w2 hS K hK
          go_wp2_with fail
          exact hK _ hS (Ext.refl _)
        · kernel_rfl
        · kernel_rfl
        try ((repeat rw [put_none]); (try simp only [put_some, List.setIfInBounds_toArray, List.set_cons_succ, List.set_cons_zero]))
        apply rem_sure 9 (by kernel_rfl) rfl (wanted_none rfl)
        · intro w2 hS K hK
          go_wp2_with fail
          exact hK _ hS (Ext.refl _)
        · kernel_rfl
        · kernel_rfl
        try ((repeat rw [put_none]); (try simp only [put_some, List.setIfInBounds_toArray, List.set_cons_succ, List.set_cons_zero]))
        apply rem_sure 10 (by kernel_rfl) rfl (wanted_none rfl)
        · intro w2 hS K hK
          go_wp2_with fail
          exact hK _ hS (Ext.refl _)
        · kernel_rfl
        · kernel_rfl
        try ((repeat rw [put_none]); (try simp only [put_some, List.setIfInBounds_toArray, List.set_cons_succ, List.set_cons_zero]))
        apply rem_sure 11 (by kernel_rfl) rfl (wanted_none rfl)
        · intro w2 hS K hK
          have cq : w2.cell? ⟨w.heap.size, 2, none⟩ = some (.string g) := (cell_of_row w2 w.heap.size 2 _ _ _ (hS.1.at_ (g := w.heap.size) (ob := .cells #[v0, v1, .string g, .string nm, v4, v5, v6] 48 (0, 0)) (by simp))).trans rfl
          go_wp2_with fail
          exact hK _ hS (Ext.refl _)
        · kernel_rfl
        · kernel_rfl
        try ((repeat rw [put_none]); (try simp only [put_some, List.setIfInBounds_toArray, List.set_cons_succ, List.set_cons_zero]))
        apply rem_sure 12 (by kernel_rfl) rfl (wanted_none rfl)
        · intro w2 hS K hK
          go_wp2_with fail
          refine (log_no s g w2 hS.2).mono ?_
          rintro e u ⟨rfl, hb⟩
          exact hK _ ⟨hS.1.keep hb, hS.2.keep hb⟩ (Ext.of_below hb)
        · kernel_rfl
        · kernel_rfl
        try ((repeat rw [put_none]); (try simp only [put_some, List.setIfInBounds_toArray, List.set_cons_succ, List.set_cons_zero]))
        apply rem_sure 13 (by kernel_rfl) rfl (wanted_none rfl)
        · intro w2 hS K hK
          go_wp2_with fail
          exact hK _ hS (Ext.refl _)
        · kernel_rfl
        · kernel_rfl
        try ((repeat rw [put_none]); (try simp only [put_some, List.setIfInBounds_toArray, List.set_cons_succ, List.set_cons_zero]))
        apply rem_sure 14 (by kernel_rfl) rfl (wanted_none rfl)
        · intro w2 hS K hK
          go_wp2_with fail
          exact hK _ hS (Ext.refl _)
        · kernel_rfl
        · kernel_rfl
        try ((repeat rw [put_none]); (try simp only [put_some, List.setIfInBounds_toArray, List.set_cons_succ, List.set_cons_zero]))
        apply rem_sure 15 (by kernel_rfl) rfl (wanted_none rfl)
        · intro w2 hS K hK
          go_wp2_with fail
          exact hK _ hS (Ext.refl _)
        · kernel_rfl
        · kernel_rfl
        try ((repeat rw [put_none]); (try simp only [put_some, List.setIfInBounds_toArray, List.set_cons_succ, List.set_cons_zero]))
        apply rem_sure 16 (by kernel_rfl) rfl (wanted_none rfl)
        · intro w2 hS K hK
          go_wp2_with fail
          exact hK _ hS (Ext.refl _)
        · kernel_rfl
        · kernel_rfl
        try ((repeat rw [put_none]); (try simp only [put_some, List.setIfInBounds_toArray, List.set_cons_succ, List.set_cons_zero]))
        apply rem_sure 17 (by kernel_rfl) rfl (wanted_none rfl)
        · intro w2 hS K hK
          have cq : w2.cell? ⟨w.heap.size, 3, none⟩ = some (.string nm) := (cell_of_row w2 w.heap.size 3 _ _ _ (hS.1.at_ (g := w.heap.size) (ob := .cells #[v0, v1, .string g, .string nm, v4, v5, v6] 48 (0, 0)) (by simp))).trans rfl
          go_wp2_with fail
          exact hK _ hS (Ext.refl _)
        · kernel_rfl
        · kernel_rfl
        try ((repeat rw [put_none]); (try simp only [put_some, List.setIfInBounds_toArray, List.set_cons_succ, List.set_cons_zero]))
        apply rem_sure 18 (by kernel_rfl) rfl (wanted_none rfl)
        · intro w2 hS K hK
          go_wp2_with fail
          refine (waiting_no s nm w2 hS.2).mono ?_
          rintro e u ⟨rfl, hb⟩
          exact hK _ ⟨hS.1.keep hb, hS.2.keep hb⟩ (Ext.of_below hb)
        · kernel_rfl
        · kernel_rfl
        try ((repeat rw [put_none]); (try simp only [put_some, List.setIfInBounds_toArray, List.set_cons_succ, List.set_cons_zero]))
        apply rem_sure 19 (by kernel_rfl) rfl (wanted_none rfl)
        · intro w2 hS K hK
          go_wp2_with fail
          exact hK _ hS (Ext.refl _)
        · kernel_rfl
        · kernel_rfl
        try ((repeat rw [put_none]); (try simp only [put_some, List.setIfInBounds_toArray, List.set_cons_succ, List.set_cons_zero]))
        apply rem_sure 20 (by kernel_rfl) rfl (wanted_none rfl)
        · intro w2 hS K hK
          go_wp2_with fail
          exact hK _ hS (Ext.refl _)
        · kernel_rfl
        · kernel_rfl
        try ((repeat rw [put_none]); (try simp only [put_some, List.setIfInBounds_toArray, List.set_cons_succ, List.set_cons_zero]))
        apply rem_sure 21 (by kernel_rfl) rfl (wanted_none rfl)
        · intro w2 hS K hK
          go_wp2_with fail
          exact hK _ hS (Ext.refl _)
        · kernel_rfl
        · kernel_rfl
        try ((repeat rw [put_none]); (try simp only [put_some, List.setIfInBounds_toArray, List.set_cons_succ, List.set_cons_zero]))
        apply rem_sure 22 (by kernel_rfl) rfl (by kernel_rfl)
        · intro w2 hS K hK
          go_wp2_with fail
          exact hK _ hS (Ext.refl _)
        · kernel_rfl
        · kernel_rfl
        try ((repeat rw [put_none]); (try simp only [put_some, List.setIfInBounds_toArray, List.set_cons_succ, List.set_cons_zero]))
        apply rem_sure 23 (by kernel_rfl) rfl (by kernel_rfl)
        · intro w2 hS K hK
          go_wp2_with fail
          refine (num22_any _ _).mono ?_
          rintro e u ⟨rfl, hb⟩
          subst hb
          exact hK _ hS (Ext.refl _)
        · kernel_rfl
        · kernel_rfl
        try ((repeat rw [put_none]); (try simp only [put_some, List.setIfInBounds_toArray, List.set_cons_succ, List.set_cons_zero]))
        apply rem_sure 24 (by kernel_rfl) rfl (by kernel_rfl)
        · intro w2 hS K hK
          go_wp2_with fail
          exact hK _ hS (Ext.refl _)
        · kernel_rfl
        · kernel_rfl
        try ((repeat rw [put_none]); (try simp only [put_some, List.setIfInBounds_toArray, List.set_cons_succ, List.set_cons_zero]))
        apply rem_sure 25 (by kernel_rfl) rfl (wanted_none rfl)
        · intro w2 hS K hK
          go_wp2_with fail
          exact hK _ hS (Ext.refl _)
        · kernel_rfl
        · kernel_rfl
        try ((repeat rw [put_none]); (try simp only [put_some, List.setIfInBounds_toArray, List.set_cons_succ, List.set_cons_zero]))
        apply rem_sure 26 (by kernel_rfl) rfl (wanted_none rfl)
        · intro w2 hS K hK
          go_wp2_with fail
          exact hK _ hS (Ext.refl _)
        · kernel_rfl
        · kernel_rfl
        try ((repeat rw [put_none]); (try simp only [put_some, List.setIfInBounds_toArray, List.set_cons_succ, List.set_cons_zero]))
        apply rem_sure 27 (by kernel_rfl) rfl (by kernel_rfl)
        · intro w2 hS K hK
          go_wp2_with fail
          exact hK _ hS (Ext.refl _)
        · kernel_rfl
        · kernel_rfl
        try ((repeat rw [put_none]); (try simp only [put_some, List.setIfInBounds_toArray, List.set_cons_succ, List.set_cons_zero]))
        apply rem_sure 28 (by kernel_rfl) rfl (by kernel_rfl)
        · intro w2 hS K hK
          go_wp2_with fail
          refine (num22_any _ _).mono ?_
          rintro e u ⟨rfl, hb⟩
          subst hb
          exact hK _ hS (Ext.refl _)
        · kernel_rfl
        · kernel_rfl
        try ((repeat rw [put_none]); (try simp only [put_some, List.setIfInBounds_toArray, List.set_cons_succ, List.set_cons_zero]))
        apply rem_sure 29 (by kernel_rfl) rfl (by kernel_rfl)
        · intro w2 hS K hK
          go_wp2_with fail
          exact hK _ hS (Ext.refl _)
        · kernel_rfl
        · kernel_rfl
        try ((repeat rw [put_none]); (try simp only [put_some, List.setIfInBounds_toArray, List.set_cons_succ, List.set_cons_zero]))
        apply rem_sure 30 (by kernel_rfl) rfl (wanted_none rfl)
        · intro w2 hS K hK
          go_wp2_with fail
          exact hK _ hS (Ext.refl _)
        · kernel_rfl
        · kernel_rfl
        try ((repeat rw [put_none]); (try simp only [put_some, List.setIfInBounds_toArray, List.set_cons_succ, List.set_cons_zero]))
        apply rem_sure 31 (by kernel_rfl) rfl (wanted_none rfl)
        · intro w2 hS K hK
          go_wp2_with fail
          exact hK _ hS (Ext.refl _)
        · kernel_rfl
        · kernel_rfl
        try ((repeat rw [put_none]); (try simp only [put_some, List.setIfInBounds_toArray, List.set_cons_succ, List.set_cons_zero]))
        apply rem_sure 32 (by kernel_rfl) rfl (by kernel_rfl)
        · intro w2 hS K hK
          go_wp2_with fail
          exact hK _ hS (Ext.refl _)
        · kernel_rfl
        · kernel_rfl
        try ((repeat rw [put_none]); (try simp only [put_some, List.setIfInBounds_toArray, List.set_cons_succ, List.set_cons_zero]))
        apply rem_sure 33 (by kernel_rfl) rfl (by kernel_rfl)
        · intro w2 hS K hK
          go_wp2_with fail
          refine (num22_any _ _).mono ?_
          rintro e u ⟨rfl, hb⟩
          subst hb
          exact hK _ hS (Ext.refl _)
        · kernel_rfl
        · kernel_rfl
        try ((repeat rw [put_none]); (try simp only [put_some, List.setIfInBounds_toArray, List.set_cons_succ, List.set_cons_zero]))
        apply rem_sure 34 (by kernel_rfl) rfl (by kernel_rfl)
        · intro w2 hS K hK
          go_wp2_with fail
          exact hK _ hS (Ext.refl _)
        · kernel_rfl
        · kernel_rfl
        try ((repeat rw [put_none]); (try simp only [put_some, List.setIfInBounds_toArray, List.set_cons_succ, List.set_cons_zero]))
        apply rem_sure 35 (by kernel_rfl) rfl (wanted_none rfl)
        · intro w2 hS K hK
          go_wp2_with fail
          exact hK _ hS (Ext.refl _)
        · kernel_rfl
        · kernel_rfl
        try ((repeat rw [put_none]); (try simp only [put_some, List.setIfInBounds_toArray, List.set_cons_succ, List.set_cons_zero]))
        apply rem_sure 36 (by kernel_rfl) rfl (wanted_none rfl)
        · intro w2 hS K hK
          go_wp2_with fail
          exact hK _ hS (Ext.refl _)
        · kernel_rfl
        · kernel_rfl
        try ((repeat rw [put_none]); (try simp only [put_some, List.setIfInBounds_toArray, List.set_cons_succ, List.set_cons_zero]))
        apply rem_sure 37 (by kernel_rfl) rfl (by kernel_rfl)
        · intro w2 hS K hK
          go_wp2_with fail
          exact hK _ hS (Ext.refl _)
        · kernel_rfl
        · kernel_rfl
        try ((repeat rw [put_none]); (try simp only [put_some, List.setIfInBounds_toArray, List.set_cons_succ, List.set_cons_zero]))
        apply rem_sure 38 (by kernel_rfl) rfl (by kernel_rfl)
        · intro w2 hS K hK
          go_wp2_with fail
          refine (num22_any _ _).mono ?_
          rintro e u ⟨rfl, hb⟩
          subst hb
          exact hK _ hS (Ext.refl _)
        · kernel_rfl
        · kernel_rfl
        try ((repeat rw [put_none]); (try simp only [put_some, List.setIfInBounds_toArray, List.set_cons_succ, List.set_cons_zero]))
        apply rem_sure 39 (by kernel_rfl) rfl (by kernel_rfl)
        · intro w2 hS K hK
          go_wp2_with fail
          exact hK _ hS (Ext.refl _)
        · kernel_rfl
        · kernel_rfl
        try ((repeat rw [put_none]); (try simp only [put_some, List.setIfInBounds_toArray, List.set_cons_succ, List.set_cons_zero]))
        apply rem_sure 40 (by kernel_rfl) rfl (wanted_none rfl)
        · intro w2 hS K hK
          go_wp2_with fail
          exact hK _ hS (Ext.refl _)
        · kernel_rfl
        · kernel_rfl
        try ((repeat rw [put_none]); (try simp only [put_some, List.setIfInBounds_toArray, List.set_cons_succ, List.set_cons_zero]))
        refine rem_nil ?_
        intro v9 hS9 hE9
        exact ⟨rfl, hS9.1, hS9.2⟩
      rintro b' w9 ⟨rfl, hst, hN⟩
      have hst := hst.sub (bm := [(w.heap.size, .cells #[v0, v1, .string g, .string nm, v4, v5, v6] 48 (0, 0))]) (by simp)
      try ((repeat rw [put_none]); (try simp only [put_some, List.setIfInBounds_toArray, List.set_cons_succ, List.set_cons_zero]))
      have hN := hN.alloc (.cells #[.int .u8 1] 5)
      have hst := hst.alloc (.cells #[.int .u8 1] 5)
      go_wp2_with (go_at_call 9; refine (num22_any _ _).mono ?_; rintro e w' ⟨rfl, rfl⟩)
      refine (offer_no s _ _ _ hN).mono ?_
      rintro e u5 ⟨rfl, hb⟩
      have hN := hN.keep hb
      have hst := hst.keep hb
      clear hb
      go_wp2_with (go_at_call 9; refine (num22_any _ _).mono ?_; rintro e w' ⟨rfl, rfl⟩)
      refine (open_no s _ _ hN).mono ?_
      rintro e u6 ⟨rfl, hb⟩
      have hN := hN.keep hb
      have hst := hst.keep hb
      clear hb
      go_wp2_with (go_at_call 9; refine (num22_any _ _).mono ?_; rintro e w' ⟨rfl, rfl⟩)
      refine (join_no s _ _ _ hN).mono ?_
      rintro e u7 ⟨rfl, hb⟩
      have hN := hN.keep hb
      have hst := hst.keep hb
      clear hb
      go_wp2_with (go_at_call 9; refine (num22_any _ _).mono ?_; rintro e w' ⟨rfl, rfl⟩)
      refine (leave_no s _ _ _ hN).mono ?_
      rintro e u8 ⟨rfl, hb⟩
      have hN := hN.keep hb
      have hst := hst.keep hb
      clear hb
      have hst := hst.new rfl (.cells #[.map none, .map none, .map none] 57)
      have hN2 : Hid (NoS (.pointer (some ⟨u8.heap.size, 0, none⟩)) (u8.alloc (.cells #[.map none, .map none, .map none] 57))) := Lib.hid (.inr ⟨_, rfl, hst.at_ (by simp)⟩)
      have HST := Lib.hid (hst.sub (bm := [(w.heap.size, .cells #[v0, v1, .string g, .string nm, v4, v5, v6] 48 (0, 0))]) (by simp))
      clear hst hN
      go_wp2_with (go_at_call 9; refine (num22_any _ _).mono ?_; rintro e w' ⟨rfl, rfl⟩)
      go_roundw
      case rel => exact ⟨_, c + 1, rfl, by omega, rfl, hN2.out, HST.out⟩
      case measure => simp [intOf]; omega
    · obtain rfl : c = 2 := by omega
      have HB := Lib.hid hst.2
      clear hst hN
      go_wp2_with fail
      refine (knows22_yes _).mono ?_
      rintro e w8 ⟨rfl, hb8⟩
      go_wp2_with fail
      go_ret
      exact ⟨rfl, below_thru HB.out hb8⟩
end Go.Proofs.Ytiebggfpjkhlaaa
