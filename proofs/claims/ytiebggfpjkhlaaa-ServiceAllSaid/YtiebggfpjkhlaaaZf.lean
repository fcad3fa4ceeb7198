/- The walk of service.Send: a commit, to one subscriber. No condition. -/
import Derived.Test.YtiebggfpjkhlaaaZe
import Derived.WalkMore
namespace Go.Proofs.Ytiebggfpjkhlaaa
open Go Go.RowKit
open Go.ChangeMaps (setBlock heap_setBlock_same heap_setBlock_other)
set_option linter.unusedSimpArgs false
attribute [local go_sem] map_neq_some map_neq_nil
theorem infoE3 : (Try.prog.info? 33).map (fun i => (i.zero, i.size, i.bytes)) = some (some (.agg #[.int .i64 0, .int .i64 0, .slice none 0 0]), 3, 40) := by kernel_rfl
/-- A commit was sent: it waits. -/
def Sent (w : World) (b m0 m1 m2 bg : Nat) (W' : World) : Prop := ∃ br gw cw l s, Kq w [(br, rowB (.slice (some ⟨gw, 0, none⟩) 1 cw)), (m2, one sA br), (bg, grp 1 l s), (m1, one sG bg), (b, svc m0 m1 m2)] W'
/-- What the loop over the subscribers leaves. -/
def Told (w : World) (b m0 m1 m2 bg p5 : Nat) (L S E5 : Value) (W' : World) : Prop := ∃ br gw cw, Kq w [(br, rowB (.slice (some ⟨gw, 0, none⟩) 1 cw)), (m2, one sA br), (p5, .cells #[.int .i64 0, .int .i64 3, E5] 33 (0, 0)), (bg, grp 0 L S), (m1, one sG bg), (b, svc m0 m1 m2)] W'
set_option maxRecDepth 100000 in
set_option maxHeartbeats 40000000 in
theorem send_new (b m0 m1 m2 bg gs cap gb : Nat) (cur : Array Value) (x : Int) (w W : World) (hx : 0 ≤ x ∧ x < 256) (htk : cur.toList.take 1 = [Value.string sA])
    (hm : w.heap.size ≤ bg ∧ w.heap.size ≤ m2 ∧ bg ≠ m2 ∧ m1 ≠ m2 ∧ b ≠ m2 ∧ gs ≠ m2 ∧ gs ≠ bg ∧ gb ≠ bg ∧ m1 ≠ bg ∧ b ≠ bg)
    (hst : Kq w [(bg, grp 0 (.slice none 0 0) (.slice (some ⟨gs, 0, none⟩) 1 cap)), (gs, .cells cur 9 (0, 0)), (m1, one sG bg), (b, svc m0 m1 m2), (m2, .map #[] 0), (m0, .map #[] 0)] W) (hgb : W.heap[gb]? = some (.cells #[.int .u8 x] 5 (0, 0))) :
    Calls Try.prog 13 #[.pointer (some ⟨b, 0, none⟩), .string sG, entry0 gb] W fun e W' => e = .returned (.tuple #[.int .i64 0, .int .i64 0]) ∧ Sent w b m0 m1 m2 bg W' := by
  obtain ⟨i0, hi0, hz0, hz1, hz2⟩ := info_of infoE3
  have hcur0 : cur[0]? = some (.string sA) := by
    have h := congrArg (fun l => l[0]?) htk
    simpa using h
  have l_m2 := hst.lt (p := (m2, .map #[] 0)) (by simp)
  have l_bg := hst.lt (p := (bg, grp 0 (.slice none 0 0) (.slice (some ⟨gs, 0, none⟩) 1 cap))) (by simp)
  have hl_b : b < W.heap.size := hst.lt (p := (b, svc m0 m1 m2)) (by simp)
  have hl_m1 : m1 < W.heap.size := hst.lt (p := (m1, one sG bg)) (by simp)
  have l_gs : gs < W.heap.size := hst.lt (p := (gs, .cells cur 9 (0, 0))) (by simp)
  have hHM := Lib.hid hm
  have hHX := Lib.hid hx
  have hHC := Lib.hid hcur0
  have l_w : w.heap.size ≤ W.heap.size := hst.size
  have h0 := (hst.add hgb).sub (bm := [(gb, .cells #[.int .u8 x] 5 (0, 0)), (bg, grp 0 (.slice none 0 0) (.slice (some ⟨gs, 0, none⟩) 1 cap)), (gs, .cells cur 9 (0, 0)), (m1, one sG bg), (b, svc m0 m1 m2), (m2, .map #[] 0)]) (by simp)
  have h1 := h0.new rfl (.cells #[.pointer (some ⟨b, 0, none⟩)] 22)
  have h2 := h1.new (n := W.heap.size + 1) (by simp) (.cells #[.int .i64 0, .int .i64 3, .slice (some ⟨gb, 0, none⟩) 1 1] 33)
  have c3' : ((W.alloc (.cells #[.pointer (some ⟨b, 0, none⟩)] 22)).alloc (.cells #[.int .i64 0, .int .i64 3, .slice (some ⟨gb, 0, none⟩) 1 1] 33)).cell? ⟨W.heap.size, 0, none⟩ = some (.pointer (some ⟨b, 0, none⟩)) := (cell_of_row _ W.heap.size 0 _ _ _ (h2.at_ (g := W.heap.size) (ob := .cells #[.pointer (some ⟨b, 0, none⟩)] 22 (0, 0)) (by simp))).trans rfl
  have h3 := h2.new (n := W.heap.size + 2) (by simp) (.cells #[.string sG] 9)
  have hst := h3.sub (bm := [((W.heap.size + 1), .cells #[.int .i64 0, .int .i64 3, .slice (some ⟨gb, 0, none⟩) 1 1] 33 (0, 0)), (W.heap.size, .cells #[.pointer (some ⟨b, 0, none⟩)] 22 (0, 0)), (gb, .cells #[.int .u8 x] 5 (0, 0)), (bg, grp 0 (.slice none 0 0) (.slice (some ⟨gs, 0, none⟩) 1 cap)), (gs, .cells cur 9 (0, 0)), (m1, one sG bg), (b, svc m0 m1 m2), (m2, .map #[] 0)]) (by simp)
  have hmay := may_one (c := 1) (h3.at_ (g := b) (ob := svc m0 m1 m2) (by simp)) (h3.at_ (g := W.heap.size + 2) (ob := .cells #[.string sG] 9 (0, 0)) (by simp)) szG
  have c3 : (((W.alloc (.cells #[.pointer (some ⟨b, 0, none⟩)] 22)).alloc (.cells #[.int .i64 0, .int .i64 3, .slice (some ⟨gb, 0, none⟩) 1 1] 33)).alloc (.cells #[.string sG] 9)).cell? ⟨W.heap.size, 0, none⟩ = some (.pointer (some ⟨b, 0, none⟩)) := (cell_of_row _ W.heap.size 0 _ _ _ (h3.at_ (g := W.heap.size) (ob := .cells #[.pointer (some ⟨b, 0, none⟩)] 22 (0, 0)) (by simp))).trans rfl
  have c50 : (((W.alloc (.cells #[.pointer (some ⟨b, 0, none⟩)] 22)).alloc (.cells #[.int .i64 0, .int .i64 3, .slice (some ⟨gb, 0, none⟩) 1 1] 33)).alloc (.cells #[.string sG] 9)).cell? ⟨W.heap.size + 1, 0, none⟩ = some (.int .i64 0) := (cell_of_row _ (W.heap.size + 1) 0 _ _ _ (h3.at_ (g := W.heap.size + 1) (ob := .cells #[.int .i64 0, .int .i64 3, .slice (some ⟨gb, 0, none⟩) 1 1] 33 (0, 0)) (by simp))).trans rfl
  have c51 : (((W.alloc (.cells #[.pointer (some ⟨b, 0, none⟩)] 22)).alloc (.cells #[.int .i64 0, .int .i64 3, .slice (some ⟨gb, 0, none⟩) 1 1] 33)).alloc (.cells #[.string sG] 9)).cell? ⟨W.heap.size + 1, 1, none⟩ = some (.int .i64 3) := (cell_of_row _ (W.heap.size + 1) 1 _ _ _ (h3.at_ (g := W.heap.size + 1) (ob := .cells #[.int .i64 0, .int .i64 3, .slice (some ⟨gb, 0, none⟩) 1 1] 33 (0, 0)) (by simp))).trans rfl
  have c52 : (((W.alloc (.cells #[.pointer (some ⟨b, 0, none⟩)] 22)).alloc (.cells #[.int .i64 0, .int .i64 3, .slice (some ⟨gb, 0, none⟩) 1 1] 33)).alloc (.cells #[.string sG] 9)).cell? ⟨W.heap.size + 1, 2, none⟩ = some (.slice (some ⟨gb, 0, none⟩) 1 1) := (cell_of_row _ (W.heap.size + 1) 2 _ _ _ (h3.at_ (g := W.heap.size + 1) (ob := .cells #[.int .i64 0, .int .i64 3, .slice (some ⟨gb, 0, none⟩) 1 1] 33 (0, 0)) (by simp))).trans rfl
  have cb1 : (((W.alloc (.cells #[.pointer (some ⟨b, 0, none⟩)] 22)).alloc (.cells #[.int .i64 0, .int .i64 3, .slice (some ⟨gb, 0, none⟩) 1 1] 33)).alloc (.cells #[.string sG] 9)).cell? ⟨b, 1, none⟩ = some (.map (some m1)) := (cell_of_row _ b 1 _ _ _ (h3.at_ (g := b) (ob := svc m0 m1 m2) (by simp))).trans rfl
  have hr1 := h3.at_ (g := m1) (ob := one sG bg) (by simp)
  clear h0 h1 h2 h3 hgb hm hx htk hcur0
  unfold entry0
  go_enter Try.func13, Try.ntmps13
  go_wp2_with fail
  go_step3
  go_wp2_with fail
  refine hmay.mono ?_
  rintro e w' ⟨rfl, rfl⟩
  go_wp2_with fail
  refine (sized_one gb 1 _).mono ?_
  rintro e w' ⟨rfl, hw⟩
  subst hw
  go_wp2_with (first | (at_lookup; refine wpList_lookW rfl 54 9 62 _ _ rfl Try.underlying54 Try.underlying9 m1 sG rfl rfl _ 1 hr1 (.pointer none) zero_g _ (look_one sG bg rfl) (.pointer (some ⟨bg, 0, none⟩)) rfl ?_))
  clear c3 c3' c50 c51 c52 cb1 hr1 hmay
  refine wp_region_then (fun a b' w' => b' = (((((((a.put (some 50) (.pointer (some ⟨(W.heap.size + 1), 0, none⟩))).put (some 51) (.int .i64 0)).put (some 52) (.pointer (some ⟨bg, 0, none⟩))).put (some 53) (.pointer (some ⟨bg, 0, none⟩))).put (some 54) (.pointer (some ⟨bg, 0, none⟩))).put (some 55) (.int .i64 0)).put (some 56) (.bool false)) ∧ Kq w [((W.heap.size + 1), .cells #[.int .i64 0, .int .i64 3, .slice (some ⟨gb, 0, none⟩) 1 1] 33 (0, 0)), (W.heap.size, .cells #[.pointer (some ⟨b, 0, none⟩)] 22 (0, 0)), (gb, .cells #[.int .u8 x] 5 (0, 0)), (bg, grp 0 (.slice none 0 0) (.slice (some ⟨gs, 0, none⟩) 1 cap)), (gs, .cells cur 9 (0, 0)), (m1, one sG bg), (b, svc m0 m1 m2), (m2, .map #[] 0)] w') ?_ ?_
  · refine wp_region_rem (Kq w [((W.heap.size + 1), .cells #[.int .i64 0, .int .i64 3, .slice (some ⟨gb, 0, none⟩) 1 1] 33 (0, 0)), (W.heap.size, .cells #[.pointer (some ⟨b, 0, none⟩)] 22 (0, 0)), (gb, .cells #[.int .u8 x] 5 (0, 0)), (bg, grp 0 (.slice none 0 0) (.slice (some ⟨gs, 0, none⟩) 1 cap)), (gs, .cells cur 9 (0, 0)), (m1, one sG bg), (b, svc m0 m1 m2), (m2, .map #[] 0)]) (by kernel_rfl) (by kernel_rfl) (fun _ _ _ _ _ h => h.elim) hst.drew ?_
    apply rem_sure 0 (by kernel_rfl) rfl (wanted_none rfl)
    · intro w2 hS K hK
      go_wp2_with fail
      exact hK _ hS (Ext.refl _)
    · kernel_rfl
    · kernel_rfl
    try ((repeat rw [put_none]); (try simp only [put_some, List.setIfInBounds_toArray, List.set_cons_succ, List.set_cons_zero]))
    apply rem_sure 1 (by kernel_rfl) rfl (wanted_none rfl)
    · intro w2 hS K hK
      have cq : w2.cell? ⟨(W.heap.size + 1), 0, none⟩ = some (.int .i64 0) := (cell_of_row w2 (W.heap.size + 1) 0 _ _ _ (hS.at_ (g := (W.heap.size + 1)) (ob := .cells #[.int .i64 0, .int .i64 3, .slice (some ⟨gb, 0, none⟩) 1 1] 33 (0, 0)) (by simp))).trans rfl
      go_wp2_with fail
      exact hK _ hS (Ext.refl _)
    · kernel_rfl
    · kernel_rfl
    try ((repeat rw [put_none]); (try simp only [put_some, List.setIfInBounds_toArray, List.set_cons_succ, List.set_cons_zero]))
    apply rem_sure 2 (by kernel_rfl) rfl (wanted_none rfl)
    · intro w2 hS K hK
      go_wp2_with fail
      exact hK _ hS (Ext.refl _)
    · kernel_rfl
    · kernel_rfl
    try ((repeat rw [put_none]); (try simp only [put_some, List.setIfInBounds_toArray, List.set_cons_succ, List.set_cons_zero]))
    apply rem_sure 3 (by kernel_rfl) rfl (wanted_none rfl)
    · intro w2 hS K hK
      go_wp2_with fail
      exact hK _ hS (Ext.refl _)
    · kernel_rfl
    · kernel_rfl
    try ((repeat rw [put_none]); (try simp only [put_some, List.setIfInBounds_toArray, List.set_cons_succ, List.set_cons_zero]))
    apply rem_sure 4 (by kernel_rfl) rfl (wanted_none rfl)
    · intro w2 hS K hK
      go_wp2_with fail
      exact hK _ hS (Ext.refl _)
    · kernel_rfl
    · kernel_rfl
    try ((repeat rw [put_none]); (try simp only [put_some, List.setIfInBounds_toArray, List.set_cons_succ, List.set_cons_zero]))
    apply rem_sure 5 (by kernel_rfl) rfl (wanted_none rfl)
    · intro w2 hS K hK
      have cq : w2.cell? ⟨bg, 0, none⟩ = some (.int .i64 0) := (cell_of_row w2 bg 0 _ _ _ (hS.at_ (g := bg) (ob := grp 0 (.slice none 0 0) (.slice (some ⟨gs, 0, none⟩) 1 cap)) (by simp))).trans rfl
      go_wp2_with fail
      exact hK _ hS (Ext.refl _)
    · kernel_rfl
    · kernel_rfl
    try ((repeat rw [put_none]); (try simp only [put_some, List.setIfInBounds_toArray, List.set_cons_succ, List.set_cons_zero]))
    apply rem_sure 6 (by kernel_rfl) rfl (wanted_none rfl)
    · intro w2 hS K hK
      go_wp2_with fail
      exact hK _ hS (Ext.refl _)
    · kernel_rfl
    · kernel_rfl
    try ((repeat rw [put_none]); (try simp only [put_some, List.setIfInBounds_toArray, List.set_cons_succ, List.set_cons_zero]))
    refine rem_nil ?_
    intro v9 hS9 hE9
    exact ⟨rfl, hS9⟩
  rintro b' w4 ⟨rfl, hst⟩
  try ((repeat rw [put_none]); (try simp only [put_some, List.setIfInBounds_toArray, List.set_cons_succ, List.set_cons_zero]))
  have c51 : w4.cell? ⟨(W.heap.size + 1), 1, none⟩ = some (.int .i64 3) := (cell_of_row _ (W.heap.size + 1) 1 _ _ _ (hst.at_ (g := (W.heap.size + 1)) (ob := .cells #[.int .i64 0, .int .i64 3, .slice (some ⟨gb, 0, none⟩) 1 1] 33 (0, 0)) (by simp))).trans rfl
  have cq0 : w4.cell? ⟨bg, 0, none⟩ = some (.int .i64 0) := (cell_of_row _ bg 0 _ _ _ (hst.at_ (g := bg) (ob := grp 0 (.slice none 0 0) (.slice (some ⟨gs, 0, none⟩) 1 cap)) (by simp))).trans rfl
  have cq2 : w4.cell? ⟨bg, 2, none⟩ = some (.slice (some ⟨gs, 0, none⟩) 1 cap) := (cell_of_row _ bg 2 _ _ _ (hst.at_ (g := bg) (ob := grp 0 (.slice none 0 0) (.slice (some ⟨gs, 0, none⟩) 1 cap)) (by simp))).trans rfl
  have c3 : w4.cell? ⟨W.heap.size, 0, none⟩ = some (.pointer (some ⟨b, 0, none⟩)) := (cell_of_row _ W.heap.size 0 _ _ _ (hst.at_ (g := W.heap.size) (ob := .cells #[.pointer (some ⟨b, 0, none⟩)] 22 (0, 0)) (by simp))).trans rfl
  have cgs : w4.cell? ⟨gs, 0, none⟩ = some (.string sA) := (cell_of_row _ gs 0 _ _ _ (hst.at_ (g := gs) (ob := .cells cur 9 (0, 0)) (by simp))).trans hHC.out
  have hcw := cont_wait b m0 m1 m2 W.heap.size gs cap w w4 (hst.sub (by simp)) c3 cgs
  go_wp2_with fail
  refine hcw.mono ?_
  rintro e w5 ⟨rfl, hb5⟩
  have hst := hst.keep hb5
  clear hb5 hcw c51 cq0 cq2 c3 cgs
  have cq1 : w5.cell? ⟨bg, 1, none⟩ = some (.slice none 0 0) := (cell_of_row _ bg 1 _ _ _ (hst.at_ (g := bg) (ob := grp 0 (.slice none 0 0) (.slice (some ⟨gs, 0, none⟩) 1 cap)) (by simp))).trans rfl
  have c52 : w5.cell? ⟨(W.heap.size + 1), 2, none⟩ = some (.slice (some ⟨gb, 0, none⟩) 1 1) := (cell_of_row _ (W.heap.size + 1) 2 _ _ _ (hst.at_ (g := (W.heap.size + 1)) (ob := .cells #[.int .i64 0, .int .i64 3, .slice (some ⟨gb, 0, none⟩) 1 1] 33 (0, 0)) (by simp))).trans rfl
  have hbd := hst.at_ (g := gb) (ob := .cells #[.int .u8 x] 5 (0, 0)) (by simp)
  go_wp2_with fail
  refine (clone_one gb 1 x _ _ hHX.out hbd).mono ?_
  rintro e w6 ⟨gc, cc, rfl, hb6⟩
  have hst := hst.keep hb6
  clear hb6 cq1 c52 hbd
  have h5e := hst.at_ (g := (W.heap.size + 1)) (ob := .cells #[.int .i64 0, .int .i64 3, .slice (some ⟨gb, 0, none⟩) 1 1] 33 (0, 0)) (by simp)
  have c52 : w6.cell? ⟨(W.heap.size + 1), 2, none⟩ = some (.slice (some ⟨gb, 0, none⟩) 1 1) := (cell_of_row _ _ 2 _ _ _ h5e).trans rfl
  have f52 : w6.frozen? ⟨(W.heap.size + 1), 2, none⟩ = false := frozen_of_row w6 _ 2 _ _ h5e
  have l_b : b < W.heap.size ∧ m1 < W.heap.size := ⟨hl_b, hl_m1⟩
  have hst := Kq.setCell (hst.sub (bm := [(W.heap.size, .cells #[.pointer (some ⟨b, 0, none⟩)] 22 (0, 0)), (bg, grp 0 (.slice none 0 0) (.slice (some ⟨gs, 0, none⟩) 1 cap)), (gs, .cells cur 9 (0, 0)), (m1, one sG bg), (b, svc m0 m1 m2), (m2, .map #[] 0)]) (by simp)) h5e (by omega) (by simp; have := l_m2; have := l_bg; simp at *; omega) 2 (.slice (some ⟨gc, 0, none⟩) 1 cc)
  have hst : Kq w [((W.heap.size + 1), .cells #[.int .i64 0, .int .i64 3, .slice (some ⟨gc, 0, none⟩) 1 cc] 33 (0, 0)), (W.heap.size, .cells #[.pointer (some ⟨b, 0, none⟩)] 22 (0, 0)), (bg, grp 0 (.slice none 0 0) (.slice (some ⟨gs, 0, none⟩) 1 cap)), (gs, .cells cur 9 (0, 0)), (m1, one sG bg), (b, svc m0 m1 m2), (m2, .map #[] 0)] (w6.setCell ⟨(W.heap.size + 1), 2, none⟩ (.slice (some ⟨gc, 0, none⟩) 1 cc)) := hst
  go_wp2_with fail
  clear c52 f52 h5e
  have ebg := hst.at_ (g := bg) (ob := grp 0 (.slice none 0 0) (.slice (some ⟨gs, 0, none⟩) 1 cap)) (by simp)
  have hstS := hst.sub (bm := [((W.heap.size + 1), .cells #[.int .i64 0, .int .i64 3, .slice (some ⟨gc, 0, none⟩) 1 cc] 33 (0, 0)), (W.heap.size, .cells #[.pointer (some ⟨b, 0, none⟩)] 22 (0, 0)), (gs, .cells cur 9 (0, 0)), (m1, one sG bg), (b, svc m0 m1 m2), (m2, .map #[] 0)]) (by simp)
  clear hst
  refine wp_region_then (fun a b' w' => ∃ gn gl cl, b' = ((((((((((a.put (some 83) (.pointer (some ⟨bg, 0, none⟩))).put (some 84) (.pointer (some ⟨bg, 0, none⟩))).put (some 85) (.pointer (some ⟨bg, 0, none⟩))).put (some 86) (.pointer (some ⟨bg, 1, none⟩))).put (some 87) (.slice none 0 0)).put (some 88) (.agg #[.int .i64 0, .int .i64 3, .slice (some ⟨gc, 0, none⟩) 1 cc])).put (some 89) (.slice (some ⟨gn, 0, none⟩) 1 1)).put (some 90) (.slice (some ⟨gl, 0, none⟩) 1 cl)).put (some 91) (.pointer (some ⟨bg, 0, none⟩))).put (some 92) (.pointer (some ⟨bg, 1, none⟩))) ∧ Kq w [(bg, grp 0 (.slice (some ⟨gl, 0, none⟩) 1 cl) (.slice (some ⟨gs, 0, none⟩) 1 cap)), ((W.heap.size + 1), .cells #[.int .i64 0, .int .i64 3, .slice (some ⟨gc, 0, none⟩) 1 cc] 33 (0, 0)), (W.heap.size, .cells #[.pointer (some ⟨b, 0, none⟩)] 22 (0, 0)), (gs, .cells cur 9 (0, 0)), (m1, one sG bg), (b, svc m0 m1 m2), (m2, .map #[] 0)] w') ?_ ?_
  · refine wp_region_rem (Kq w [((W.heap.size + 1), .cells #[.int .i64 0, .int .i64 3, .slice (some ⟨gc, 0, none⟩) 1 cc] 33 (0, 0)), (W.heap.size, .cells #[.pointer (some ⟨b, 0, none⟩)] 22 (0, 0)), (gs, .cells cur 9 (0, 0)), (m1, one sG bg), (b, svc m0 m1 m2), (m2, .map #[] 0)]) (by kernel_rfl) (by kernel_rfl) (fun _ _ _ _ _ h => h.elim) hstS.drew ?_
    apply rem_sure 0 (by kernel_rfl) rfl (wanted_none rfl)
    · intro w2 hS K hK
      go_wp2_with fail
      exact hK _ hS (Ext.refl _)
    · kernel_rfl
    · kernel_rfl
    try ((repeat rw [put_none]); (try simp only [put_some, List.setIfInBounds_toArray, List.set_cons_succ, List.set_cons_zero]))
    apply rem_sure 1 (by kernel_rfl) rfl (wanted_none rfl)
    · intro w2 hS K hK
      go_wp2_with fail
      exact hK _ hS (Ext.refl _)
    · kernel_rfl
    · kernel_rfl
    try ((repeat rw [put_none]); (try simp only [put_some, List.setIfInBounds_toArray, List.set_cons_succ, List.set_cons_zero]))
    apply rem_sure 2 (by kernel_rfl) rfl (wanted_none rfl)
    · intro w2 hS K hK
      go_wp2_with fail
      exact hK _ hS (Ext.refl _)
    · kernel_rfl
    · kernel_rfl
    try ((repeat rw [put_none]); (try simp only [put_some, List.setIfInBounds_toArray, List.set_cons_succ, List.set_cons_zero]))
    apply rem_sure 3 (by kernel_rfl) rfl (wanted_none rfl)
    · intro w2 hS K hK
      go_wp2_with fail
      exact hK _ hS (Ext.refl _)
    · kernel_rfl
    · kernel_rfl
    try ((repeat rw [put_none]); (try simp only [put_some, List.setIfInBounds_toArray, List.set_cons_succ, List.set_cons_zero]))
    apply rem_sure 5 (by kernel_rfl) rfl (wanted_none rfl)
    · intro w2 hS K hK
      exact wp_load_row 33 _ rfl (W.heap.size + 1) rfl 33 #[.int .i64 0, .int .i64 3, .slice (some ⟨gc, 0, none⟩) 1 cc] (0, 0) _ (hS.at_ (by simp)) Try.underlying33 rfl infoE (hK _ hS (Ext.refl _))
    · kernel_rfl
    · kernel_rfl
    try ((repeat rw [put_none]); (try simp only [put_some, List.setIfInBounds_toArray, List.set_cons_succ, List.set_cons_zero]))
    refine rem_two 4 6 (by kernel_rfl) (step_of rfl (wanted_none rfl) ?_) (step_of rfl (wanted_none rfl) ?_)
    · intro v21 hS21 hE21 K hK
      have cq : v21.cell? ⟨bg, 1, none⟩ = some (.slice none 0 0) := (cell_of_row _ bg 1 _ _ _ (hE21 _ _ ebg)).trans rfl
      go_wp2_with fail
      refine hK _ _ (hS21) ?_
      clear hK K
      try ((repeat rw [put_none]); (try simp only [put_some, List.setIfInBounds_toArray, List.set_cons_succ, List.set_cons_zero]))
      refine rem_one 6 (by kernel_rfl) (step_of rfl (wanted_none rfl) ?_)
      intro v22 hS22 hE22 K hK
      go_wp2_with fail
      refine hK _ _ (hS22.alloc _) ?_
      clear hK K
      try ((repeat rw [put_none]); (try simp only [put_some, List.setIfInBounds_toArray, List.set_cons_succ, List.set_cons_zero]))
      refine rem_one 7 (by kernel_rfl) (step_of rfl (wanted_none rfl) ?_)
      intro v23 hS23 hE23 K hK
      refine wp_append_nil _ _ 35 rfl (e := 33) Try.underlying35 hi0 hz0 hz1 hz2 rfl (by omega) rfl rfl (cs := #[.int .i64 0, .int .i64 3, .slice (some ⟨gc, 0, none⟩) 1 cc]) (hE23 _ _ (alloc_at v22 _)) rfl (by simp [Value.oneCell']) (by omega) ?_
      intro gl cl cur2 u23 hgl hcur hcap htk hk23
      clear hcap htk hcur
      refine hK _ _ (hS23.keep hk23) ?_
      clear hK K
      try ((repeat rw [put_none]); (try simp only [put_some, List.setIfInBounds_toArray, List.set_cons_succ, List.set_cons_zero]))
      apply rem_sure 8 (by kernel_rfl) rfl (wanted_none rfl)
      · intro w2 hS K hK
        go_wp2_with fail
        exact hK _ hS (Ext.refl _)
      · kernel_rfl
      · kernel_rfl
      try ((repeat rw [put_none]); (try simp only [put_some, List.setIfInBounds_toArray, List.set_cons_succ, List.set_cons_zero]))
      apply rem_sure 9 (by kernel_rfl) rfl (wanted_none rfl)
      · intro w2 hS K hK
        go_wp2_with fail
        exact hK _ hS (Ext.refl _)
      · kernel_rfl
      · kernel_rfl
      try ((repeat rw [put_none]); (try simp only [put_some, List.setIfInBounds_toArray, List.set_cons_succ, List.set_cons_zero]))
      refine rem_one 10 (by kernel_rfl) (step_of rfl (wanted_none rfl) ?_)
      intro v24 hS24 hE24 K hK
      have hbg := (hE24 _ _ (blk_stay hk23 (hE23 _ _ (blk_stay ((Below.refl _ _).alloc (Nat.le_refl _) _) (hE22 _ _ (hE21 _ _ ebg))))))
      have cq : v24.cell? ⟨bg, 1, none⟩ = some (.slice none 0 0) := (cell_of_row _ bg 1 _ _ _ hbg).trans rfl
      have fq : v24.frozen? ⟨bg, 1, none⟩ = false := frozen_of_row v24 bg 1 _ _ hbg
      have hfin := Lib.hid (Kq.setCell hS24 hbg hHM.out.1 (by simp; have := hHM.out; have := l_bg; simp at *; omega) 1 (.slice (some ⟨gl, 0, none⟩) 1 cl))
      clear hbg
      go_wp2_with fail
      refine hK _ _ (hfin.out.sub (fun _ h => List.mem_cons_of_mem _ h)) ?_
      clear hK K
      try ((repeat rw [put_none]); (try simp only [put_some, List.setIfInBounds_toArray, List.set_cons_succ, List.set_cons_zero]))
      refine rem_nil ?_
      intro v9 hS9 hE9
      exact ⟨v22.heap.size, gl, cl, rfl, hS9.add (hE9 _ _ ((hfin.out).at_ (g := bg) (ob := grp 0 (.slice (some ⟨gl, 0, none⟩) 1 cl) (.slice (some ⟨gs, 0, none⟩) 1 cap)) (List.mem_cons_self ..)))⟩
    · intro v25 hS25 hE25 K hK
      go_wp2_with fail
      refine hK _ _ (hS25.alloc _) ?_
      clear hK K
      try ((repeat rw [put_none]); (try simp only [put_some, List.setIfInBounds_toArray, List.set_cons_succ, List.set_cons_zero]))
      refine rem_one 4 (by kernel_rfl) (step_of rfl (wanted_none rfl) ?_)
      intro v26 hS26 hE26 K hK
      have cq : v26.cell? ⟨bg, 1, none⟩ = some (.slice none 0 0) := (cell_of_row _ bg 1 _ _ _ (hE26 _ _ (blk_stay ((Below.refl _ _).alloc (Nat.le_refl _) _) (hE25 _ _ ebg)))).trans rfl
      go_wp2_with fail
      refine hK _ _ (hS26) ?_
      clear hK K
      try ((repeat rw [put_none]); (try simp only [put_some, List.setIfInBounds_toArray, List.set_cons_succ, List.set_cons_zero]))
      refine rem_one 7 (by kernel_rfl) (step_of rfl (wanted_none rfl) ?_)
      intro v27 hS27 hE27 K hK
      refine wp_append_nil _ _ 35 rfl (e := 33) Try.underlying35 hi0 hz0 hz1 hz2 rfl (by omega) rfl rfl (cs := #[.int .i64 0, .int .i64 3, .slice (some ⟨gc, 0, none⟩) 1 cc]) (hE27 _ _ (hE26 _ _ (alloc_at v25 _))) rfl (by simp [Value.oneCell']) (by omega) ?_
      intro gl cl cur2 u27 hgl hcur hcap htk hk27
      clear hcap htk hcur
      refine hK _ _ (hS27.keep hk27) ?_
      clear hK K
      try ((repeat rw [put_none]); (try simp only [put_some, List.setIfInBounds_toArray, List.set_cons_succ, List.set_cons_zero]))
      apply rem_sure 8 (by kernel_rfl) rfl (wanted_none rfl)
      · intro w2 hS K hK
        go_wp2_with fail
        exact hK _ hS (Ext.refl _)
      · kernel_rfl
      · kernel_rfl
      try ((repeat rw [put_none]); (try simp only [put_some, List.setIfInBounds_toArray, List.set_cons_succ, List.set_cons_zero]))
      apply rem_sure 9 (by kernel_rfl) rfl (wanted_none rfl)
      · intro w2 hS K hK
        go_wp2_with fail
        exact hK _ hS (Ext.refl _)
      · kernel_rfl
      · kernel_rfl
      try ((repeat rw [put_none]); (try simp only [put_some, List.setIfInBounds_toArray, List.set_cons_succ, List.set_cons_zero]))
      refine rem_one 10 (by kernel_rfl) (step_of rfl (wanted_none rfl) ?_)
      intro v28 hS28 hE28 K hK
      have hbg := (hE28 _ _ (blk_stay hk27 (hE27 _ _ (hE26 _ _ (blk_stay ((Below.refl _ _).alloc (Nat.le_refl _) _) (hE25 _ _ ebg))))))
      have cq : v28.cell? ⟨bg, 1, none⟩ = some (.slice none 0 0) := (cell_of_row _ bg 1 _ _ _ hbg).trans rfl
      have fq : v28.frozen? ⟨bg, 1, none⟩ = false := frozen_of_row v28 bg 1 _ _ hbg
      have hfin := Lib.hid (Kq.setCell hS28 hbg hHM.out.1 (by simp; have := hHM.out; have := l_bg; simp at *; omega) 1 (.slice (some ⟨gl, 0, none⟩) 1 cl))
      clear hbg
      go_wp2_with fail
      refine hK _ _ (hfin.out.sub (fun _ h => List.mem_cons_of_mem _ h)) ?_
      clear hK K
      try ((repeat rw [put_none]); (try simp only [put_some, List.setIfInBounds_toArray, List.set_cons_succ, List.set_cons_zero]))
      refine rem_nil ?_
      intro v9 hS9 hE9
      exact ⟨v25.heap.size, gl, cl, rfl, hS9.add (hE9 _ _ ((hfin.out).at_ (g := bg) (ob := grp 0 (.slice (some ⟨gl, 0, none⟩) 1 cl) (.slice (some ⟨gs, 0, none⟩) 1 cap)) (List.mem_cons_self ..)))⟩
  rintro b' w7 ⟨gn, gl, cl, rfl, hst⟩
  clear ebg hstS
  try ((repeat rw [put_none]); (try simp only [put_some, List.setIfInBounds_toArray, List.set_cons_succ, List.set_cons_zero]))
  have cq2 : w7.cell? ⟨bg, 2, none⟩ = some (.slice (some ⟨gs, 0, none⟩) 1 cap) := (cell_of_row _ bg 2 _ _ _ (hst.at_ (g := bg) (ob := grp 0 (.slice (some ⟨gl, 0, none⟩) 1 cl) (.slice (some ⟨gs, 0, none⟩) 1 cap)) (by simp))).trans rfl
  have cgs : w7.cell? ⟨gs, 0, none⟩ = some (.string sA) := (cell_of_row _ gs 0 _ _ _ (hst.at_ (g := gs) (ob := .cells cur 9 (0, 0)) (by simp))).trans hHC.out
  have em2 := hst.at_ (g := m2) (ob := .map #[] 0) (by simp)
  have hSt := hst.sub (bm := [(bg, grp 0 (.slice (some ⟨gl, 0, none⟩) 1 cl) (.slice (some ⟨gs, 0, none⟩) 1 cap)), ((W.heap.size + 1), .cells #[.int .i64 0, .int .i64 3, .slice (some ⟨gc, 0, none⟩) 1 cc] 33 (0, 0)), (W.heap.size, .cells #[.pointer (some ⟨b, 0, none⟩)] 22 (0, 0)), (m1, one sG bg), (b, svc m0 m1 m2)]) (by simp)
  have hneS : ∀ p ∈ ([(bg, grp 0 (.slice (some ⟨gl, 0, none⟩) 1 cl) (.slice (some ⟨gs, 0, none⟩) 1 cap)), ((W.heap.size + 1), .cells #[.int .i64 0, .int .i64 3, .slice (some ⟨gc, 0, none⟩) 1 cc] 33 (0, 0)), (W.heap.size, .cells #[.pointer (some ⟨b, 0, none⟩)] 22 (0, 0)), (m1, one sG bg), (b, svc m0 m1 m2)] : List (Nat × Obj)), p.1 ≠ m2 := by
    have := hHM.out
    have : m2 < W.heap.size := l_m2
    simp
    omega
  have HNS := Lib.hid hneS
  have HST := Lib.hid hSt
  clear hneS hSt hst
  go_wp2_with fail
  go_loopw [98] (fun i wr => (i = .int .i64 0 ∧ wr = w7) ∨ (i = .int .i64 1 ∧ Told w b m0 m1 m2 bg (W.heap.size + 1) (.slice (some ⟨gl, 0, none⟩) 1 cl) (.slice (some ⟨gs, 0, none⟩) 1 cap) (.slice (some ⟨gc, 0, none⟩) 1 cc) wr)) (fun i _ => (1 - intOf i).toNat)
  case atStart => exact .inl ⟨rfl, rfl⟩
  case round =>
    rcases hrel with ⟨rfl, rfl⟩ | ⟨rfl, hT⟩
    · go_wp2_with fail
      refine wp_region_then (fun a b' w' => ∃ (vv : Value) (br gw cw : Nat), b' = (((((((((((a.put (some 102) (.pointer (some ⟨b, 0, none⟩))).put (some 103) (.pointer (some ⟨b, 0, none⟩))).put (some 104) (.pointer (some ⟨b, 2, none⟩))).put (some 105) (.map (some m2))).put (some 106) (.string sA)).put (some 107) (.pointer (some ⟨br, 0, none⟩))).put (some 108) (.string sG)).put (some 109) (.int .i64 0)).put (some 110) (.agg #[.int .i64 0, .int .i64 3, .slice (some ⟨gc, 0, none⟩) 1 cc])).put (some 111) (.agg #[.string sG, .int .i64 0, .int .i64 0, .int .i64 3, .slice (some ⟨gc, 0, none⟩) 1 cc])).put (some 112) (vv)) ∧ Kq w [(br, rowB (.slice (some ⟨gw, 0, none⟩) 1 cw)), (m2, one sA br), (bg, grp 0 (.slice (some ⟨gl, 0, none⟩) 1 cl) (.slice (some ⟨gs, 0, none⟩) 1 cap)), ((W.heap.size + 1), .cells #[.int .i64 0, .int .i64 3, .slice (some ⟨gc, 0, none⟩) 1 cc] 33 (0, 0)), (W.heap.size, .cells #[.pointer (some ⟨b, 0, none⟩)] 22 (0, 0)), (m1, one sG bg), (b, svc m0 m1 m2)] w') ?_ ?_
      · refine wp_region_rem (Kq w [(bg, grp 0 (.slice (some ⟨gl, 0, none⟩) 1 cl) (.slice (some ⟨gs, 0, none⟩) 1 cap)), ((W.heap.size + 1), .cells #[.int .i64 0, .int .i64 3, .slice (some ⟨gc, 0, none⟩) 1 cc] 33 (0, 0)), (W.heap.size, .cells #[.pointer (some ⟨b, 0, none⟩)] 22 (0, 0)), (m1, one sG bg), (b, svc m0 m1 m2)]) (by kernel_rfl) (by kernel_rfl) (fun _ _ _ _ _ h => h.elim) HST.out.drew ?_
        apply rem_sure 0 (by kernel_rfl) rfl (wanted_none rfl)
        · intro w2 hS K hK
          have cq : w2.cell? ⟨W.heap.size, 0, none⟩ = some (.pointer (some ⟨b, 0, none⟩)) := (cell_of_row w2 W.heap.size 0 _ _ _ (hS.at_ (g := W.heap.size) (ob := .cells #[.pointer (some ⟨b, 0, none⟩)] 22 (0, 0)) (by simp))).trans rfl
          go_wp2_with fail
          exact hK _ hS (Ext.refl _)
        · kernel_rfl
        · kernel_rfl
        try ((repeat rw [put_none]); (try simp only [put_some, List.setIfInBounds_toArray, List.set_cons_succ, List.set_cons_zero]))
        apply rem_sure 1 (by kernel_rfl) rfl (wanted_none rfl)
        · intro w2 hS K hK
          go_wp2_with fail
          exact hK _ hS (Ext.refl _)
        · kernel_rfl
        · kernel_rfl
        try ((repeat rw [put_none]); (try simp only [put_some, List.setIfInBounds_toArray, List.set_cons_succ, List.set_cons_zero]))
        apply rem_sure 2 (by kernel_rfl) rfl (wanted_none rfl)
        · intro w2 hS K hK
          go_wp2_with fail
          exact hK _ hS (Ext.refl _)
        · kernel_rfl
        · kernel_rfl
        try ((repeat rw [put_none]); (try simp only [put_some, List.setIfInBounds_toArray, List.set_cons_succ, List.set_cons_zero]))
        apply rem_sure 3 (by kernel_rfl) rfl (wanted_none rfl)
        · intro w2 hS K hK
          have cq : w2.cell? ⟨b, 2, none⟩ = some (.map (some m2)) := (cell_of_row w2 b 2 _ _ _ (hS.at_ (g := b) (ob := svc m0 m1 m2) (by simp))).trans rfl
          go_wp2_with fail
          exact hK _ hS (Ext.refl _)
        · kernel_rfl
        · kernel_rfl
        try ((repeat rw [put_none]); (try simp only [put_some, List.setIfInBounds_toArray, List.set_cons_succ, List.set_cons_zero]))
        apply rem_sure 4 (by kernel_rfl) rfl (wanted_none rfl)
        · intro w2 hS K hK
          go_wp2_with fail
          exact hK _ hS (Ext.refl _)
        · kernel_rfl
        · kernel_rfl
        try ((repeat rw [put_none]); (try simp only [put_some, List.setIfInBounds_toArray, List.set_cons_succ, List.set_cons_zero]))
        apply rem_sure 6 (by kernel_rfl) rfl (wanted_none rfl)
        · intro w2 hS K hK
          go_wp2_with fail
          exact hK _ hS (Ext.refl _)
        · kernel_rfl
        · kernel_rfl
        try ((repeat rw [put_none]); (try simp only [put_some, List.setIfInBounds_toArray, List.set_cons_succ, List.set_cons_zero]))
        apply rem_sure 7 (by kernel_rfl) rfl (wanted_none rfl)
        · intro w2 hS K hK
          go_wp2_with fail
          exact hK _ hS (Ext.refl _)
        · kernel_rfl
        · kernel_rfl
        try ((repeat rw [put_none]); (try simp only [put_some, List.setIfInBounds_toArray, List.set_cons_succ, List.set_cons_zero]))
        apply rem_sure 8 (by kernel_rfl) rfl (wanted_none rfl)
        · intro w2 hS K hK
          exact wp_load_row 33 _ rfl (W.heap.size + 1) rfl 33 #[.int .i64 0, .int .i64 3, .slice (some ⟨gc, 0, none⟩) 1 cc] (0, 0) _ (hS.at_ (by simp)) Try.underlying33 rfl infoE (hK _ hS (Ext.refl _))
        · kernel_rfl
        · kernel_rfl
        try ((repeat rw [put_none]); (try simp only [put_some, List.setIfInBounds_toArray, List.set_cons_succ, List.set_cons_zero]))
        apply rem_sure 9 (by kernel_rfl) rfl (wanted_none rfl)
        · intro w2 hS K hK
          go_wp2_with fail
          exact hK _ hS (Ext.refl _)
        · kernel_rfl
        · kernel_rfl
        try ((repeat rw [put_none]); (try simp only [put_some, List.setIfInBounds_toArray, List.set_cons_succ, List.set_cons_zero]))
        refine rem_one 5 (by kernel_rfl) (step_of rfl (wanted_none rfl) ?_)
        intro v21 hS21 hE21 K hK
        have e5 := (hE21 _ _ em2)
        have lv := hS21.size
        have lm : m2 < v21.heap.size := (Array.getElem?_eq_some_iff.1 e5).1
        have lts : ∀ p ∈ ([(bg, grp 0 (.slice (some ⟨gl, 0, none⟩) 1 cl) (.slice (some ⟨gs, 0, none⟩) 1 cap)), ((W.heap.size + 1), .cells #[.int .i64 0, .int .i64 3, .slice (some ⟨gc, 0, none⟩) 1 cc] 33 (0, 0)), (W.heap.size, .cells #[.pointer (some ⟨b, 0, none⟩)] 22 (0, 0)), (m1, one sG bg), (b, svc m0 m1 m2)] : List (Nat × Obj)), p.1 < v21.heap.size := fun p hp => hS21.lt hp
        have HL := Lib.hid lts
        have hof := of_new m2 w v21 [(bg, grp 0 (.slice (some ⟨gl, 0, none⟩) 1 cl) (.slice (some ⟨gs, 0, none⟩) 1 cap)), ((W.heap.size + 1), .cells #[.int .i64 0, .int .i64 3, .slice (some ⟨gc, 0, none⟩) 1 cc] 33 (0, 0)), (W.heap.size, .cells #[.pointer (some ⟨b, 0, none⟩)] 22 (0, 0)), (m1, one sG bg), (b, svc m0 m1 m2)] hHM.out.2.1 HNS.out (hS21.add e5)
        clear lts e5
        go_wp2_with fail
        refine hof.mono ?_
        rintro e u21 ⟨rfl, hk⟩
        clear hof
        have hk5 := hk
        refine hK _ _ (hk5.sub (fun _ h => List.mem_cons_of_mem _ (List.mem_cons_of_mem _ h))) ?_
        clear hK K
        try ((repeat rw [put_none]); (try simp only [put_some, List.setIfInBounds_toArray, List.set_cons_succ, List.set_cons_zero]))
        refine rem_one 10 (by kernel_rfl) (step_of rfl (wanted_none rfl) ?_)
        intro v22 hS22 hE22 K hK
        have em := (hE22 _ _ (hk5.at_ (g := m2) (ob := one sA v21.heap.size) (List.mem_cons_self ..)))
        have eb := (hE22 _ _ (hk5.at_ (g := v21.heap.size) (ob := rowB (.slice none 0 0)) (List.mem_cons_of_mem _ (List.mem_cons_self ..))))
        have hput := put_new v21.heap.size (.string sG) (.int .i64 0) (.int .i64 0) (.int .i64 3) (.slice (some ⟨gc, 0, none⟩) 1 cc) (by simp [Value.oneCell']) w v22 ((m2, one sA v21.heap.size) :: [(bg, grp 0 (.slice (some ⟨gl, 0, none⟩) 1 cl) (.slice (some ⟨gs, 0, none⟩) 1 cap)), ((W.heap.size + 1), .cells #[.int .i64 0, .int .i64 3, .slice (some ⟨gc, 0, none⟩) 1 cc] 33 (0, 0)), (W.heap.size, .cells #[.pointer (some ⟨b, 0, none⟩)] 22 (0, 0)), (m1, one sG bg), (b, svc m0 m1 m2)]) lv (fun p hp => by
          rcases List.mem_cons.1 hp with rfl | hp
          · exact Nat.ne_of_lt lm
          · exact Nat.ne_of_lt (HL.out p hp)) ((hS22.add em).add eb)
        clear em eb
        go_wp2_with fail
        refine hput.mono ?_
        rintro e u22 ⟨⟨vv, rfl⟩, gw, cw, hk6⟩
        clear hput
        refine hK _ _ (hk6.sub (fun _ h => List.mem_cons_of_mem _ (List.mem_cons_of_mem _ h))) ?_
        clear hK K
        try ((repeat rw [put_none]); (try simp only [put_some, List.setIfInBounds_toArray, List.set_cons_succ, List.set_cons_zero]))
        refine rem_nil ?_
        intro v9 hS9 hE9
        exact ⟨vv, v21.heap.size, gw, cw, rfl, (hS9.add (hE9 _ _ (hk6.at_ (g := m2) (ob := one sA v21.heap.size) (List.mem_cons_of_mem _ (List.mem_cons_self ..))))).add (hE9 _ _ (hk6.at_ (g := v21.heap.size) (ob := rowB (.slice (some ⟨gw, 0, none⟩) 1 cw)) (List.mem_cons_self ..)))⟩
      rintro b' w8 ⟨vv, br, gw, cw, rfl, hk⟩
      have HT : Hid (Told w b m0 m1 m2 bg (W.heap.size + 1) (.slice (some ⟨gl, 0, none⟩) 1 cl) (.slice (some ⟨gs, 0, none⟩) 1 cap) (.slice (some ⟨gc, 0, none⟩) 1 cc) w8) := Lib.hid ⟨br, gw, cw, hk.sub (by simp)⟩
      clear hk
      try ((repeat rw [put_none]); (try simp only [put_some, List.setIfInBounds_toArray, List.set_cons_succ, List.set_cons_zero]))
      go_wp2_with fail
      go_roundw
      case rel => exact .inr ⟨rfl, HT.out⟩
      case measure => simp [intOf]
    · obtain ⟨br, gw, cw, hst⟩ := hT
      have c51 : wr.cell? ⟨(W.heap.size + 1), 1, none⟩ = some (.int .i64 3) := (cell_of_row _ (W.heap.size + 1) 1 _ _ _ (hst.at_ (g := (W.heap.size + 1)) (ob := .cells #[.int .i64 0, .int .i64 3, .slice (some ⟨gc, 0, none⟩) 1 cc] 33 (0, 0)) (by simp))).trans rfl
      have cq0 : wr.cell? ⟨bg, 0, none⟩ = some (.int .i64 0) := (cell_of_row _ bg 0 _ _ _ (hst.at_ (g := bg) (ob := grp 0 (.slice (some ⟨gl, 0, none⟩) 1 cl) (.slice (some ⟨gs, 0, none⟩) 1 cap)) (by simp))).trans rfl
      have hbg := hst.at_ (g := bg) (ob := grp 0 (.slice (some ⟨gl, 0, none⟩) 1 cl) (.slice (some ⟨gs, 0, none⟩) 1 cap)) (by simp)
      have lbr : br ≠ bg := by
        rintro rfl
        have h1 := hst.at_ (g := br) (ob := rowB (.slice (some ⟨gw, 0, none⟩) 1 cw)) (by simp)
        rw [hbg] at h1
        cases h1
      have fq0 : wr.frozen? ⟨bg, 0, none⟩ = false := frozen_of_row wr bg 0 _ _ hbg
      have hfin := Kq.setCell (hst.sub (bm := [(br, rowB (.slice (some ⟨gw, 0, none⟩) 1 cw)), (m2, one sA br), (m1, one sG bg), (b, svc m0 m1 m2)]) (by simp)) hbg hHM.out.1 (by have := hHM.out; simp; omega) 0 (.int .i64 1)
      have HF : Hid (Sent w b m0 m1 m2 bg (wr.setCell ⟨bg, 0, none⟩ (.int .i64 1))) := Lib.hid ⟨br, gw, cw, .slice (some ⟨gl, 0, none⟩) 1 cl, .slice (some ⟨gs, 0, none⟩) 1 cap, hfin.sub (bm := [(br, rowB (.slice (some ⟨gw, 0, none⟩) 1 cw)), (m2, one sA br), (bg, grp 1 (.slice (some ⟨gl, 0, none⟩) 1 cl) (.slice (some ⟨gs, 0, none⟩) 1 cap)), (m1, one sG bg), (b, svc m0 m1 m2)]) (by simp [grp])⟩
      clear hst hbg lbr hfin cq2 cgs em2
      go_wp2_with fail
      go_step3
      go_wp2_with fail
      rw [Exit.noGoto_ret]
      go_ret2
      exact ⟨rfl, HF.out⟩
end Go.Proofs.Ytiebggfpjkhlaaa
