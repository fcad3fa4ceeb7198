/- service.Send at any group that is known. No condition. (UNDER ((W.alloc (.cells #[.pointer (some ⟨b, 0, none⟩)] 22)).alloc (.cells #[.int .i64 ep, .int .i64 kd, .slice q n c] 33))Y) -/
import Derived.Test.YtiebggfpjkhlaaaYo
import Derived.ScopeJumps
namespace Go.Proofs.Ytiebggfpjkhlaaa
open Go Go.RowKit
set_option linter.unusedSimpArgs false
attribute [local go_sem] map_neq_some map_neq_nil
set_option maxRecDepth 100000 in
set_option maxHeartbeats 40000000 in
theorem send_over (B b m0 m1 m2 bg clock n c nl : Nat) (es : Array MapEntry) (E : List (ByteArray × Nat)) (ep kd : Int) (vlog vsubs : Value) (xl : List Value) (nm : List ByteArray) (L : List WRow) (q : Option Addr) (l : List Int) (s : ByteArray) (hs : 1 ≤ s.size ∧ s.size ≤ 255) (W : World)
    (hB : B ≤ W.heap.size) (hb : W.heap[b]? = some (svc m0 m1 m2)) (hm : W.heap[m1]? = some (.map es clock)) (hE : MapIs es E) (hl : look E s = some bg) (hg : W.heap[bg]? = some (grp ep vlog vsubs))
    (hlog : W.ownsRow B 33 3 vlog nl xl) (hsub : W.ownsRow B 9 1 vsubs nm.length (nm.map Value.string)) (hk : nm.length ≤ 16) (hsz : ∀ t ∈ nm, 1 ≤ t.size ∧ t.size ≤ 255)
    (hR : WRep B m2 L W) (hep : 0 ≤ ep ∧ ep < 4294967296) (hkd : 1 ≤ kd ∧ kd ≤ 3) (hx : Bs W q n l) (hn : 1 ≤ n ∧ n ≤ 65536) (hnl : nl ≤ 2000000000000) (k3 : kd = 3) (hov : ep + 1 ≥ 4294967296) :
    Calls Try.prog 13 #[.pointer (some ⟨b, 0, none⟩), .string s, .agg #[.int .i64 ep, .int .i64 kd, .slice q n c]] W (fun e W' => e = .returned (.tuple #[.int .i64 0, .int .i64 65]) ∧ Below W.heap.size W W') := by
  have K3 := Lib.hid k3
  clear k3
  obtain ⟨pp, cap, rfl⟩ := own_any hsub
  have d1 : decide (ep < 0) = false := by simp; omega
  have d2 : decide (ep ≥ 4294967296) = false := by simp; omega
  have d3 : decide (kd < 1) = false := by simp; omega
  have d4 : decide (kd > 3) = false := by simp; omega
  obtain ⟨y, hy, hv, _⟩ := find_names s es.toList E 0 hE
  rw [hl] at hv
  have hv : lookV (.pointer none) y = .pointer (some ⟨bg, 0, none⟩) := hv
  have hself : Kq W [(bg, grp ep vlog (.slice pp nm.length cap)), (m1, .map es clock), (b, svc m0 m1 m2)] W := ⟨by simp; exact ⟨hg, hm, hb⟩, Below.refl _ _⟩
  have h1 := hself.new rfl (.cells #[.pointer (some ⟨b, 0, none⟩)] 22)
  have h2 := h1.new (n := W.heap.size + 1) (by simp) (.cells #[.int .i64 ep, .int .i64 kd, .slice q n c] 33)
  have c3' : ((W.alloc (.cells #[.pointer (some ⟨b, 0, none⟩)] 22)).alloc (.cells #[.int .i64 ep, .int .i64 kd, .slice q n c] 33)).cell? ⟨W.heap.size, 0, none⟩ = some (.pointer (some ⟨b, 0, none⟩)) := (cell_of_row _ W.heap.size 0 _ _ _ (h2.at_ (g := W.heap.size) (ob := .cells #[.pointer (some ⟨b, 0, none⟩)] 22 (0, 0)) (by simp))).trans rfl
  have h3 := h2.new (n := W.heap.size + 2) (by simp) (.cells #[.string s] 9)
  have hst := h3.sub (bm := [((W.heap.size + 1), .cells #[.int .i64 ep, .int .i64 kd, .slice q n c] 33 (0, 0)), (W.heap.size, .cells #[.pointer (some ⟨b, 0, none⟩)] 22 (0, 0)), (bg, grp ep vlog (.slice pp nm.length cap)), (m1, .map es clock), (b, svc m0 m1 m2)]) (by simp)
  have hmay := may_one (c := 1) (h3.at_ (g := b) (ob := svc m0 m1 m2) (by simp)) (h3.at_ (g := W.heap.size + 2) (ob := .cells #[.string s] 9 (0, 0)) (by simp)) hs
  have c3 : (((W.alloc (.cells #[.pointer (some ⟨b, 0, none⟩)] 22)).alloc (.cells #[.int .i64 ep, .int .i64 kd, .slice q n c] 33)).alloc (.cells #[.string s] 9)).cell? ⟨W.heap.size, 0, none⟩ = some (.pointer (some ⟨b, 0, none⟩)) := (cell_of_row _ W.heap.size 0 _ _ _ (h3.at_ (g := W.heap.size) (ob := .cells #[.pointer (some ⟨b, 0, none⟩)] 22 (0, 0)) (by simp))).trans rfl
  have c50 : (((W.alloc (.cells #[.pointer (some ⟨b, 0, none⟩)] 22)).alloc (.cells #[.int .i64 ep, .int .i64 kd, .slice q n c] 33)).alloc (.cells #[.string s] 9)).cell? ⟨W.heap.size + 1, 0, none⟩ = some (.int .i64 ep) := (cell_of_row _ (W.heap.size + 1) 0 _ _ _ (h3.at_ (g := W.heap.size + 1) (ob := .cells #[.int .i64 ep, .int .i64 kd, .slice q n c] 33 (0, 0)) (by simp))).trans rfl
  have c51 : (((W.alloc (.cells #[.pointer (some ⟨b, 0, none⟩)] 22)).alloc (.cells #[.int .i64 ep, .int .i64 kd, .slice q n c] 33)).alloc (.cells #[.string s] 9)).cell? ⟨W.heap.size + 1, 1, none⟩ = some (.int .i64 kd) := (cell_of_row _ (W.heap.size + 1) 1 _ _ _ (h3.at_ (g := W.heap.size + 1) (ob := .cells #[.int .i64 ep, .int .i64 kd, .slice q n c] 33 (0, 0)) (by simp))).trans rfl
  have c52 : (((W.alloc (.cells #[.pointer (some ⟨b, 0, none⟩)] 22)).alloc (.cells #[.int .i64 ep, .int .i64 kd, .slice q n c] 33)).alloc (.cells #[.string s] 9)).cell? ⟨W.heap.size + 1, 2, none⟩ = some (.slice q n c) := (cell_of_row _ (W.heap.size + 1) 2 _ _ _ (h3.at_ (g := W.heap.size + 1) (ob := .cells #[.int .i64 ep, .int .i64 kd, .slice q n c] 33 (0, 0)) (by simp))).trans rfl
  have cb1 : (((W.alloc (.cells #[.pointer (some ⟨b, 0, none⟩)] 22)).alloc (.cells #[.int .i64 ep, .int .i64 kd, .slice q n c] 33)).alloc (.cells #[.string s] 9)).cell? ⟨b, 1, none⟩ = some (.map (some m1)) := (cell_of_row _ b 1 _ _ _ (h3.at_ (g := b) (ob := svc m0 m1 m2) (by simp))).trans rfl
  have hr1 := h3.at_ (g := m1) (ob := .map es clock) (by simp)
  have hbel := h3.2
  have HV := Lib.hid hv
  have HY := Lib.hid hy
  have HEP := Lib.hid hep
  have HKD := Lib.hid hkd
  have HR := Lib.hid (hR.keep hbel)
  have HX := Lib.hid (hx.keep hbel)
  have HLG := Lib.hid (own_ext hlog (fun g hg => hbel.block g (hlog.lt g hg).2))
  have HSB := Lib.hid (own_ext hsub (fun g hg => hbel.block g (hsub.lt g hg).2))
  have HSZ := Lib.hid hsz
  have HNN := Lib.hid hn
  clear h1 h2 h3 hself hv hy hE hl hb hm hg hlog hsub hR hx hsz hep hkd hn
  go_enter Try.func13, Try.ntmps13
  go_wp2_with fail
  refine wp_scope_fwd 0 rfl ?_
  go_wp2_with fail
  refine hmay.mono ?_
  rintro e w' ⟨rfl, rfl⟩
  go_wp2_with fail
  refine (sized_any q n c HNN.out _).mono ?_
  rintro e w' ⟨rfl, hw⟩
  subst hw
  go_wp2_with (first | (at_lookup; refine wpList_lookW rfl 54 9 62 _ _ rfl Try.underlying54 Try.underlying9 m1 s rfl rfl es clock hr1 (.pointer none) zero_g y HY.out _ HV.out ?_))
  clear c3 c3' c50 c51 c52 cb1 hr1 hmay
  have _ := hB
  have _ := hnl
  refine wp_region_then (fun a b' w' => b' = (((((((a.put (some 50) (.pointer (some ⟨(W.heap.size + 1), 0, none⟩))).put (some 51) (.int .i64 ep)).put (some 52) (.pointer (some ⟨bg, 0, none⟩))).put (some 53) (.pointer (some ⟨bg, 0, none⟩))).put (some 54) (.pointer (some ⟨bg, 0, none⟩))).put (some 55) (.int .i64 ep)).put (some 56) (.bool false)) ∧ Kq W [((W.heap.size + 1), .cells #[.int .i64 ep, .int .i64 kd, .slice q n c] 33 (0, 0)), (W.heap.size, .cells #[.pointer (some ⟨b, 0, none⟩)] 22 (0, 0)), (bg, grp ep vlog (.slice pp nm.length cap)), (m1, .map es clock), (b, svc m0 m1 m2)] w' ∧ Below ((((W.alloc (.cells #[.pointer (some ⟨b, 0, none⟩)] 22)).alloc (.cells #[.int .i64 ep, .int .i64 kd, .slice q n c] 33)).alloc (.cells #[.string s] 9))).heap.size (((W.alloc (.cells #[.pointer (some ⟨b, 0, none⟩)] 22)).alloc (.cells #[.int .i64 ep, .int .i64 kd, .slice q n c] 33)).alloc (.cells #[.string s] 9)) w') ?_ ?_
  · refine wp_region_rem (fun v => Kq W [((W.heap.size + 1), .cells #[.int .i64 ep, .int .i64 kd, .slice q n c] 33 (0, 0)), (W.heap.size, .cells #[.pointer (some ⟨b, 0, none⟩)] 22 (0, 0)), (bg, grp ep vlog (.slice pp nm.length cap)), (m1, .map es clock), (b, svc m0 m1 m2)] v ∧ Below ((((W.alloc (.cells #[.pointer (some ⟨b, 0, none⟩)] 22)).alloc (.cells #[.int .i64 ep, .int .i64 kd, .slice q n c] 33)).alloc (.cells #[.string s] 9))).heap.size (((W.alloc (.cells #[.pointer (some ⟨b, 0, none⟩)] 22)).alloc (.cells #[.int .i64 ep, .int .i64 kd, .slice q n c] 33)).alloc (.cells #[.string s] 9)) v) (by kernel_rfl) (by kernel_rfl) (fun _ _ _ _ _ h => h.elim) ⟨hst.drew, (Below.refl _ _).drew⟩ ?_
    apply rem_sure 0 (by kernel_rfl) rfl (wanted_none rfl)
    · intro w2 hS K hK
      go_wp2_with fail
      exact hK _ hS (Ext.refl _)
    · kernel_rfl
    · kernel_rfl
    try ((repeat rw [put_none]); (try simp only [put_some, List.setIfInBounds_toArray, List.set_cons_succ, List.set_cons_zero]))
    apply rem_sure 1 (by kernel_rfl) rfl (wanted_none rfl)
    · intro w2 hS K hK
      have cq : w2.cell? ⟨(W.heap.size + 1), 0, none⟩ = some (.int .i64 ep) := (cell_of_row w2 (W.heap.size + 1) 0 _ _ _ (hS.1.at_ (g := (W.heap.size + 1)) (ob := .cells #[.int .i64 ep, .int .i64 kd, .slice q n c] 33 (0, 0)) (by simp))).trans rfl
      go_wp2_with fail
      exact hK _ hS (Ext.refl _)
    · kernel_rfl
    · kernel_rfl
    try ((repeat rw [put_none]); (try simp only [put_some, List.setIfInBounds_toArray, List.set_cons_succ, List.set_cons_zero]))
    apply rem_sure 2 (by kernel_rfl) rfl (wanted_none rfl)
    · intro w2 hS K hK
      go_wp2_with fail
      exact hK _ hS (Ext.refl _)
    · kernel_rfl
    · kernel_rfl
    try ((repeat rw [put_none]); (try simp only [put_some, List.setIfInBounds_toArray, List.set_cons_succ, List.set_cons_zero]))
    apply rem_sure 3 (by kernel_rfl) rfl (wanted_none rfl)
    · intro w2 hS K hK
      go_wp2_with fail
      exact hK _ hS (Ext.refl _)
    · kernel_rfl
    · kernel_rfl
    try ((repeat rw [put_none]); (try simp only [put_some, List.setIfInBounds_toArray, List.set_cons_succ, List.set_cons_zero]))
    apply rem_sure 4 (by kernel_rfl) rfl (wanted_none rfl)
    · intro w2 hS K hK
      go_wp2_with fail
      exact hK _ hS (Ext.refl _)
    · kernel_rfl
    · kernel_rfl
    try ((repeat rw [put_none]); (try simp only [put_some, List.setIfInBounds_toArray, List.set_cons_succ, List.set_cons_zero]))
    apply rem_sure 5 (by kernel_rfl) rfl (wanted_none rfl)
    · intro w2 hS K hK
      have cq : w2.cell? ⟨bg, 0, none⟩ = some (.int .i64 ep) := (cell_of_row w2 bg 0 _ _ _ (hS.1.at_ (g := bg) (ob := grp ep vlog (.slice pp nm.length cap)) (by simp))).trans rfl
      go_wp2_with fail
      exact hK _ hS (Ext.refl _)
    · kernel_rfl
    · kernel_rfl
    try ((repeat rw [put_none]); (try simp only [put_some, List.setIfInBounds_toArray, List.set_cons_succ, List.set_cons_zero]))
    apply rem_sure 6 (by kernel_rfl) rfl (wanted_none rfl)
    · intro w2 hS K hK
      go_wp2_with fail
      exact hK _ hS (Ext.refl _)
    · kernel_rfl
    · kernel_rfl
    try ((repeat rw [put_none]); (try simp only [put_some, List.setIfInBounds_toArray, List.set_cons_succ, List.set_cons_zero]))
    refine rem_nil ?_
    intro v9 hS9 hE9
    exact ⟨rfl, hS9.1, hS9.2⟩
  rintro b' w4 ⟨rfl, hst, hb4⟩
  try ((repeat rw [put_none]); (try simp only [put_some, List.setIfInBounds_toArray, List.set_cons_succ, List.set_cons_zero]))
  replace HR := Lib.hid (HR.out.keep hb4)
  replace HX := Lib.hid (HX.out.keep hb4)
  replace HLG := Lib.hid (own_ext HLG.out (fun g hg => hb4.block g (HLG.out.lt g hg).2))
  replace HSB := Lib.hid (own_ext HSB.out (fun g hg => hb4.block g (HSB.out.lt g hg).2))
  clear hb4
  have c51 : w4.cell? ⟨(W.heap.size + 1), 1, none⟩ = some (.int .i64 kd) := (cell_of_row _ (W.heap.size + 1) 1 _ _ _ (hst.at_ (g := (W.heap.size + 1)) (ob := .cells #[.int .i64 ep, .int .i64 kd, .slice q n c] 33 (0, 0)) (by simp))).trans rfl
  have cq0 : w4.cell? ⟨bg, 0, none⟩ = some (.int .i64 ep) := (cell_of_row _ bg 0 _ _ _ (hst.at_ (g := bg) (ob := grp ep vlog (.slice pp nm.length cap)) (by simp))).trans rfl
  have cq2 : w4.cell? ⟨bg, 2, none⟩ = some ((.slice pp nm.length cap)) := (cell_of_row _ bg 2 _ _ _ (hst.at_ (g := bg) (ob := grp ep vlog (.slice pp nm.length cap)) (by simp))).trans rfl
  have c3 : w4.cell? ⟨W.heap.size, 0, none⟩ = some (.pointer (some ⟨b, 0, none⟩)) := (cell_of_row _ W.heap.size 0 _ _ _ (hst.at_ (g := W.heap.size) (ob := .cells #[.pointer (some ⟨b, 0, none⟩)] 22 (0, 0)) (by simp))).trans rfl
  have hcw := cont_any B b m0 m1 m2 (W.heap.size) cap pp nm L w4 hk HSB.out HR.out (hst.at_ (g := b) (ob := svc m0 m1 m2) (by simp)) c3 HSZ.out
  have hw3 : wrap64 (ep + 1) = ep + 1 := by
    have := HEP.out
    unfold wrap64; omega
  have k3 := K3.out
  subst k3
  have dv : decide (ep + 1 ≥ 4294967296) = true := by simpa using hov
  rw [← hw3] at dv
  have HB := Lib.hid hst.2
  clear hcw HR HX HLG HSB hst
  go_wp2_with fail
  go_step3
  change _ ∧ _
  refine ⟨rfl, ?_⟩
  go_wp2_with fail
  rw [jump_ret]
  go_ret2
  exact ⟨rfl, HB.out⟩
set_option maxRecDepth 100000 in
set_option maxHeartbeats 40000000 in
theorem send_full3 (B b m0 m1 m2 bg clock n c nl : Nat) (es : Array MapEntry) (E : List (ByteArray × Nat)) (ep kd : Int) (vlog vsubs : Value) (xl : List Value) (nm : List ByteArray) (L : List WRow) (q : Option Addr) (l : List Int) (s : ByteArray) (hs : 1 ≤ s.size ∧ s.size ≤ 255) (W : World)
    (hB : B ≤ W.heap.size) (hb : W.heap[b]? = some (svc m0 m1 m2)) (hm : W.heap[m1]? = some (.map es clock)) (hE : MapIs es E) (hl : look E s = some bg) (hg : W.heap[bg]? = some (grp ep vlog vsubs))
    (hlog : W.ownsRow B 33 3 vlog nl xl) (hsub : W.ownsRow B 9 1 vsubs nm.length (nm.map Value.string)) (hk : nm.length ≤ 16) (hsz : ∀ t ∈ nm, 1 ≤ t.size ∧ t.size ≤ 255)
    (hR : WRep B m2 L W) (hep : 0 ≤ ep ∧ ep < 4294967296) (hkd : 1 ≤ kd ∧ kd ≤ 3) (hx : Bs W q n l) (hn : 1 ≤ n ∧ n ≤ 65536) (hnl : nl ≤ 2000000000000) (k3 : kd = 3) (hov : ¬ ep + 1 ≥ 4294967296) (hfl : full (wf L) nm = true) :
    Calls Try.prog 13 #[.pointer (some ⟨b, 0, none⟩), .string s, .agg #[.int .i64 ep, .int .i64 kd, .slice q n c]] W (fun e W' => e = .returned (.tuple #[.int .i64 0, .int .i64 64]) ∧ Below W.heap.size W W') := by
  have K3 := Lib.hid k3
  clear k3
  obtain ⟨pp, cap, rfl⟩ := own_any hsub
  have d1 : decide (ep < 0) = false := by simp; omega
  have d2 : decide (ep ≥ 4294967296) = false := by simp; omega
  have d3 : decide (kd < 1) = false := by simp; omega
  have d4 : decide (kd > 3) = false := by simp; omega
  obtain ⟨y, hy, hv, _⟩ := find_names s es.toList E 0 hE
  rw [hl] at hv
  have hv : lookV (.pointer none) y = .pointer (some ⟨bg, 0, none⟩) := hv
  have hself : Kq W [(bg, grp ep vlog (.slice pp nm.length cap)), (m1, .map es clock), (b, svc m0 m1 m2)] W := ⟨by simp; exact ⟨hg, hm, hb⟩, Below.refl _ _⟩
  have h1 := hself.new rfl (.cells #[.pointer (some ⟨b, 0, none⟩)] 22)
  have h2 := h1.new (n := W.heap.size + 1) (by simp) (.cells #[.int .i64 ep, .int .i64 kd, .slice q n c] 33)
  have c3' : ((W.alloc (.cells #[.pointer (some ⟨b, 0, none⟩)] 22)).alloc (.cells #[.int .i64 ep, .int .i64 kd, .slice q n c] 33)).cell? ⟨W.heap.size, 0, none⟩ = some (.pointer (some ⟨b, 0, none⟩)) := (cell_of_row _ W.heap.size 0 _ _ _ (h2.at_ (g := W.heap.size) (ob := .cells #[.pointer (some ⟨b, 0, none⟩)] 22 (0, 0)) (by simp))).trans rfl
  have h3 := h2.new (n := W.heap.size + 2) (by simp) (.cells #[.string s] 9)
  have hst := h3.sub (bm := [((W.heap.size + 1), .cells #[.int .i64 ep, .int .i64 kd, .slice q n c] 33 (0, 0)), (W.heap.size, .cells #[.pointer (some ⟨b, 0, none⟩)] 22 (0, 0)), (bg, grp ep vlog (.slice pp nm.length cap)), (m1, .map es clock), (b, svc m0 m1 m2)]) (by simp)
  have hmay := may_one (c := 1) (h3.at_ (g := b) (ob := svc m0 m1 m2) (by simp)) (h3.at_ (g := W.heap.size + 2) (ob := .cells #[.string s] 9 (0, 0)) (by simp)) hs
  have c3 : (((W.alloc (.cells #[.pointer (some ⟨b, 0, none⟩)] 22)).alloc (.cells #[.int .i64 ep, .int .i64 kd, .slice q n c] 33)).alloc (.cells #[.string s] 9)).cell? ⟨W.heap.size, 0, none⟩ = some (.pointer (some ⟨b, 0, none⟩)) := (cell_of_row _ W.heap.size 0 _ _ _ (h3.at_ (g := W.heap.size) (ob := .cells #[.pointer (some ⟨b, 0, none⟩)] 22 (0, 0)) (by simp))).trans rfl
  have c50 : (((W.alloc (.cells #[.pointer (some ⟨b, 0, none⟩)] 22)).alloc (.cells #[.int .i64 ep, .int .i64 kd, .slice q n c] 33)).alloc (.cells #[.string s] 9)).cell? ⟨W.heap.size + 1, 0, none⟩ = some (.int .i64 ep) := (cell_of_row _ (W.heap.size + 1) 0 _ _ _ (h3.at_ (g := W.heap.size + 1) (ob := .cells #[.int .i64 ep, .int .i64 kd, .slice q n c] 33 (0, 0)) (by simp))).trans rfl
  have c51 : (((W.alloc (.cells #[.pointer (some ⟨b, 0, none⟩)] 22)).alloc (.cells #[.int .i64 ep, .int .i64 kd, .slice q n c] 33)).alloc (.cells #[.string s] 9)).cell? ⟨W.heap.size + 1, 1, none⟩ = some (.int .i64 kd) := (cell_of_row _ (W.heap.size + 1) 1 _ _ _ (h3.at_ (g := W.heap.size + 1) (ob := .cells #[.int .i64 ep, .int .i64 kd, .slice q n c] 33 (0, 0)) (by simp))).trans rfl
  have c52 : (((W.alloc (.cells #[.pointer (some ⟨b, 0, none⟩)] 22)).alloc (.cells #[.int .i64 ep, .int .i64 kd, .slice q n c] 33)).alloc (.cells #[.string s] 9)).cell? ⟨W.heap.size + 1, 2, none⟩ = some (.slice q n c) := (cell_of_row _ (W.heap.size + 1) 2 _ _ _ (h3.at_ (g := W.heap.size + 1) (ob := .cells #[.int .i64 ep, .int .i64 kd, .slice q n c] 33 (0, 0)) (by simp))).trans rfl
  have cb1 : (((W.alloc (.cells #[.pointer (some ⟨b, 0, none⟩)] 22)).alloc (.cells #[.int .i64 ep, .int .i64 kd, .slice q n c] 33)).alloc (.cells #[.string s] 9)).cell? ⟨b, 1, none⟩ = some (.map (some m1)) := (cell_of_row _ b 1 _ _ _ (h3.at_ (g := b) (ob := svc m0 m1 m2) (by simp))).trans rfl
  have hr1 := h3.at_ (g := m1) (ob := .map es clock) (by simp)
  have hbel := h3.2
  have HV := Lib.hid hv
  have HY := Lib.hid hy
  have HEP := Lib.hid hep
  have HKD := Lib.hid hkd
  have HR := Lib.hid (hR.keep hbel)
  have HX := Lib.hid (hx.keep hbel)
  have HLG := Lib.hid (own_ext hlog (fun g hg => hbel.block g (hlog.lt g hg).2))
  have HSB := Lib.hid (own_ext hsub (fun g hg => hbel.block g (hsub.lt g hg).2))
  have HSZ := Lib.hid hsz
  have HNN := Lib.hid hn
  clear h1 h2 h3 hself hv hy hE hl hb hm hg hlog hsub hR hx hsz hep hkd hn
  go_enter Try.func13, Try.ntmps13
  go_wp2_with fail
  refine wp_scope_fwd 0 rfl ?_
  go_wp2_with fail
  refine hmay.mono ?_
  rintro e w' ⟨rfl, rfl⟩
  go_wp2_with fail
  refine (sized_any q n c HNN.out _).mono ?_
  rintro e w' ⟨rfl, hw⟩
  subst hw
  go_wp2_with (first | (at_lookup; refine wpList_lookW rfl 54 9 62 _ _ rfl Try.underlying54 Try.underlying9 m1 s rfl rfl es clock hr1 (.pointer none) zero_g y HY.out _ HV.out ?_))
  clear c3 c3' c50 c51 c52 cb1 hr1 hmay
  have _ := hB
  have _ := hnl
  refine wp_region_then (fun a b' w' => b' = (((((((a.put (some 50) (.pointer (some ⟨(W.heap.size + 1), 0, none⟩))).put (some 51) (.int .i64 ep)).put (some 52) (.pointer (some ⟨bg, 0, none⟩))).put (some 53) (.pointer (some ⟨bg, 0, none⟩))).put (some 54) (.pointer (some ⟨bg, 0, none⟩))).put (some 55) (.int .i64 ep)).put (some 56) (.bool false)) ∧ Kq W [((W.heap.size + 1), .cells #[.int .i64 ep, .int .i64 kd, .slice q n c] 33 (0, 0)), (W.heap.size, .cells #[.pointer (some ⟨b, 0, none⟩)] 22 (0, 0)), (bg, grp ep vlog (.slice pp nm.length cap)), (m1, .map es clock), (b, svc m0 m1 m2)] w' ∧ Below ((((W.alloc (.cells #[.pointer (some ⟨b, 0, none⟩)] 22)).alloc (.cells #[.int .i64 ep, .int .i64 kd, .slice q n c] 33)).alloc (.cells #[.string s] 9))).heap.size (((W.alloc (.cells #[.pointer (some ⟨b, 0, none⟩)] 22)).alloc (.cells #[.int .i64 ep, .int .i64 kd, .slice q n c] 33)).alloc (.cells #[.string s] 9)) w') ?_ ?_
  · refine wp_region_rem (fun v => Kq W [((W.heap.size + 1), .cells #[.int .i64 ep, .int .i64 kd, .slice q n c] 33 (0, 0)), (W.heap.size, .cells #[.pointer (some ⟨b, 0, none⟩)] 22 (0, 0)), (bg, grp ep vlog (.slice pp nm.length cap)), (m1, .map es clock), (b, svc m0 m1 m2)] v ∧ Below ((((W.alloc (.cells #[.pointer (some ⟨b, 0, none⟩)] 22)).alloc (.cells #[.int .i64 ep, .int .i64 kd, .slice q n c] 33)).alloc (.cells #[.string s] 9))).heap.size (((W.alloc (.cells #[.pointer (some ⟨b, 0, none⟩)] 22)).alloc (.cells #[.int .i64 ep, .int .i64 kd, .slice q n c] 33)).alloc (.cells #[.string s] 9)) v) (by kernel_rfl) (by kernel_rfl) (fun _ _ _ _ _ h => h.elim) ⟨hst.drew, (Below.refl _ _).drew⟩ ?_
    apply rem_sure 0 (by kernel_rfl) rfl (wanted_none rfl)
    · intro w2 hS K hK
      go_wp2_with fail
      exact hK _ hS (Ext.refl _)
    · kernel_rfl
    · kernel_rfl
    try ((repeat rw [put_none]); (try simp only [put_some, List.setIfInBounds_toArray, List.set_cons_succ, List.set_cons_zero]))
    apply rem_sure 1 (by kernel_rfl) rfl (wanted_none rfl)
    · intro w2 hS K hK
      have cq : w2.cell? ⟨(W.heap.size + 1), 0, none⟩ = some (.int .i64 ep) := (cell_of_row w2 (W.heap.size + 1) 0 _ _ _ (hS.1.at_ (g := (W.heap.size + 1)) (ob := .cells #[.int .i64 ep, .int .i64 kd, .slice q n c] 33 (0, 0)) (by simp))).trans rfl
      go_wp2_with fail
      exact hK _ hS (Ext.refl _)
    · kernel_rfl
    · kernel_rfl
    try ((repeat rw [put_none]); (try simp only [put_some, List.setIfInBounds_toArray, List.set_cons_succ, List.set_cons_zero]))
    apply rem_sure 2 (by kernel_rfl) rfl (wanted_none rfl)
    · intro w2 hS K hK
      go_wp2_with fail
      exact hK _ hS (Ext.refl _)
    · kernel_rfl
    · kernel_rfl
    try ((repeat rw [put_none]); (try simp only [put_some, List.setIfInBounds_toArray, List.set_cons_succ, List.set_cons_zero]))
    apply rem_sure 3 (by kernel_rfl) rfl (wanted_none rfl)
    · intro w2 hS K hK
      go_wp2_with fail
      exact hK _ hS (Ext.refl _)
    · kernel_rfl
    · kernel_rfl
    try ((repeat rw [put_none]); (try simp only [put_some, List.setIfInBounds_toArray, List.set_cons_succ, List.set_cons_zero]))
    apply rem_sure 4 (by kernel_rfl) rfl (wanted_none rfl)
    · intro w2 hS K hK
      go_wp2_with fail
      exact hK _ hS (Ext.refl _)
    · kernel_rfl
    · kernel_rfl
    try ((repeat rw [put_none]); (try simp only [put_some, List.setIfInBounds_toArray, List.set_cons_succ, List.set_cons_zero]))
    apply rem_sure 5 (by kernel_rfl) rfl (wanted_none rfl)
    · intro w2 hS K hK
      have cq : w2.cell? ⟨bg, 0, none⟩ = some (.int .i64 ep) := (cell_of_row w2 bg 0 _ _ _ (hS.1.at_ (g := bg) (ob := grp ep vlog (.slice pp nm.length cap)) (by simp))).trans rfl
      go_wp2_with fail
      exact hK _ hS (Ext.refl _)
    · kernel_rfl
    · kernel_rfl
    try ((repeat rw [put_none]); (try simp only [put_some, List.setIfInBounds_toArray, List.set_cons_succ, List.set_cons_zero]))
    apply rem_sure 6 (by kernel_rfl) rfl (wanted_none rfl)
    · intro w2 hS K hK
      go_wp2_with fail
      exact hK _ hS (Ext.refl _)
    · kernel_rfl
    · kernel_rfl
    try ((repeat rw [put_none]); (try simp only [put_some, List.setIfInBounds_toArray, List.set_cons_succ, List.set_cons_zero]))
    refine rem_nil ?_
    intro v9 hS9 hE9
    exact ⟨rfl, hS9.1, hS9.2⟩
  rintro b' w4 ⟨rfl, hst, hb4⟩
  try ((repeat rw [put_none]); (try simp only [put_some, List.setIfInBounds_toArray, List.set_cons_succ, List.set_cons_zero]))
  replace HR := Lib.hid (HR.out.keep hb4)
  replace HX := Lib.hid (HX.out.keep hb4)
  replace HLG := Lib.hid (own_ext HLG.out (fun g hg => hb4.block g (HLG.out.lt g hg).2))
  replace HSB := Lib.hid (own_ext HSB.out (fun g hg => hb4.block g (HSB.out.lt g hg).2))
  clear hb4
  have c51 : w4.cell? ⟨(W.heap.size + 1), 1, none⟩ = some (.int .i64 kd) := (cell_of_row _ (W.heap.size + 1) 1 _ _ _ (hst.at_ (g := (W.heap.size + 1)) (ob := .cells #[.int .i64 ep, .int .i64 kd, .slice q n c] 33 (0, 0)) (by simp))).trans rfl
  have cq0 : w4.cell? ⟨bg, 0, none⟩ = some (.int .i64 ep) := (cell_of_row _ bg 0 _ _ _ (hst.at_ (g := bg) (ob := grp ep vlog (.slice pp nm.length cap)) (by simp))).trans rfl
  have cq2 : w4.cell? ⟨bg, 2, none⟩ = some ((.slice pp nm.length cap)) := (cell_of_row _ bg 2 _ _ _ (hst.at_ (g := bg) (ob := grp ep vlog (.slice pp nm.length cap)) (by simp))).trans rfl
  have c3 : w4.cell? ⟨W.heap.size, 0, none⟩ = some (.pointer (some ⟨b, 0, none⟩)) := (cell_of_row _ W.heap.size 0 _ _ _ (hst.at_ (g := W.heap.size) (ob := .cells #[.pointer (some ⟨b, 0, none⟩)] 22 (0, 0)) (by simp))).trans rfl
  have hcw := cont_any B b m0 m1 m2 (W.heap.size) cap pp nm L w4 hk HSB.out HR.out (hst.at_ (g := b) (ob := svc m0 m1 m2) (by simp)) c3 HSZ.out
  have hw3 : wrap64 (ep + 1) = ep + 1 := by
    have := HEP.out
    unfold wrap64; omega
  have k3 := K3.out
  subst k3
  have dv : decide (ep + 1 ≥ 4294967296) = false := by simpa using hov
  rw [← hw3] at dv
  rw [hfl] at hcw
  go_wp2_with fail
  refine hcw.mono ?_
  rintro e w5 ⟨rfl, hb5⟩
  have HB := Lib.hid (hst.keep hb5).2
  clear hcw HR HX HLG HSB hst hb5
  go_wp2_with fail
  go_step3
  change _ ∧ _
  refine ⟨rfl, ?_⟩
  go_wp2_with fail
  rw [jump_ret]
  go_ret2
  exact ⟨rfl, HB.out⟩
set_option maxRecDepth 100000 in
set_option maxHeartbeats 40000000 in
theorem send_fullx (B b m0 m1 m2 bg clock n c nl : Nat) (es : Array MapEntry) (E : List (ByteArray × Nat)) (ep kd : Int) (vlog vsubs : Value) (xl : List Value) (nm : List ByteArray) (L : List WRow) (q : Option Addr) (l : List Int) (s : ByteArray) (hs : 1 ≤ s.size ∧ s.size ≤ 255) (W : World)
    (hB : B ≤ W.heap.size) (hb : W.heap[b]? = some (svc m0 m1 m2)) (hm : W.heap[m1]? = some (.map es clock)) (hE : MapIs es E) (hl : look E s = some bg) (hg : W.heap[bg]? = some (grp ep vlog vsubs))
    (hlog : W.ownsRow B 33 3 vlog nl xl) (hsub : W.ownsRow B 9 1 vsubs nm.length (nm.map Value.string)) (hk : nm.length ≤ 16) (hsz : ∀ t ∈ nm, 1 ≤ t.size ∧ t.size ≤ 255)
    (hR : WRep B m2 L W) (hep : 0 ≤ ep ∧ ep < 4294967296) (hkd : 1 ≤ kd ∧ kd ≤ 3) (hx : Bs W q n l) (hn : 1 ≤ n ∧ n ≤ 65536) (hnl : nl ≤ 2000000000000) (k3 : ¬ kd = 3) (hfl : full (wf L) nm = true) :
    Calls Try.prog 13 #[.pointer (some ⟨b, 0, none⟩), .string s, .agg #[.int .i64 ep, .int .i64 kd, .slice q n c]] W (fun e W' => e = .returned (.tuple #[.int .i64 0, .int .i64 64]) ∧ Below W.heap.size W W') := by
  have K3 := Lib.hid k3
  clear k3
  obtain ⟨pp, cap, rfl⟩ := own_any hsub
  have d1 : decide (ep < 0) = false := by simp; omega
  have d2 : decide (ep ≥ 4294967296) = false := by simp; omega
  have d3 : decide (kd < 1) = false := by simp; omega
  have d4 : decide (kd > 3) = false := by simp; omega
  obtain ⟨y, hy, hv, _⟩ := find_names s es.toList E 0 hE
  rw [hl] at hv
  have hv : lookV (.pointer none) y = .pointer (some ⟨bg, 0, none⟩) := hv
  have hself : Kq W [(bg, grp ep vlog (.slice pp nm.length cap)), (m1, .map es clock), (b, svc m0 m1 m2)] W := ⟨by simp; exact ⟨hg, hm, hb⟩, Below.refl _ _⟩
  have h1 := hself.new rfl (.cells #[.pointer (some ⟨b, 0, none⟩)] 22)
  have h2 := h1.new (n := W.heap.size + 1) (by simp) (.cells #[.int .i64 ep, .int .i64 kd, .slice q n c] 33)
  have c3' : ((W.alloc (.cells #[.pointer (some ⟨b, 0, none⟩)] 22)).alloc (.cells #[.int .i64 ep, .int .i64 kd, .slice q n c] 33)).cell? ⟨W.heap.size, 0, none⟩ = some (.pointer (some ⟨b, 0, none⟩)) := (cell_of_row _ W.heap.size 0 _ _ _ (h2.at_ (g := W.heap.size) (ob := .cells #[.pointer (some ⟨b, 0, none⟩)] 22 (0, 0)) (by simp))).trans rfl
  have h3 := h2.new (n := W.heap.size + 2) (by simp) (.cells #[.string s] 9)
  have hst := h3.sub (bm := [((W.heap.size + 1), .cells #[.int .i64 ep, .int .i64 kd, .slice q n c] 33 (0, 0)), (W.heap.size, .cells #[.pointer (some ⟨b, 0, none⟩)] 22 (0, 0)), (bg, grp ep vlog (.slice pp nm.length cap)), (m1, .map es clock), (b, svc m0 m1 m2)]) (by simp)
  have hmay := may_one (c := 1) (h3.at_ (g := b) (ob := svc m0 m1 m2) (by simp)) (h3.at_ (g := W.heap.size + 2) (ob := .cells #[.string s] 9 (0, 0)) (by simp)) hs
  have c3 : (((W.alloc (.cells #[.pointer (some ⟨b, 0, none⟩)] 22)).alloc (.cells #[.int .i64 ep, .int .i64 kd, .slice q n c] 33)).alloc (.cells #[.string s] 9)).cell? ⟨W.heap.size, 0, none⟩ = some (.pointer (some ⟨b, 0, none⟩)) := (cell_of_row _ W.heap.size 0 _ _ _ (h3.at_ (g := W.heap.size) (ob := .cells #[.pointer (some ⟨b, 0, none⟩)] 22 (0, 0)) (by simp))).trans rfl
  have c50 : (((W.alloc (.cells #[.pointer (some ⟨b, 0, none⟩)] 22)).alloc (.cells #[.int .i64 ep, .int .i64 kd, .slice q n c] 33)).alloc (.cells #[.string s] 9)).cell? ⟨W.heap.size + 1, 0, none⟩ = some (.int .i64 ep) := (cell_of_row _ (W.heap.size + 1) 0 _ _ _ (h3.at_ (g := W.heap.size + 1) (ob := .cells #[.int .i64 ep, .int .i64 kd, .slice q n c] 33 (0, 0)) (by simp))).trans rfl
  have c51 : (((W.alloc (.cells #[.pointer (some ⟨b, 0, none⟩)] 22)).alloc (.cells #[.int .i64 ep, .int .i64 kd, .slice q n c] 33)).alloc (.cells #[.string s] 9)).cell? ⟨W.heap.size + 1, 1, none⟩ = some (.int .i64 kd) := (cell_of_row _ (W.heap.size + 1) 1 _ _ _ (h3.at_ (g := W.heap.size + 1) (ob := .cells #[.int .i64 ep, .int .i64 kd, .slice q n c] 33 (0, 0)) (by simp))).trans rfl
  have c52 : (((W.alloc (.cells #[.pointer (some ⟨b, 0, none⟩)] 22)).alloc (.cells #[.int .i64 ep, .int .i64 kd, .slice q n c] 33)).alloc (.cells #[.string s] 9)).cell? ⟨W.heap.size + 1, 2, none⟩ = some (.slice q n c) := (cell_of_row _ (W.heap.size + 1) 2 _ _ _ (h3.at_ (g := W.heap.size + 1) (ob := .cells #[.int .i64 ep, .int .i64 kd, .slice q n c] 33 (0, 0)) (by simp))).trans rfl
  have cb1 : (((W.alloc (.cells #[.pointer (some ⟨b, 0, none⟩)] 22)).alloc (.cells #[.int .i64 ep, .int .i64 kd, .slice q n c] 33)).alloc (.cells #[.string s] 9)).cell? ⟨b, 1, none⟩ = some (.map (some m1)) := (cell_of_row _ b 1 _ _ _ (h3.at_ (g := b) (ob := svc m0 m1 m2) (by simp))).trans rfl
  have hr1 := h3.at_ (g := m1) (ob := .map es clock) (by simp)
  have hbel := h3.2
  have HV := Lib.hid hv
  have HY := Lib.hid hy
  have HEP := Lib.hid hep
  have HKD := Lib.hid hkd
  have HR := Lib.hid (hR.keep hbel)
  have HX := Lib.hid (hx.keep hbel)
  have HLG := Lib.hid (own_ext hlog (fun g hg => hbel.block g (hlog.lt g hg).2))
  have HSB := Lib.hid (own_ext hsub (fun g hg => hbel.block g (hsub.lt g hg).2))
  have HSZ := Lib.hid hsz
  have HNN := Lib.hid hn
  clear h1 h2 h3 hself hv hy hE hl hb hm hg hlog hsub hR hx hsz hep hkd hn
  go_enter Try.func13, Try.ntmps13
  go_wp2_with fail
  refine wp_scope_fwd 0 rfl ?_
  go_wp2_with fail
  refine hmay.mono ?_
  rintro e w' ⟨rfl, rfl⟩
  go_wp2_with fail
  refine (sized_any q n c HNN.out _).mono ?_
  rintro e w' ⟨rfl, hw⟩
  subst hw
  go_wp2_with (first | (at_lookup; refine wpList_lookW rfl 54 9 62 _ _ rfl Try.underlying54 Try.underlying9 m1 s rfl rfl es clock hr1 (.pointer none) zero_g y HY.out _ HV.out ?_))
  clear c3 c3' c50 c51 c52 cb1 hr1 hmay
  have _ := hB
  have _ := hnl
  refine wp_region_then (fun a b' w' => b' = (((((((a.put (some 50) (.pointer (some ⟨(W.heap.size + 1), 0, none⟩))).put (some 51) (.int .i64 ep)).put (some 52) (.pointer (some ⟨bg, 0, none⟩))).put (some 53) (.pointer (some ⟨bg, 0, none⟩))).put (some 54) (.pointer (some ⟨bg, 0, none⟩))).put (some 55) (.int .i64 ep)).put (some 56) (.bool false)) ∧ Kq W [((W.heap.size + 1), .cells #[.int .i64 ep, .int .i64 kd, .slice q n c] 33 (0, 0)), (W.heap.size, .cells #[.pointer (some ⟨b, 0, none⟩)] 22 (0, 0)), (bg, grp ep vlog (.slice pp nm.length cap)), (m1, .map es clock), (b, svc m0 m1 m2)] w' ∧ Below ((((W.alloc (.cells #[.pointer (some ⟨b, 0, none⟩)] 22)).alloc (.cells #[.int .i64 ep, .int .i64 kd, .slice q n c] 33)).alloc (.cells #[.string s] 9))).heap.size (((W.alloc (.cells #[.pointer (some ⟨b, 0, none⟩)] 22)).alloc (.cells #[.int .i64 ep, .int .i64 kd, .slice q n c] 33)).alloc (.cells #[.string s] 9)) w') ?_ ?_
  · refine wp_region_rem (fun v => Kq W [((W.heap.size + 1), .cells #[.int .i64 ep, .int .i64 kd, .slice q n c] 33 (0, 0)), (W.heap.size, .cells #[.pointer (some ⟨b, 0, none⟩)] 22 (0, 0)), (bg, grp ep vlog (.slice pp nm.length cap)), (m1, .map es clock), (b, svc m0 m1 m2)] v ∧ Below ((((W.alloc (.cells #[.pointer (some ⟨b, 0, none⟩)] 22)).alloc (.cells #[.int .i64 ep, .int .i64 kd, .slice q n c] 33)).alloc (.cells #[.string s] 9))).heap.size (((W.alloc (.cells #[.pointer (some ⟨b, 0, none⟩)] 22)).alloc (.cells #[.int .i64 ep, .int .i64 kd, .slice q n c] 33)).alloc (.cells #[.string s] 9)) v) (by kernel_rfl) (by kernel_rfl) (fun _ _ _ _ _ h => h.elim) ⟨hst.drew, (Below.refl _ _).drew⟩ ?_
    apply rem_sure 0 (by kernel_rfl) rfl (wanted_none rfl)
    · intro w2 hS K hK
      go_wp2_with fail
      exact hK _ hS (Ext.refl _)
    · kernel_rfl
    · kernel_rfl
    try ((repeat rw [put_none]); (try simp only [put_some, List.setIfInBounds_toArray, List.set_cons_succ, List.set_cons_zero]))
    apply rem_sure 1 (by kernel_rfl) rfl (wanted_none rfl)
    · intro w2 hS K hK
      have cq : w2.cell? ⟨(W.heap.size + 1), 0, none⟩ = some (.int .i64 ep) := (cell_of_row w2 (W.heap.size + 1) 0 _ _ _ (hS.1.at_ (g := (W.heap.size + 1)) (ob := .cells #[.int .i64 ep, .int .i64 kd, .slice q n c] 33 (0, 0)) (by simp))).trans rfl
      go_wp2_with fail
      exact hK _ hS (Ext.refl _)
    · kernel_rfl
    · kernel_rfl
    try ((repeat rw [put_none]); (try simp only [put_some, List.setIfInBounds_toArray, List.set_cons_succ, List.set_cons_zero]))
    apply rem_sure 2 (by kernel_rfl) rfl (wanted_none rfl)
    · intro w2 hS K hK
      go_wp2_with fail
      exact hK _ hS (Ext.refl _)
    · kernel_rfl
    · kernel_rfl
    try ((repeat rw [put_none]); (try simp only [put_some, List.setIfInBounds_toArray, List.set_cons_succ, List.set_cons_zero]))
    apply rem_sure 3 (by kernel_rfl) rfl (wanted_none rfl)
    · intro w2 hS K hK
      go_wp2_with fail
      exact hK _ hS (Ext.refl _)
    · kernel_rfl
    · kernel_rfl
    try ((repeat rw [put_none]); (try simp only [put_some, List.setIfInBounds_toArray, List.set_cons_succ, List.set_cons_zero]))
    apply rem_sure 4 (by kernel_rfl) rfl (wanted_none rfl)
    · intro w2 hS K hK
      go_wp2_with fail
      exact hK _ hS (Ext.refl _)
    · kernel_rfl
    · kernel_rfl
    try ((repeat rw [put_none]); (try simp only [put_some, List.setIfInBounds_toArray, List.set_cons_succ, List.set_cons_zero]))
    apply rem_sure 5 (by kernel_rfl) rfl (wanted_none rfl)
    · intro w2 hS K hK
      have cq : w2.cell? ⟨bg, 0, none⟩ = some (.int .i64 ep) := (cell_of_row w2 bg 0 _ _ _ (hS.1.at_ (g := bg) (ob := grp ep vlog (.slice pp nm.length cap)) (by simp))).trans rfl
      go_wp2_with fail
      exact hK _ hS (Ext.refl _)
    · kernel_rfl
    · kernel_rfl
    try ((repeat rw [put_none]); (try simp only [put_some, List.setIfInBounds_toArray, List.set_cons_succ, List.set_cons_zero]))
    apply rem_sure 6 (by kernel_rfl) rfl (wanted_none rfl)
    · intro w2 hS K hK
      go_wp2_with fail
      exact hK _ hS (Ext.refl _)
    · kernel_rfl
    · kernel_rfl
    try ((repeat rw [put_none]); (try simp only [put_some, List.setIfInBounds_toArray, List.set_cons_succ, List.set_cons_zero]))
    refine rem_nil ?_
    intro v9 hS9 hE9
    exact ⟨rfl, hS9.1, hS9.2⟩
  rintro b' w4 ⟨rfl, hst, hb4⟩
  try ((repeat rw [put_none]); (try simp only [put_some, List.setIfInBounds_toArray, List.set_cons_succ, List.set_cons_zero]))
  replace HR := Lib.hid (HR.out.keep hb4)
  replace HX := Lib.hid (HX.out.keep hb4)
  replace HLG := Lib.hid (own_ext HLG.out (fun g hg => hb4.block g (HLG.out.lt g hg).2))
  replace HSB := Lib.hid (own_ext HSB.out (fun g hg => hb4.block g (HSB.out.lt g hg).2))
  clear hb4
  have c51 : w4.cell? ⟨(W.heap.size + 1), 1, none⟩ = some (.int .i64 kd) := (cell_of_row _ (W.heap.size + 1) 1 _ _ _ (hst.at_ (g := (W.heap.size + 1)) (ob := .cells #[.int .i64 ep, .int .i64 kd, .slice q n c] 33 (0, 0)) (by simp))).trans rfl
  have cq0 : w4.cell? ⟨bg, 0, none⟩ = some (.int .i64 ep) := (cell_of_row _ bg 0 _ _ _ (hst.at_ (g := bg) (ob := grp ep vlog (.slice pp nm.length cap)) (by simp))).trans rfl
  have cq2 : w4.cell? ⟨bg, 2, none⟩ = some ((.slice pp nm.length cap)) := (cell_of_row _ bg 2 _ _ _ (hst.at_ (g := bg) (ob := grp ep vlog (.slice pp nm.length cap)) (by simp))).trans rfl
  have c3 : w4.cell? ⟨W.heap.size, 0, none⟩ = some (.pointer (some ⟨b, 0, none⟩)) := (cell_of_row _ W.heap.size 0 _ _ _ (hst.at_ (g := W.heap.size) (ob := .cells #[.pointer (some ⟨b, 0, none⟩)] 22 (0, 0)) (by simp))).trans rfl
  have hcw := cont_any B b m0 m1 m2 (W.heap.size) cap pp nm L w4 hk HSB.out HR.out (hst.at_ (g := b) (ob := svc m0 m1 m2) (by simp)) c3 HSZ.out
  have hw3 : wrap64 (ep + 1) = ep + 1 := by
    have := HEP.out
    unfold wrap64; omega
  have k3 := K3.out
  have dk : decide (kd = 3) = false := by simpa using k3
  rw [hfl] at hcw
  go_wp2_with fail
  refine hcw.mono ?_
  rintro e w5 ⟨rfl, hb5⟩
  have HB := Lib.hid (hst.keep hb5).2
  clear hcw HR HX HLG HSB hst hb5
  go_wp2_with fail
  go_step3
  change _ ∧ _
  refine ⟨rfl, ?_⟩
  go_wp2_with fail
  rw [jump_ret]
  go_ret2
  exact ⟨rfl, HB.out⟩
set_option maxRecDepth 100000 in
set_option maxHeartbeats 40000000 in
theorem send_ok3 (B b m0 m1 m2 bg clock n c nl : Nat) (es : Array MapEntry) (E : List (ByteArray × Nat)) (ep kd : Int) (vlog vsubs : Value) (xl : List Value) (nm : List ByteArray) (L : List WRow) (q : Option Addr) (l : List Int) (s : ByteArray) (hs : 1 ≤ s.size ∧ s.size ≤ 255) (W : World)
    (hB : B ≤ W.heap.size) (hb : W.heap[b]? = some (svc m0 m1 m2)) (hm : W.heap[m1]? = some (.map es clock)) (hE : MapIs es E) (hl : look E s = some bg) (hg : W.heap[bg]? = some (grp ep vlog vsubs))
    (hlog : W.ownsRow B 33 3 vlog nl xl) (hsub : W.ownsRow B 9 1 vsubs nm.length (nm.map Value.string)) (hk : nm.length ≤ 16) (hsz : ∀ t ∈ nm, 1 ≤ t.size ∧ t.size ≤ 255)
    (hR : WRep B m2 L W) (hep : 0 ≤ ep ∧ ep < 4294967296) (hkd : 1 ≤ kd ∧ kd ≤ 3) (hx : Bs W q n l) (hn : 1 ≤ n ∧ n ≤ 65536) (hnl : nl ≤ 2000000000000) (k3 : kd = 3) (hov : ¬ ep + 1 ≥ 4294967296) (hfl : full (wf L) nm = false) :
    Calls Try.prog 13 #[.pointer (some ⟨b, 0, none⟩), .string s, .agg #[.int .i64 ep, .int .i64 kd, .slice q n c]] W (SendR B m2 bg n nl ep kd vlog vsubs xl nm L l s W) := by
  have K3 := Lib.hid k3
  clear k3
  obtain ⟨pp, cap, rfl⟩ := own_any hsub
  have d1 : decide (ep < 0) = false := by simp; omega
  have d2 : decide (ep ≥ 4294967296) = false := by simp; omega
  have d3 : decide (kd < 1) = false := by simp; omega
  have d4 : decide (kd > 3) = false := by simp; omega
  obtain ⟨y, hy, hv, _⟩ := find_names s es.toList E 0 hE
  rw [hl] at hv
  have hv : lookV (.pointer none) y = .pointer (some ⟨bg, 0, none⟩) := hv
  have hself : Kq W [(bg, grp ep vlog (.slice pp nm.length cap)), (m1, .map es clock), (b, svc m0 m1 m2)] W := ⟨by simp; exact ⟨hg, hm, hb⟩, Below.refl _ _⟩
  have h1 := hself.new rfl (.cells #[.pointer (some ⟨b, 0, none⟩)] 22)
  have h2 := h1.new (n := W.heap.size + 1) (by simp) (.cells #[.int .i64 ep, .int .i64 kd, .slice q n c] 33)
  have c3' : ((W.alloc (.cells #[.pointer (some ⟨b, 0, none⟩)] 22)).alloc (.cells #[.int .i64 ep, .int .i64 kd, .slice q n c] 33)).cell? ⟨W.heap.size, 0, none⟩ = some (.pointer (some ⟨b, 0, none⟩)) := (cell_of_row _ W.heap.size 0 _ _ _ (h2.at_ (g := W.heap.size) (ob := .cells #[.pointer (some ⟨b, 0, none⟩)] 22 (0, 0)) (by simp))).trans rfl
  have h3 := h2.new (n := W.heap.size + 2) (by simp) (.cells #[.string s] 9)
  have hst := h3.sub (bm := [((W.heap.size + 1), .cells #[.int .i64 ep, .int .i64 kd, .slice q n c] 33 (0, 0)), (W.heap.size, .cells #[.pointer (some ⟨b, 0, none⟩)] 22 (0, 0)), (bg, grp ep vlog (.slice pp nm.length cap)), (m1, .map es clock), (b, svc m0 m1 m2)]) (by simp)
  have hmay := may_one (c := 1) (h3.at_ (g := b) (ob := svc m0 m1 m2) (by simp)) (h3.at_ (g := W.heap.size + 2) (ob := .cells #[.string s] 9 (0, 0)) (by simp)) hs
  have c3 : (((W.alloc (.cells #[.pointer (some ⟨b, 0, none⟩)] 22)).alloc (.cells #[.int .i64 ep, .int .i64 kd, .slice q n c] 33)).alloc (.cells #[.string s] 9)).cell? ⟨W.heap.size, 0, none⟩ = some (.pointer (some ⟨b, 0, none⟩)) := (cell_of_row _ W.heap.size 0 _ _ _ (h3.at_ (g := W.heap.size) (ob := .cells #[.pointer (some ⟨b, 0, none⟩)] 22 (0, 0)) (by simp))).trans rfl
  have c50 : (((W.alloc (.cells #[.pointer (some ⟨b, 0, none⟩)] 22)).alloc (.cells #[.int .i64 ep, .int .i64 kd, .slice q n c] 33)).alloc (.cells #[.string s] 9)).cell? ⟨W.heap.size + 1, 0, none⟩ = some (.int .i64 ep) := (cell_of_row _ (W.heap.size + 1) 0 _ _ _ (h3.at_ (g := W.heap.size + 1) (ob := .cells #[.int .i64 ep, .int .i64 kd, .slice q n c] 33 (0, 0)) (by simp))).trans rfl
  have c51 : (((W.alloc (.cells #[.pointer (some ⟨b, 0, none⟩)] 22)).alloc (.cells #[.int .i64 ep, .int .i64 kd, .slice q n c] 33)).alloc (.cells #[.string s] 9)).cell? ⟨W.heap.size + 1, 1, none⟩ = some (.int .i64 kd) := (cell_of_row _ (W.heap.size + 1) 1 _ _ _ (h3.at_ (g := W.heap.size + 1) (ob := .cells #[.int .i64 ep, .int .i64 kd, .slice q n c] 33 (0, 0)) (by simp))).trans rfl
  have c52 : (((W.alloc (.cells #[.pointer (some ⟨b, 0, none⟩)] 22)).alloc (.cells #[.int .i64 ep, .int .i64 kd, .slice q n c] 33)).alloc (.cells #[.string s] 9)).cell? ⟨W.heap.size + 1, 2, none⟩ = some (.slice q n c) := (cell_of_row _ (W.heap.size + 1) 2 _ _ _ (h3.at_ (g := W.heap.size + 1) (ob := .cells #[.int .i64 ep, .int .i64 kd, .slice q n c] 33 (0, 0)) (by simp))).trans rfl
  have cb1 : (((W.alloc (.cells #[.pointer (some ⟨b, 0, none⟩)] 22)).alloc (.cells #[.int .i64 ep, .int .i64 kd, .slice q n c] 33)).alloc (.cells #[.string s] 9)).cell? ⟨b, 1, none⟩ = some (.map (some m1)) := (cell_of_row _ b 1 _ _ _ (h3.at_ (g := b) (ob := svc m0 m1 m2) (by simp))).trans rfl
  have hr1 := h3.at_ (g := m1) (ob := .map es clock) (by simp)
  have hbel := h3.2
  have HV := Lib.hid hv
  have HY := Lib.hid hy
  have HEP := Lib.hid hep
  have HKD := Lib.hid hkd
  have HR := Lib.hid (hR.keep hbel)
  have HX := Lib.hid (hx.keep hbel)
  have HLG := Lib.hid (own_ext hlog (fun g hg => hbel.block g (hlog.lt g hg).2))
  have HSB := Lib.hid (own_ext hsub (fun g hg => hbel.block g (hsub.lt g hg).2))
  have HSZ := Lib.hid hsz
  have HNN := Lib.hid hn
  have hl_bg := hself.lt (p := (bg, grp ep vlog (.slice pp nm.length cap))) (by simp)
  have hl_m1 := hself.lt (p := (m1, .map es clock)) (by simp)
  have hl_b := hself.lt (p := (b, svc m0 m1 m2)) (by simp)
  have HLO := Lib.hid hlog.lt
  have HSO := Lib.hid hsub.lt
  have HMB := Lib.hid hx.2.1
  have HFL := Lib.hid hfl
  obtain ⟨i0, hi0, hz0, hz1, hz2⟩ := info_of infoE3
  clear h1 h2 h3 hself hv hy hE hl hb hm hg hlog hsub hR hx hsz hep hkd hn
  go_enter Try.func13, Try.ntmps13
  go_wp2_with fail
  refine wp_scope_fwd 0 rfl ?_
  go_wp2_with fail
  refine hmay.mono ?_
  rintro e w' ⟨rfl, rfl⟩
  go_wp2_with fail
  refine (sized_any q n c HNN.out _).mono ?_
  rintro e w' ⟨rfl, hw⟩
  subst hw
  go_wp2_with (first | (at_lookup; refine wpList_lookW rfl 54 9 62 _ _ rfl Try.underlying54 Try.underlying9 m1 s rfl rfl es clock hr1 (.pointer none) zero_g y HY.out _ HV.out ?_))
  clear c3 c3' c50 c51 c52 cb1 hr1 hmay
  refine wp_region_then (fun a b' w' => b' = (((((((a.put (some 50) (.pointer (some ⟨(W.heap.size + 1), 0, none⟩))).put (some 51) (.int .i64 ep)).put (some 52) (.pointer (some ⟨bg, 0, none⟩))).put (some 53) (.pointer (some ⟨bg, 0, none⟩))).put (some 54) (.pointer (some ⟨bg, 0, none⟩))).put (some 55) (.int .i64 ep)).put (some 56) (.bool false)) ∧ Kq W [((W.heap.size + 1), .cells #[.int .i64 ep, .int .i64 kd, .slice q n c] 33 (0, 0)), (W.heap.size, .cells #[.pointer (some ⟨b, 0, none⟩)] 22 (0, 0)), (bg, grp ep vlog (.slice pp nm.length cap)), (m1, .map es clock), (b, svc m0 m1 m2)] w' ∧ Below ((((W.alloc (.cells #[.pointer (some ⟨b, 0, none⟩)] 22)).alloc (.cells #[.int .i64 ep, .int .i64 kd, .slice q n c] 33)).alloc (.cells #[.string s] 9))).heap.size (((W.alloc (.cells #[.pointer (some ⟨b, 0, none⟩)] 22)).alloc (.cells #[.int .i64 ep, .int .i64 kd, .slice q n c] 33)).alloc (.cells #[.string s] 9)) w') ?_ ?_
  · refine wp_region_rem (fun v => Kq W [((W.heap.size + 1), .cells #[.int .i64 ep, .int .i64 kd, .slice q n c] 33 (0, 0)), (W.heap.size, .cells #[.pointer (some ⟨b, 0, none⟩)] 22 (0, 0)), (bg, grp ep vlog (.slice pp nm.length cap)), (m1, .map es clock), (b, svc m0 m1 m2)] v ∧ Below ((((W.alloc (.cells #[.pointer (some ⟨b, 0, none⟩)] 22)).alloc (.cells #[.int .i64 ep, .int .i64 kd, .slice q n c] 33)).alloc (.cells #[.string s] 9))).heap.size (((W.alloc (.cells #[.pointer (some ⟨b, 0, none⟩)] 22)).alloc (.cells #[.int .i64 ep, .int .i64 kd, .slice q n c] 33)).alloc (.cells #[.string s] 9)) v) (by kernel_rfl) (by kernel_rfl) (fun _ _ _ _ _ h => h.elim) ⟨hst.drew, (Below.refl _ _).drew⟩ ?_
    apply rem_sure 0 (by kernel_rfl) rfl (wanted_none rfl)
    · intro w2 hS K hK
      go_wp2_with fail
      exact hK _ hS (Ext.refl _)
    · kernel_rfl
    · kernel_rfl
    try ((repeat rw [put_none]); (try simp only [put_some, List.setIfInBounds_toArray, List.set_cons_succ, List.set_cons_zero]))
    apply rem_sure 1 (by kernel_rfl) rfl (wanted_none rfl)
    · intro w2 hS K hK
      have cq : w2.cell? ⟨(W.heap.size + 1), 0, none⟩ = some (.int .i64 ep) := (cell_of_row w2 (W.heap.size + 1) 0 _ _ _ (hS.1.at_ (g := (W.heap.size + 1)) (ob := .cells #[.int .i64 ep, .int .i64 kd, .slice q n c] 33 (0, 0)) (by simp))).trans rfl
      go_wp2_with fail
      exact hK _ hS (Ext.refl _)
    · kernel_rfl
    · kernel_rfl
    try ((repeat rw [put_none]); (try simp only [put_some, List.setIfInBounds_toArray, List.set_cons_succ, List.set_cons_zero]))
    apply rem_sure 2 (by kernel_rfl) rfl (wanted_none rfl)
    · intro w2 hS K hK
      go_wp2_with fail
      exact hK _ hS (Ext.refl _)
    · kernel_rfl
    · kernel_rfl
    try ((repeat rw [put_none]); (try simp only [put_some, List.setIfInBounds_toArray, List.set_cons_succ, List.set_cons_zero]))
    apply rem_sure 3 (by kernel_rfl) rfl (wanted_none rfl)
    · intro w2 hS K hK
      go_wp2_with fail
      exact hK _ hS (Ext.refl _)
    · kernel_rfl
    · kernel_rfl
    try ((repeat rw [put_none]); (try simp only [put_some, List.setIfInBounds_toArray, List.set_cons_succ, List.set_cons_zero]))
    apply rem_sure 4 (by kernel_rfl) rfl (wanted_none rfl)
    · intro w2 hS K hK
      go_wp2_with fail
      exact hK _ hS (Ext.refl _)
    · kernel_rfl
    · kernel_rfl
    try ((repeat rw [put_none]); (try simp only [put_some, List.setIfInBounds_toArray, List.set_cons_succ, List.set_cons_zero]))
    apply rem_sure 5 (by kernel_rfl) rfl (wanted_none rfl)
    · intro w2 hS K hK
      have cq : w2.cell? ⟨bg, 0, none⟩ = some (.int .i64 ep) := (cell_of_row w2 bg 0 _ _ _ (hS.1.at_ (g := bg) (ob := grp ep vlog (.slice pp nm.length cap)) (by simp))).trans rfl
      go_wp2_with fail
      exact hK _ hS (Ext.refl _)
    · kernel_rfl
    · kernel_rfl
    try ((repeat rw [put_none]); (try simp only [put_some, List.setIfInBounds_toArray, List.set_cons_succ, List.set_cons_zero]))
    apply rem_sure 6 (by kernel_rfl) rfl (wanted_none rfl)
    · intro w2 hS K hK
      go_wp2_with fail
      exact hK _ hS (Ext.refl _)
    · kernel_rfl
    · kernel_rfl
    try ((repeat rw [put_none]); (try simp only [put_some, List.setIfInBounds_toArray, List.set_cons_succ, List.set_cons_zero]))
    refine rem_nil ?_
    intro v9 hS9 hE9
    exact ⟨rfl, hS9.1, hS9.2⟩
  rintro b' w4 ⟨rfl, hst, hb4⟩
  try ((repeat rw [put_none]); (try simp only [put_some, List.setIfInBounds_toArray, List.set_cons_succ, List.set_cons_zero]))
  replace HR := Lib.hid (HR.out.keep hb4)
  replace HX := Lib.hid (HX.out.keep hb4)
  replace HLG := Lib.hid (own_ext HLG.out (fun g hg => hb4.block g (HLG.out.lt g hg).2))
  replace HSB := Lib.hid (own_ext HSB.out (fun g hg => hb4.block g (HSB.out.lt g hg).2))
  clear hb4
  have c51 : w4.cell? ⟨(W.heap.size + 1), 1, none⟩ = some (.int .i64 kd) := (cell_of_row _ (W.heap.size + 1) 1 _ _ _ (hst.at_ (g := (W.heap.size + 1)) (ob := .cells #[.int .i64 ep, .int .i64 kd, .slice q n c] 33 (0, 0)) (by simp))).trans rfl
  have cq0 : w4.cell? ⟨bg, 0, none⟩ = some (.int .i64 ep) := (cell_of_row _ bg 0 _ _ _ (hst.at_ (g := bg) (ob := grp ep vlog (.slice pp nm.length cap)) (by simp))).trans rfl
  have cq2 : w4.cell? ⟨bg, 2, none⟩ = some ((.slice pp nm.length cap)) := (cell_of_row _ bg 2 _ _ _ (hst.at_ (g := bg) (ob := grp ep vlog (.slice pp nm.length cap)) (by simp))).trans rfl
  have c3 : w4.cell? ⟨W.heap.size, 0, none⟩ = some (.pointer (some ⟨b, 0, none⟩)) := (cell_of_row _ W.heap.size 0 _ _ _ (hst.at_ (g := W.heap.size) (ob := .cells #[.pointer (some ⟨b, 0, none⟩)] 22 (0, 0)) (by simp))).trans rfl
  have hcw := cont_any B b m0 m1 m2 (W.heap.size) cap pp nm L w4 hk HSB.out HR.out (hst.at_ (g := b) (ob := svc m0 m1 m2) (by simp)) c3 HSZ.out
  have hw3 : wrap64 (ep + 1) = ep + 1 := by
    have := HEP.out
    unfold wrap64; omega
  have k3 := K3.out
  subst k3
  have dv : decide (ep + 1 ≥ 4294967296) = false := by simpa using hov
  rw [← hw3] at dv
  rw [hfl] at hcw
  go_wp2_with fail
  refine hcw.mono ?_
  rintro e w5 ⟨rfl, hb5⟩
  have HOV := Lib.hid hov
  clear hov dv hw3
  replace hst := hst.keep hb5
  replace HR := Lib.hid (HR.out.keep hb5)
  replace HX := Lib.hid (HX.out.keep hb5)
  replace HLG := Lib.hid (own_ext HLG.out (fun g hg => hb5.block g (HLG.out.lt g hg).2))
  replace HSB := Lib.hid (own_ext HSB.out (fun g hg => hb5.block g (HSB.out.lt g hg).2))
  clear hb5 hcw c51 cq0 cq2 c3 hfl
  obtain ⟨plg, clg, hvl⟩ := own_any HLG.out
  have cq1 : w5.cell? ⟨bg, 1, none⟩ = some (.slice plg nl clg) := by
    rw [← hvl]
    exact (cell_of_row _ bg 1 _ _ _ (hst.at_ (g := bg) (ob := grp ep vlog (.slice pp nm.length cap)) (by simp))).trans rfl
  have HVL := Lib.hid hvl
  clear hvl
  have c52 : w5.cell? ⟨(W.heap.size + 1), 2, none⟩ = some (.slice q n c) := (cell_of_row _ (W.heap.size + 1) 2 _ _ _ (hst.at_ (g := (W.heap.size + 1)) (ob := .cells #[.int .i64 ep, .int .i64 3, .slice q n c] 33 (0, 0)) (by simp))).trans rfl
  have h5lt := hst.lt (p := (W.heap.size + 1, .cells #[.int .i64 ep, .int .i64 3, .slice q n c] 33 (0, 0))) (by simp)
  have hcl := clone_any q n c l w5 (by have := HNN.out; omega) (by have := HNN.out; omega) HX.out
  have NHX := HX
  clear HX
  go_wp2_with fail
  refine hcl.mono ?_
  rintro e w6 ⟨gc, cc, rfl, hc3, _, hgg, hown, hb6⟩
  replace hst := hst.keep hb6
  replace HR := Lib.hid (HR.out.keep hb6)
  replace HLG := Lib.hid (own_ext HLG.out (fun g hg => hb6.block g (HLG.out.lt g hg).2))
  replace HSB := Lib.hid (own_ext HSB.out (fun g hg => hb6.block g (HSB.out.lt g hg).2))
  have hgc : W.heap.size + 2 ≤ gc := by
    have := h5lt
    omega
  have hmid := send_set hB HLO.out HSO.out hl_bg hl_b hl_m1 hgc hst HR.out HLG.out HSB.out hown
  have HM := Lib.hid hmid
  have e5 := hst.at_ (g := W.heap.size + 1) (ob := .cells #[.int .i64 ep, .int .i64 3, .slice q n c] 33 (0, 0)) (by simp)
  have c52 : w6.cell? ⟨W.heap.size + 1, 2, none⟩ = some (.slice q n c) := (cell_of_row _ _ 2 _ _ _ e5).trans rfl
  have f52 : w6.frozen? ⟨W.heap.size + 1, 2, none⟩ = false := frozen_of_row w6 _ 2 _ _ e5
  clear hmid e5 hgg hc3 hown hb6 hst cq1 hcl
  go_wp2_with fail
  clear c52 f52
  generalize w6.setCell ⟨W.heap.size + 1, 2, none⟩ (.slice (some ⟨gc, 0, none⟩) n cc) = w7 at HM ⊢
  clear HR HLG HSB NHX hgc
  have HB7 := HM.out.base
  have HM2 := HM.out.bg_
  have HM5 := HM.out.p5_
  have HMO := HM.out.log_
  have NLT := HM.out.loglt
  have h63 : nl ≤ 2000000000000 := hnl
  have LBG := (Array.getElem?_eq_some_iff.1 HM2).1
  have NBG : Hid (vlog.ownBlock ≠ some bg) := Lib.hid HM.out.logne
  have HLT := Lib.hid NLT
  clear NLT
  refine wp_region_then (fun a b' w' => ∃ (gn : Nat) (v' : Value), b' = ((((((((((a.put (some 83) (.pointer (some ⟨bg, 0, none⟩))).put (some 84) (.pointer (some ⟨bg, 0, none⟩))).put (some 85) (.pointer (some ⟨bg, 0, none⟩))).put (some 86) (.pointer (some ⟨bg, 1, none⟩))).put (some 87) (vlog)).put (some 88) (.agg #[.int .i64 ep, .int .i64 3, .slice (some ⟨gc, 0, none⟩) n cc])).put (some 89) (.slice (some ⟨gn, 0, none⟩) 1 1)).put (some 90) (v')).put (some 91) (.pointer (some ⟨bg, 0, none⟩))).put (some 92) (.pointer (some ⟨bg, 1, none⟩))) ∧ PutR (fun v => grp ep v (.slice pp nm.length cap)) B 33 3 bg vlog nl xl [.int .i64 ep, .int .i64 3, .slice (some ⟨gc, 0, none⟩) n cc] w7 w') ?_ ?_
  · refine wp_region_rem (Chg (bg :: vlog.ownBlock.toList) w7) (by kernel_rfl) (by kernel_rfl) (fun _ _ _ _ _ h => h.elim) (Chg.refl _ _).drew ?_
    apply rem_sure 0 (by kernel_rfl) rfl (wanted_none rfl)
    · intro w2 hS K hK
      go_wp2_with fail
      exact hK _ hS (Ext.refl _)
    · kernel_rfl
    · kernel_rfl
    try ((repeat rw [put_none]); (try simp only [put_some, List.setIfInBounds_toArray, List.set_cons_succ, List.set_cons_zero]))
    apply rem_sure 1 (by kernel_rfl) rfl (wanted_none rfl)
    · intro w2 hS K hK
      go_wp2_with fail
      exact hK _ hS (Ext.refl _)
    · kernel_rfl
    · kernel_rfl
    try ((repeat rw [put_none]); (try simp only [put_some, List.setIfInBounds_toArray, List.set_cons_succ, List.set_cons_zero]))
    apply rem_sure 2 (by kernel_rfl) rfl (wanted_none rfl)
    · intro w2 hS K hK
      go_wp2_with fail
      exact hK _ hS (Ext.refl _)
    · kernel_rfl
    · kernel_rfl
    try ((repeat rw [put_none]); (try simp only [put_some, List.setIfInBounds_toArray, List.set_cons_succ, List.set_cons_zero]))
    apply rem_sure 3 (by kernel_rfl) rfl (wanted_none rfl)
    · intro w2 hS K hK
      go_wp2_with fail
      exact hK _ hS (Ext.refl _)
    · kernel_rfl
    · kernel_rfl
    try ((repeat rw [put_none]); (try simp only [put_some, List.setIfInBounds_toArray, List.set_cons_succ, List.set_cons_zero]))
    refine rem_two 4 5 (by kernel_rfl) (step_of rfl (wanted_none rfl) ?_) (step_of rfl (wanted_none rfl) ?_)
    · intro v21 hS21 hE21 K hK
      have cq : v21.cell? ⟨bg, 1, none⟩ = some vlog := (cell_of_row _ bg 1 _ _ _ (hE21 _ _ HM2)).trans rfl
      go_wp2_with fail
      refine hK _ _ (hS21) ?_
      clear hK K
      try ((repeat rw [put_none]); (try simp only [put_some, List.setIfInBounds_toArray, List.set_cons_succ, List.set_cons_zero]))
      refine rem_one 5 (by kernel_rfl) (step_of rfl (wanted_none rfl) ?_)
      intro v22 hS22 hE22 K hK
      have hx := (hE22 _ _ (hE21 _ _ HM5))
      refine wp_load_row 33 _ rfl (W.heap.size + 1) rfl 33 #[.int .i64 ep, .int .i64 3, .slice (some ⟨gc, 0, none⟩) n cc] (0, 0) _ hx Try.underlying33 rfl infoE ?_
      refine hK _ _ (hS22) ?_
      clear hK K
      try ((repeat rw [put_none]); (try simp only [put_some, List.setIfInBounds_toArray, List.set_cons_succ, List.set_cons_zero]))
      refine rem_one 6 (by kernel_rfl) (step_of rfl (wanted_none rfl) ?_)
      intro v23 hS23 hE23 K hK
      have hb23 : Below v23.heap.size v23 (v23.alloc (.cells #[.int .i64 ep, .int .i64 3, .slice (some ⟨gc, 0, none⟩) n cc] 33)) := (Below.refl _ _).alloc (Nat.le_refl _) _
      go_wp2_with fail
      refine hK _ _ (hS23.alloc _) ?_
      clear hK K
      try ((repeat rw [put_none]); (try simp only [put_some, List.setIfInBounds_toArray, List.set_cons_succ, List.set_cons_zero]))
      refine rem_one 7 (by kernel_rfl) (step_of rfl (wanted_none rfl) ?_)
      intro v24 hS24 hE24 K hK
      have ho := (own_E (own_ext (own_E (own_E (own_E HMO hE21) hE22) hE23) (fun g hg => hb23.block g (by have := HLT.out g hg; have := hS23.size; omega))) hE24)
      have hnw := (hE24 _ _ (alloc_at v23 _))
      have hrr := (hE24 _ _ (blk_stay hb23 (hE23 _ _ (hE22 _ _ (hE21 _ _ HM2)))))
      have lsz := hS24.size
      refine wp_append_at _ _ 35 rfl B 33 i0 _ 3 40 Try.underlying35 hi0 hz0 hz1 hz2 rfl (by omega) vlog nl xl rfl ho ⟨v23.heap.size, 0, none⟩ 1 1 [.int .i64 ep, .int .i64 3, .slice (some ⟨gc, 0, none⟩) n cc] rfl rfl (fun j u hu => by
          rw [addr_add, Nat.zero_add]
          unfold World.cell?
          simp only [hnw]
          simpa using hu) (by simp [Value.oneCell']) (by unfold maxLen; omega) (by omega) (by omega) ?_
      intro v' w5 hown hgr hat
      obtain ⟨g5, c5, rfl⟩ := own_form hown (by omega)
      have hr5 : w5.heap[bg]? = some (grp ep vlog (.slice pp nm.length cap)) := (hgr.block bg (by omega) (fun h => NBG.out h.symm)).trans hrr
      have hS5 : Chg (bg :: vlog.ownBlock.toList) w7 w5 := hS24.grown hgr (fun k hk => .inl (by rw [hk]; simp))
      have hat5 : (Value.slice (some ⟨g5, 0, none⟩) (nl + 1) c5).ownBlock = vlog.ownBlock ∨ ∃ g, (Value.slice (some ⟨g5, 0, none⟩) (nl + 1) c5).ownBlock = some g ∧ w7.heap.size ≤ g := hat.imp id (fun h => ⟨_, h, lsz⟩)
      have hne5 : (Value.slice (some ⟨g5, 0, none⟩) (nl + 1) c5).ownBlock ≠ some bg := by
        rcases hat5 with h | ⟨g, h, hg⟩
        · rw [h]; exact NBG.out
        · rw [h]; intro h2; cases h2; omega
      have HR := Lib.hid (And.intro hown (And.intro hat5 hne5))
      clear hown hgr hat hat5 hne5 ho hnw hrr lsz
      refine hK _ _ (hS5) ?_
      clear hK K
      try ((repeat rw [put_none]); (try simp only [put_some, List.setIfInBounds_toArray, List.set_cons_succ, List.set_cons_zero]))
      apply rem_sure 8 (by kernel_rfl) rfl (wanted_none rfl)
      · intro w2 hS K hK
        go_wp2_with fail
        exact hK _ hS (Ext.refl _)
      · kernel_rfl
      · kernel_rfl
      try ((repeat rw [put_none]); (try simp only [put_some, List.setIfInBounds_toArray, List.set_cons_succ, List.set_cons_zero]))
      apply rem_sure 9 (by kernel_rfl) rfl (wanted_none rfl)
      · intro w2 hS K hK
        go_wp2_with fail
        exact hK _ hS (Ext.refl _)
      · kernel_rfl
      · kernel_rfl
      try ((repeat rw [put_none]); (try simp only [put_some, List.setIfInBounds_toArray, List.set_cons_succ, List.set_cons_zero]))
      refine rem_one 10 (by kernel_rfl) (step_of rfl (wanted_none rfl) ?_)
      intro v25 hS25 hE25 K hK
      have hbr := (hE25 _ _ hr5)
      have ho9 := (own_E HR.out.1 hE25)
      have cq : v25.cell? ⟨bg, 1, none⟩ = some vlog := (cell_of_row _ bg 1 _ _ _ hbr).trans rfl
      have fq : v25.frozen? ⟨bg, 1, none⟩ = false := frozen_of_row v25 bg 1 _ _ hbr
      have hend := Lib.hid (And.intro (heap_setCell_same v25 bg 1 _ _ (.slice (some ⟨g5, 0, none⟩) (nl + 1) c5) hbr) (own_ext ho9 (W1 := v25.setCell ⟨bg, 1, none⟩ (.slice (some ⟨g5, 0, none⟩) (nl + 1) c5)) (fun g hg => Below.heap_setCell _ _ _ _ (by rintro rfl; exact HR.out.2.2 hg))))
      have hS8 := Lib.hid (hS25.setCell (g := bg) (.inl (by simp)) 1 (.slice (some ⟨g5, 0, none⟩) (nl + 1) c5))
      clear hbr ho9
      go_wp2_with fail
      refine hK _ _ (hS8.out) ?_
      clear hK K
      try ((repeat rw [put_none]); (try simp only [put_some, List.setIfInBounds_toArray, List.set_cons_succ, List.set_cons_zero]))
      refine rem_nil ?_
      intro v9 hS9 hE9
      exact ⟨v23.heap.size, (.slice (some ⟨g5, 0, none⟩) (nl + 1) c5), rfl, (.slice (some ⟨g5, 0, none⟩) (nl + 1) c5), (hE9 _ _ hend.out.1), (own_E hend.out.2 hE9), HR.out.2.1, hS9⟩
    · intro v26 hS26 hE26 K hK
      have hx := (hE26 _ _ HM5)
      refine wp_load_row 33 _ rfl (W.heap.size + 1) rfl 33 #[.int .i64 ep, .int .i64 3, .slice (some ⟨gc, 0, none⟩) n cc] (0, 0) _ hx Try.underlying33 rfl infoE ?_
      refine hK _ _ (hS26) ?_
      clear hK K
      try ((repeat rw [put_none]); (try simp only [put_some, List.setIfInBounds_toArray, List.set_cons_succ, List.set_cons_zero]))
      refine rem_two 4 6 (by kernel_rfl) (step_of rfl (wanted_none rfl) ?_) (step_of rfl (wanted_none rfl) ?_)
      · intro v27 hS27 hE27 K hK
        have cq : v27.cell? ⟨bg, 1, none⟩ = some vlog := (cell_of_row _ bg 1 _ _ _ (hE27 _ _ (hE26 _ _ HM2))).trans rfl
        go_wp2_with fail
        refine hK _ _ (hS27) ?_
        clear hK K
        try ((repeat rw [put_none]); (try simp only [put_some, List.setIfInBounds_toArray, List.set_cons_succ, List.set_cons_zero]))
        refine rem_one 6 (by kernel_rfl) (step_of rfl (wanted_none rfl) ?_)
        intro v28 hS28 hE28 K hK
        have hb28 : Below v28.heap.size v28 (v28.alloc (.cells #[.int .i64 ep, .int .i64 3, .slice (some ⟨gc, 0, none⟩) n cc] 33)) := (Below.refl _ _).alloc (Nat.le_refl _) _
        go_wp2_with fail
        refine hK _ _ (hS28.alloc _) ?_
        clear hK K
        try ((repeat rw [put_none]); (try simp only [put_some, List.setIfInBounds_toArray, List.set_cons_succ, List.set_cons_zero]))
        refine rem_one 7 (by kernel_rfl) (step_of rfl (wanted_none rfl) ?_)
        intro v29 hS29 hE29 K hK
        have ho := (own_E (own_ext (own_E (own_E (own_E HMO hE26) hE27) hE28) (fun g hg => hb28.block g (by have := HLT.out g hg; have := hS28.size; omega))) hE29)
        have hnw := (hE29 _ _ (alloc_at v28 _))
        have hrr := (hE29 _ _ (blk_stay hb28 (hE28 _ _ (hE27 _ _ (hE26 _ _ HM2)))))
        have lsz := hS29.size
        refine wp_append_at _ _ 35 rfl B 33 i0 _ 3 40 Try.underlying35 hi0 hz0 hz1 hz2 rfl (by omega) vlog nl xl rfl ho ⟨v28.heap.size, 0, none⟩ 1 1 [.int .i64 ep, .int .i64 3, .slice (some ⟨gc, 0, none⟩) n cc] rfl rfl (fun j u hu => by
            rw [addr_add, Nat.zero_add]
            unfold World.cell?
            simp only [hnw]
            simpa using hu) (by simp [Value.oneCell']) (by unfold maxLen; omega) (by omega) (by omega) ?_
        intro v' w5 hown hgr hat
        obtain ⟨g5, c5, rfl⟩ := own_form hown (by omega)
        have hr5 : w5.heap[bg]? = some (grp ep vlog (.slice pp nm.length cap)) := (hgr.block bg (by omega) (fun h => NBG.out h.symm)).trans hrr
        have hS5 : Chg (bg :: vlog.ownBlock.toList) w7 w5 := hS29.grown hgr (fun k hk => .inl (by rw [hk]; simp))
        have hat5 : (Value.slice (some ⟨g5, 0, none⟩) (nl + 1) c5).ownBlock = vlog.ownBlock ∨ ∃ g, (Value.slice (some ⟨g5, 0, none⟩) (nl + 1) c5).ownBlock = some g ∧ w7.heap.size ≤ g := hat.imp id (fun h => ⟨_, h, lsz⟩)
        have hne5 : (Value.slice (some ⟨g5, 0, none⟩) (nl + 1) c5).ownBlock ≠ some bg := by
          rcases hat5 with h | ⟨g, h, hg⟩
          · rw [h]; exact NBG.out
          · rw [h]; intro h2; cases h2; omega
        have HR := Lib.hid (And.intro hown (And.intro hat5 hne5))
        clear hown hgr hat hat5 hne5 ho hnw hrr lsz
        refine hK _ _ (hS5) ?_
        clear hK K
        try ((repeat rw [put_none]); (try simp only [put_some, List.setIfInBounds_toArray, List.set_cons_succ, List.set_cons_zero]))
        apply rem_sure 8 (by kernel_rfl) rfl (wanted_none rfl)
        · intro w2 hS K hK
          go_wp2_with fail
          exact hK _ hS (Ext.refl _)
        · kernel_rfl
        · kernel_rfl
        try ((repeat rw [put_none]); (try simp only [put_some, List.setIfInBounds_toArray, List.set_cons_succ, List.set_cons_zero]))
        apply rem_sure 9 (by kernel_rfl) rfl (wanted_none rfl)
        · intro w2 hS K hK
          go_wp2_with fail
          exact hK _ hS (Ext.refl _)
        · kernel_rfl
        · kernel_rfl
        try ((repeat rw [put_none]); (try simp only [put_some, List.setIfInBounds_toArray, List.set_cons_succ, List.set_cons_zero]))
        refine rem_one 10 (by kernel_rfl) (step_of rfl (wanted_none rfl) ?_)
        intro v30 hS30 hE30 K hK
        have hbr := (hE30 _ _ hr5)
        have ho9 := (own_E HR.out.1 hE30)
        have cq : v30.cell? ⟨bg, 1, none⟩ = some vlog := (cell_of_row _ bg 1 _ _ _ hbr).trans rfl
        have fq : v30.frozen? ⟨bg, 1, none⟩ = false := frozen_of_row v30 bg 1 _ _ hbr
        have hend := Lib.hid (And.intro (heap_setCell_same v30 bg 1 _ _ (.slice (some ⟨g5, 0, none⟩) (nl + 1) c5) hbr) (own_ext ho9 (W1 := v30.setCell ⟨bg, 1, none⟩ (.slice (some ⟨g5, 0, none⟩) (nl + 1) c5)) (fun g hg => Below.heap_setCell _ _ _ _ (by rintro rfl; exact HR.out.2.2 hg))))
        have hS8 := Lib.hid (hS30.setCell (g := bg) (.inl (by simp)) 1 (.slice (some ⟨g5, 0, none⟩) (nl + 1) c5))
        clear hbr ho9
        go_wp2_with fail
        refine hK _ _ (hS8.out) ?_
        clear hK K
        try ((repeat rw [put_none]); (try simp only [put_some, List.setIfInBounds_toArray, List.set_cons_succ, List.set_cons_zero]))
        refine rem_nil ?_
        intro v9 hS9 hE9
        exact ⟨v28.heap.size, (.slice (some ⟨g5, 0, none⟩) (nl + 1) c5), rfl, (.slice (some ⟨g5, 0, none⟩) (nl + 1) c5), (hE9 _ _ hend.out.1), (own_E hend.out.2 hE9), HR.out.2.1, hS9⟩
      · intro v31 hS31 hE31 K hK
        have hb31 : Below v31.heap.size v31 (v31.alloc (.cells #[.int .i64 ep, .int .i64 3, .slice (some ⟨gc, 0, none⟩) n cc] 33)) := (Below.refl _ _).alloc (Nat.le_refl _) _
        go_wp2_with fail
        refine hK _ _ (hS31.alloc _) ?_
        clear hK K
        try ((repeat rw [put_none]); (try simp only [put_some, List.setIfInBounds_toArray, List.set_cons_succ, List.set_cons_zero]))
        refine rem_one 4 (by kernel_rfl) (step_of rfl (wanted_none rfl) ?_)
        intro v32 hS32 hE32 K hK
        have cq : v32.cell? ⟨bg, 1, none⟩ = some vlog := (cell_of_row _ bg 1 _ _ _ (hE32 _ _ (blk_stay hb31 (hE31 _ _ (hE26 _ _ HM2))))).trans rfl
        go_wp2_with fail
        refine hK _ _ (hS32) ?_
        clear hK K
        try ((repeat rw [put_none]); (try simp only [put_some, List.setIfInBounds_toArray, List.set_cons_succ, List.set_cons_zero]))
        refine rem_one 7 (by kernel_rfl) (step_of rfl (wanted_none rfl) ?_)
        intro v33 hS33 hE33 K hK
        have ho := (own_E (own_E (own_ext (own_E (own_E HMO hE26) hE31) (fun g hg => hb31.block g (by have := HLT.out g hg; have := hS31.size; omega))) hE32) hE33)
        have hnw := (hE33 _ _ (hE32 _ _ (alloc_at v31 _)))
        have hrr := (hE33 _ _ (hE32 _ _ (blk_stay hb31 (hE31 _ _ (hE26 _ _ HM2)))))
        have lsz := hS33.size
        refine wp_append_at _ _ 35 rfl B 33 i0 _ 3 40 Try.underlying35 hi0 hz0 hz1 hz2 rfl (by omega) vlog nl xl rfl ho ⟨v31.heap.size, 0, none⟩ 1 1 [.int .i64 ep, .int .i64 3, .slice (some ⟨gc, 0, none⟩) n cc] rfl rfl (fun j u hu => by
            rw [addr_add, Nat.zero_add]
            unfold World.cell?
            simp only [hnw]
            simpa using hu) (by simp [Value.oneCell']) (by unfold maxLen; omega) (by omega) (by omega) ?_
        intro v' w5 hown hgr hat
        obtain ⟨g5, c5, rfl⟩ := own_form hown (by omega)
        have hr5 : w5.heap[bg]? = some (grp ep vlog (.slice pp nm.length cap)) := (hgr.block bg (by omega) (fun h => NBG.out h.symm)).trans hrr
        have hS5 : Chg (bg :: vlog.ownBlock.toList) w7 w5 := hS33.grown hgr (fun k hk => .inl (by rw [hk]; simp))
        have hat5 : (Value.slice (some ⟨g5, 0, none⟩) (nl + 1) c5).ownBlock = vlog.ownBlock ∨ ∃ g, (Value.slice (some ⟨g5, 0, none⟩) (nl + 1) c5).ownBlock = some g ∧ w7.heap.size ≤ g := hat.imp id (fun h => ⟨_, h, lsz⟩)
        have hne5 : (Value.slice (some ⟨g5, 0, none⟩) (nl + 1) c5).ownBlock ≠ some bg := by
          rcases hat5 with h | ⟨g, h, hg⟩
          · rw [h]; exact NBG.out
          · rw [h]; intro h2; cases h2; omega
        have HR := Lib.hid (And.intro hown (And.intro hat5 hne5))
        clear hown hgr hat hat5 hne5 ho hnw hrr lsz
        refine hK _ _ (hS5) ?_
        clear hK K
        try ((repeat rw [put_none]); (try simp only [put_some, List.setIfInBounds_toArray, List.set_cons_succ, List.set_cons_zero]))
        apply rem_sure 8 (by kernel_rfl) rfl (wanted_none rfl)
        · intro w2 hS K hK
          go_wp2_with fail
          exact hK _ hS (Ext.refl _)
        · kernel_rfl
        · kernel_rfl
        try ((repeat rw [put_none]); (try simp only [put_some, List.setIfInBounds_toArray, List.set_cons_succ, List.set_cons_zero]))
        apply rem_sure 9 (by kernel_rfl) rfl (wanted_none rfl)
        · intro w2 hS K hK
          go_wp2_with fail
          exact hK _ hS (Ext.refl _)
        · kernel_rfl
        · kernel_rfl
        try ((repeat rw [put_none]); (try simp only [put_some, List.setIfInBounds_toArray, List.set_cons_succ, List.set_cons_zero]))
        refine rem_one 10 (by kernel_rfl) (step_of rfl (wanted_none rfl) ?_)
        intro v34 hS34 hE34 K hK
        have hbr := (hE34 _ _ hr5)
        have ho9 := (own_E HR.out.1 hE34)
        have cq : v34.cell? ⟨bg, 1, none⟩ = some vlog := (cell_of_row _ bg 1 _ _ _ hbr).trans rfl
        have fq : v34.frozen? ⟨bg, 1, none⟩ = false := frozen_of_row v34 bg 1 _ _ hbr
        have hend := Lib.hid (And.intro (heap_setCell_same v34 bg 1 _ _ (.slice (some ⟨g5, 0, none⟩) (nl + 1) c5) hbr) (own_ext ho9 (W1 := v34.setCell ⟨bg, 1, none⟩ (.slice (some ⟨g5, 0, none⟩) (nl + 1) c5)) (fun g hg => Below.heap_setCell _ _ _ _ (by rintro rfl; exact HR.out.2.2 hg))))
        have hS8 := Lib.hid (hS34.setCell (g := bg) (.inl (by simp)) 1 (.slice (some ⟨g5, 0, none⟩) (nl + 1) c5))
        clear hbr ho9
        go_wp2_with fail
        refine hK _ _ (hS8.out) ?_
        clear hK K
        try ((repeat rw [put_none]); (try simp only [put_some, List.setIfInBounds_toArray, List.set_cons_succ, List.set_cons_zero]))
        refine rem_nil ?_
        intro v9 hS9 hE9
        exact ⟨v31.heap.size, (.slice (some ⟨g5, 0, none⟩) (nl + 1) c5), rfl, (.slice (some ⟨g5, 0, none⟩) (nl + 1) c5), (hE9 _ _ hend.out.1), (own_E hend.out.2 hE9), HR.out.2.1, hS9⟩
  rintro b' w8 ⟨gn, v', rfl, hk⟩
  obtain ⟨vlog', h8⟩ := send_mid HM.out hk
  have H8 := Lib.hid h8
  try ((repeat rw [put_none]); (try simp only [put_some, List.setIfInBounds_toArray, List.set_cons_succ, List.set_cons_zero]))
  have cq2 : w8.cell? ⟨bg, 2, none⟩ = some (.slice pp nm.length cap) := (cell_of_row _ bg 2 _ _ _ h8.bg_).trans rfl
  have HT := Lib.hid (TellR.start (nm := nm) (cs := [.string s, .int .i64 nl, .int .i64 ep, .int .i64 3, .slice (some ⟨gc, 0, none⟩) n cc]) h8.rep)
  clear hk h8 HM2 HM5 HMO LBG NBG HLT HM
  go_wp2_with fail
  go_loopw [98] (fun i wr => ∃ j : Nat, j ≤ nm.length ∧ i = .int .i64 j ∧ Hid (TellR B m2 nm L [.string s, .int .i64 nl, .int .i64 ep, .int .i64 3, .slice (some ⟨gc, 0, none⟩) n cc] w8 j wr)) (fun i _ => (nm.length - intOf i).toNat)
  case atStart => exact ⟨0, by omega, rfl, HT⟩
  case round =>
    obtain ⟨j, hj, rfl, HTJ⟩ := hrel
    clear HT cq2
    by_cases hlt : j < nm.length
    · have hl : decide ((j : Int) < (nm.length : Int)) = true := by simp; omega
      obtain ⟨gsb, hpp, hnm⟩ := H8.out.name hlt
      have hcell := hnm wr HTJ.out.chg
      subst hpp
      have HGD : Hid (nm.getD j { data := #[] } ∈ nm ∧ nm.take (j + 1) = nm.take j ++ [nm.getD j { data := #[] }]) := Lib.hid ⟨getD_mem.1 ⟨j, hlt, rfl⟩, by
        rw [List.take_add_one, List.getD_eq_getElem?_getD, List.getElem?_eq_getElem hlt]
        rfl⟩
      clear hnm
      generalize nm.getD j { data := #[] } = t at hcell HGD
      go_wp2_with fail
      obtain ⟨Lj, hRj, hcw, hcg, hownj, hwf⟩ := HTJ.out
      have hN : Hid (∀ x : Nat × List Value, x = wf Lj t → x.1 ≤ 100000) := Lib.hid fun x hx => by
        rw [hx, hwf]
        exact Nat.le_trans (few HFL.out hk HGD.out.1 [.string s, .int .i64 nl, .int .i64 ep, .int .i64 3, .slice (some ⟨gc, 0, none⟩) n cc] j) (by omega)
      have HOJ := Lib.hid hownj
      have HWF := Lib.hid hwf
      have HRJ := Lib.hid hRj
      have HC0 := Lib.hid (And.intro hcw hcg)
      clear hRj hcw hcg hownj hwf HTJ hcell
      refine wp_region_then (fun a b' w' => ∃ (vv : Value) (br : Nat), b' = (((((((((((a.put (some 102) (.pointer (some ⟨b, 0, none⟩))).put (some 103) (.pointer (some ⟨b, 0, none⟩))).put (some 104) (.pointer (some ⟨b, 2, none⟩))).put (some 105) (.map (some m2))).put (some 106) (.string t)).put (some 107) (.pointer (some ⟨br, 0, none⟩))).put (some 108) (.string s)).put (some 109) (.int .i64 nl)).put (some 110) (.agg #[.int .i64 ep, .int .i64 3, .slice (some ⟨gc, 0, none⟩) n cc])).put (some 111) (.agg #[.string s, .int .i64 nl, .int .i64 ep, .int .i64 3, .slice (some ⟨gc, 0, none⟩) n cc])).put (some 112) (vv)) ∧ TellR B m2 nm L [.string s, .int .i64 nl, .int .i64 ep, .int .i64 3, .slice (some ⟨gc, 0, none⟩) n cc] w8 (j + 1) w') ?_ ?_
      · refine wp_region_rem (fun v => ChgW m2 w8 v ∧ Chg (blkW m2 L) w8 v) (by kernel_rfl) (by kernel_rfl) (fun _ _ _ _ _ h => h.elim) ⟨HC0.out.1.drew, HC0.out.2.drew⟩ ?_
        apply rem_sure 0 (by kernel_rfl) rfl (wanted_none rfl)
        · intro w2 hS K hK
          have cq : w2.cell? ⟨W.heap.size, 0, none⟩ = some (.pointer (some ⟨b, 0, none⟩)) := (cell_of_row w2 W.heap.size 0 _ _ _ (hS.1.block W.heap.size (.cells #[.pointer (some ⟨b, 0, none⟩)] 22 (0, 0)) H8.out.p3_.1 H8.out.p3_.2 rfl)).trans rfl
          go_wp2_with fail
          exact hK _ hS (Ext.refl _)
        · kernel_rfl
        · kernel_rfl
        try ((repeat rw [put_none]); (try simp only [put_some, List.setIfInBounds_toArray, List.set_cons_succ, List.set_cons_zero]))
        apply rem_sure 1 (by kernel_rfl) rfl (wanted_none rfl)
        · intro w2 hS K hK
          go_wp2_with fail
          exact hK _ hS (Ext.refl _)
        · kernel_rfl
        · kernel_rfl
        try ((repeat rw [put_none]); (try simp only [put_some, List.setIfInBounds_toArray, List.set_cons_succ, List.set_cons_zero]))
        apply rem_sure 2 (by kernel_rfl) rfl (wanted_none rfl)
        · intro w2 hS K hK
          go_wp2_with fail
          exact hK _ hS (Ext.refl _)
        · kernel_rfl
        · kernel_rfl
        try ((repeat rw [put_none]); (try simp only [put_some, List.setIfInBounds_toArray, List.set_cons_succ, List.set_cons_zero]))
        apply rem_sure 3 (by kernel_rfl) rfl (wanted_none rfl)
        · intro w2 hS K hK
          have cq : w2.cell? ⟨b, 2, none⟩ = some (.map (some m2)) := (cell_of_row w2 b 2 _ _ _ (hS.1.block b (svc m0 m1 m2) H8.out.svc_.1 H8.out.svc_.2 rfl)).trans rfl
          go_wp2_with fail
          exact hK _ hS (Ext.refl _)
        · kernel_rfl
        · kernel_rfl
        try ((repeat rw [put_none]); (try simp only [put_some, List.setIfInBounds_toArray, List.set_cons_succ, List.set_cons_zero]))
        apply rem_sure 4 (by kernel_rfl) rfl (wanted_none rfl)
        · intro w2 hS K hK
          go_wp2_with fail
          exact hK _ hS (Ext.refl _)
        · kernel_rfl
        · kernel_rfl
        try ((repeat rw [put_none]); (try simp only [put_some, List.setIfInBounds_toArray, List.set_cons_succ, List.set_cons_zero]))
        apply rem_sure 6 (by kernel_rfl) rfl (wanted_none rfl)
        · intro w2 hS K hK
          go_wp2_with fail
          exact hK _ hS (Ext.refl _)
        · kernel_rfl
        · kernel_rfl
        try ((repeat rw [put_none]); (try simp only [put_some, List.setIfInBounds_toArray, List.set_cons_succ, List.set_cons_zero]))
        apply rem_sure 7 (by kernel_rfl) rfl (wanted_none rfl)
        · intro w2 hS K hK
          go_wp2_with fail
          exact hK _ hS (Ext.refl _)
        · kernel_rfl
        · kernel_rfl
        try ((repeat rw [put_none]); (try simp only [put_some, List.setIfInBounds_toArray, List.set_cons_succ, List.set_cons_zero]))
        apply rem_sure 8 (by kernel_rfl) rfl (wanted_none rfl)
        · intro w2 hS K hK
          exact wp_load_row 33 _ rfl (W.heap.size + 1) rfl 33 #[.int .i64 ep, .int .i64 3, .slice (some ⟨gc, 0, none⟩) n cc] (0, 0) _ (hS.1.block _ _ H8.out.p5_.1 H8.out.p5_.2 rfl) Try.underlying33 rfl infoE (hK _ hS (Ext.refl _))
        · kernel_rfl
        · kernel_rfl
        try ((repeat rw [put_none]); (try simp only [put_some, List.setIfInBounds_toArray, List.set_cons_succ, List.set_cons_zero]))
        apply rem_sure 9 (by kernel_rfl) rfl (wanted_none rfl)
        · intro w2 hS K hK
          go_wp2_with fail
          exact hK _ hS (Ext.refl _)
        · kernel_rfl
        · kernel_rfl
        try ((repeat rw [put_none]); (try simp only [put_some, List.setIfInBounds_toArray, List.set_cons_succ, List.set_cons_zero]))
        refine rem_one 5 (by kernel_rfl) (step_of rfl (wanted_none rfl) ?_)
        intro v21 hS21 hE21 K hK
        have hR := (HRJ.out.ext hE21)
        have hB5 : B ≤ v21.heap.size := Nat.le_trans H8.out.base hS21.1.size
        obtain ⟨es', clock', hm', hE'⟩ := hR.map
        have hof := ofW_any m2 clock' es' (Lj.map fun e => (e.name, e.r)) t v21 hm' hE'
        have HR5 := Lib.hid hR
        clear hm' hE' hR
        go_wp2_with fail
        refine hof.mono ?_
        intro e u21 hr
        obtain ⟨L1, row, hR1, hrow, hname, rfl, ⟨hch1, hkp1⟩, hcase⟩ := HR5.out.of hB5 hr
        obtain ⟨hpf, hrw⟩ := WRep.wf_of hR1 hrow hname hcase
        have HS5 : Hid (ChgW m2 w8 u21 ∧ Chg (blkW m2 L) w8 u21) := Lib.hid ⟨hS21.1.trans hch1, chg_via hS21.2 HOJ.out hkp1.chg⟩
        have HO5 := Lib.hid (own_thru HOJ.out hS21.1.size hkp1.own)
        have HMEM := Lib.hid hrow
        have HNM := Lib.hid hname
        have HPF := Lib.hid hpf
        have HRW := Lib.hid hrw
        have hn5 : row.n ≤ 100000 := hN.out _ hrw
        have HR6 := Lib.hid hR1
        clear hr hof hR1 hrow hname hch1 hkp1 hcase hpf hrw HR5
        refine hK _ _ (HS5.out) ?_
        clear hK K
        try ((repeat rw [put_none]); (try simp only [put_some, List.setIfInBounds_toArray, List.set_cons_succ, List.set_cons_zero]))
        refine rem_one 10 (by kernel_rfl) (step_of rfl (wanted_none rfl) ?_)
        intro v22 hS22 hE22 K hK
        have hR := (HR6.out.ext hE22)
        have hB7 : B ≤ v22.heap.size := Nat.le_trans H8.out.base hS22.1.size
        have hput := putW_any B row.r row.n row.v row.xs (.string s) (.int .i64 nl) (.int .i64 ep) (.int .i64 3) (.slice (some ⟨gc, 0, none⟩) n cc) (by simp [Value.oneCell']) v22 hn5 hB7 (hR.row row HMEM.out) (hR.own row HMEM.out) (hR.own_ne HMEM.out HMEM.out)
        have HR7 := Lib.hid hR
        clear hR
        go_wp2_with fail
        refine hput.mono ?_
        rintro e u22 ⟨⟨vv, rfl⟩, hpr⟩
        obtain ⟨v5, hR4, hc4, hk4⟩ := HR7.out.put HMEM.out hpr
        have HWE := Lib.hid (HR7.out.wf_upd HMEM.out v5 (row.n + 1) (row.xs ++ [.string s, .int .i64 nl, .int .i64 ep, .int .i64 3, .slice (some ⟨gc, 0, none⟩) n cc]))
        have HS7 : Hid (ChgW m2 w8 u22 ∧ Chg (blkW m2 L) w8 u22) := Lib.hid ⟨hS22.1.trans hc4, chg_via hS22.2 HO5.out hk4.chg⟩
        have HO7 := Lib.hid (own_thru HO5.out hS22.1.size hk4.own)
        have HR8 := Lib.hid hR4
        clear hput hpr hR4 hc4 hk4 HR7
        refine hK _ _ (HS7.out) ?_
        clear hK K
        try ((repeat rw [put_none]); (try simp only [put_some, List.setIfInBounds_toArray, List.set_cons_succ, List.set_cons_zero]))
        refine rem_nil ?_
        intro v9 hS9 hE9
        exact ⟨vv, row.r, rfl, _, (HR8.out.ext hE9), hS9.1, hS9.2, HO7.out, tell_next HGD.out.2 HWF.out HNM.out HPF.out HRW.out HWE.out⟩
      rintro b' w9 ⟨vv, br, rfl, hk9⟩
      have HT := Lib.hid hk9
      clear hk9
      try ((repeat rw [put_none]); (try simp only [put_some, List.setIfInBounds_toArray, List.set_cons_succ, List.set_cons_zero]))
      go_wp2_with fail
      go_roundw
      case rel => exact ⟨j + 1, by omega, rfl, HT⟩
      case measure => simp [intOf]; omega
    · obtain rfl : j = nm.length := by omega
      have hl : decide ((nm.length : Int) < (nm.length : Int)) = false := by simp
      have e5 := HTJ.out.stand H8.out.p5_.1 H8.out.p5_.2 rfl
      have eg := HTJ.out.stand H8.out.bg_ H8.out.bgne rfl
      have c51 : wr.cell? ⟨W.heap.size + 1, 1, none⟩ = some (.int .i64 3) := (cell_of_row _ (W.heap.size + 1) 1 _ _ _ e5).trans rfl
      have hw3 : wrap64 (ep + 1) = ep + 1 := by
        have := HEP.out
        unfold wrap64; omega
      have cq0 : wr.cell? ⟨bg, 0, none⟩ = some (.int .i64 ep) := (cell_of_row _ bg 0 _ _ _ eg).trans rfl
      have fq0 : wr.frozen? ⟨bg, 0, none⟩ = false := frozen_of_row wr bg 0 _ _ eg
      have HFIN := Lib.hid (send_fin H8.out HTJ.out HMB.out (by have := HOV.out; omega) HFL.out (by simp) (heap_setCell_same wr bg 0 _ _ (.int .i64 (ep + 1)) eg) ((Chg.refl _ _).setCell (.inl (by simp)) 0 _))
      clear HTJ e5 eg
      go_wp2_with fail
      go_step3
      go_wp2_with fail
      rw [jump_ret]
      go_ret2
      exact HFIN.out
set_option maxRecDepth 100000 in
set_option maxHeartbeats 40000000 in
theorem send_okx (B b m0 m1 m2 bg clock n c nl : Nat) (es : Array MapEntry) (E : List (ByteArray × Nat)) (ep kd : Int) (vlog vsubs : Value) (xl : List Value) (nm : List ByteArray) (L : List WRow) (q : Option Addr) (l : List Int) (s : ByteArray) (hs : 1 ≤ s.size ∧ s.size ≤ 255) (W : World)
    (hB : B ≤ W.heap.size) (hb : W.heap[b]? = some (svc m0 m1 m2)) (hm : W.heap[m1]? = some (.map es clock)) (hE : MapIs es E) (hl : look E s = some bg) (hg : W.heap[bg]? = some (grp ep vlog vsubs))
    (hlog : W.ownsRow B 33 3 vlog nl xl) (hsub : W.ownsRow B 9 1 vsubs nm.length (nm.map Value.string)) (hk : nm.length ≤ 16) (hsz : ∀ t ∈ nm, 1 ≤ t.size ∧ t.size ≤ 255)
    (hR : WRep B m2 L W) (hep : 0 ≤ ep ∧ ep < 4294967296) (hkd : 1 ≤ kd ∧ kd ≤ 3) (hx : Bs W q n l) (hn : 1 ≤ n ∧ n ≤ 65536) (hnl : nl ≤ 2000000000000) (k3 : ¬ kd = 3) (hfl : full (wf L) nm = false) :
    Calls Try.prog 13 #[.pointer (some ⟨b, 0, none⟩), .string s, .agg #[.int .i64 ep, .int .i64 kd, .slice q n c]] W (SendR B m2 bg n nl ep kd vlog vsubs xl nm L l s W) := by
  have K3 := Lib.hid k3
  clear k3
  obtain ⟨pp, cap, rfl⟩ := own_any hsub
  have d1 : decide (ep < 0) = false := by simp; omega
  have d2 : decide (ep ≥ 4294967296) = false := by simp; omega
  have d3 : decide (kd < 1) = false := by simp; omega
  have d4 : decide (kd > 3) = false := by simp; omega
  obtain ⟨y, hy, hv, _⟩ := find_names s es.toList E 0 hE
  rw [hl] at hv
  have hv : lookV (.pointer none) y = .pointer (some ⟨bg, 0, none⟩) := hv
  have hself : Kq W [(bg, grp ep vlog (.slice pp nm.length cap)), (m1, .map es clock), (b, svc m0 m1 m2)] W := ⟨by simp; exact ⟨hg, hm, hb⟩, Below.refl _ _⟩
  have h1 := hself.new rfl (.cells #[.pointer (some ⟨b, 0, none⟩)] 22)
  have h2 := h1.new (n := W.heap.size + 1) (by simp) (.cells #[.int .i64 ep, .int .i64 kd, .slice q n c] 33)
  have c3' : ((W.alloc (.cells #[.pointer (some ⟨b, 0, none⟩)] 22)).alloc (.cells #[.int .i64 ep, .int .i64 kd, .slice q n c] 33)).cell? ⟨W.heap.size, 0, none⟩ = some (.pointer (some ⟨b, 0, none⟩)) := (cell_of_row _ W.heap.size 0 _ _ _ (h2.at_ (g := W.heap.size) (ob := .cells #[.pointer (some ⟨b, 0, none⟩)] 22 (0, 0)) (by simp))).trans rfl
  have h3 := h2.new (n := W.heap.size + 2) (by simp) (.cells #[.string s] 9)
  have hst := h3.sub (bm := [((W.heap.size + 1), .cells #[.int .i64 ep, .int .i64 kd, .slice q n c] 33 (0, 0)), (W.heap.size, .cells #[.pointer (some ⟨b, 0, none⟩)] 22 (0, 0)), (bg, grp ep vlog (.slice pp nm.length cap)), (m1, .map es clock), (b, svc m0 m1 m2)]) (by simp)
  have hmay := may_one (c := 1) (h3.at_ (g := b) (ob := svc m0 m1 m2) (by simp)) (h3.at_ (g := W.heap.size + 2) (ob := .cells #[.string s] 9 (0, 0)) (by simp)) hs
  have c3 : (((W.alloc (.cells #[.pointer (some ⟨b, 0, none⟩)] 22)).alloc (.cells #[.int .i64 ep, .int .i64 kd, .slice q n c] 33)).alloc (.cells #[.string s] 9)).cell? ⟨W.heap.size, 0, none⟩ = some (.pointer (some ⟨b, 0, none⟩)) := (cell_of_row _ W.heap.size 0 _ _ _ (h3.at_ (g := W.heap.size) (ob := .cells #[.pointer (some ⟨b, 0, none⟩)] 22 (0, 0)) (by simp))).trans rfl
  have c50 : (((W.alloc (.cells #[.pointer (some ⟨b, 0, none⟩)] 22)).alloc (.cells #[.int .i64 ep, .int .i64 kd, .slice q n c] 33)).alloc (.cells #[.string s] 9)).cell? ⟨W.heap.size + 1, 0, none⟩ = some (.int .i64 ep) := (cell_of_row _ (W.heap.size + 1) 0 _ _ _ (h3.at_ (g := W.heap.size + 1) (ob := .cells #[.int .i64 ep, .int .i64 kd, .slice q n c] 33 (0, 0)) (by simp))).trans rfl
  have c51 : (((W.alloc (.cells #[.pointer (some ⟨b, 0, none⟩)] 22)).alloc (.cells #[.int .i64 ep, .int .i64 kd, .slice q n c] 33)).alloc (.cells #[.string s] 9)).cell? ⟨W.heap.size + 1, 1, none⟩ = some (.int .i64 kd) := (cell_of_row _ (W.heap.size + 1) 1 _ _ _ (h3.at_ (g := W.heap.size + 1) (ob := .cells #[.int .i64 ep, .int .i64 kd, .slice q n c] 33 (0, 0)) (by simp))).trans rfl
  have c52 : (((W.alloc (.cells #[.pointer (some ⟨b, 0, none⟩)] 22)).alloc (.cells #[.int .i64 ep, .int .i64 kd, .slice q n c] 33)).alloc (.cells #[.string s] 9)).cell? ⟨W.heap.size + 1, 2, none⟩ = some (.slice q n c) := (cell_of_row _ (W.heap.size + 1) 2 _ _ _ (h3.at_ (g := W.heap.size + 1) (ob := .cells #[.int .i64 ep, .int .i64 kd, .slice q n c] 33 (0, 0)) (by simp))).trans rfl
  have cb1 : (((W.alloc (.cells #[.pointer (some ⟨b, 0, none⟩)] 22)).alloc (.cells #[.int .i64 ep, .int .i64 kd, .slice q n c] 33)).alloc (.cells #[.string s] 9)).cell? ⟨b, 1, none⟩ = some (.map (some m1)) := (cell_of_row _ b 1 _ _ _ (h3.at_ (g := b) (ob := svc m0 m1 m2) (by simp))).trans rfl
  have hr1 := h3.at_ (g := m1) (ob := .map es clock) (by simp)
  have hbel := h3.2
  have HV := Lib.hid hv
  have HY := Lib.hid hy
  have HEP := Lib.hid hep
  have HKD := Lib.hid hkd
  have HR := Lib.hid (hR.keep hbel)
  have HX := Lib.hid (hx.keep hbel)
  have HLG := Lib.hid (own_ext hlog (fun g hg => hbel.block g (hlog.lt g hg).2))
  have HSB := Lib.hid (own_ext hsub (fun g hg => hbel.block g (hsub.lt g hg).2))
  have HSZ := Lib.hid hsz
  have HNN := Lib.hid hn
  have hl_bg := hself.lt (p := (bg, grp ep vlog (.slice pp nm.length cap))) (by simp)
  have hl_m1 := hself.lt (p := (m1, .map es clock)) (by simp)
  have hl_b := hself.lt (p := (b, svc m0 m1 m2)) (by simp)
  have HLO := Lib.hid hlog.lt
  have HSO := Lib.hid hsub.lt
  have HMB := Lib.hid hx.2.1
  have HFL := Lib.hid hfl
  obtain ⟨i0, hi0, hz0, hz1, hz2⟩ := info_of infoE3
  clear h1 h2 h3 hself hv hy hE hl hb hm hg hlog hsub hR hx hsz hep hkd hn
  go_enter Try.func13, Try.ntmps13
  go_wp2_with fail
  refine wp_scope_fwd 0 rfl ?_
  go_wp2_with fail
  refine hmay.mono ?_
  rintro e w' ⟨rfl, rfl⟩
  go_wp2_with fail
  refine (sized_any q n c HNN.out _).mono ?_
  rintro e w' ⟨rfl, hw⟩
  subst hw
  go_wp2_with (first | (at_lookup; refine wpList_lookW rfl 54 9 62 _ _ rfl Try.underlying54 Try.underlying9 m1 s rfl rfl es clock hr1 (.pointer none) zero_g y HY.out _ HV.out ?_))
  clear c3 c3' c50 c51 c52 cb1 hr1 hmay
  refine wp_region_then (fun a b' w' => b' = (((((((a.put (some 50) (.pointer (some ⟨(W.heap.size + 1), 0, none⟩))).put (some 51) (.int .i64 ep)).put (some 52) (.pointer (some ⟨bg, 0, none⟩))).put (some 53) (.pointer (some ⟨bg, 0, none⟩))).put (some 54) (.pointer (some ⟨bg, 0, none⟩))).put (some 55) (.int .i64 ep)).put (some 56) (.bool false)) ∧ Kq W [((W.heap.size + 1), .cells #[.int .i64 ep, .int .i64 kd, .slice q n c] 33 (0, 0)), (W.heap.size, .cells #[.pointer (some ⟨b, 0, none⟩)] 22 (0, 0)), (bg, grp ep vlog (.slice pp nm.length cap)), (m1, .map es clock), (b, svc m0 m1 m2)] w' ∧ Below ((((W.alloc (.cells #[.pointer (some ⟨b, 0, none⟩)] 22)).alloc (.cells #[.int .i64 ep, .int .i64 kd, .slice q n c] 33)).alloc (.cells #[.string s] 9))).heap.size (((W.alloc (.cells #[.pointer (some ⟨b, 0, none⟩)] 22)).alloc (.cells #[.int .i64 ep, .int .i64 kd, .slice q n c] 33)).alloc (.cells #[.string s] 9)) w') ?_ ?_
  · refine wp_region_rem (fun v => Kq W [((W.heap.size + 1), .cells #[.int .i64 ep, .int .i64 kd, .slice q n c] 33 (0, 0)), (W.heap.size, .cells #[.pointer (some ⟨b, 0, none⟩)] 22 (0, 0)), (bg, grp ep vlog (.slice pp nm.length cap)), (m1, .map es clock), (b, svc m0 m1 m2)] v ∧ Below ((((W.alloc (.cells #[.pointer (some ⟨b, 0, none⟩)] 22)).alloc (.cells #[.int .i64 ep, .int .i64 kd, .slice q n c] 33)).alloc (.cells #[.string s] 9))).heap.size (((W.alloc (.cells #[.pointer (some ⟨b, 0, none⟩)] 22)).alloc (.cells #[.int .i64 ep, .int .i64 kd, .slice q n c] 33)).alloc (.cells #[.string s] 9)) v) (by kernel_rfl) (by kernel_rfl) (fun _ _ _ _ _ h => h.elim) ⟨hst.drew, (Below.refl _ _).drew⟩ ?_
    apply rem_sure 0 (by kernel_rfl) rfl (wanted_none rfl)
    · intro w2 hS K hK
      go_wp2_with fail
      exact hK _ hS (Ext.refl _)
    · kernel_rfl
    · kernel_rfl
    try ((repeat rw [put_none]); (try simp only [put_some, List.setIfInBounds_toArray, List.set_cons_succ, List.set_cons_zero]))
    apply rem_sure 1 (by kernel_rfl) rfl (wanted_none rfl)
    · intro w2 hS K hK
      have cq : w2.cell? ⟨(W.heap.size + 1), 0, none⟩ = some (.int .i64 ep) := (cell_of_row w2 (W.heap.size + 1) 0 _ _ _ (hS.1.at_ (g := (W.heap.size + 1)) (ob := .cells #[.int .i64 ep, .int .i64 kd, .slice q n c] 33 (0, 0)) (by simp))).trans rfl
      go_wp2_with fail
      exact hK _ hS (Ext.refl _)
    · kernel_rfl
    · kernel_rfl
    try ((repeat rw [put_none]); (try simp only [put_some, List.setIfInBounds_toArray, List.set_cons_succ, List.set_cons_zero]))
    apply rem_sure 2 (by kernel_rfl) rfl (wanted_none rfl)
    · intro w2 hS K hK
      go_wp2_with fail
      exact hK _ hS (Ext.refl _)
    · kernel_rfl
    · kernel_rfl
    try ((repeat rw [put_none]); (try simp only [put_some, List.setIfInBounds_toArray, List.set_cons_succ, List.set_cons_zero]))
    apply rem_sure 3 (by kernel_rfl) rfl (wanted_none rfl)
    · intro w2 hS K hK
      go_wp2_with fail
      exact hK _ hS (Ext.refl _)
    · kernel_rfl
    · kernel_rfl
    try ((repeat rw [put_none]); (try simp only [put_some, List.setIfInBounds_toArray, List.set_cons_succ, List.set_cons_zero]))
    apply rem_sure 4 (by kernel_rfl) rfl (wanted_none rfl)
    · intro w2 hS K hK
      go_wp2_with fail
      exact hK _ hS (Ext.refl _)
    · kernel_rfl
    · kernel_rfl
    try ((repeat rw [put_none]); (try simp only [put_some, List.setIfInBounds_toArray, List.set_cons_succ, List.set_cons_zero]))
    apply rem_sure 5 (by kernel_rfl) rfl (wanted_none rfl)
    · intro w2 hS K hK
      have cq : w2.cell? ⟨bg, 0, none⟩ = some (.int .i64 ep) := (cell_of_row w2 bg 0 _ _ _ (hS.1.at_ (g := bg) (ob := grp ep vlog (.slice pp nm.length cap)) (by simp))).trans rfl
      go_wp2_with fail
      exact hK _ hS (Ext.refl _)
    · kernel_rfl
    · kernel_rfl
    try ((repeat rw [put_none]); (try simp only [put_some, List.setIfInBounds_toArray, List.set_cons_succ, List.set_cons_zero]))
    apply rem_sure 6 (by kernel_rfl) rfl (wanted_none rfl)
    · intro w2 hS K hK
      go_wp2_with fail
      exact hK _ hS (Ext.refl _)
    · kernel_rfl
    · kernel_rfl
    try ((repeat rw [put_none]); (try simp only [put_some, List.setIfInBounds_toArray, List.set_cons_succ, List.set_cons_zero]))
    refine rem_nil ?_
    intro v9 hS9 hE9
    exact ⟨rfl, hS9.1, hS9.2⟩
  rintro b' w4 ⟨rfl, hst, hb4⟩
  try ((repeat rw [put_none]); (try simp only [put_some, List.setIfInBounds_toArray, List.set_cons_succ, List.set_cons_zero]))
  replace HR := Lib.hid (HR.out.keep hb4)
  replace HX := Lib.hid (HX.out.keep hb4)
  replace HLG := Lib.hid (own_ext HLG.out (fun g hg => hb4.block g (HLG.out.lt g hg).2))
  replace HSB := Lib.hid (own_ext HSB.out (fun g hg => hb4.block g (HSB.out.lt g hg).2))
  clear hb4
  have c51 : w4.cell? ⟨(W.heap.size + 1), 1, none⟩ = some (.int .i64 kd) := (cell_of_row _ (W.heap.size + 1) 1 _ _ _ (hst.at_ (g := (W.heap.size + 1)) (ob := .cells #[.int .i64 ep, .int .i64 kd, .slice q n c] 33 (0, 0)) (by simp))).trans rfl
  have cq0 : w4.cell? ⟨bg, 0, none⟩ = some (.int .i64 ep) := (cell_of_row _ bg 0 _ _ _ (hst.at_ (g := bg) (ob := grp ep vlog (.slice pp nm.length cap)) (by simp))).trans rfl
  have cq2 : w4.cell? ⟨bg, 2, none⟩ = some ((.slice pp nm.length cap)) := (cell_of_row _ bg 2 _ _ _ (hst.at_ (g := bg) (ob := grp ep vlog (.slice pp nm.length cap)) (by simp))).trans rfl
  have c3 : w4.cell? ⟨W.heap.size, 0, none⟩ = some (.pointer (some ⟨b, 0, none⟩)) := (cell_of_row _ W.heap.size 0 _ _ _ (hst.at_ (g := W.heap.size) (ob := .cells #[.pointer (some ⟨b, 0, none⟩)] 22 (0, 0)) (by simp))).trans rfl
  have hcw := cont_any B b m0 m1 m2 (W.heap.size) cap pp nm L w4 hk HSB.out HR.out (hst.at_ (g := b) (ob := svc m0 m1 m2) (by simp)) c3 HSZ.out
  have hw3 : wrap64 (ep + 1) = ep + 1 := by
    have := HEP.out
    unfold wrap64; omega
  have k3 := K3.out
  have dk : decide (kd = 3) = false := by simpa using k3
  rw [hfl] at hcw
  go_wp2_with fail
  refine hcw.mono ?_
  rintro e w5 ⟨rfl, hb5⟩
  have HK3 := Lib.hid k3
  clear k3 dk hw3
  replace hst := hst.keep hb5
  replace HR := Lib.hid (HR.out.keep hb5)
  replace HX := Lib.hid (HX.out.keep hb5)
  replace HLG := Lib.hid (own_ext HLG.out (fun g hg => hb5.block g (HLG.out.lt g hg).2))
  replace HSB := Lib.hid (own_ext HSB.out (fun g hg => hb5.block g (HSB.out.lt g hg).2))
  clear hb5 hcw c51 cq0 cq2 c3 hfl
  obtain ⟨plg, clg, hvl⟩ := own_any HLG.out
  have cq1 : w5.cell? ⟨bg, 1, none⟩ = some (.slice plg nl clg) := by
    rw [← hvl]
    exact (cell_of_row _ bg 1 _ _ _ (hst.at_ (g := bg) (ob := grp ep vlog (.slice pp nm.length cap)) (by simp))).trans rfl
  have HVL := Lib.hid hvl
  clear hvl
  have c52 : w5.cell? ⟨(W.heap.size + 1), 2, none⟩ = some (.slice q n c) := (cell_of_row _ (W.heap.size + 1) 2 _ _ _ (hst.at_ (g := (W.heap.size + 1)) (ob := .cells #[.int .i64 ep, .int .i64 kd, .slice q n c] 33 (0, 0)) (by simp))).trans rfl
  have h5lt := hst.lt (p := (W.heap.size + 1, .cells #[.int .i64 ep, .int .i64 kd, .slice q n c] 33 (0, 0))) (by simp)
  have hcl := clone_any q n c l w5 (by have := HNN.out; omega) (by have := HNN.out; omega) HX.out
  have NHX := HX
  clear HX
  go_wp2_with fail
  refine hcl.mono ?_
  rintro e w6 ⟨gc, cc, rfl, hc3, _, hgg, hown, hb6⟩
  replace hst := hst.keep hb6
  replace HR := Lib.hid (HR.out.keep hb6)
  replace HLG := Lib.hid (own_ext HLG.out (fun g hg => hb6.block g (HLG.out.lt g hg).2))
  replace HSB := Lib.hid (own_ext HSB.out (fun g hg => hb6.block g (HSB.out.lt g hg).2))
  have hgc : W.heap.size + 2 ≤ gc := by
    have := h5lt
    omega
  have hmid := send_set hB HLO.out HSO.out hl_bg hl_b hl_m1 hgc hst HR.out HLG.out HSB.out hown
  have HM := Lib.hid hmid
  have e5 := hst.at_ (g := W.heap.size + 1) (ob := .cells #[.int .i64 ep, .int .i64 kd, .slice q n c] 33 (0, 0)) (by simp)
  have c52 : w6.cell? ⟨W.heap.size + 1, 2, none⟩ = some (.slice q n c) := (cell_of_row _ _ 2 _ _ _ e5).trans rfl
  have f52 : w6.frozen? ⟨W.heap.size + 1, 2, none⟩ = false := frozen_of_row w6 _ 2 _ _ e5
  clear hmid e5 hgg hc3 hown hb6 hst cq1 hcl
  go_wp2_with fail
  clear c52 f52
  generalize w6.setCell ⟨W.heap.size + 1, 2, none⟩ (.slice (some ⟨gc, 0, none⟩) n cc) = w7 at HM ⊢
  clear HR HLG HSB NHX hgc
  have HB7 := HM.out.base
  have HM2 := HM.out.bg_
  have HM5 := HM.out.p5_
  have HMO := HM.out.log_
  have NLT := HM.out.loglt
  have h63 : nl ≤ 2000000000000 := hnl
  have LBG := (Array.getElem?_eq_some_iff.1 HM2).1
  have NBG : Hid (vlog.ownBlock ≠ some bg) := Lib.hid HM.out.logne
  have HLT := Lib.hid NLT
  clear NLT
  refine wp_region_then (fun a b' w' => ∃ (gn : Nat) (v' : Value), b' = ((((((((((a.put (some 83) (.pointer (some ⟨bg, 0, none⟩))).put (some 84) (.pointer (some ⟨bg, 0, none⟩))).put (some 85) (.pointer (some ⟨bg, 0, none⟩))).put (some 86) (.pointer (some ⟨bg, 1, none⟩))).put (some 87) (vlog)).put (some 88) (.agg #[.int .i64 ep, .int .i64 kd, .slice (some ⟨gc, 0, none⟩) n cc])).put (some 89) (.slice (some ⟨gn, 0, none⟩) 1 1)).put (some 90) (v')).put (some 91) (.pointer (some ⟨bg, 0, none⟩))).put (some 92) (.pointer (some ⟨bg, 1, none⟩))) ∧ PutR (fun v => grp ep v (.slice pp nm.length cap)) B 33 3 bg vlog nl xl [.int .i64 ep, .int .i64 kd, .slice (some ⟨gc, 0, none⟩) n cc] w7 w') ?_ ?_
  · refine wp_region_rem (Chg (bg :: vlog.ownBlock.toList) w7) (by kernel_rfl) (by kernel_rfl) (fun _ _ _ _ _ h => h.elim) (Chg.refl _ _).drew ?_
    apply rem_sure 0 (by kernel_rfl) rfl (wanted_none rfl)
    · intro w2 hS K hK
      go_wp2_with fail
      exact hK _ hS (Ext.refl _)
    · kernel_rfl
    · kernel_rfl
    try ((repeat rw [put_none]); (try simp only [put_some, List.setIfInBounds_toArray, List.set_cons_succ, List.set_cons_zero]))
    apply rem_sure 1 (by kernel_rfl) rfl (wanted_none rfl)
    · intro w2 hS K hK
      go_wp2_with fail
      exact hK _ hS (Ext.refl _)
    · kernel_rfl
    · kernel_rfl
    try ((repeat rw [put_none]); (try simp only [put_some, List.setIfInBounds_toArray, List.set_cons_succ, List.set_cons_zero]))
    apply rem_sure 2 (by kernel_rfl) rfl (wanted_none rfl)
    · intro w2 hS K hK
      go_wp2_with fail
      exact hK _ hS (Ext.refl _)
    · kernel_rfl
    · kernel_rfl
    try ((repeat rw [put_none]); (try simp only [put_some, List.setIfInBounds_toArray, List.set_cons_succ, List.set_cons_zero]))
    apply rem_sure 3 (by kernel_rfl) rfl (wanted_none rfl)
    · intro w2 hS K hK
      go_wp2_with fail
      exact hK _ hS (Ext.refl _)
    · kernel_rfl
    · kernel_rfl
    try ((repeat rw [put_none]); (try simp only [put_some, List.setIfInBounds_toArray, List.set_cons_succ, List.set_cons_zero]))
    refine rem_two 4 5 (by kernel_rfl) (step_of rfl (wanted_none rfl) ?_) (step_of rfl (wanted_none rfl) ?_)
    · intro v21 hS21 hE21 K hK
      have cq : v21.cell? ⟨bg, 1, none⟩ = some vlog := (cell_of_row _ bg 1 _ _ _ (hE21 _ _ HM2)).trans rfl
      go_wp2_with fail
      refine hK _ _ (hS21) ?_
      clear hK K
      try ((repeat rw [put_none]); (try simp only [put_some, List.setIfInBounds_toArray, List.set_cons_succ, List.set_cons_zero]))
      refine rem_one 5 (by kernel_rfl) (step_of rfl (wanted_none rfl) ?_)
      intro v22 hS22 hE22 K hK
      have hx := (hE22 _ _ (hE21 _ _ HM5))
      refine wp_load_row 33 _ rfl (W.heap.size + 1) rfl 33 #[.int .i64 ep, .int .i64 kd, .slice (some ⟨gc, 0, none⟩) n cc] (0, 0) _ hx Try.underlying33 rfl infoE ?_
      refine hK _ _ (hS22) ?_
      clear hK K
      try ((repeat rw [put_none]); (try simp only [put_some, List.setIfInBounds_toArray, List.set_cons_succ, List.set_cons_zero]))
      refine rem_one 6 (by kernel_rfl) (step_of rfl (wanted_none rfl) ?_)
      intro v23 hS23 hE23 K hK
      have hb23 : Below v23.heap.size v23 (v23.alloc (.cells #[.int .i64 ep, .int .i64 kd, .slice (some ⟨gc, 0, none⟩) n cc] 33)) := (Below.refl _ _).alloc (Nat.le_refl _) _
      go_wp2_with fail
      refine hK _ _ (hS23.alloc _) ?_
      clear hK K
      try ((repeat rw [put_none]); (try simp only [put_some, List.setIfInBounds_toArray, List.set_cons_succ, List.set_cons_zero]))
      refine rem_one 7 (by kernel_rfl) (step_of rfl (wanted_none rfl) ?_)
      intro v24 hS24 hE24 K hK
      have ho := (own_E (own_ext (own_E (own_E (own_E HMO hE21) hE22) hE23) (fun g hg => hb23.block g (by have := HLT.out g hg; have := hS23.size; omega))) hE24)
      have hnw := (hE24 _ _ (alloc_at v23 _))
      have hrr := (hE24 _ _ (blk_stay hb23 (hE23 _ _ (hE22 _ _ (hE21 _ _ HM2)))))
      have lsz := hS24.size
      refine wp_append_at _ _ 35 rfl B 33 i0 _ 3 40 Try.underlying35 hi0 hz0 hz1 hz2 rfl (by omega) vlog nl xl rfl ho ⟨v23.heap.size, 0, none⟩ 1 1 [.int .i64 ep, .int .i64 kd, .slice (some ⟨gc, 0, none⟩) n cc] rfl rfl (fun j u hu => by
          rw [addr_add, Nat.zero_add]
          unfold World.cell?
          simp only [hnw]
          simpa using hu) (by simp [Value.oneCell']) (by unfold maxLen; omega) (by omega) (by omega) ?_
      intro v' w5 hown hgr hat
      obtain ⟨g5, c5, rfl⟩ := own_form hown (by omega)
      have hr5 : w5.heap[bg]? = some (grp ep vlog (.slice pp nm.length cap)) := (hgr.block bg (by omega) (fun h => NBG.out h.symm)).trans hrr
      have hS5 : Chg (bg :: vlog.ownBlock.toList) w7 w5 := hS24.grown hgr (fun k hk => .inl (by rw [hk]; simp))
      have hat5 : (Value.slice (some ⟨g5, 0, none⟩) (nl + 1) c5).ownBlock = vlog.ownBlock ∨ ∃ g, (Value.slice (some ⟨g5, 0, none⟩) (nl + 1) c5).ownBlock = some g ∧ w7.heap.size ≤ g := hat.imp id (fun h => ⟨_, h, lsz⟩)
      have hne5 : (Value.slice (some ⟨g5, 0, none⟩) (nl + 1) c5).ownBlock ≠ some bg := by
        rcases hat5 with h | ⟨g, h, hg⟩
        · rw [h]; exact NBG.out
        · rw [h]; intro h2; cases h2; omega
      have HR := Lib.hid (And.intro hown (And.intro hat5 hne5))
      clear hown hgr hat hat5 hne5 ho hnw hrr lsz
      refine hK _ _ (hS5) ?_
      clear hK K
      try ((repeat rw [put_none]); (try simp only [put_some, List.setIfInBounds_toArray, List.set_cons_succ, List.set_cons_zero]))
      apply rem_sure 8 (by kernel_rfl) rfl (wanted_none rfl)
      · intro w2 hS K hK
        go_wp2_with fail
        exact hK _ hS (Ext.refl _)
      · kernel_rfl
      · kernel_rfl
      try ((repeat rw [put_none]); (try simp only [put_some, List.setIfInBounds_toArray, List.set_cons_succ, List.set_cons_zero]))
      apply rem_sure 9 (by kernel_rfl) rfl (wanted_none rfl)
      · intro w2 hS K hK
        go_wp2_with fail
        exact hK _ hS (Ext.refl _)
      · kernel_rfl
      · kernel_rfl
      try ((repeat rw [put_none]); (try simp only [put_some, List.setIfInBounds_toArray, List.set_cons_succ, List.set_cons_zero]))
      refine rem_one 10 (by kernel_rfl) (step_of rfl (wanted_none rfl) ?_)
      intro v25 hS25 hE25 K hK
      have hbr := (hE25 _ _ hr5)
      have ho9 := (own_E HR.out.1 hE25)
      have cq : v25.cell? ⟨bg, 1, none⟩ = some vlog := (cell_of_row _ bg 1 _ _ _ hbr).trans rfl
      have fq : v25.frozen? ⟨bg, 1, none⟩ = false := frozen_of_row v25 bg 1 _ _ hbr
      have hend := Lib.hid (And.intro (heap_setCell_same v25 bg 1 _ _ (.slice (some ⟨g5, 0, none⟩) (nl + 1) c5) hbr) (own_ext ho9 (W1 := v25.setCell ⟨bg, 1, none⟩ (.slice (some ⟨g5, 0, none⟩) (nl + 1) c5)) (fun g hg => Below.heap_setCell _ _ _ _ (by rintro rfl; exact HR.out.2.2 hg))))
      have hS8 := Lib.hid (hS25.setCell (g := bg) (.inl (by simp)) 1 (.slice (some ⟨g5, 0, none⟩) (nl + 1) c5))
      clear hbr ho9
      go_wp2_with fail
      refine hK _ _ (hS8.out) ?_
      clear hK K
      try ((repeat rw [put_none]); (try simp only [put_some, List.setIfInBounds_toArray, List.set_cons_succ, List.set_cons_zero]))
      refine rem_nil ?_
      intro v9 hS9 hE9
      exact ⟨v23.heap.size, (.slice (some ⟨g5, 0, none⟩) (nl + 1) c5), rfl, (.slice (some ⟨g5, 0, none⟩) (nl + 1) c5), (hE9 _ _ hend.out.1), (own_E hend.out.2 hE9), HR.out.2.1, hS9⟩
    · intro v26 hS26 hE26 K hK
      have hx := (hE26 _ _ HM5)
      refine wp_load_row 33 _ rfl (W.heap.size + 1) rfl 33 #[.int .i64 ep, .int .i64 kd, .slice (some ⟨gc, 0, none⟩) n cc] (0, 0) _ hx Try.underlying33 rfl infoE ?_
      refine hK _ _ (hS26) ?_
      clear hK K
      try ((repeat rw [put_none]); (try simp only [put_some, List.setIfInBounds_toArray, List.set_cons_succ, List.set_cons_zero]))
      refine rem_two 4 6 (by kernel_rfl) (step_of rfl (wanted_none rfl) ?_) (step_of rfl (wanted_none rfl) ?_)
      · intro v27 hS27 hE27 K hK
        have cq : v27.cell? ⟨bg, 1, none⟩ = some vlog := (cell_of_row _ bg 1 _ _ _ (hE27 _ _ (hE26 _ _ HM2))).trans rfl
        go_wp2_with fail
        refine hK _ _ (hS27) ?_
        clear hK K
        try ((repeat rw [put_none]); (try simp only [put_some, List.setIfInBounds_toArray, List.set_cons_succ, List.set_cons_zero]))
        refine rem_one 6 (by kernel_rfl) (step_of rfl (wanted_none rfl) ?_)
        intro v28 hS28 hE28 K hK
        have hb28 : Below v28.heap.size v28 (v28.alloc (.cells #[.int .i64 ep, .int .i64 kd, .slice (some ⟨gc, 0, none⟩) n cc] 33)) := (Below.refl _ _).alloc (Nat.le_refl _) _
        go_wp2_with fail
        refine hK _ _ (hS28.alloc _) ?_
        clear hK K
        try ((repeat rw [put_none]); (try simp only [put_some, List.setIfInBounds_toArray, List.set_cons_succ, List.set_cons_zero]))
        refine rem_one 7 (by kernel_rfl) (step_of rfl (wanted_none rfl) ?_)
        intro v29 hS29 hE29 K hK
        have ho := (own_E (own_ext (own_E (own_E (own_E HMO hE26) hE27) hE28) (fun g hg => hb28.block g (by have := HLT.out g hg; have := hS28.size; omega))) hE29)
        have hnw := (hE29 _ _ (alloc_at v28 _))
        have hrr := (hE29 _ _ (blk_stay hb28 (hE28 _ _ (hE27 _ _ (hE26 _ _ HM2)))))
        have lsz := hS29.size
        refine wp_append_at _ _ 35 rfl B 33 i0 _ 3 40 Try.underlying35 hi0 hz0 hz1 hz2 rfl (by omega) vlog nl xl rfl ho ⟨v28.heap.size, 0, none⟩ 1 1 [.int .i64 ep, .int .i64 kd, .slice (some ⟨gc, 0, none⟩) n cc] rfl rfl (fun j u hu => by
            rw [addr_add, Nat.zero_add]
            unfold World.cell?
            simp only [hnw]
            simpa using hu) (by simp [Value.oneCell']) (by unfold maxLen; omega) (by omega) (by omega) ?_
        intro v' w5 hown hgr hat
        obtain ⟨g5, c5, rfl⟩ := own_form hown (by omega)
        have hr5 : w5.heap[bg]? = some (grp ep vlog (.slice pp nm.length cap)) := (hgr.block bg (by omega) (fun h => NBG.out h.symm)).trans hrr
        have hS5 : Chg (bg :: vlog.ownBlock.toList) w7 w5 := hS29.grown hgr (fun k hk => .inl (by rw [hk]; simp))
        have hat5 : (Value.slice (some ⟨g5, 0, none⟩) (nl + 1) c5).ownBlock = vlog.ownBlock ∨ ∃ g, (Value.slice (some ⟨g5, 0, none⟩) (nl + 1) c5).ownBlock = some g ∧ w7.heap.size ≤ g := hat.imp id (fun h => ⟨_, h, lsz⟩)
        have hne5 : (Value.slice (some ⟨g5, 0, none⟩) (nl + 1) c5).ownBlock ≠ some bg := by
          rcases hat5 with h | ⟨g, h, hg⟩
          · rw [h]; exact NBG.out
          · rw [h]; intro h2; cases h2; omega
        have HR := Lib.hid (And.intro hown (And.intro hat5 hne5))
        clear hown hgr hat hat5 hne5 ho hnw hrr lsz
        refine hK _ _ (hS5) ?_
        clear hK K
        try ((repeat rw [put_none]); (try simp only [put_some, List.setIfInBounds_toArray, List.set_cons_succ, List.set_cons_zero]))
        apply rem_sure 8 (by kernel_rfl) rfl (wanted_none rfl)
        · intro w2 hS K hK
          go_wp2_with fail
          exact hK _ hS (Ext.refl _)
        · kernel_rfl
        · kernel_rfl
        try ((repeat rw [put_none]); (try simp only [put_some, List.setIfInBounds_toArray, List.set_cons_succ, List.set_cons_zero]))
        apply rem_sure 9 (by kernel_rfl) rfl (wanted_none rfl)
        · intro w2 hS K hK
          go_wp2_with fail
          exact hK _ hS (Ext.refl _)
        · kernel_rfl
        · kernel_rfl
        try ((repeat rw [put_none]); (try simp only [put_some, List.setIfInBounds_toArray, List.set_cons_succ, List.set_cons_zero]))
        refine rem_one 10 (by kernel_rfl) (step_of rfl (wanted_none rfl) ?_)
        intro v30 hS30 hE30 K hK
        have hbr := (hE30 _ _ hr5)
        have ho9 := (own_E HR.out.1 hE30)
        have cq : v30.cell? ⟨bg, 1, none⟩ = some vlog := (cell_of_row _ bg 1 _ _ _ hbr).trans rfl
        have fq : v30.frozen? ⟨bg, 1, none⟩ = false := frozen_of_row v30 bg 1 _ _ hbr
        have hend := Lib.hid (And.intro (heap_setCell_same v30 bg 1 _ _ (.slice (some ⟨g5, 0, none⟩) (nl + 1) c5) hbr) (own_ext ho9 (W1 := v30.setCell ⟨bg, 1, none⟩ (.slice (some ⟨g5, 0, none⟩) (nl + 1) c5)) (fun g hg => Below.heap_setCell _ _ _ _ (by rintro rfl; exact HR.out.2.2 hg))))
        have hS8 := Lib.hid (hS30.setCell (g := bg) (.inl (by simp)) 1 (.slice (some ⟨g5, 0, none⟩) (nl + 1) c5))
        clear hbr ho9
        go_wp2_with fail
        refine hK _ _ (hS8.out) ?_
        clear hK K
        try ((repeat rw [put_none]); (try simp only [put_some, List.setIfInBounds_toArray, List.set_cons_succ, List.set_cons_zero]))
        refine rem_nil ?_
        intro v9 hS9 hE9
        exact ⟨v28.heap.size, (.slice (some ⟨g5, 0, none⟩) (nl + 1) c5), rfl, (.slice (some ⟨g5, 0, none⟩) (nl + 1) c5), (hE9 _ _ hend.out.1), (own_E hend.out.2 hE9), HR.out.2.1, hS9⟩
      · intro v31 hS31 hE31 K hK
        have hb31 : Below v31.heap.size v31 (v31.alloc (.cells #[.int .i64 ep, .int .i64 kd, .slice (some ⟨gc, 0, none⟩) n cc] 33)) := (Below.refl _ _).alloc (Nat.le_refl _) _
        go_wp2_with fail
        refine hK _ _ (hS31.alloc _) ?_
        clear hK K
        try ((repeat rw [put_none]); (try simp only [put_some, List.setIfInBounds_toArray, List.set_cons_succ, List.set_cons_zero]))
        refine rem_one 4 (by kernel_rfl) (step_of rfl (wanted_none rfl) ?_)
        intro v32 hS32 hE32 K hK
        have cq : v32.cell? ⟨bg, 1, none⟩ = some vlog := (cell_of_row _ bg 1 _ _ _ (hE32 _ _ (blk_stay hb31 (hE31 _ _ (hE26 _ _ HM2))))).trans rfl
        go_wp2_with fail
        refine hK _ _ (hS32) ?_
        clear hK K
        try ((repeat rw [put_none]); (try simp only [put_some, List.setIfInBounds_toArray, List.set_cons_succ, List.set_cons_zero]))
        refine rem_one 7 (by kernel_rfl) (step_of rfl (wanted_none rfl) ?_)
        intro v33 hS33 hE33 K hK
        have ho := (own_E (own_E (own_ext (own_E (own_E HMO hE26) hE31) (fun g hg => hb31.block g (by have := HLT.out g hg; have := hS31.size; omega))) hE32) hE33)
        have hnw := (hE33 _ _ (hE32 _ _ (alloc_at v31 _)))
        have hrr := (hE33 _ _ (hE32 _ _ (blk_stay hb31 (hE31 _ _ (hE26 _ _ HM2)))))
        have lsz := hS33.size
        refine wp_append_at _ _ 35 rfl B 33 i0 _ 3 40 Try.underlying35 hi0 hz0 hz1 hz2 rfl (by omega) vlog nl xl rfl ho ⟨v31.heap.size, 0, none⟩ 1 1 [.int .i64 ep, .int .i64 kd, .slice (some ⟨gc, 0, none⟩) n cc] rfl rfl (fun j u hu => by
            rw [addr_add, Nat.zero_add]
            unfold World.cell?
            simp only [hnw]
            simpa using hu) (by simp [Value.oneCell']) (by unfold maxLen; omega) (by omega) (by omega) ?_
        intro v' w5 hown hgr hat
        obtain ⟨g5, c5, rfl⟩ := own_form hown (by omega)
        have hr5 : w5.heap[bg]? = some (grp ep vlog (.slice pp nm.length cap)) := (hgr.block bg (by omega) (fun h => NBG.out h.symm)).trans hrr
        have hS5 : Chg (bg :: vlog.ownBlock.toList) w7 w5 := hS33.grown hgr (fun k hk => .inl (by rw [hk]; simp))
        have hat5 : (Value.slice (some ⟨g5, 0, none⟩) (nl + 1) c5).ownBlock = vlog.ownBlock ∨ ∃ g, (Value.slice (some ⟨g5, 0, none⟩) (nl + 1) c5).ownBlock = some g ∧ w7.heap.size ≤ g := hat.imp id (fun h => ⟨_, h, lsz⟩)
        have hne5 : (Value.slice (some ⟨g5, 0, none⟩) (nl + 1) c5).ownBlock ≠ some bg := by
          rcases hat5 with h | ⟨g, h, hg⟩
          · rw [h]; exact NBG.out
          · rw [h]; intro h2; cases h2; omega
        have HR := Lib.hid (And.intro hown (And.intro hat5 hne5))
        clear hown hgr hat hat5 hne5 ho hnw hrr lsz
        refine hK _ _ (hS5) ?_
        clear hK K
        try ((repeat rw [put_none]); (try simp only [put_some, List.setIfInBounds_toArray, List.set_cons_succ, List.set_cons_zero]))
        apply rem_sure 8 (by kernel_rfl) rfl (wanted_none rfl)
        · intro w2 hS K hK
          go_wp2_with fail
          exact hK _ hS (Ext.refl _)
        · kernel_rfl
        · kernel_rfl
        try ((repeat rw [put_none]); (try simp only [put_some, List.setIfInBounds_toArray, List.set_cons_succ, List.set_cons_zero]))
        apply rem_sure 9 (by kernel_rfl) rfl (wanted_none rfl)
        · intro w2 hS K hK
          go_wp2_with fail
          exact hK _ hS (Ext.refl _)
        · kernel_rfl
        · kernel_rfl
        try ((repeat rw [put_none]); (try simp only [put_some, List.setIfInBounds_toArray, List.set_cons_succ, List.set_cons_zero]))
        refine rem_one 10 (by kernel_rfl) (step_of rfl (wanted_none rfl) ?_)
        intro v34 hS34 hE34 K hK
        have hbr := (hE34 _ _ hr5)
        have ho9 := (own_E HR.out.1 hE34)
        have cq : v34.cell? ⟨bg, 1, none⟩ = some vlog := (cell_of_row _ bg 1 _ _ _ hbr).trans rfl
        have fq : v34.frozen? ⟨bg, 1, none⟩ = false := frozen_of_row v34 bg 1 _ _ hbr
        have hend := Lib.hid (And.intro (heap_setCell_same v34 bg 1 _ _ (.slice (some ⟨g5, 0, none⟩) (nl + 1) c5) hbr) (own_ext ho9 (W1 := v34.setCell ⟨bg, 1, none⟩ (.slice (some ⟨g5, 0, none⟩) (nl + 1) c5)) (fun g hg => Below.heap_setCell _ _ _ _ (by rintro rfl; exact HR.out.2.2 hg))))
        have hS8 := Lib.hid (hS34.setCell (g := bg) (.inl (by simp)) 1 (.slice (some ⟨g5, 0, none⟩) (nl + 1) c5))
        clear hbr ho9
        go_wp2_with fail
        refine hK _ _ (hS8.out) ?_
        clear hK K
        try ((repeat rw [put_none]); (try simp only [put_some, List.setIfInBounds_toArray, List.set_cons_succ, List.set_cons_zero]))
        refine rem_nil ?_
        intro v9 hS9 hE9
        exact ⟨v31.heap.size, (.slice (some ⟨g5, 0, none⟩) (nl + 1) c5), rfl, (.slice (some ⟨g5, 0, none⟩) (nl + 1) c5), (hE9 _ _ hend.out.1), (own_E hend.out.2 hE9), HR.out.2.1, hS9⟩
  rintro b' w8 ⟨gn, v', rfl, hk⟩
  obtain ⟨vlog', h8⟩ := send_mid HM.out hk
  have H8 := Lib.hid h8
  try ((repeat rw [put_none]); (try simp only [put_some, List.setIfInBounds_toArray, List.set_cons_succ, List.set_cons_zero]))
  have cq2 : w8.cell? ⟨bg, 2, none⟩ = some (.slice pp nm.length cap) := (cell_of_row _ bg 2 _ _ _ h8.bg_).trans rfl
  have HT := Lib.hid (TellR.start (nm := nm) (cs := [.string s, .int .i64 nl, .int .i64 ep, .int .i64 kd, .slice (some ⟨gc, 0, none⟩) n cc]) h8.rep)
  clear hk h8 HM2 HM5 HMO LBG NBG HLT HM
  go_wp2_with fail
  go_loopw [98] (fun i wr => ∃ j : Nat, j ≤ nm.length ∧ i = .int .i64 j ∧ Hid (TellR B m2 nm L [.string s, .int .i64 nl, .int .i64 ep, .int .i64 kd, .slice (some ⟨gc, 0, none⟩) n cc] w8 j wr)) (fun i _ => (nm.length - intOf i).toNat)
  case atStart => exact ⟨0, by omega, rfl, HT⟩
  case round =>
    obtain ⟨j, hj, rfl, HTJ⟩ := hrel
    clear HT cq2
    by_cases hlt : j < nm.length
    · have hl : decide ((j : Int) < (nm.length : Int)) = true := by simp; omega
      obtain ⟨gsb, hpp, hnm⟩ := H8.out.name hlt
      have hcell := hnm wr HTJ.out.chg
      subst hpp
      have HGD : Hid (nm.getD j { data := #[] } ∈ nm ∧ nm.take (j + 1) = nm.take j ++ [nm.getD j { data := #[] }]) := Lib.hid ⟨getD_mem.1 ⟨j, hlt, rfl⟩, by
        rw [List.take_add_one, List.getD_eq_getElem?_getD, List.getElem?_eq_getElem hlt]
        rfl⟩
      clear hnm
      generalize nm.getD j { data := #[] } = t at hcell HGD
      go_wp2_with fail
      obtain ⟨Lj, hRj, hcw, hcg, hownj, hwf⟩ := HTJ.out
      have hN : Hid (∀ x : Nat × List Value, x = wf Lj t → x.1 ≤ 100000) := Lib.hid fun x hx => by
        rw [hx, hwf]
        exact Nat.le_trans (few HFL.out hk HGD.out.1 [.string s, .int .i64 nl, .int .i64 ep, .int .i64 kd, .slice (some ⟨gc, 0, none⟩) n cc] j) (by omega)
      have HOJ := Lib.hid hownj
      have HWF := Lib.hid hwf
      have HRJ := Lib.hid hRj
      have HC0 := Lib.hid (And.intro hcw hcg)
      clear hRj hcw hcg hownj hwf HTJ hcell
      refine wp_region_then (fun a b' w' => ∃ (vv : Value) (br : Nat), b' = (((((((((((a.put (some 102) (.pointer (some ⟨b, 0, none⟩))).put (some 103) (.pointer (some ⟨b, 0, none⟩))).put (some 104) (.pointer (some ⟨b, 2, none⟩))).put (some 105) (.map (some m2))).put (some 106) (.string t)).put (some 107) (.pointer (some ⟨br, 0, none⟩))).put (some 108) (.string s)).put (some 109) (.int .i64 nl)).put (some 110) (.agg #[.int .i64 ep, .int .i64 kd, .slice (some ⟨gc, 0, none⟩) n cc])).put (some 111) (.agg #[.string s, .int .i64 nl, .int .i64 ep, .int .i64 kd, .slice (some ⟨gc, 0, none⟩) n cc])).put (some 112) (vv)) ∧ TellR B m2 nm L [.string s, .int .i64 nl, .int .i64 ep, .int .i64 kd, .slice (some ⟨gc, 0, none⟩) n cc] w8 (j + 1) w') ?_ ?_
      · refine wp_region_rem (fun v => ChgW m2 w8 v ∧ Chg (blkW m2 L) w8 v) (by kernel_rfl) (by kernel_rfl) (fun _ _ _ _ _ h => h.elim) ⟨HC0.out.1.drew, HC0.out.2.drew⟩ ?_
        apply rem_sure 0 (by kernel_rfl) rfl (wanted_none rfl)
        · intro w2 hS K hK
          have cq : w2.cell? ⟨W.heap.size, 0, none⟩ = some (.pointer (some ⟨b, 0, none⟩)) := (cell_of_row w2 W.heap.size 0 _ _ _ (hS.1.block W.heap.size (.cells #[.pointer (some ⟨b, 0, none⟩)] 22 (0, 0)) H8.out.p3_.1 H8.out.p3_.2 rfl)).trans rfl
          go_wp2_with fail
          exact hK _ hS (Ext.refl _)
        · kernel_rfl
        · kernel_rfl
        try ((repeat rw [put_none]); (try simp only [put_some, List.setIfInBounds_toArray, List.set_cons_succ, List.set_cons_zero]))
        apply rem_sure 1 (by kernel_rfl) rfl (wanted_none rfl)
        · intro w2 hS K hK
          go_wp2_with fail
          exact hK _ hS (Ext.refl _)
        · kernel_rfl
        · kernel_rfl
        try ((repeat rw [put_none]); (try simp only [put_some, List.setIfInBounds_toArray, List.set_cons_succ, List.set_cons_zero]))
        apply rem_sure 2 (by kernel_rfl) rfl (wanted_none rfl)
        · intro w2 hS K hK
          go_wp2_with fail
          exact hK _ hS (Ext.refl _)
        · kernel_rfl
        · kernel_rfl
        try ((repeat rw [put_none]); (try simp only [put_some, List.setIfInBounds_toArray, List.set_cons_succ, List.set_cons_zero]))
        apply rem_sure 3 (by kernel_rfl) rfl (wanted_none rfl)
        · intro w2 hS K hK
          have cq : w2.cell? ⟨b, 2, none⟩ = some (.map (some m2)) := (cell_of_row w2 b 2 _ _ _ (hS.1.block b (svc m0 m1 m2) H8.out.svc_.1 H8.out.svc_.2 rfl)).trans rfl
          go_wp2_with fail
          exact hK _ hS (Ext.refl _)
        · kernel_rfl
        · kernel_rfl
        try ((repeat rw [put_none]); (try simp only [put_some, List.setIfInBounds_toArray, List.set_cons_succ, List.set_cons_zero]))
        apply rem_sure 4 (by kernel_rfl) rfl (wanted_none rfl)
        · intro w2 hS K hK
          go_wp2_with fail
          exact hK _ hS (Ext.refl _)
        · kernel_rfl
        · kernel_rfl
        try ((repeat rw [put_none]); (try simp only [put_some, List.setIfInBounds_toArray, List.set_cons_succ, List.set_cons_zero]))
        apply rem_sure 6 (by kernel_rfl) rfl (wanted_none rfl)
        · intro w2 hS K hK
          go_wp2_with fail
          exact hK _ hS (Ext.refl _)
        · kernel_rfl
        · kernel_rfl
        try ((repeat rw [put_none]); (try simp only [put_some, List.setIfInBounds_toArray, List.set_cons_succ, List.set_cons_zero]))
        apply rem_sure 7 (by kernel_rfl) rfl (wanted_none rfl)
        · intro w2 hS K hK
          go_wp2_with fail
          exact hK _ hS (Ext.refl _)
        · kernel_rfl
        · kernel_rfl
        try ((repeat rw [put_none]); (try simp only [put_some, List.setIfInBounds_toArray, List.set_cons_succ, List.set_cons_zero]))
        apply rem_sure 8 (by kernel_rfl) rfl (wanted_none rfl)
        · intro w2 hS K hK
          exact wp_load_row 33 _ rfl (W.heap.size + 1) rfl 33 #[.int .i64 ep, .int .i64 kd, .slice (some ⟨gc, 0, none⟩) n cc] (0, 0) _ (hS.1.block _ _ H8.out.p5_.1 H8.out.p5_.2 rfl) Try.underlying33 rfl infoE (hK _ hS (Ext.refl _))
        · kernel_rfl
        · kernel_rfl
        try ((repeat rw [put_none]); (try simp only [put_some, List.setIfInBounds_toArray, List.set_cons_succ, List.set_cons_zero]))
        apply rem_sure 9 (by kernel_rfl) rfl (wanted_none rfl)
        · intro w2 hS K hK
          go_wp2_with fail
          exact hK _ hS (Ext.refl _)
        · kernel_rfl
        · kernel_rfl
        try ((repeat rw [put_none]); (try simp only [put_some, List.setIfInBounds_toArray, List.set_cons_succ, List.set_cons_zero]))
        refine rem_one 5 (by kernel_rfl) (step_of rfl (wanted_none rfl) ?_)
        intro v21 hS21 hE21 K hK
        have hR := (HRJ.out.ext hE21)
        have hB5 : B ≤ v21.heap.size := Nat.le_trans H8.out.base hS21.1.size
        obtain ⟨es', clock', hm', hE'⟩ := hR.map
        have hof := ofW_any m2 clock' es' (Lj.map fun e => (e.name, e.r)) t v21 hm' hE'
        have HR5 := Lib.hid hR
        clear hm' hE' hR
        go_wp2_with fail
        refine hof.mono ?_
        intro e u21 hr
        obtain ⟨L1, row, hR1, hrow, hname, rfl, ⟨hch1, hkp1⟩, hcase⟩ := HR5.out.of hB5 hr
        obtain ⟨hpf, hrw⟩ := WRep.wf_of hR1 hrow hname hcase
        have HS5 : Hid (ChgW m2 w8 u21 ∧ Chg (blkW m2 L) w8 u21) := Lib.hid ⟨hS21.1.trans hch1, chg_via hS21.2 HOJ.out hkp1.chg⟩
        have HO5 := Lib.hid (own_thru HOJ.out hS21.1.size hkp1.own)
        have HMEM := Lib.hid hrow
        have HNM := Lib.hid hname
        have HPF := Lib.hid hpf
        have HRW := Lib.hid hrw
        have hn5 : row.n ≤ 100000 := hN.out _ hrw
        have HR6 := Lib.hid hR1
        clear hr hof hR1 hrow hname hch1 hkp1 hcase hpf hrw HR5
        refine hK _ _ (HS5.out) ?_
        clear hK K
        try ((repeat rw [put_none]); (try simp only [put_some, List.setIfInBounds_toArray, List.set_cons_succ, List.set_cons_zero]))
        refine rem_one 10 (by kernel_rfl) (step_of rfl (wanted_none rfl) ?_)
        intro v22 hS22 hE22 K hK
        have hR := (HR6.out.ext hE22)
        have hB7 : B ≤ v22.heap.size := Nat.le_trans H8.out.base hS22.1.size
        have hput := putW_any B row.r row.n row.v row.xs (.string s) (.int .i64 nl) (.int .i64 ep) (.int .i64 kd) (.slice (some ⟨gc, 0, none⟩) n cc) (by simp [Value.oneCell']) v22 hn5 hB7 (hR.row row HMEM.out) (hR.own row HMEM.out) (hR.own_ne HMEM.out HMEM.out)
        have HR7 := Lib.hid hR
        clear hR
        go_wp2_with fail
        refine hput.mono ?_
        rintro e u22 ⟨⟨vv, rfl⟩, hpr⟩
        obtain ⟨v5, hR4, hc4, hk4⟩ := HR7.out.put HMEM.out hpr
        have HWE := Lib.hid (HR7.out.wf_upd HMEM.out v5 (row.n + 1) (row.xs ++ [.string s, .int .i64 nl, .int .i64 ep, .int .i64 kd, .slice (some ⟨gc, 0, none⟩) n cc]))
        have HS7 : Hid (ChgW m2 w8 u22 ∧ Chg (blkW m2 L) w8 u22) := Lib.hid ⟨hS22.1.trans hc4, chg_via hS22.2 HO5.out hk4.chg⟩
        have HO7 := Lib.hid (own_thru HO5.out hS22.1.size hk4.own)
        have HR8 := Lib.hid hR4
        clear hput hpr hR4 hc4 hk4 HR7
        refine hK _ _ (HS7.out) ?_
        clear hK K
        try ((repeat rw [put_none]); (try simp only [put_some, List.setIfInBounds_toArray, List.set_cons_succ, List.set_cons_zero]))
        refine rem_nil ?_
        intro v9 hS9 hE9
        exact ⟨vv, row.r, rfl, _, (HR8.out.ext hE9), hS9.1, hS9.2, HO7.out, tell_next HGD.out.2 HWF.out HNM.out HPF.out HRW.out HWE.out⟩
      rintro b' w9 ⟨vv, br, rfl, hk9⟩
      have HT := Lib.hid hk9
      clear hk9
      try ((repeat rw [put_none]); (try simp only [put_some, List.setIfInBounds_toArray, List.set_cons_succ, List.set_cons_zero]))
      go_wp2_with fail
      go_roundw
      case rel => exact ⟨j + 1, by omega, rfl, HT⟩
      case measure => simp [intOf]; omega
    · obtain rfl : j = nm.length := by omega
      have hl : decide ((nm.length : Int) < (nm.length : Int)) = false := by simp
      have e5 := HTJ.out.stand H8.out.p5_.1 H8.out.p5_.2 rfl
      have eg := HTJ.out.stand H8.out.bg_ H8.out.bgne rfl
      have c51 : wr.cell? ⟨W.heap.size + 1, 1, none⟩ = some (.int .i64 kd) := (cell_of_row _ (W.heap.size + 1) 1 _ _ _ e5).trans rfl
      have hd3 : decide (kd = 3) = false := by simpa using HK3.out
      have hd4 : (kd == 3) = false := by simpa using HK3.out
      have HFIN := Lib.hid (send_fin H8.out HTJ.out HMB.out (by have := HK3.out; omega) HFL.out (by have := HK3.out; simp [this]) eg (Chg.refl _ _))
      clear HTJ e5 eg
      go_wp2_with fail
      go_step3
      go_wp2_with fail
      rw [jump_ret]
      go_ret2
      exact HFIN.out
theorem send_any (B b m0 m1 m2 bg clock n c nl : Nat) (es : Array MapEntry) (E : List (ByteArray × Nat)) (ep kd : Int) (vlog vsubs : Value) (xl : List Value) (nm : List ByteArray) (L : List WRow) (q : Option Addr) (l : List Int) (s : ByteArray) (hs : 1 ≤ s.size ∧ s.size ≤ 255) (W : World)
    (hB : B ≤ W.heap.size) (hb : W.heap[b]? = some (svc m0 m1 m2)) (hm : W.heap[m1]? = some (.map es clock)) (hE : MapIs es E) (hl : look E s = some bg) (hg : W.heap[bg]? = some (grp ep vlog vsubs))
    (hlog : W.ownsRow B 33 3 vlog nl xl) (hsub : W.ownsRow B 9 1 vsubs nm.length (nm.map Value.string)) (hk : nm.length ≤ 16) (hsz : ∀ t ∈ nm, 1 ≤ t.size ∧ t.size ≤ 255)
    (hR : WRep B m2 L W) (hep : 0 ≤ ep ∧ ep < 4294967296) (hkd : 1 ≤ kd ∧ kd ≤ 3) (hx : Bs W q n l) (hn : 1 ≤ n ∧ n ≤ 65536) (hnl : nl ≤ 2000000000000) :
    Calls Try.prog 13 #[.pointer (some ⟨b, 0, none⟩), .string s, .agg #[.int .i64 ep, .int .i64 kd, .slice q n c]] W (SendR B m2 bg n nl ep kd vlog vsubs xl nm L l s W) := by
  by_cases k3 : kd = 3
  · by_cases hov : ep + 1 ≥ 4294967296
    · exact (send_over B b m0 m1 m2 bg clock n c nl es E ep kd vlog vsubs xl nm L q l s hs W hB hb hm hE hl hg hlog hsub hk hsz hR hep hkd hx hn hnl k3 hov).mono fun e W' h => .inl ⟨k3, hov, h.1, h.2⟩
    · cases hfl : full (wf L) nm with
      | true => exact (send_full3 B b m0 m1 m2 bg clock n c nl es E ep kd vlog vsubs xl nm L q l s hs W hB hb hm hE hl hg hlog hsub hk hsz hR hep hkd hx hn hnl k3 hov hfl).mono fun e W' h => .inr (.inl ⟨fun h => hov h.2, hfl, h.1, h.2⟩)
      | false => exact send_ok3 B b m0 m1 m2 bg clock n c nl es E ep kd vlog vsubs xl nm L q l s hs W hB hb hm hE hl hg hlog hsub hk hsz hR hep hkd hx hn hnl k3 hov hfl
  · cases hfl : full (wf L) nm with
    | true => exact (send_fullx B b m0 m1 m2 bg clock n c nl es E ep kd vlog vsubs xl nm L q l s hs W hB hb hm hE hl hg hlog hsub hk hsz hR hep hkd hx hn hnl k3 hfl).mono fun e W' h => .inr (.inl ⟨fun h => k3 h.1, hfl, h.1, h.2⟩)
    | false => exact send_okx B b m0 m1 m2 bg clock n c nl es E ep kd vlog vsubs xl nm L q l s hs W hB hb hm hE hl hg hlog hsub hk hsz hR hep hkd hx hn hnl k3 hfl
end Go.Proofs.Ytiebggfpjkhlaaa
