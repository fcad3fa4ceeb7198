/- The walks of service.Leave. No condition. -/
import Derived.Test.YtiebggfpjkhlaaaDh
namespace Go.Proofs.Ytiebggfpjkhlaaa
open Go Go.RowKit
set_option linter.unusedSimpArgs false
attribute [local go_sem] map_neq_some map_neq_nil
set_option maxRecDepth 100000 in
set_option maxHeartbeats 4000000 in
theorem leave_bad (b m0 m1 m2 : Nat) (s who : ByteArray) (W : World) (hb : W.heap[b]? = some (svc m0 m1 m2)) (hs : (okN s && okN who) = false) :
    Calls Try.prog 21 #[.pointer (some ⟨b, 0, none⟩), .string s, .string who] W (fun e W' => e = .returned (.int .i64 1) ∧ Below W.heap.size W W') := by
  have hself : Kq W [(b, svc m0 m1 m2)] W := ⟨by simp; exact hb, Below.refl _ _⟩
  have h1 := hself.new rfl (.cells #[.string who] 9)
  have c5 : (W.alloc (.cells #[.string who] 9)).cell? ⟨W.heap.size, 0, none⟩ = some (.string who) := (cell_of_row _ W.heap.size 0 _ _ _ (h1.at_ (g := W.heap.size) (ob := .cells #[.string who] 9 (0, 0)) (by simp))).trans rfl
  have h2 := h1.new (n := W.heap.size + 1) (by simp) (.cells #[.string s, .string who] 9)
  have hmay := mayA_two (c := 2) (h2.at_ (g := b) (ob := svc m0 m1 m2) (by simp)) (h2.at_ (g := W.heap.size + 1) (ob := .cells #[.string s, .string who] 9 (0, 0)) (by simp))
  rw [hs] at hmay
  have c5' : ((W.alloc (.cells #[.string who] 9)).alloc (.cells #[.string s, .string who] 9)).cell? ⟨W.heap.size, 0, none⟩ = some (.string who) := (cell_of_row _ W.heap.size 0 _ _ _ (h2.at_ (g := W.heap.size) (ob := .cells #[.string who] 9 (0, 0)) (by simp))).trans rfl
  have hst := h2
  clear hself h1 h2 hb
  go_enter Try.func21, Try.ntmps21
  go_wp2_with fail
  refine hmay.mono ?_
  rintro e w' ⟨rfl, rfl⟩
  go_wp2_with fail
  go_ret
  exact ⟨rfl, hst.2⟩
set_option maxRecDepth 100000 in
set_option maxHeartbeats 4000000 in
theorem leave_none (b m0 m1 m2 clock : Nat) (es : Array MapEntry) (E : List (ByteArray × Nat)) (s who : ByteArray) (W : World) (hb : W.heap[b]? = some (svc m0 m1 m2)) (hs : (okN s && okN who) = true) (hm : W.heap[m1]? = some (.map es clock)) (hE : MapIs es E) (hl : look E s = none) :
    Calls Try.prog 21 #[.pointer (some ⟨b, 0, none⟩), .string s, .string who] W (fun e W' => e = .returned (.int .i64 3) ∧ Below W.heap.size W W') := by
  have hself : Kq W [(b, svc m0 m1 m2), (m1, .map es clock)] W := ⟨by simp; exact ⟨hb, hm⟩, Below.refl _ _⟩
  have h1 := hself.new rfl (.cells #[.string who] 9)
  have c5 : (W.alloc (.cells #[.string who] 9)).cell? ⟨W.heap.size, 0, none⟩ = some (.string who) := (cell_of_row _ W.heap.size 0 _ _ _ (h1.at_ (g := W.heap.size) (ob := .cells #[.string who] 9 (0, 0)) (by simp))).trans rfl
  have h2 := h1.new (n := W.heap.size + 1) (by simp) (.cells #[.string s, .string who] 9)
  have hmay := mayA_two (c := 2) (h2.at_ (g := b) (ob := svc m0 m1 m2) (by simp)) (h2.at_ (g := W.heap.size + 1) (ob := .cells #[.string s, .string who] 9 (0, 0)) (by simp))
  rw [hs] at hmay
  have c5' : ((W.alloc (.cells #[.string who] 9)).alloc (.cells #[.string s, .string who] 9)).cell? ⟨W.heap.size, 0, none⟩ = some (.string who) := (cell_of_row _ W.heap.size 0 _ _ _ (h2.at_ (g := W.heap.size) (ob := .cells #[.string who] 9 (0, 0)) (by simp))).trans rfl
  have cb1 : ((W.alloc (.cells #[.string who] 9)).alloc (.cells #[.string s, .string who] 9)).cell? ⟨b, 1, none⟩ = some (.map (some m1)) := (cell_of_row _ b 1 _ _ _ (h2.at_ (g := b) (ob := svc m0 m1 m2) (by simp))).trans rfl
  have hr1 := h2.at_ (g := m1) (ob := .map es clock) (by simp)
  obtain ⟨y, hy, hv, hno⟩ := find_names s es.toList E 0 hE
  obtain rfl := hno hl
  have HY := Lib.hid hy
  clear hl hv hno hy hE
  have hst := h2
  clear hself h1 h2 hb hm
  go_enter Try.func21, Try.ntmps21
  go_wp2_with fail
  refine hmay.mono ?_
  rintro e w' ⟨rfl, rfl⟩
  go_wp2_with (first | (at_lookup; refine wpList_lookW rfl 54 9 62 _ _ rfl Try.underlying54 Try.underlying9 m1 s rfl rfl es clock hr1 (.pointer none) zero_g none HY.out (.pointer none) rfl ?_))
  refine wp_region_then (fun a b' w' => b' = (((((((((((a.put (some 20) (.pointer none)).put (some 21) (.bool true)).put (some 22) (.bool true)).put (some 23) (undef)).put (some 24) (undef)).put (some 25) (undef)).put (some 26) (undef)).put (some 27) (undef)).put (some 28) (undef)).put (some 29) (undef)).put (some 30) (.bool true)) ∧ Below W.heap.size W w') ?_ ?_
  · refine wp_region_rem (Below W.heap.size W) (by kernel_rfl) (by kernel_rfl) (fun _ _ _ _ _ h => h.elim) hst.2.drew ?_
    apply rem_sure 0 (by kernel_rfl) rfl (wanted_none rfl)
    · intro w2 hS K hK
      go_wp2_with fail
      exact hK _ hS (Ext.refl _)
    · kernel_rfl
    · kernel_rfl
    try ((repeat rw [put_none]); (try simp only [put_some, List.setIfInBounds_toArray, List.set_cons_succ, List.set_cons_zero]))
    apply rem_sure 1 (by kernel_rfl) rfl (wanted_none rfl)
    · intro w2 hS K hK
      go_wp2_with fail
      exact hK _ hS (Ext.refl _)
    · kernel_rfl
    · kernel_rfl
    try ((repeat rw [put_none]); (try simp only [put_some, List.setIfInBounds_toArray, List.set_cons_succ, List.set_cons_zero]))
    apply rem_sure 2 (by kernel_rfl) rfl (wanted_none rfl)
    · intro w2 hS K hK
      go_wp2_with fail
      exact hK _ hS (Ext.refl _)
    · kernel_rfl
    · kernel_rfl
    try ((repeat rw [put_none]); (try simp only [put_some, List.setIfInBounds_toArray, List.set_cons_succ, List.set_cons_zero]))
    refine rem_skip 3 (by kernel_rfl) rfl (by kernel_rfl) ?_
    try ((repeat rw [put_none]); (try simp only [put_some, List.setIfInBounds_toArray, List.set_cons_succ, List.set_cons_zero]))
    refine rem_skip 4 (by kernel_rfl) rfl (by kernel_rfl) ?_
    try ((repeat rw [put_none]); (try simp only [put_some, List.setIfInBounds_toArray, List.set_cons_succ, List.set_cons_zero]))
    refine rem_skip 5 (by kernel_rfl) rfl (by kernel_rfl) ?_
    try ((repeat rw [put_none]); (try simp only [put_some, List.setIfInBounds_toArray, List.set_cons_succ, List.set_cons_zero]))
    refine rem_skip 6 (by kernel_rfl) rfl (by kernel_rfl) ?_
    try ((repeat rw [put_none]); (try simp only [put_some, List.setIfInBounds_toArray, List.set_cons_succ, List.set_cons_zero]))
    refine rem_skip 7 (by kernel_rfl) rfl (by kernel_rfl) ?_
    try ((repeat rw [put_none]); (try simp only [put_some, List.setIfInBounds_toArray, List.set_cons_succ, List.set_cons_zero]))
    refine rem_skip 8 (by kernel_rfl) rfl (by kernel_rfl) ?_
    try ((repeat rw [put_none]); (try simp only [put_some, List.setIfInBounds_toArray, List.set_cons_succ, List.set_cons_zero]))
    refine rem_skip 9 (by kernel_rfl) rfl (by kernel_rfl) ?_
    try ((repeat rw [put_none]); (try simp only [put_some, List.setIfInBounds_toArray, List.set_cons_succ, List.set_cons_zero]))
    apply rem_sure 10 (by kernel_rfl) rfl (wanted_none rfl)
    · intro w2 hS K hK
      go_wp2_with fail
      exact hK _ hS (Ext.refl _)
    · kernel_rfl
    · kernel_rfl
    try ((repeat rw [put_none]); (try simp only [put_some, List.setIfInBounds_toArray, List.set_cons_succ, List.set_cons_zero]))
    refine rem_nil ?_
    intro v9 hS9 hE9
    exact ⟨rfl, hS9⟩
  rintro b' w4 ⟨rfl, hb4⟩
  try ((repeat rw [put_none]); (try simp only [put_some, List.setIfInBounds_toArray, List.set_cons_succ, List.set_cons_zero]))
  go_wp2_with fail
  go_ret
  exact ⟨rfl, hb4⟩
/-- What Leave leaves. -/
def LeaveR (B bg : Nat) (ep : Int) (vlog vsubs : Value) (nm : List ByteArray) (who : ByteArray) (W W' : World) : Prop :=
  ∃ v', W'.heap[bg]? = some (grp ep vlog v') ∧ W'.ownsRow B 9 1 v' (struck nm who).length ((struck nm who).map Value.string) ∧ v'.ownBlock = vsubs.ownBlock ∧ Chg (bg :: vsubs.ownBlock.toList) W W'
set_option maxRecDepth 100000 in
set_option maxHeartbeats 4000000 in
theorem leave_out (B b m0 m1 m2 bg clock : Nat) (es : Array MapEntry) (E : List (ByteArray × Nat)) (ep : Int) (vlog vsubs : Value) (nm : List ByteArray) (s who : ByteArray) (W : World) (hb : W.heap[b]? = some (svc m0 m1 m2)) (hs : (okN s && okN who) = true) (hm : W.heap[m1]? = some (.map es clock)) (hE : MapIs es E) (hl : look E s = some bg) (hg : W.heap[bg]? = some (grp ep vlog vsubs)) (hsub : W.ownsRow B 9 1 vsubs nm.length (nm.map Value.string)) (hk : nm.length ≤ 16) (hmem : who ∉ nm) :
    Calls Try.prog 21 #[.pointer (some ⟨b, 0, none⟩), .string s, .string who] W (fun e W' => e = .returned (.int .i64 3) ∧ Below W.heap.size W W') := by
  obtain ⟨pp, cap, rfl⟩ := own_any hsub
  have hslt := hsub.lt
  have hself : Kq W [(b, svc m0 m1 m2), (m1, .map es clock), (bg, grp ep vlog (.slice pp nm.length cap))] W := ⟨by simp; exact ⟨hb, hm, hg⟩, Below.refl _ _⟩
  have h1 := hself.new rfl (.cells #[.string who] 9)
  have c5 : (W.alloc (.cells #[.string who] 9)).cell? ⟨W.heap.size, 0, none⟩ = some (.string who) := (cell_of_row _ W.heap.size 0 _ _ _ (h1.at_ (g := W.heap.size) (ob := .cells #[.string who] 9 (0, 0)) (by simp))).trans rfl
  have h2 := h1.new (n := W.heap.size + 1) (by simp) (.cells #[.string s, .string who] 9)
  have hmay := mayA_two (c := 2) (h2.at_ (g := b) (ob := svc m0 m1 m2) (by simp)) (h2.at_ (g := W.heap.size + 1) (ob := .cells #[.string s, .string who] 9 (0, 0)) (by simp))
  rw [hs] at hmay
  have c5' : ((W.alloc (.cells #[.string who] 9)).alloc (.cells #[.string s, .string who] 9)).cell? ⟨W.heap.size, 0, none⟩ = some (.string who) := (cell_of_row _ W.heap.size 0 _ _ _ (h2.at_ (g := W.heap.size) (ob := .cells #[.string who] 9 (0, 0)) (by simp))).trans rfl
  have cb1 : ((W.alloc (.cells #[.string who] 9)).alloc (.cells #[.string s, .string who] 9)).cell? ⟨b, 1, none⟩ = some (.map (some m1)) := (cell_of_row _ b 1 _ _ _ (h2.at_ (g := b) (ob := svc m0 m1 m2) (by simp))).trans rfl
  have hr1 := h2.at_ (g := m1) (ob := .map es clock) (by simp)
  obtain ⟨y, hy, hv, hno⟩ := find_names s es.toList E 0 hE
  rw [hl] at hv
  have hv : lookV (.pointer none) y = .pointer (some ⟨bg, 0, none⟩) := hv
  have HV := Lib.hid hv
  have HY := Lib.hid hy
  have HSB := Lib.hid (own_ext hsub (fun g hg => h2.2.block g (hsub.lt g hg).2))
  have HSL := Lib.hid hslt
  have HMEM := Lib.hid hmem
  clear hl hv hno hy hE hslt
  have hst := h2
  clear hself h1 h2 hb hm hg hsub hmem
  go_enter Try.func21, Try.ntmps21
  go_wp2_with fail
  refine hmay.mono ?_
  rintro e w' ⟨rfl, rfl⟩
  go_wp2_with (first | (at_lookup; refine wpList_lookW rfl 54 9 62 _ _ rfl Try.underlying54 Try.underlying9 m1 s rfl rfl es clock hr1 (.pointer none) zero_g y HY.out _ HV.out ?_))
  have hst := hst.sub (bm := [(W.heap.size, .cells #[.string who] 9 (0, 0)), (bg, grp ep vlog (.slice pp nm.length cap))]) (by simp)
  clear c5 c5' cb1 hr1 hmay
  refine wp_region_then (fun a b' w' => b' = (((((((((((a.put (some 20) (.pointer (some ⟨bg, 0, none⟩))).put (some 21) (.bool false)).put (some 22) (.bool false)).put (some 23) (.pointer (some ⟨bg, 0, none⟩))).put (some 24) (.pointer (some ⟨bg, 0, none⟩))).put (some 25) (.pointer (some ⟨bg, 2, none⟩))).put (some 26) ((.slice pp nm.length cap))).put (some 27) (.string who)).put (some 28) (.bool false)).put (some 29) (.bool true)).put (some 30) (.bool true)) ∧ Kq W [(W.heap.size, .cells #[.string who] 9 (0, 0)), (bg, grp ep vlog (.slice pp nm.length cap))] w' ∧ Hid (w'.ownsRow B 9 1 (.slice pp nm.length cap) nm.length (nm.map Value.string))) ?_ ?_
  · refine wp_region_rem (Kq W [(W.heap.size, .cells #[.string who] 9 (0, 0)), (bg, grp ep vlog (.slice pp nm.length cap))]) (by kernel_rfl) (by kernel_rfl) (fun _ _ _ _ _ h => h.elim) hst.drew ?_
    apply rem_sure 0 (by kernel_rfl) rfl (wanted_none rfl)
    · intro w2 hS K hK
      go_wp2_with fail
      exact hK _ hS (Ext.refl _)
    · kernel_rfl
    · kernel_rfl
    try ((repeat rw [put_none]); (try simp only [put_some, List.setIfInBounds_toArray, List.set_cons_succ, List.set_cons_zero]))
    apply rem_sure 1 (by kernel_rfl) rfl (wanted_none rfl)
    · intro w2 hS K hK
      go_wp2_with fail
      exact hK _ hS (Ext.refl _)
    · kernel_rfl
    · kernel_rfl
    try ((repeat rw [put_none]); (try simp only [put_some, List.setIfInBounds_toArray, List.set_cons_succ, List.set_cons_zero]))
    apply rem_sure 2 (by kernel_rfl) rfl (wanted_none rfl)
    · intro w2 hS K hK
      go_wp2_with fail
      exact hK _ hS (Ext.refl _)
    · kernel_rfl
    · kernel_rfl
    try ((repeat rw [put_none]); (try simp only [put_some, List.setIfInBounds_toArray, List.set_cons_succ, List.set_cons_zero]))
    apply rem_sure 3 (by kernel_rfl) rfl (by kernel_rfl)
    · intro w2 hS K hK
      go_wp2_with fail
      exact hK _ hS (Ext.refl _)
    · kernel_rfl
    · kernel_rfl
    try ((repeat rw [put_none]); (try simp only [put_some, List.setIfInBounds_toArray, List.set_cons_succ, List.set_cons_zero]))
    apply rem_sure 4 (by kernel_rfl) rfl (by kernel_rfl)
    · intro w2 hS K hK
      go_wp2_with fail
      exact hK _ hS (Ext.refl _)
    · kernel_rfl
    · kernel_rfl
    try ((repeat rw [put_none]); (try simp only [put_some, List.setIfInBounds_toArray, List.set_cons_succ, List.set_cons_zero]))
    apply rem_sure 5 (by kernel_rfl) rfl (by kernel_rfl)
    · intro w2 hS K hK
      go_wp2_with fail
      exact hK _ hS (Ext.refl _)
    · kernel_rfl
    · kernel_rfl
    try ((repeat rw [put_none]); (try simp only [put_some, List.setIfInBounds_toArray, List.set_cons_succ, List.set_cons_zero]))
    apply rem_sure 6 (by kernel_rfl) rfl (by kernel_rfl)
    · intro w2 hS K hK
      have cq : w2.cell? ⟨bg, 2, none⟩ = some ((.slice pp nm.length cap)) := (cell_of_row w2 bg 2 _ _ _ (hS.at_ (g := bg) (ob := grp ep vlog (.slice pp nm.length cap)) (by simp))).trans rfl
      go_wp2_with fail
      exact hK _ hS (Ext.refl _)
    · kernel_rfl
    · kernel_rfl
    try ((repeat rw [put_none]); (try simp only [put_some, List.setIfInBounds_toArray, List.set_cons_succ, List.set_cons_zero]))
    apply rem_sure 7 (by kernel_rfl) rfl (by kernel_rfl)
    · intro w2 hS K hK
      have cq : w2.cell? ⟨W.heap.size, 0, none⟩ = some (.string who) := (cell_of_row w2 W.heap.size 0 _ _ _ (hS.at_ (g := W.heap.size) (ob := .cells #[.string who] 9 (0, 0)) (by simp))).trans rfl
      go_wp2_with fail
      exact hK _ hS (Ext.refl _)
    · kernel_rfl
    · kernel_rfl
    try ((repeat rw [put_none]); (try simp only [put_some, List.setIfInBounds_toArray, List.set_cons_succ, List.set_cons_zero]))
    refine rem_one 8 (by kernel_rfl) (step_of rfl (by kernel_rfl) ?_)
    intro v21 hS21 hE21 K hK
    have ho := (own_E HSB.out hE21)
    have hcon := contains_own B 9 nm.length cap pp nm who v21 (by omega) ho
    clear ho
    go_wp2_with fail
    refine hcon.mono ?_
    rintro e u21 ⟨⟨hmem', rfl⟩ | ⟨hmem', rfl⟩, hu⟩
    · exact absurd hmem' HMEM.out
    subst hu
    clear hmem' hcon
    refine hK _ _ (hS21) ?_
    clear hK K
    try ((repeat rw [put_none]); (try simp only [put_some, List.setIfInBounds_toArray, List.set_cons_succ, List.set_cons_zero]))
    apply rem_sure 9 (by kernel_rfl) rfl (by kernel_rfl)
    · intro w2 hS K hK
      go_wp2_with fail
      exact hK _ hS (Ext.refl _)
    · kernel_rfl
    · kernel_rfl
    try ((repeat rw [put_none]); (try simp only [put_some, List.setIfInBounds_toArray, List.set_cons_succ, List.set_cons_zero]))
    apply rem_sure 10 (by kernel_rfl) rfl (wanted_none rfl)
    · intro w2 hS K hK
      go_wp2_with fail
      exact hK _ hS (Ext.refl _)
    · kernel_rfl
    · kernel_rfl
    try ((repeat rw [put_none]); (try simp only [put_some, List.setIfInBounds_toArray, List.set_cons_succ, List.set_cons_zero]))
    refine rem_nil ?_
    intro v9 hS9 hE9
    exact ⟨rfl, hS9, Lib.hid (own_E (own_E HSB.out hE21) hE9)⟩
  rintro b' w4 ⟨rfl, hst4, HO4⟩
  clear hst HSB
  try ((repeat rw [put_none]); (try simp only [put_some, List.setIfInBounds_toArray, List.set_cons_succ, List.set_cons_zero]))
  go_wp2_with fail
  go_ret
  exact ⟨rfl, hst4.2⟩
set_option maxRecDepth 100000 in
set_option maxHeartbeats 4000000 in
theorem leave_in (B b m0 m1 m2 bg clock : Nat) (es : Array MapEntry) (E : List (ByteArray × Nat)) (ep : Int) (vlog vsubs : Value) (nm : List ByteArray) (s who : ByteArray) (W : World) (hb : W.heap[b]? = some (svc m0 m1 m2)) (hs : (okN s && okN who) = true) (hm : W.heap[m1]? = some (.map es clock)) (hE : MapIs es E) (hl : look E s = some bg) (hg : W.heap[bg]? = some (grp ep vlog vsubs)) (hsub : W.ownsRow B 9 1 vsubs nm.length (nm.map Value.string)) (hk : nm.length ≤ 16) (hne : vsubs.ownBlock ≠ some bg) (hmem : who ∈ nm) :
    Calls Try.prog 21 #[.pointer (some ⟨b, 0, none⟩), .string s, .string who] W (fun e W' => e = .returned (.int .i64 0) ∧ LeaveR B bg ep vlog vsubs nm who W W') := by
  obtain ⟨pp, cap, rfl⟩ := own_any hsub
  have hslt := hsub.lt
  have hself : Kq W [(b, svc m0 m1 m2), (m1, .map es clock), (bg, grp ep vlog (.slice pp nm.length cap))] W := ⟨by simp; exact ⟨hb, hm, hg⟩, Below.refl _ _⟩
  have h1 := hself.new rfl (.cells #[.string who] 9)
  have c5 : (W.alloc (.cells #[.string who] 9)).cell? ⟨W.heap.size, 0, none⟩ = some (.string who) := (cell_of_row _ W.heap.size 0 _ _ _ (h1.at_ (g := W.heap.size) (ob := .cells #[.string who] 9 (0, 0)) (by simp))).trans rfl
  have h2 := h1.new (n := W.heap.size + 1) (by simp) (.cells #[.string s, .string who] 9)
  have hmay := mayA_two (c := 2) (h2.at_ (g := b) (ob := svc m0 m1 m2) (by simp)) (h2.at_ (g := W.heap.size + 1) (ob := .cells #[.string s, .string who] 9 (0, 0)) (by simp))
  rw [hs] at hmay
  have c5' : ((W.alloc (.cells #[.string who] 9)).alloc (.cells #[.string s, .string who] 9)).cell? ⟨W.heap.size, 0, none⟩ = some (.string who) := (cell_of_row _ W.heap.size 0 _ _ _ (h2.at_ (g := W.heap.size) (ob := .cells #[.string who] 9 (0, 0)) (by simp))).trans rfl
  have cb1 : ((W.alloc (.cells #[.string who] 9)).alloc (.cells #[.string s, .string who] 9)).cell? ⟨b, 1, none⟩ = some (.map (some m1)) := (cell_of_row _ b 1 _ _ _ (h2.at_ (g := b) (ob := svc m0 m1 m2) (by simp))).trans rfl
  have hr1 := h2.at_ (g := m1) (ob := .map es clock) (by simp)
  obtain ⟨y, hy, hv, hno⟩ := find_names s es.toList E 0 hE
  rw [hl] at hv
  have hv : lookV (.pointer none) y = .pointer (some ⟨bg, 0, none⟩) := hv
  have HV := Lib.hid hv
  have HY := Lib.hid hy
  have HSB := Lib.hid (own_ext hsub (fun g hg => h2.2.block g (hsub.lt g hg).2))
  have HSL := Lib.hid hslt
  have HMEM := Lib.hid hmem
  clear hl hv hno hy hE hslt
  have hst := h2
  clear hself h1 h2 hb hm hg hsub hmem
  go_enter Try.func21, Try.ntmps21
  go_wp2_with fail
  refine hmay.mono ?_
  rintro e w' ⟨rfl, rfl⟩
  go_wp2_with (first | (at_lookup; refine wpList_lookW rfl 54 9 62 _ _ rfl Try.underlying54 Try.underlying9 m1 s rfl rfl es clock hr1 (.pointer none) zero_g y HY.out _ HV.out ?_))
  have hst := hst.sub (bm := [(W.heap.size, .cells #[.string who] 9 (0, 0)), (bg, grp ep vlog (.slice pp nm.length cap))]) (by simp)
  clear c5 c5' cb1 hr1 hmay
  refine wp_region_then (fun a b' w' => b' = (((((((((((a.put (some 20) (.pointer (some ⟨bg, 0, none⟩))).put (some 21) (.bool false)).put (some 22) (.bool false)).put (some 23) (.pointer (some ⟨bg, 0, none⟩))).put (some 24) (.pointer (some ⟨bg, 0, none⟩))).put (some 25) (.pointer (some ⟨bg, 2, none⟩))).put (some 26) ((.slice pp nm.length cap))).put (some 27) (.string who)).put (some 28) (.bool true)).put (some 29) (.bool false)).put (some 30) (.bool false)) ∧ Kq W [(W.heap.size, .cells #[.string who] 9 (0, 0)), (bg, grp ep vlog (.slice pp nm.length cap))] w' ∧ Hid (w'.ownsRow B 9 1 (.slice pp nm.length cap) nm.length (nm.map Value.string))) ?_ ?_
  · refine wp_region_rem (Kq W [(W.heap.size, .cells #[.string who] 9 (0, 0)), (bg, grp ep vlog (.slice pp nm.length cap))]) (by kernel_rfl) (by kernel_rfl) (fun _ _ _ _ _ h => h.elim) hst.drew ?_
    apply rem_sure 0 (by kernel_rfl) rfl (wanted_none rfl)
    · intro w2 hS K hK
      go_wp2_with fail
      exact hK _ hS (Ext.refl _)
    · kernel_rfl
    · kernel_rfl
    try ((repeat rw [put_none]); (try simp only [put_some, List.setIfInBounds_toArray, List.set_cons_succ, List.set_cons_zero]))
    apply rem_sure 1 (by kernel_rfl) rfl (wanted_none rfl)
    · intro w2 hS K hK
      go_wp2_with fail
      exact hK _ hS (Ext.refl _)
    · kernel_rfl
    · kernel_rfl
    try ((repeat rw [put_none]); (try simp only [put_some, List.setIfInBounds_toArray, List.set_cons_succ, List.set_cons_zero]))
    apply rem_sure 2 (by kernel_rfl) rfl (wanted_none rfl)
    · intro w2 hS K hK
      go_wp2_with fail
      exact hK _ hS (Ext.refl _)
    · kernel_rfl
    · kernel_rfl
    try ((repeat rw [put_none]); (try simp only [put_some, List.setIfInBounds_toArray, List.set_cons_succ, List.set_cons_zero]))
    apply rem_sure 3 (by kernel_rfl) rfl (by kernel_rfl)
    · intro w2 hS K hK
      go_wp2_with fail
      exact hK _ hS (Ext.refl _)
    · kernel_rfl
    · kernel_rfl
    try ((repeat rw [put_none]); (try simp only [put_some, List.setIfInBounds_toArray, List.set_cons_succ, List.set_cons_zero]))
    apply rem_sure 4 (by kernel_rfl) rfl (by kernel_rfl)
    · intro w2 hS K hK
      go_wp2_with fail
      exact hK _ hS (Ext.refl _)
    · kernel_rfl
    · kernel_rfl
    try ((repeat rw [put_none]); (try simp only [put_some, List.setIfInBounds_toArray, List.set_cons_succ, List.set_cons_zero]))
    apply rem_sure 5 (by kernel_rfl) rfl (by kernel_rfl)
    · intro w2 hS K hK
      go_wp2_with fail
      exact hK _ hS (Ext.refl _)
    · kernel_rfl
    · kernel_rfl
    try ((repeat rw [put_none]); (try simp only [put_some, List.setIfInBounds_toArray, List.set_cons_succ, List.set_cons_zero]))
    apply rem_sure 6 (by kernel_rfl) rfl (by kernel_rfl)
    · intro w2 hS K hK
      have cq : w2.cell? ⟨bg, 2, none⟩ = some ((.slice pp nm.length cap)) := (cell_of_row w2 bg 2 _ _ _ (hS.at_ (g := bg) (ob := grp ep vlog (.slice pp nm.length cap)) (by simp))).trans rfl
      go_wp2_with fail
      exact hK _ hS (Ext.refl _)
    · kernel_rfl
    · kernel_rfl
    try ((repeat rw [put_none]); (try simp only [put_some, List.setIfInBounds_toArray, List.set_cons_succ, List.set_cons_zero]))
    apply rem_sure 7 (by kernel_rfl) rfl (by kernel_rfl)
    · intro w2 hS K hK
      have cq : w2.cell? ⟨W.heap.size, 0, none⟩ = some (.string who) := (cell_of_row w2 W.heap.size 0 _ _ _ (hS.at_ (g := W.heap.size) (ob := .cells #[.string who] 9 (0, 0)) (by simp))).trans rfl
      go_wp2_with fail
      exact hK _ hS (Ext.refl _)
    · kernel_rfl
    · kernel_rfl
    try ((repeat rw [put_none]); (try simp only [put_some, List.setIfInBounds_toArray, List.set_cons_succ, List.set_cons_zero]))
    refine rem_one 8 (by kernel_rfl) (step_of rfl (by kernel_rfl) ?_)
    intro v21 hS21 hE21 K hK
    have ho := (own_E HSB.out hE21)
    have hcon := contains_own B 9 nm.length cap pp nm who v21 (by omega) ho
    clear ho
    go_wp2_with fail
    refine hcon.mono ?_
    rintro e u21 ⟨⟨hmem', rfl⟩ | ⟨hmem', rfl⟩, hu⟩
    rotate_left
    · exact absurd HMEM.out hmem'
    subst hu
    clear hmem' hcon
    refine hK _ _ (hS21) ?_
    clear hK K
    try ((repeat rw [put_none]); (try simp only [put_some, List.setIfInBounds_toArray, List.set_cons_succ, List.set_cons_zero]))
    apply rem_sure 9 (by kernel_rfl) rfl (by kernel_rfl)
    · intro w2 hS K hK
      go_wp2_with fail
      exact hK _ hS (Ext.refl _)
    · kernel_rfl
    · kernel_rfl
    try ((repeat rw [put_none]); (try simp only [put_some, List.setIfInBounds_toArray, List.set_cons_succ, List.set_cons_zero]))
    apply rem_sure 10 (by kernel_rfl) rfl (wanted_none rfl)
    · intro w2 hS K hK
      go_wp2_with fail
      exact hK _ hS (Ext.refl _)
    · kernel_rfl
    · kernel_rfl
    try ((repeat rw [put_none]); (try simp only [put_some, List.setIfInBounds_toArray, List.set_cons_succ, List.set_cons_zero]))
    refine rem_nil ?_
    intro v9 hS9 hE9
    exact ⟨rfl, hS9, Lib.hid (own_E (own_E HSB.out hE21) hE9)⟩
  rintro b' w4 ⟨rfl, hst4, HO4⟩
  clear hst HSB
  try ((repeat rw [put_none]); (try simp only [put_some, List.setIfInBounds_toArray, List.set_cons_succ, List.set_cons_zero]))
  have eg := hst4.at_ (g := bg) (ob := grp ep vlog (.slice pp nm.length cap)) (by simp)
  have cq2 : w4.cell? ⟨bg, 2, none⟩ = some (.slice pp nm.length cap) := (cell_of_row _ bg 2 _ _ _ eg).trans rfl
  have c5 : w4.cell? ⟨W.heap.size, 0, none⟩ = some (.string who) := (cell_of_row _ W.heap.size 0 _ _ _ (hst4.at_ (g := W.heap.size) (ob := .cells #[.string who] 9 (0, 0)) (by simp))).trans rfl
  have hpos : 0 < nm.length := List.length_pos_of_mem HMEM.out
  obtain ⟨gs, cap', hfo⟩ := own_form HO4.out hpos
  obtain ⟨rfl, rfl⟩ : pp = some ⟨gs, 0, none⟩ ∧ cap = cap' := by
    cases hfo
    exact ⟨rfl, rfl⟩
  have hgs := HSL.out gs rfl
  have hdel := delS B gs cap W.heap.size nm who w4 hk c5 (by omega) HMEM.out HO4.out
  have lbg := (Array.getElem?_eq_some_iff.1 eg).1
  have HNE : Hid (gs ≠ bg) := Lib.hid fun h => hne (by rw [h]; rfl)
  have HS4 : Hid (Chg (bg :: (Value.slice (some ⟨gs, 0, none⟩) nm.length cap).ownBlock.toList) W w4) := Lib.hid (Chg.of_below hst4.2)
  have HEG := Lib.hid eg
  clear hst4 eg HO4 hne hfo
  go_wp2_with fail
  refine hdel.mono ?_
  rintro e w5 ⟨rfl, hown5, hch5⟩
  have eg5 := hch5.at_ HEG.out (by have := HNE.out; simp; omega)
  have cq5 : w5.cell? ⟨bg, 2, none⟩ = some (.slice (some ⟨gs, 0, none⟩) nm.length cap) := (cell_of_row _ bg 2 _ _ _ eg5).trans rfl
  have fq5 : w5.frozen? ⟨bg, 2, none⟩ = false := frozen_of_row w5 bg 2 _ _ eg5
  have HEND : Hid (LeaveR B bg ep vlog (.slice (some ⟨gs, 0, none⟩) nm.length cap) nm who W (w5.setCell ⟨bg, 2, none⟩ (.slice (some ⟨gs, 0, none⟩) (struck nm who).length cap))) :=
    Lib.hid ⟨_, heap_setCell_same w5 bg 2 _ _ _ eg5, own_ext hown5 (fun g hg => by
      obtain rfl : gs = g := by simpa [Value.ownBlock] using hg
      exact Below.heap_setCell _ _ _ _ HNE.out), rfl, (HS4.out.trans (hch5.mono (by simp [Value.ownBlock]))).setCell (.inl (by simp)) 2 _⟩
  clear eg5 hown5 hch5 hdel c5 cq2
  go_wp2_with fail
  go_ret
  exact ⟨rfl, HEND.out⟩
end Go.Proofs.Ytiebggfpjkhlaaa
