/- service.Join at any group that is known. No condition. -/
import Derived.Test.YtiebggfpjkhlaaaYe
import Derived.Test.YtiebggfpjkhlaaaYf
namespace Go.Proofs.Ytiebggfpjkhlaaa
open Go Go.RowKit
set_option linter.unusedSimpArgs false
attribute [local go_sem] map_neq_some map_neq_nil
theorem own_at {W : World} {B e k : Nat} {p : Option Addr} {cap : Nat} {nm : List ByteArray} (h : W.ownsRow B e 1 (.slice p k cap) k (nm.map Value.string)) : (p = none ∧ k = 0 ∧ cap = 0) ∨ ∃ g, p = some ⟨g, 0, none⟩ ∧ ∀ j, j < k → W.cell? ⟨g, j, none⟩ = some (.string (nm.getD j { data := #[] })) := by
  rcases h.2 with ⟨h1, h2⟩ | ⟨g, cap', cur, h1, _, _⟩
  · cases h1
    exact .inl ⟨rfl, rfl, rfl⟩
  · cases h1
    refine .inr ⟨g, rfl, fun j hj => ?_⟩
    have hl : nm.length = k := by have := h.1; simpa using this
    rw [h.cellAt j (by omega)]
    simp [List.getD, show j < nm.length by omega]
theorem getD_mem {nm : List ByteArray} {s d : ByteArray} : (∃ j, j < nm.length ∧ nm.getD j d = s) ↔ s ∈ nm := by
  constructor
  · rintro ⟨j, hj, rfl⟩
    rw [List.getD_eq_getElem?_getD, List.getElem?_eq_getElem hj]
    exact List.getElem_mem hj
  · intro h
    obtain ⟨j, hj, rfl⟩ := List.getElem_of_mem h
    exact ⟨j, hj, by rw [List.getD_eq_getElem?_getD, List.getElem?_eq_getElem hj]; rfl⟩
set_option maxRecDepth 100000 in
/-- Is a name among them? -/
theorem contains_own (B e k cap : Nat) (p : Option Addr) (nm : List ByteArray) (s : ByteArray) (W : World) (hk : k ≤ 100) (h : W.ownsRow B e 1 (.slice p k cap) k (nm.map Value.string)) :
    Calls Try.prog 23 #[.slice p k cap, .string s] W fun e W' => ((s ∈ nm ∧ e = .returned (.bool true)) ∨ (s ∉ nm ∧ e = .returned (.bool false))) ∧ W' = W := by
  have hl : nm.length = k := by have := h.1; simpa using this
  rcases own_at h with ⟨rfl, rfl, rfl⟩ | ⟨g, rfl, hc⟩
  · have : nm = [] := List.eq_nil_of_length_eq_zero hl
    subst this
    exact (cont_nil s W).mono fun e w' ⟨h1, h2⟩ => ⟨.inr ⟨by simp, h1⟩, h2⟩
  · have hi := idx_name g cap k (fun j => nm.getD j { data := #[] }) s W hk hc
    clear hc h
    go_enter Try.func23, Try.ntmps23
    go_wp2_with fail
    refine hi.mono ?_
    rintro e w' ⟨rfl, ⟨hn, rfl⟩ | ⟨j, hj, hs, rfl⟩⟩
    · have hd : s ∉ nm := by
        rw [← getD_mem (d := { data := #[] })]
        rintro ⟨j, hj, hs⟩
        exact hn j (by omega) hs
      have HD := Lib.hid hd
      clear hn hd
      go_wp2_with fail
      go_ret
      exact ⟨.inr ⟨HD.out, rfl⟩, rfl⟩
    · have hd : s ∈ nm := by
        rw [← getD_mem (d := { data := #[] })]
        exact ⟨j, by omega, hs⟩
      have HD := Lib.hid hd
      have hge : decide ((j : Int) ≥ 0) = true := by simp
      clear hs hd
      go_wp2_with fail
      go_ret
      exact ⟨.inl ⟨HD.out, by first | rfl | simp⟩, rfl⟩
/-- What Join tells and leaves. -/
def JoinR (B bg : Nat) (ep : Int) (vlog vsubs : Value) (nm : List ByteArray) (who : ByteArray) (W : World) (e : Ending) (W' : World) : Prop :=
  (who ∈ nm ∧ e = .returned (.int .i64 50) ∧ Below W.heap.size W W') ∨ (who ∉ nm ∧ 16 ≤ nm.length ∧ e = .returned (.int .i64 64) ∧ Below W.heap.size W W') ∨
  (who ∉ nm ∧ nm.length < 16 ∧ e = .returned (.int .i64 0) ∧ ∃ v', W'.heap[bg]? = some (grp ep vlog v') ∧ W'.ownsRow B 9 1 v' (nm.length + 1) ((nm ++ [who]).map Value.string) ∧
    (v'.ownBlock = vsubs.ownBlock ∨ ∃ g, v'.ownBlock = some g ∧ W.heap.size ≤ g) ∧ Chg (bg :: vsubs.ownBlock.toList) W W')
set_option maxRecDepth 100000 in
set_option maxHeartbeats 4000000 in
theorem join_any (B b m0 m1 m2 bg clock : Nat) (es : Array MapEntry) (E : List (ByteArray × Nat)) (ep : Int) (vlog vsubs : Value) (nm : List ByteArray) (s who : ByteArray) (hs : 1 ≤ s.size ∧ s.size ≤ 255) (hw : 1 ≤ who.size ∧ who.size ≤ 255) (W : World)
    (hB : B ≤ W.heap.size) (hb : W.heap[b]? = some (svc m0 m1 m2)) (hm : W.heap[m1]? = some (.map es clock)) (hE : MapIs es E) (hl : look E s = some bg) (hg : W.heap[bg]? = some (grp ep vlog vsubs)) (hown : W.ownsRow B 9 1 vsubs nm.length (nm.map Value.string)) (hne : vsubs.ownBlock ≠ some bg) (hk : nm.length ≤ 16) :
    Calls Try.prog 11 #[.pointer (some ⟨b, 0, none⟩), .string s, .string who] W (JoinR B bg ep vlog vsubs nm who W) := by
  obtain ⟨i0, hi0, hz0, hz1, hz2⟩ := info_of infoStr
  obtain ⟨p, cap, rfl⟩ := own_any hown
  obtain ⟨y, hy, hv, _⟩ := find_names s es.toList E 0 hE
  rw [hl] at hv
  have hv : lookV (.pointer none) y = .pointer (some ⟨bg, 0, none⟩) := hv
  have hbel : Below W.heap.size W (W.alloc (.cells #[.string s, .string who] 9)) := (Below.refl _ _).alloc (Nat.le_refl _) _
  have hb1 := blk_stay hbel hb
  have hm1 := blk_stay hbel hm
  have hg1 := blk_stay hbel hg
  have ho1 : (W.alloc (.cells #[.string s, .string who] 9)).ownsRow B 9 1 (.slice p nm.length cap) nm.length (nm.map Value.string) := hown.alloc _
  have cb1 : (W.alloc (.cells #[.string s, .string who] 9)).cell? ⟨b, 1, none⟩ = some (.map (some m1)) := (cell_of_row _ b 1 _ _ _ hb1).trans rfl
  have cq : (W.alloc (.cells #[.string s, .string who] 9)).cell? ⟨bg, 2, none⟩ = some (.slice p nm.length cap) := (cell_of_row _ bg 2 _ _ _ hg1).trans rfl
  have hmay := may_two (c := 2) hb1 (alloc_at W (.cells #[.string s, .string who] 9)) hs hw
  have hcon := contains_own B 9 nm.length cap p nm who _ (by omega) ho1
  have lo : ∀ k, (Value.slice p nm.length cap).ownBlock = some k → B ≤ k ∧ k < W.heap.size := hown.lt
  have lbg : bg < W.heap.size := (Array.getElem?_eq_some_iff.1 hg).1
  have HV := Lib.hid hv
  have HY := Lib.hid hy
  have HO := Lib.hid ho1
  have HG := Lib.hid hg1
  have HNE := Lib.hid hne
  have HB := Lib.hid hbel
  have HLO := Lib.hid lo
  clear hown hv hy hl hE hb hm hg hb1 hg1 ho1 hne hbel lo
  go_enter Try.func11, Try.ntmps11
  go_wp2_with fail
  refine hmay.mono ?_
  rintro e w' ⟨rfl, rfl⟩
  go_wp2_with (first | (at_lookup; refine wpList_lookW rfl 54 9 62 _ _ rfl Try.underlying54 Try.underlying9 m1 s rfl rfl es clock hm1 (.pointer none) zero_g y HY.out _ HV.out ?_))
  refine hcon.mono ?_
  rintro e w' ⟨⟨hmem, rfl⟩ | ⟨hmem, rfl⟩, hw'⟩
  · subst hw'
    have HM := Lib.hid hmem
    clear hmem
    go_wp2_with fail
    go_ret
    exact .inl ⟨HM.out, rfl, HB.out⟩
  · subst hw'
    have HM := Lib.hid hmem
    clear hmem
    by_cases h16 : 16 ≤ nm.length
    · have hge : decide ((nm.length : Int) ≥ 16) = true := by simp; omega
      go_wp2_with fail
      go_ret
      exact .inr (.inl ⟨HM.out, h16, rfl, HB.out⟩)
    · have hge : decide ((nm.length : Int) ≥ 16) = false := by simp; omega
      go_wp2_with (at_builtin; refine Stp.go ?_)
      refine Stp.mk ?_
      have hb2 : Below W.heap.size W ((W.alloc (.cells #[.string s, .string who] 9)).alloc (.cells #[.string who] 9)) := ((Below.refl _ _).alloc (Nat.le_refl _) _).alloc (by simp) _
      have hnw := alloc_at (W.alloc (.cells #[.string s, .string who] 9)) (.cells #[.string who] 9)
      have hsz : (W.alloc (.cells #[.string s, .string who] 9)).heap.size = W.heap.size + 1 := by simp
      rw [hsz] at hnw
      refine wpList_append_own_at _ rfl _ _ 63 rfl B 9 i0 _ 1 16 Try.underlying63 hi0 hz0 hz1 hz2 rfl (by omega) (.slice p nm.length cap) nm.length (nm.map Value.string) rfl (HO.out.alloc _) ⟨W.heap.size + 1, 0, none⟩ 1 1 [.string who] rfl rfl (fun j u hu => by
        rw [addr_add, Nat.zero_add]
        unfold World.cell?
        simp only [hnw]
        simpa using hu) (by simp [Value.oneCell']) (by unfold maxLen; omega) (by omega) (by simp; omega) ?_
      intro v' w5 hown hgr _ hat
      obtain ⟨g5, c5, rfl⟩ := own_form hown (by omega)
      have hr5 : w5.heap[bg]? = some (grp ep vlog (.slice p nm.length cap)) := (hgr.block bg (by simp; omega) (fun h => HNE.out h.symm)).trans (blk_stay ((Below.refl _ _).alloc (Nat.le_refl _) _) HG.out)
      have hS5 : Chg (bg :: (Value.slice p nm.length cap).ownBlock.toList) W w5 := (Chg.of_below hb2).grown hgr (fun k hk => .inl (by rw [hk]; simp))
      have hat5 : (Value.slice (some ⟨g5, 0, none⟩) (nm.length + 1) c5).ownBlock = (Value.slice p nm.length cap).ownBlock ∨ ∃ g, (Value.slice (some ⟨g5, 0, none⟩) (nm.length + 1) c5).ownBlock = some g ∧ W.heap.size ≤ g := hat.imp id (fun h => ⟨_, h, by simp; omega⟩)
      have hne5 : (Value.slice (some ⟨g5, 0, none⟩) (nm.length + 1) c5).ownBlock ≠ some bg := by
        rcases hat5 with h | ⟨g, h, hg⟩
        · rw [h]; exact HNE.out
        · rw [h]; intro h2; cases h2; omega
      have cq5 : w5.cell? ⟨bg, 2, none⟩ = some (.slice p nm.length cap) := (cell_of_row _ bg 2 _ _ _ hr5).trans rfl
      have fq5 : w5.frozen? ⟨bg, 2, none⟩ = false := frozen_of_row w5 bg 2 _ _ hr5
      have hend : JoinR B bg ep vlog (.slice p nm.length cap) nm who W (.returned (.int .i64 0)) (w5.setCell ⟨bg, 2, none⟩ (.slice (some ⟨g5, 0, none⟩) (nm.length + 1) c5)) :=
        .inr (.inr ⟨HM.out, by omega, rfl, _, heap_setCell_same w5 bg 2 _ _ _ hr5, own_ext (by rw [List.map_append]; exact hown) (fun g hg => Below.heap_setCell _ _ _ _ (by rintro rfl; exact hne5 hg)), hat5, hS5.setCell (.inl (by simp)) 2 _⟩)
      have HE := Lib.hid hend
      clear hown hgr hat hr5 hS5 hat5 hne5 hend cq hnw hb2 hsz
      go_wp2_with fail
      go_ret
      exact HE.out
end Go.Proofs.Ytiebggfpjkhlaaa
