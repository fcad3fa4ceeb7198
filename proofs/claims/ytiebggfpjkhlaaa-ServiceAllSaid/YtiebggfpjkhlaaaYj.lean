/- service.Open and Epoch at any service that is known. No condition. -/
import Derived.Test.YtiebggfpjkhlaaaYi
namespace Go.Proofs.Ytiebggfpjkhlaaa
open Go Go.RowKit
open Go.ChangeMaps (setBlock heap_setBlock_same heap_setBlock_other)
set_option linter.unusedSimpArgs false
attribute [local go_sem] map_neq_some map_neq_nil
/-- What Open tells and leaves, of an epoch that may be. -/
def OpenR (m1 : Nat) (ep : Int) (E : List (ByteArray × Nat)) (s : ByteArray) (W : World) (e : Ending) (W' : World) : Prop :=
  (look E s ≠ none ∧ e = .returned (.int .i64 50) ∧ Below W.heap.size W W') ∨
  (look E s = none ∧ e = .returned (.int .i64 0) ∧ ∃ bg, W.heap.size ≤ bg ∧ W'.heap[bg]? = some (grp ep (.slice none 0 0) (.slice none 0 0)) ∧ (∃ es' c', W'.heap[m1]? = some (.map es' c') ∧ MapIs es' (E ++ [(s, bg)])) ∧ Chg [m1] W W')
set_option maxRecDepth 100000 in
set_option maxHeartbeats 4000000 in
theorem open_any (b m0 m1 m2 clock : Nat) (es : Array MapEntry) (E : List (ByteArray × Nat)) (ep : Int) (he : 0 ≤ ep ∧ ep < 4294967296) (s : ByteArray) (hs : 1 ≤ s.size ∧ s.size ≤ 255) (W : World) (hb : W.heap[b]? = some (svc m0 m1 m2)) (hm : W.heap[m1]? = some (.map es clock)) (hE : MapIs es E) :
    Calls Try.prog 10 #[.pointer (some ⟨b, 0, none⟩), .string s, .int .i64 ep] W (OpenR m1 ep E s W) := by
  have d1 : decide (ep < 0) = false := by simp; omega
  have d2 : decide (ep ≥ 4294967296) = false := by simp; omega
  have hbel : Below W.heap.size W (W.alloc (.cells #[.string s] 9)) := (Below.refl _ _).alloc (Nat.le_refl _) _
  have hb1 := blk_stay hbel hb
  have hm1 := blk_stay hbel hm
  have cb1 : (W.alloc (.cells #[.string s] 9)).cell? ⟨b, 1, none⟩ = some (.map (some m1)) := (cell_of_row _ b 1 _ _ _ hb1).trans rfl
  have hmay := may_one (c := 1) hb1 (alloc_at W (.cells #[.string s] 9)) hs
  obtain ⟨y, hy, hv, hno⟩ := find_names s es.toList E 0 hE
  cases hl : look E s with
  | some p =>
    rw [hl] at hv
    have hv : lookV (.pointer none) y = .pointer (some ⟨p, 0, none⟩) := hv
    have HL : Hid (look E s ≠ none) := Lib.hid (by rw [hl]; simp)
    have HV := Lib.hid hv
    have HY := Lib.hid hy
    have HB := Lib.hid hbel
    clear hl hv hno hy hbel hb hm hb1
    go_enter Try.func10, Try.ntmps10
    go_wp2_with fail
    refine hmay.mono ?_
    rintro e w' ⟨rfl, rfl⟩
    go_wp2_with (first | (at_lookup; refine wpList_lookW rfl 54 9 62 _ _ rfl Try.underlying54 Try.underlying9 m1 s rfl rfl es clock hm1 (.pointer none) zero_g y HY.out _ HV.out ?_))
    go_ret
    exact .inl ⟨HL.out, rfl, HB.out⟩
  | none =>
    obtain rfl := hno hl
    have hlt : m1 < W.heap.size := (Array.getElem?_eq_some_iff.1 hm).1
    have hbel2 : Below W.heap.size W ((W.alloc (.cells #[.string s] 9)).alloc (.cells #[.int .i64 ep, .slice none 0 0, .slice none 0 0] 65)) := ((Below.refl _ _).alloc (Nat.le_refl _) _).alloc (by simp) _
    have h1 := blk_stay hbel2 hm
    have hsz : (W.alloc (.cells #[.string s] 9)).heap.size = W.heap.size + 1 := by simp
    have hng := alloc_at (W.alloc (.cells #[.string s] 9)) (.cells #[.int .i64 ep, .slice none 0 0, .slice none 0 0] 65)
    rw [hsz] at hng
    have hend : OpenR m1 ep E s W (.returned (.int .i64 0)) (setBlock ((W.alloc (.cells #[.string s] 9)).alloc (.cells #[.int .i64 ep, .slice none 0 0, .slice none 0 0] 65)) m1 (.map (es.push { key := .string s, val := .pointer (some ⟨W.heap.size + 1, 0, none⟩), born := clock }) (clock + 1))) :=
      .inr ⟨hl, rfl, W.heap.size + 1, by omega, by rw [heap_setBlock_other h1 _ (by omega)]; exact hng, ⟨_, _, heap_setBlock_same h1 _, hE.push s _ clock⟩, (Chg.of_below hbel2).setMap h1 (by simp) _⟩
    have HEND := Lib.hid hend
    have HY := Lib.hid hy
    clear hv hl hno hy hend hE hlt hbel2 hsz hng hbel hb hm hb1
    go_enter Try.func10, Try.ntmps10
    go_wp2_with fail
    refine hmay.mono ?_
    rintro e w' ⟨rfl, rfl⟩
    go_wp2_with (first | (at_lookup; refine wpList_lookW rfl 54 9 62 _ _ rfl Try.underlying54 Try.underlying9 m1 s rfl rfl es clock hm1 (.pointer none) zero_g none HY.out (.pointer none) rfl ?_) | (at_mapUpdate; refine wpList_mapNew rfl 54 9 62 _ _ _ rfl Try.underlying54 Try.underlying9 m1 s (.pointer (some ⟨W.heap.size + 1, 0, none⟩)) rfl rfl rfl es clock h1 HY.out ?_))
    go_ret
    exact HEND.out
set_option maxRecDepth 100000 in
set_option maxHeartbeats 4000000 in
theorem epoch_any (b m0 m1 m2 bg clock : Nat) (es : Array MapEntry) (E : List (ByteArray × Nat)) (ep : Int) (vlog vsubs : Value) (s : ByteArray) (hs : 1 ≤ s.size ∧ s.size ≤ 255) (W : World) (hb : W.heap[b]? = some (svc m0 m1 m2)) (hm : W.heap[m1]? = some (.map es clock)) (hE : MapIs es E) (hl : look E s = some bg) (hg : W.heap[bg]? = some (grp ep vlog vsubs)) :
    Calls Try.prog 20 #[.pointer (some ⟨b, 0, none⟩), .string s] W fun e W' => e = .returned (.tuple #[.int .i64 ep, .int .i64 0]) ∧ Below W.heap.size W W' := by
  have hbel : Below W.heap.size W (W.alloc (.cells #[.string s] 9)) := (Below.refl _ _).alloc (Nat.le_refl _) _
  have hb1 := blk_stay hbel hb
  have hm1 := blk_stay hbel hm
  have hg1 := blk_stay hbel hg
  have cb1 : (W.alloc (.cells #[.string s] 9)).cell? ⟨b, 1, none⟩ = some (.map (some m1)) := (cell_of_row _ b 1 _ _ _ hb1).trans rfl
  have cg : (W.alloc (.cells #[.string s] 9)).cell? ⟨bg, 0, none⟩ = some (.int .i64 ep) := (cell_of_row _ bg 0 _ _ _ hg1).trans rfl
  have hmay := may_one (c := 1) hb1 (alloc_at W (.cells #[.string s] 9)) hs
  obtain ⟨y, hy, hv, _⟩ := find_names s es.toList E 0 hE
  rw [hl] at hv
  have hv : lookV (.pointer none) y = .pointer (some ⟨bg, 0, none⟩) := hv
  have HV := Lib.hid hv
  have HY := Lib.hid hy
  clear hl hv hy hb hm hg hb1 hg1 hE
  go_enter Try.func20, Try.ntmps20
  go_wp2_with fail
  refine hmay.mono ?_
  rintro e w' ⟨rfl, rfl⟩
  go_wp2_with (first | (at_lookup; refine wpList_lookW rfl 54 9 62 _ _ rfl Try.underlying54 Try.underlying9 m1 s rfl rfl es clock hm1 (.pointer none) zero_g y HY.out _ HV.out ?_))
  go_ret2
  exact ⟨rfl, hbel⟩
end Go.Proofs.Ytiebggfpjkhlaaa
