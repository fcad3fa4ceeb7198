/- The walks of service.Open and Join at a service that is known. No condition. -/
import Derived.Test.YtiebggfpjkhlaaaZb
namespace Go.Proofs.Ytiebggfpjkhlaaa
open Go Go.RowKit
open Go.ChangeMaps (setBlock heap_setBlock_same heap_setBlock_other)
attribute [local go_sem] map_neq_some map_neq_nil
/-- A service's block. -/
def svc (m0 m1 m2 : Nat) : Obj := .cells #[.map (some m0), .map (some m1), .map (some m2)] 57 (0, 0)
/-- A group's block. -/
def grp (e : Int) (log subs : Value) : Obj := .cells #[.int .i64 e, log, subs] 65 (0, 0)
/-- A map of one name. -/
def one (s : ByteArray) (p : Nat) : Obj := .map #[{ key := .string s, val := .pointer (some ⟨p, 0, none⟩), born := 0 }] 1
theorem zero_g (w : World) : (zeroValue 62).run Try.prog w = .ok (.pointer none) w := by kernel_rfl
theorem szG : 1 ≤ sG.size ∧ sG.size ≤ 255 := by decide
theorem szA : 1 ≤ sA.size ∧ sA.size ≤ 255 := by decide
theorem may_one {b m0 m1 m2 g c : Nat} {s : ByteArray} {w : World} (hb : w.heap[b]? = some (svc m0 m1 m2)) (hg : w.heap[g]? = some (.cells #[.string s] 9 (0, 0))) (hs : 1 ≤ s.size ∧ s.size ≤ 255) :
    Calls Try.prog 22 #[.pointer (some ⟨b, 0, none⟩), .slice (some ⟨g, 0, none⟩) 1 c] w fun e w' => e = .returned (.bool true) ∧ w' = w := by
  refine may_at (nm := fun _ => s) hb rfl hg (by omega) fun j hj => ?_
  obtain rfl : j = 0 := by omega
  exact ⟨rfl, hs⟩
theorem may_two {b m0 m1 m2 g c : Nat} {s t : ByteArray} {w : World} (hb : w.heap[b]? = some (svc m0 m1 m2)) (hg : w.heap[g]? = some (.cells #[.string s, .string t] 9 (0, 0))) (hs : 1 ≤ s.size ∧ s.size ≤ 255) (ht : 1 ≤ t.size ∧ t.size ≤ 255) :
    Calls Try.prog 22 #[.pointer (some ⟨b, 0, none⟩), .slice (some ⟨g, 0, none⟩) 2 c] w fun e w' => e = .returned (.bool true) ∧ w' = w := by
  refine may_at (nm := fun j => if j = 0 then s else t) hb rfl hg (by omega) fun j hj => ?_
  have hj2 : j = 0 ∨ j = 1 := by omega
  rcases hj2 with rfl | rfl
  · exact ⟨rfl, hs⟩
  · exact ⟨rfl, ht⟩
set_option maxRecDepth 100000 in
set_option maxHeartbeats 4000000 in
theorem open_new (b m0 m1 m2 : Nat) (w W : World) (hm : w.heap.size ≤ m1 ∧ b ≠ m1 ∧ m2 ≠ m1 ∧ m0 ≠ m1) (hst : Kq w [(b, svc m0 m1 m2), (m2, .map #[] 0), (m1, .map #[] 0), (m0, .map #[] 0)] W) :
    Calls Try.prog 10 #[.pointer (some ⟨b, 0, none⟩), .string sG, .int .i64 0] W fun e W' => e = .returned (.int .i64 0) ∧ ∃ bg, W.heap.size ≤ bg ∧ Kq w [(m1, one sG bg), (bg, grp 0 (.slice none 0 0) (.slice none 0 0)), (b, svc m0 m1 m2), (m2, .map #[] 0), (m0, .map #[] 0)] W' := by
  have hst1 := hst.new rfl (.cells #[.string sG] 9)
  have hb1 := hst1.at_ (g := b) (ob := svc m0 m1 m2) (by simp)
  have hg1 := hst1.at_ (g := W.heap.size) (ob := .cells #[.string sG] 9 (0, 0)) (by simp)
  have cb1 : (W.alloc (.cells #[.string sG] 9)).cell? ⟨b, 1, none⟩ = some (.map (some m1)) := (cell_of_row _ b 1 _ _ _ hb1).trans rfl
  have hr1 := hst1.at_ (g := m1) (ob := .map #[] 0) (by simp)
  have hmay := may_one (c := 1) hb1 hg1 szG
  have hst2 := hst1.new (n := W.heap.size + 1) (by simp) (.cells #[.int .i64 0, .slice none 0 0, .slice none 0 0] 65)
  have hr2 := hst2.at_ (g := m1) (ob := .map #[] 0) (by simp)
  have hlt := hst.lt (p := (m1, .map #[] 0)) (by simp)
  have hst3 := Kq.setMap (hst2.sub (bm := [(W.heap.size + 1, grp 0 (.slice none 0 0) (.slice none 0 0)), (b, svc m0 m1 m2), (m2, .map #[] 0), (m0, .map #[] 0)]) (by simp [grp])) hr2 hm.1 (by simp; simp at hlt; omega) (one sG (W.heap.size + 1))
  have H3 := Lib.hid hst3
  clear hst hst1 hst2 hst3 hb1 hg1 hlt
  go_enter Try.func10, Try.ntmps10
  go_wp2_with fail
  refine hmay.mono ?_
  rintro e w' ⟨rfl, rfl⟩
  go_wp2_with (first | (at_lookup; refine wpList_look rfl 54 9 62 _ _ rfl Try.underlying54 Try.underlying9 m1 sG rfl rfl #[] 0 hr1 (.pointer none) zero_g none rfl (.pointer none) rfl ?_) | (at_mapUpdate; refine wpList_mapNew rfl 54 9 62 _ _ _ rfl Try.underlying54 Try.underlying9 m1 sG (.pointer (some ⟨W.heap.size + 1, 0, none⟩)) rfl rfl rfl #[] 0 hr2 rfl ?_))
  go_ret
  exact ⟨rfl, W.heap.size + 1, by omega, H3.out⟩
theorem look_one (s : ByteArray) (p : Nat) (h : (s == s) = true) : Instr.findNow .string (.string s) (#[({ key := .string s, val := .pointer (some ⟨p, 0, none⟩), born := 0 } : MapEntry)]).toList 0 = some (some (0, .pointer (some ⟨p, 0, none⟩))) := by
  simp only [Instr.findNow, Instr.sameNow]
  rw [h]
set_option maxRecDepth 100000 in
theorem idx_nil (s : ByteArray) (w : World) : Calls Try.prog 39 #[.slice none 0 0, .string s] w fun e w' => e = .returned (.int .i64 (-1)) ∧ w' = w := by
  go_enter Try.func39, Try.ntmps39
  go_wp2_with fail
  go_loopw [8] (fun i wr => i = .int .i64 0 ∧ wr = w) (fun _ _ => 0)
  case atStart => exact ⟨rfl, rfl⟩
  case round =>
    obtain ⟨rfl, rfl⟩ := hrel
    go_wp2_with fail
    go_ret
    exact ⟨rfl, rfl⟩
theorem cont_nil (s : ByteArray) (w : World) : Calls Try.prog 23 #[.slice none 0 0, .string s] w fun e w' => e = .returned (.bool false) ∧ w' = w := by
  go_enter Try.func23, Try.ntmps23
  go_wp2_with fail
  refine (idx_nil s _).mono ?_
  rintro e w' ⟨rfl, rfl⟩
  go_wp2_with fail
  go_ret
  exact ⟨rfl, rfl⟩
theorem infoStr : (Try.prog.info? 9).map (fun i => (i.zero, i.size, i.bytes)) = some (some (.string { data := #[] }), 1, 16) := by kernel_rfl
theorem info_of {P : Program} {e : TypeId} {z : Value} {n b : Nat} (h : (P.info? e).map (fun i => (i.zero, i.size, i.bytes)) = some (some z, n, b)) : ∃ i, P.info? e = some i ∧ i.zero = some z ∧ i.size = n ∧ i.bytes = b := by
  cases hi : P.info? e with
  | none => rw [hi] at h; cases h
  | some i =>
    rw [hi] at h
    simp only [Option.map_some, Option.some.injEq, Prod.mk.injEq] at h
    exact ⟨i, rfl, h.1, h.2.1, h.2.2⟩
/-- The group has one subscriber. -/
def Joined (w : World) (b m0 m1 m2 bg : Nat) (W W' : World) : Prop := ∃ gs cap cur, W.heap.size ≤ gs ∧ cur.toList.take 1 = [Value.string sA] ∧ Kq w [(bg, grp 0 (.slice none 0 0) (.slice (some ⟨gs, 0, none⟩) 1 cap)), (gs, .cells cur 9 (0, 0)), (m1, one sG bg), (b, svc m0 m1 m2), (m2, .map #[] 0), (m0, .map #[] 0)] W'
set_option maxRecDepth 100000 in
set_option maxHeartbeats 4000000 in
theorem join_new (b m0 m1 m2 bg : Nat) (w W : World) (hm : w.heap.size ≤ bg ∧ b ≠ bg ∧ m2 ≠ bg ∧ m0 ≠ bg ∧ m1 ≠ bg) (hst : Kq w [(m1, one sG bg), (bg, grp 0 (.slice none 0 0) (.slice none 0 0)), (b, svc m0 m1 m2), (m2, .map #[] 0), (m0, .map #[] 0)] W) :
    Calls Try.prog 11 #[.pointer (some ⟨b, 0, none⟩), .string sG, .string sA] W fun e W' => e = .returned (.int .i64 0) ∧ Joined w b m0 m1 m2 bg W W' := by
  obtain ⟨i0, hi0, hz0, hz1, hz2⟩ := info_of infoStr
  have hst1 := hst.new rfl (.cells #[.string sG, .string sA] 9)
  have hb1 := hst1.at_ (g := b) (ob := svc m0 m1 m2) (by simp)
  have hg1 := hst1.at_ (g := W.heap.size) (ob := .cells #[.string sG, .string sA] 9 (0, 0)) (by simp)
  have cb1 : (W.alloc (.cells #[.string sG, .string sA] 9)).cell? ⟨b, 1, none⟩ = some (.map (some m1)) := (cell_of_row _ b 1 _ _ _ hb1).trans rfl
  have hr1 := hst1.at_ (g := m1) (ob := one sG bg) (by simp)
  have hmay := may_two (c := 2) hb1 hg1 szG szA
  have hq := hst1.at_ (g := bg) (ob := grp 0 (.slice none 0 0) (.slice none 0 0)) (by simp)
  have cq : (W.alloc (.cells #[.string sG, .string sA] 9)).cell? ⟨bg, 2, none⟩ = some (.slice none 0 0) := (cell_of_row _ bg 2 _ _ _ hq).trans rfl
  have hst2 := hst1.new (n := W.heap.size + 1) (by simp) (.cells #[.string sA] 9)
  have hn := hst2.at_ (g := W.heap.size + 1) (ob := .cells #[.string sA] 9 (0, 0)) (by simp)
  have H2 := Lib.hid hst2
  clear hst hst1 hst2 hb1 hg1
  go_enter Try.func11, Try.ntmps11
  go_wp2_with fail
  refine hmay.mono ?_
  rintro e w' ⟨rfl, rfl⟩
  go_wp2_with (first | (at_lookup; refine wpList_look rfl 54 9 62 _ _ rfl Try.underlying54 Try.underlying9 m1 sG rfl rfl _ 1 hr1 (.pointer none) zero_g _ (look_one sG bg rfl) (.pointer (some ⟨bg, 0, none⟩)) rfl ?_))
  refine (cont_nil sA _).mono ?_
  rintro e w' ⟨rfl, hw⟩
  subst hw
  go_wp2_with (at_builtin; refine Stp.go ?_)
  refine Stp.mk ?_
  refine wpList_append_nil rfl _ _ 63 rfl (e := 9) Try.underlying63 hi0 hz0 hz1 hz2 rfl (by omega) rfl rfl hn rfl (by simp [Value.oneCell']) (by omega) ?_
  intro gs cap cur w4 hgs hcur hcap htk hbel
  have hst4 := (H2.out.keep hbel).add hcur
  have hq4 := hst4.at_ (g := bg) (ob := grp 0 (.slice none 0 0) (.slice none 0 0)) (by simp)
  have hlt := H2.out.lt (p := (bg, grp 0 (.slice none 0 0) (.slice none 0 0))) (by simp)
  have cq4 : w4.cell? ⟨bg, 2, none⟩ = some (.slice none 0 0) := (cell_of_row _ bg 2 _ _ _ hq4).trans rfl
  have fq4 : w4.frozen? ⟨bg, 2, none⟩ = false := frozen_of_row w4 bg 2 _ _ hq4
  have hge : W.heap.size ≤ gs := by simp at hgs; omega
  have hst5 := Kq.setCell (hst4.sub (bm := [(gs, .cells cur 9 (0, 0)), (m1, one sG bg), (b, svc m0 m1 m2), (m2, .map #[] 0), (m0, .map #[] 0)]) (by simp)) hq4 hm.1 (by simp at hlt hgs ⊢; omega) 2 (.slice (some ⟨gs, 0, none⟩) 1 cap)
  have H5 := Lib.hid hst5
  have HT := Lib.hid htk
  clear hst4 hst5 hq4 hlt hbel hcur H2 hn hq cq htk
  go_wp2_with fail
  go_ret
  exact ⟨rfl, gs, cap, cur, hge, HT.out, H5.out⟩
end Go.Proofs.Ytiebggfpjkhlaaa
