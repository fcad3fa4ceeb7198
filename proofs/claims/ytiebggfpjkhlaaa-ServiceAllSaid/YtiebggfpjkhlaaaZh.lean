/- The walk of synodlaw22.knows. No condition. -/
import Derived.Test.YtiebggfpjkhlaaaZg
namespace Go.Proofs.Ytiebggfpjkhlaaa
open Go Go.RowKit
theorem num22_any (x : Int) (w : World) : Calls Try.prog 9 #[.int .i64 x] w fun e w' => e = .returned (.int .i64 x) ∧ w = w' := by
  go_enter Try.func9, Try.ntmps9
  go_wp2
  go_ret
  exact ⟨rfl, rfl⟩
set_option maxRecDepth 100000 in
set_option maxHeartbeats 400000 in
theorem knows22_yes (w : World) : Calls Try.prog 12 #[] w fun e w' => e = .returned (.bool true) ∧ Below w.heap.size w w' := by
  go_enter Try.func12, Try.ntmps12
  go_wp2_with fail
  refine (new_any _).mono ?_
  rintro e w1 ⟨rfl, hst⟩
  have hst : Kq w [(w.heap.size + 3, svc w.heap.size (w.heap.size + 1) (w.heap.size + 2)), (w.heap.size + 2, .map #[] 0), (w.heap.size + 1, .map #[] 0), (w.heap.size, .map #[] 0)] w1 := hst
  go_wp2_with fail
  have hc1 := open_new (w.heap.size + 3) w.heap.size (w.heap.size + 1) (w.heap.size + 2) w w1 (by omega) hst
  change Calls _ 10 #[.pointer (some ⟨w.heap.size + 3, 0, none⟩), .string { data := #[103] }, .int .i64 0] w1 _ at hc1
  refine hc1.mono ?_
  rintro e w2 ⟨rfl, bg, hbg, hst2⟩
  have l1 : w.heap.size + 3 < w1.heap.size := hst.lt (p := (w.heap.size + 3, svc w.heap.size (w.heap.size + 1) (w.heap.size + 2))) (by simp)
  clear hst
  go_wp2_with fail
  have hc2 := join_new (w.heap.size + 3) w.heap.size (w.heap.size + 1) (w.heap.size + 2) bg w w2 (by omega) hst2
  change Calls _ 11 #[.pointer (some ⟨w.heap.size + 3, 0, none⟩), .string { data := #[103] }, .string { data := #[97] }] w2 _ at hc2
  refine hc2.mono ?_
  rintro e w3 ⟨rfl, gs, cap, cur, hgs, htk, hst⟩
  have l2 : bg < w2.heap.size := hst2.lt (p := (bg, grp 0 (.slice none 0 0) (.slice none 0 0))) (by simp)
  have l3 : w.heap.size + 2 < w2.heap.size := hst2.lt (p := (w.heap.size + 2, .map #[] 0)) (by simp)
  have HTK := Lib.hid htk
  clear hst2 htk
  go_wp2_with fail
  refine (commit_any 1 _).mono ?_
  rintro e w4 ⟨gb, rfl, hgb, hb4⟩
  have hst := hst.keep hb4
  have hne : gb ≠ bg := by
    rintro rfl
    have h1 := hst.at_ (g := gb) (ob := grp 0 (.slice none 0 0) (.slice (some ⟨gs, 0, none⟩) 1 cap)) (by simp)
    rw [hgb] at h1
    cases h1
  clear hb4
  go_wp2_with fail
  have hc3 := send_new (w.heap.size + 3) w.heap.size (w.heap.size + 1) (w.heap.size + 2) bg gs cap gb cur 1 w w4 (by omega) HTK.out (by omega) hst hgb
  change Calls _ 13 #[.pointer (some ⟨w.heap.size + 3, 0, none⟩), .string { data := #[103] }, entry0 gb] w4 _ at hc3
  refine hc3.mono ?_
  rintro e w5 ⟨rfl, br, gw, cw, l, s, hst⟩
  clear hgb hne HTK
  go_wp2_with fail
  refine (commit_any 2 _).mono ?_
  rintro e w6 ⟨gb2, rfl, hgb, hb6⟩
  have hst := hst.keep hb6
  clear hb6
  go_wp2_with fail
  have hc4 := send_two (w.heap.size + 3) w.heap.size (w.heap.size + 1) (w.heap.size + 2) bg br gw cw gb2 l s 2 w w6 hst hgb
  change Calls _ 13 #[.pointer (some ⟨w.heap.size + 3, 0, none⟩), .string { data := #[103] }, entry0 gb2] w6 _ at hc4
  refine hc4.mono ?_
  rintro e w7 ⟨rfl, hb7⟩
  have hst := hst.keep hb7
  clear hb7 hgb
  have hwait := waiting_one (w.heap.size + 3) w.heap.size (w.heap.size + 1) (w.heap.size + 2) br gw cw w w7 (hst.sub (by simp))
  change Calls _ 18 #[.pointer (some ⟨w.heap.size + 3, 0, none⟩), .string { data := #[97] }] w7 _ at hwait
  have hbel := Lib.hid hst.2
  clear hst
  go_wp2_with (go_at_call 9; refine (num22_any _ _).mono ?_; rintro e w' ⟨rfl, rfl⟩)
  refine hwait.mono ?_
  rintro e w8 ⟨rfl, hb8⟩
  go_wp2_with fail
  go_ret
  exact ⟨rfl, below_thru hbel.out hb8⟩
end Go.Proofs.Ytiebggfpjkhlaaa
