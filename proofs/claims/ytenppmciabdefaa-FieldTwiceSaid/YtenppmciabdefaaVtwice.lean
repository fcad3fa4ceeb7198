/- The walk of FieldTwice. No condition. -/
import Derived.Test.YtenppmciabdefaaMb
namespace Go.Proofs.Ytenppmciabdefaa
open Go Go.RowKit
set_option maxRecDepth 100000 in
set_option maxHeartbeats 40000000 in
theorem fieldTwice_walk (a0 : Option Addr) (n0 c0 : Nat) (l0 : List Int) (a1 : Option Addr) (n1 c1 : Nat) (l1 : List Int) (w : World) (b0 : Bs w a0 n0 l0) (_e0 : n0 ≤ c0) (_g0 : c0 ≤ 140737488351232) (b1 : Bs w a1 n1 l1) (_e1 : n1 ≤ c1) (_g1 : c1 ≤ 140737488351232) :
    Calls Try.prog 8 #[.slice a0 n0 c0, .slice a1 n1 c1] w fun e w' => e = .returned (.bool true) ∧ Below w.heap.size w w' := by
  go_enter Try.func8, Try.ntmps8
  go_wp2_with fail
  refine (fit_any a0 n0 c0 l0 _ b0).mono ?_
  rintro e w1 ⟨g0, rfl, hA, hb⟩
  have b1 := b1.keep hb
  go_wp2_with fail
  refine (fit_any a1 n1 c1 l1 _ b1).mono ?_
  rintro e w1 ⟨g1, rfl, hB, hb1⟩
  have hst0 : SBy w [] w1 := ⟨by simp, Below.join hb hb1⟩
  have hst := (hst0.add hB).add (hA.keep hb1)
  clear b0 b1 hb1 hb hA hB hst0
  generalize fitL l0 = la at *
  generalize fitL l1 = lb at *
  have VA := Vm.self la
  have VB := Vm.self lb
  go_wp2_with fail
  refine (gCanon_any _ 32 32 la _ (hst.at_ (p := some ⟨g0, 0, none⟩) (l := la) (by simp)) (by omega) (by decide)).mono ?_
  rw [is32_yes (hst.at_ (p := some ⟨g0, 0, none⟩) (l := la) (by simp)).1]
  intro e w3 h
  obtain ⟨px, cx, rfl, hcx, hX, hb1⟩ := h.can (M := valB la) ⟨0, by omega⟩
  have hst := (hst.keep hb1).add hX
  clear h hb1 hX
  go_wp2_with fail
  refine (gInv_any _ 32 32 la _ (hst.at_ (p := some ⟨g0, 0, none⟩) (l := la) (by simp)) (by omega)).mono ?_
  rw [is32_yes (hst.at_ (p := some ⟨g0, 0, none⟩) (l := la) (by simp)).1]
  intro e w4 h
  obtain ⟨pi, ci, rfl, hci, hI, hb1⟩ := h.can (M := pinv (valB la)) ⟨0, by omega⟩
  have hst := (hst.keep hb1).add hI
  clear h hb1 hI
  go_wp2_with fail
  refine (gInv_any _ 32 ci _ _ (hst.at_ (p := pi) (l := leB (pinv (valB la) % PP)) (by simp)) hci).mono ?_
  rw [is32_yes (hst.at_ (p := pi) (l := leB (pinv (valB la) % PP)) (by simp)).1, valB_mod]
  intro e w5 h
  obtain ⟨p9, c9, rfl, hc9, hJ, hb1⟩ := h.can (M := valB la) (by
    have h1 := pinv_twice (valB la)
    have h2 := pw_cong (pinv (valB la) % PP) (pinv (valB la)) (by
      have := Int.emod_add_mul_ediv (pinv (valB la)) PP
      exact ⟨-(pinv (valB la) / PP), by grind⟩) 57896044618658097711785492504343953926634992332820282019728792003956564819947
    obtain ⟨x, hx⟩ := h1
    obtain ⟨y, hy⟩ := h2
    exact ⟨x + y, by unfold pinv at *; grind⟩)
  have hst := (hst.keep hb1).add hJ
  clear h hb1 hJ
  generalize valB la = A at *
  generalize valB lb = B at *
  go_wp2_with fail
  refine (small_any 0 _).mono ?_
  rintro e w2 ⟨rfl, hu⟩
  have hb1 : Below w5.heap.size w5 w2 := by rw [← hu]; exact (Below.refl _ _).alloc (Nat.le_refl _) _
  have hZ : Bs w2 (some ⟨w5.heap.size, 0, none⟩) 32 (leB (0 % PP)) := by rw [← hu, small_can0]; exact bs_sm (by omega) (heap_alloc_new w5 _)
  have hst := (hst.keep hb1).add hZ
  generalize w5.heap.size = gz at *
  clear hu hb1 hZ
  go_wp2_with fail
  refine (sub3_can _ _ _ _ (leB (0 % PP)) la 0 A _ (hst.at_ (by simp)) (hst.at_ (by simp)) (Nat.le_refl 32) (Nat.le_refl 32) (Vm.can 0) VA).mono ?_
  rintro e w6 ⟨ps, cs, rfl, hcs, hS, hb1⟩
  have hst := (hst.keep hb1).add hS
  clear hb1 hS
  go_wp2_with fail
  refine (sub3_can _ _ _ _ (leB (0 % PP)) (leB ((0 - A) % PP)) 0 (0 - A) _ (hst.at_ (by simp)) (hst.at_ (by simp)) (Nat.le_refl 32) hcs (Vm.can 0) (Vm.can (0 - A))).mono ?_
  rintro e w7 ⟨p12, c12, rfl, hc12, hN, hb1⟩
  rw [show 0 - (0 - A) = A by omega] at hN
  have hst := (hst.keep hb1).add hN
  clear hb1 hN
  have hst : SBy w [(p9, (leB (A % PP))), ((some ⟨g0, 0, none⟩), la), ((some ⟨g1, 0, none⟩), lb), ((some ⟨gz, 0, none⟩), (leB (0 % PP))), (p12, (leB (A % PP))), (px, (leB (A % PP)))] w7 := hst.sub (by simp)
  by_cases zA : PP ∣ A
  · have f1 := str_zero zA
    have f3 : ((strOfNums (leB ((A * B) % PP))).toList == (strOfNums (leB 0)).toList) = true := str_zero (Int.dvd_trans zA (Int.dvd_mul_right A B))
    clear zA
    go_wp2_with fail
    refine wp_region_rem (SBy w [(p9, (leB (A % PP))), ((some ⟨g0, 0, none⟩), la), ((some ⟨g1, 0, none⟩), lb), ((some ⟨gz, 0, none⟩), (leB (0 % PP))), (p12, (leB (A % PP))), (px, (leB (A % PP)))]) (by kernel_rfl) (by kernel_rfl) (fun _ _ d _ _ h => by cases d <;> exact h) hst.drew ?_
    apply rem_sure 0 (by kernel_rfl) rfl (wanted_none rfl)
    · intro w2 hS K hK
      go_wp2_with fail
      exact hK _ hS (Ext.refl _)
    · kernel_rfl
    · kernel_rfl
    apply rem_sure 1 (by kernel_rfl) rfl (wanted_none rfl)
    · intro w2 hS K hK
      have cv := conv_at (cap := cx) (hS.at_ (p := px) (l := (leB (A % PP))) (by simp))
      go_wp2_with fail
      exact hK _ hS (Ext.refl _)
    · kernel_rfl
    · kernel_rfl
    apply rem_sure 2 (by kernel_rfl) rfl (wanted_none rfl)
    · intro w2 hS K hK
      go_wp2_with fail
      exact hK _ hS (Ext.refl _)
    · kernel_rfl
    · kernel_rfl
    apply rem_sure 3 (by kernel_rfl) rfl (wanted_none rfl)
    · intro w2 hS K hK
      have cv := conv_at (cap := 32) (hS.at_ (p := (some ⟨gz, 0, none⟩)) (l := (leB (0 % PP))) (by simp))
      go_wp2_with fail
      exact hK _ hS (Ext.refl _)
    · kernel_rfl
    · kernel_rfl
    apply rem_sure 4 (by kernel_rfl) rfl (wanted_none rfl)
    · intro w2 hS K hK
      go_wp2_with fail
      exact hK _ hS (Ext.refl _)
    · kernel_rfl
    · kernel_rfl
    apply rem_sure 5 (by kernel_rfl) rfl (wanted_none rfl)
    · intro w2 hS K hK
      go_wp2_with fail
      exact hK _ hS (Ext.refl _)
    · kernel_rfl
    · kernel_rfl
    refine rem_skip 6 (by kernel_rfl) rfl (by kernel_rfl) ?_
    try simp only [put_some, List.setIfInBounds_toArray, List.set_cons_succ, List.set_cons_zero]
    refine rem_skip 7 (by kernel_rfl) rfl (by kernel_rfl) ?_
    try simp only [put_some, List.setIfInBounds_toArray, List.set_cons_succ, List.set_cons_zero]
    refine rem_skip 8 (by kernel_rfl) rfl (by kernel_rfl) ?_
    try simp only [put_some, List.setIfInBounds_toArray, List.set_cons_succ, List.set_cons_zero]
    refine rem_skip 9 (by kernel_rfl) rfl (by kernel_rfl) ?_
    try simp only [put_some, List.setIfInBounds_toArray, List.set_cons_succ, List.set_cons_zero]
    refine rem_skip 10 (by kernel_rfl) rfl (by kernel_rfl) ?_
    try simp only [put_some, List.setIfInBounds_toArray, List.set_cons_succ, List.set_cons_zero]
    refine rem_skip 11 (by kernel_rfl) rfl (by kernel_rfl) ?_
    try simp only [put_some, List.setIfInBounds_toArray, List.set_cons_succ, List.set_cons_zero]
    refine rem_skip 12 (by kernel_rfl) rfl (by kernel_rfl) ?_
    try simp only [put_some, List.setIfInBounds_toArray, List.set_cons_succ, List.set_cons_zero]
    apply rem_sure 13 (by kernel_rfl) rfl (wanted_none rfl)
    · intro w2 hS K hK
      go_wp2_with fail
      exact hK _ hS (Ext.refl _)
    · kernel_rfl
    · kernel_rfl
    apply rem_sure 14 (by kernel_rfl) rfl (wanted_none rfl)
    · intro w2 hS K hK
      go_wp2_with fail
      exact hK _ hS (Ext.refl _)
    · kernel_rfl
    · kernel_rfl
    refine rem_nil ?_
    intro v9 hS9 hE9
    have hst : SBy w [(p9, (leB (A % PP))), ((some ⟨g0, 0, none⟩), la), ((some ⟨g1, 0, none⟩), lb), ((some ⟨gz, 0, none⟩), (leB (0 % PP))), (p12, (leB (A % PP))), (px, (leB (A % PP)))] v9 := hS9.sub (by simp)
    clear hS9 hE9
    generalize v9 = w8 at *
    go_wp2_with fail
    refine wp_region_rem (SBy w [(p9, (leB (A % PP))), ((some ⟨g0, 0, none⟩), la), ((some ⟨g1, 0, none⟩), lb), ((some ⟨gz, 0, none⟩), (leB (0 % PP))), (p12, (leB (A % PP))), (px, (leB (A % PP)))]) (by kernel_rfl) (by kernel_rfl) (fun _ _ d _ _ h => by cases d <;> exact h) hst.drew ?_
    apply rem_sure 0 (by kernel_rfl) rfl (wanted_none rfl)
    · intro w2 hS K hK
      go_wp2_with fail
      exact hK _ hS (Ext.refl _)
    · kernel_rfl
    · kernel_rfl
    apply rem_sure 2 (by kernel_rfl) rfl (wanted_none rfl)
    · intro w2 hS K hK
      go_wp2_with fail
      exact hK _ hS (Ext.refl _)
    · kernel_rfl
    · kernel_rfl
    apply rem_sure 5 (by kernel_rfl) rfl (wanted_none rfl)
    · intro w2 hS K hK
      go_wp2_with fail
      exact hK _ hS (Ext.refl _)
    · kernel_rfl
    · kernel_rfl
    refine rem_one 1 (by kernel_rfl) (step_of rfl (wanted_none rfl) ?_)
    intro v1 hS1 hE1 K hK
    go_wp2_with fail
    refine (num_any _ _).mono ?_
    rintro e u1 ⟨rfl, rfl⟩
    refine hK _ _ hS1 ?_
    clear hK K
    try simp only [put_some, List.setIfInBounds_toArray, List.set_cons_succ, List.set_cons_zero]
    refine rem_one 3 (by kernel_rfl) (step_of rfl (wanted_none rfl) ?_)
    intro v2 hS2 hE2 K hK
    go_wp2_with fail
    refine (num_any _ _).mono ?_
    rintro e u2 ⟨rfl, rfl⟩
    refine hK _ _ hS2 ?_
    clear hK K
    try simp only [put_some, List.setIfInBounds_toArray, List.set_cons_succ, List.set_cons_zero]
    apply rem_sure 4 (by kernel_rfl) rfl (wanted_none rfl)
    · intro w2 hS K hK
      go_wp2_with fail
      exact hK _ hS (Ext.refl _)
    · kernel_rfl
    · kernel_rfl
    refine rem_one 6 (by kernel_rfl) (step_of rfl (wanted_none rfl) ?_)
    intro v3 hS3 hE3 K hK
    go_wp2_with fail
    refine (num_any _ _).mono ?_
    rintro e u3 ⟨rfl, rfl⟩
    refine hK _ _ hS3 ?_
    clear hK K
    try simp only [put_some, List.setIfInBounds_toArray, List.set_cons_succ, List.set_cons_zero]
    apply rem_sure 7 (by kernel_rfl) rfl (wanted_none rfl)
    · intro w2 hS K hK
      go_wp2_with fail
      exact hK _ hS (Ext.refl _)
    · kernel_rfl
    · kernel_rfl
    apply rem_sure 8 (by kernel_rfl) rfl (wanted_none rfl)
    · intro w2 hS K hK
      go_wp2_with fail
      exact hK _ hS (Ext.refl _)
    · kernel_rfl
    · kernel_rfl
    apply rem_sure 9 (by kernel_rfl) rfl (wanted_none rfl)
    · intro w2 hS K hK
      go_wp2_with fail
      exact hK _ hS (Ext.refl _)
    · kernel_rfl
    · kernel_rfl
    apply rem_sure 10 (by kernel_rfl) rfl (by kernel_rfl)
    · intro w2 hS K hK
      go_wp2_with fail
      exact hK _ hS (Ext.refl _)
    · kernel_rfl
    · kernel_rfl
    apply rem_sure 11 (by kernel_rfl) rfl (by kernel_rfl)
    · intro w2 hS K hK
      have cv := conv_at (cap := c9) (hS.at_ (p := p9) (l := (leB (A % PP))) (by simp))
      go_wp2_with fail
      exact hK _ hS (Ext.refl _)
    · kernel_rfl
    · kernel_rfl
    apply rem_sure 12 (by kernel_rfl) rfl (by kernel_rfl)
    · intro w2 hS K hK
      go_wp2_with fail
      exact hK _ hS (Ext.refl _)
    · kernel_rfl
    · kernel_rfl
    apply rem_sure 13 (by kernel_rfl) rfl (by kernel_rfl)
    · intro w2 hS K hK
      have cv := conv_at (cap := cx) (hS.at_ (p := px) (l := (leB (A % PP))) (by simp))
      go_wp2_with fail
      exact hK _ hS (Ext.refl _)
    · kernel_rfl
    · kernel_rfl
    apply rem_sure 14 (by kernel_rfl) rfl (by kernel_rfl)
    · intro w2 hS K hK
      go_wp2_with fail
      exact hK _ hS (Ext.refl _)
    · kernel_rfl
    · kernel_rfl
    apply rem_sure 15 (by kernel_rfl) rfl (wanted_none rfl)
    · intro w2 hS K hK
      go_wp2_with fail
      exact hK _ hS (Ext.refl _)
    · kernel_rfl
    · kernel_rfl
    apply rem_sure 16 (by kernel_rfl) rfl (wanted_none rfl)
    · intro w2 hS K hK
      go_wp2_with fail
      exact hK _ hS (Ext.refl _)
    · kernel_rfl
    · kernel_rfl
    apply rem_sure 17 (by kernel_rfl) rfl (by kernel_rfl)
    · intro w2 hS K hK
      go_wp2_with fail
      exact hK _ hS (Ext.refl _)
    · kernel_rfl
    · kernel_rfl
    apply rem_sure 18 (by kernel_rfl) rfl (by kernel_rfl)
    · intro w2 hS K hK
      have cv := conv_at (cap := c12) (hS.at_ (p := p12) (l := (leB (A % PP))) (by simp))
      go_wp2_with fail
      exact hK _ hS (Ext.refl _)
    · kernel_rfl
    · kernel_rfl
    apply rem_sure 19 (by kernel_rfl) rfl (by kernel_rfl)
    · intro w2 hS K hK
      go_wp2_with fail
      exact hK _ hS (Ext.refl _)
    · kernel_rfl
    · kernel_rfl
    apply rem_sure 20 (by kernel_rfl) rfl (by kernel_rfl)
    · intro w2 hS K hK
      have cv := conv_at (cap := cx) (hS.at_ (p := px) (l := (leB (A % PP))) (by simp))
      go_wp2_with fail
      exact hK _ hS (Ext.refl _)
    · kernel_rfl
    · kernel_rfl
    apply rem_sure 21 (by kernel_rfl) rfl (by kernel_rfl)
    · intro w2 hS K hK
      go_wp2_with fail
      exact hK _ hS (Ext.refl _)
    · kernel_rfl
    · kernel_rfl
    apply rem_sure 22 (by kernel_rfl) rfl (wanted_none rfl)
    · intro w2 hS K hK
      go_wp2_with fail
      exact hK _ hS (Ext.refl _)
    · kernel_rfl
    · kernel_rfl
    apply rem_sure 23 (by kernel_rfl) rfl (wanted_none rfl)
    · intro w2 hS K hK
      go_wp2_with fail
      exact hK _ hS (Ext.refl _)
    · kernel_rfl
    · kernel_rfl
    apply rem_sure 24 (by kernel_rfl) rfl (by kernel_rfl)
    · intro w2 hS K hK
      go_wp2_with fail
      exact hK _ hS (Ext.refl _)
    · kernel_rfl
    · kernel_rfl
    apply rem_sure 25 (by kernel_rfl) rfl (by kernel_rfl)
    · intro w2 hS K hK
      go_wp2_with fail
      exact hK _ hS (Ext.refl _)
    · kernel_rfl
    · kernel_rfl
    apply rem_sure 28 (by kernel_rfl) rfl (by kernel_rfl)
    · intro w2 hS K hK
      go_wp2_with fail
      exact hK _ hS (Ext.refl _)
    · kernel_rfl
    · kernel_rfl
    apply rem_sure 29 (by kernel_rfl) rfl (by kernel_rfl)
    · intro w2 hS K hK
      have cv := conv_at (cap := 32) (hS.at_ (p := (some ⟨gz, 0, none⟩)) (l := (leB (0 % PP))) (by simp))
      go_wp2_with fail
      exact hK _ hS (Ext.refl _)
    · kernel_rfl
    · kernel_rfl
    apply rem_sure 31 (by kernel_rfl) rfl (by kernel_rfl)
    · intro w2 hS K hK
      go_wp2_with fail
      exact hK _ hS (Ext.refl _)
    · kernel_rfl
    · kernel_rfl
    refine rem_one 26 (by kernel_rfl) (step_of rfl (by kernel_rfl) ?_)
    intro v4 hS4 hE4 K hK
    go_wp2_with fail
    refine (mul3_can _ _ _ _ la lb A B _ (hS4.at_ (by simp)) (hS4.at_ (by simp)) (Nat.le_refl 32) (Nat.le_refl 32) VA VB).mono ?_
    rintro e u4 ⟨p4, c4, rfl, hc4, hB4, hk4⟩
    refine hK _ _ (hS4.keep hk4) ?_
    clear hK K
    try simp only [put_some, List.setIfInBounds_toArray, List.set_cons_succ, List.set_cons_zero]
    refine rem_add (p := p4) (l := (leB ((A * B) % PP))) hB4 ?_
    apply rem_sure 27 (by kernel_rfl) rfl (by kernel_rfl)
    · intro w2 hS K hK
      have cv := conv_at (cap := c4) (hS.at_ (p := p4) (l := (leB ((A * B) % PP))) (by simp))
      go_wp2_with fail
      exact hK _ hS (Ext.refl _)
    · kernel_rfl
    · kernel_rfl
    apply rem_sure 30 (by kernel_rfl) rfl (by kernel_rfl)
    · intro w2 hS K hK
      go_wp2_with fail
      exact hK _ hS (Ext.refl _)
    · kernel_rfl
    · kernel_rfl
    apply rem_sure 32 (by kernel_rfl) rfl (by kernel_rfl)
    · intro w2 hS K hK
      go_wp2_with fail
      exact hK _ hS (Ext.refl _)
    · kernel_rfl
    · kernel_rfl
    apply rem_sure 33 (by kernel_rfl) rfl (wanted_none rfl)
    · intro w2 hS K hK
      go_wp2_with fail
      exact hK _ hS (Ext.refl _)
    · kernel_rfl
    · kernel_rfl
    apply rem_sure 34 (by kernel_rfl) rfl (wanted_none rfl)
    · intro w2 hS K hK
      go_wp2_with fail
      exact hK _ hS (Ext.refl _)
    · kernel_rfl
    · kernel_rfl
    refine rem_one 35 (by kernel_rfl) (step_of rfl (by kernel_rfl) ?_)
    intro v5 hS5 hE5 K hK
    go_wp2_with fail
    refine (knows_any _).mono ?_
    rintro e u5 ⟨rfl, hk5⟩
    refine hK _ _ (hS5.keep hk5) ?_
    clear hK K
    try simp only [put_some, List.setIfInBounds_toArray, List.set_cons_succ, List.set_cons_zero]
    apply rem_sure 36 (by kernel_rfl) rfl (wanted_none rfl)
    · intro w2 hS K hK
      go_wp2_with fail
      exact hK _ hS (Ext.refl _)
    · kernel_rfl
    · kernel_rfl
    apply rem_sure 37 (by kernel_rfl) rfl (wanted_none rfl)
    · intro w2 hS K hK
      go_wp2_with fail
      exact hK _ hS (Ext.refl _)
    · kernel_rfl
    · kernel_rfl
    refine rem_nil ?_
    intro v9 hS9 hE9
    go_wp2
    go_ret
    exact ⟨rfl, hS9.2⟩
  · by_cases zB : PP ∣ B
    · have f1 := str_nonzero zA
      have f2 := str_zero zB
      have f3 : ((strOfNums (leB ((A * B) % PP))).toList == (strOfNums (leB 0)).toList) = true := str_zero (Int.dvd_trans zB (Int.dvd_mul_left A B))
      clear zA zB
      go_wp2_with fail
      refine wp_region_rem (SBy w [(p9, (leB (A % PP))), ((some ⟨g0, 0, none⟩), la), ((some ⟨g1, 0, none⟩), lb), ((some ⟨gz, 0, none⟩), (leB (0 % PP))), (p12, (leB (A % PP))), (px, (leB (A % PP)))]) (by kernel_rfl) (by kernel_rfl) (fun _ _ d _ _ h => by cases d <;> exact h) hst.drew ?_
      apply rem_sure 0 (by kernel_rfl) rfl (wanted_none rfl)
      · intro w2 hS K hK
        go_wp2_with fail
        exact hK _ hS (Ext.refl _)
      · kernel_rfl
      · kernel_rfl
      apply rem_sure 1 (by kernel_rfl) rfl (wanted_none rfl)
      · intro w2 hS K hK
        have cv := conv_at (cap := cx) (hS.at_ (p := px) (l := (leB (A % PP))) (by simp))
        go_wp2_with fail
        exact hK _ hS (Ext.refl _)
      · kernel_rfl
      · kernel_rfl
      apply rem_sure 2 (by kernel_rfl) rfl (wanted_none rfl)
      · intro w2 hS K hK
        go_wp2_with fail
        exact hK _ hS (Ext.refl _)
      · kernel_rfl
      · kernel_rfl
      apply rem_sure 3 (by kernel_rfl) rfl (wanted_none rfl)
      · intro w2 hS K hK
        have cv := conv_at (cap := 32) (hS.at_ (p := (some ⟨gz, 0, none⟩)) (l := (leB (0 % PP))) (by simp))
        go_wp2_with fail
        exact hK _ hS (Ext.refl _)
      · kernel_rfl
      · kernel_rfl
      apply rem_sure 4 (by kernel_rfl) rfl (wanted_none rfl)
      · intro w2 hS K hK
        go_wp2_with fail
        exact hK _ hS (Ext.refl _)
      · kernel_rfl
      · kernel_rfl
      apply rem_sure 5 (by kernel_rfl) rfl (wanted_none rfl)
      · intro w2 hS K hK
        go_wp2_with fail
        exact hK _ hS (Ext.refl _)
      · kernel_rfl
      · kernel_rfl
      apply rem_sure 6 (by kernel_rfl) rfl (by kernel_rfl)
      · intro w2 hS K hK
        go_wp2_with fail
        exact hK _ hS (Ext.refl _)
      · kernel_rfl
      · kernel_rfl
      apply rem_sure 7 (by kernel_rfl) rfl (by kernel_rfl)
      · intro w2 hS K hK
        go_wp2_with fail
        exact hK _ hS (Ext.refl _)
      · kernel_rfl
      · kernel_rfl
      apply rem_sure 10 (by kernel_rfl) rfl (by kernel_rfl)
      · intro w2 hS K hK
        go_wp2_with fail
        exact hK _ hS (Ext.refl _)
      · kernel_rfl
      · kernel_rfl
      apply rem_sure 11 (by kernel_rfl) rfl (by kernel_rfl)
      · intro w2 hS K hK
        have cv := conv_at (cap := 32) (hS.at_ (p := (some ⟨gz, 0, none⟩)) (l := (leB (0 % PP))) (by simp))
        go_wp2_with fail
        exact hK _ hS (Ext.refl _)
      · kernel_rfl
      · kernel_rfl
      refine rem_one 8 (by kernel_rfl) (step_of rfl (by kernel_rfl) ?_)
      intro v1 hS1 hE1 K hK
      go_wp2_with fail
      refine (add3_can _ _ _ _ lb (leB (0 % PP)) B 0 _ (hS1.at_ (by simp)) (hS1.at_ (by simp)) (Nat.le_refl 32) (Nat.le_refl 32) VB (Vm.can 0)).mono ?_
      rintro e u1 ⟨p1, c1, rfl, hc1, hB1, hk1⟩
      rw [show B + 0 = B from by grind] at hB1
      refine hK _ _ (hS1.keep hk1) ?_
      clear hK K
      try simp only [put_some, List.setIfInBounds_toArray, List.set_cons_succ, List.set_cons_zero]
      refine rem_add (p := p1) (l := (leB ((B) % PP))) hB1 ?_
      apply rem_sure 9 (by kernel_rfl) rfl (by kernel_rfl)
      · intro w2 hS K hK
        have cv := conv_at (cap := c1) (hS.at_ (p := p1) (l := (leB ((B) % PP))) (by simp))
        go_wp2_with fail
        exact hK _ hS (Ext.refl _)
      · kernel_rfl
      · kernel_rfl
      apply rem_sure 12 (by kernel_rfl) rfl (by kernel_rfl)
      · intro w2 hS K hK
        go_wp2_with fail
        exact hK _ hS (Ext.refl _)
      · kernel_rfl
      · kernel_rfl
      apply rem_sure 13 (by kernel_rfl) rfl (wanted_none rfl)
      · intro w2 hS K hK
        go_wp2_with fail
        exact hK _ hS (Ext.refl _)
      · kernel_rfl
      · kernel_rfl
      apply rem_sure 14 (by kernel_rfl) rfl (wanted_none rfl)
      · intro w2 hS K hK
        go_wp2_with fail
        exact hK _ hS (Ext.refl _)
      · kernel_rfl
      · kernel_rfl
      refine rem_nil ?_
      intro v9 hS9 hE9
      have hst : SBy w [(p9, (leB (A % PP))), ((some ⟨g0, 0, none⟩), la), ((some ⟨g1, 0, none⟩), lb), ((some ⟨gz, 0, none⟩), (leB (0 % PP))), (p12, (leB (A % PP))), (px, (leB (A % PP)))] v9 := hS9.sub (by simp)
      clear hS9 hE9
      generalize v9 = w8 at *
      go_wp2_with fail
      refine wp_region_rem (SBy w [(p9, (leB (A % PP))), ((some ⟨g0, 0, none⟩), la), ((some ⟨g1, 0, none⟩), lb), ((some ⟨gz, 0, none⟩), (leB (0 % PP))), (p12, (leB (A % PP))), (px, (leB (A % PP)))]) (by kernel_rfl) (by kernel_rfl) (fun _ _ d _ _ h => by cases d <;> exact h) hst.drew ?_
      apply rem_sure 0 (by kernel_rfl) rfl (wanted_none rfl)
      · intro w2 hS K hK
        go_wp2_with fail
        exact hK _ hS (Ext.refl _)
      · kernel_rfl
      · kernel_rfl
      apply rem_sure 2 (by kernel_rfl) rfl (wanted_none rfl)
      · intro w2 hS K hK
        go_wp2_with fail
        exact hK _ hS (Ext.refl _)
      · kernel_rfl
      · kernel_rfl
      apply rem_sure 5 (by kernel_rfl) rfl (wanted_none rfl)
      · intro w2 hS K hK
        go_wp2_with fail
        exact hK _ hS (Ext.refl _)
      · kernel_rfl
      · kernel_rfl
      refine rem_one 1 (by kernel_rfl) (step_of rfl (wanted_none rfl) ?_)
      intro v1 hS1 hE1 K hK
      go_wp2_with fail
      refine (num_any _ _).mono ?_
      rintro e u1 ⟨rfl, rfl⟩
      refine hK _ _ hS1 ?_
      clear hK K
      try simp only [put_some, List.setIfInBounds_toArray, List.set_cons_succ, List.set_cons_zero]
      refine rem_one 3 (by kernel_rfl) (step_of rfl (wanted_none rfl) ?_)
      intro v2 hS2 hE2 K hK
      go_wp2_with fail
      refine (num_any _ _).mono ?_
      rintro e u2 ⟨rfl, rfl⟩
      refine hK _ _ hS2 ?_
      clear hK K
      try simp only [put_some, List.setIfInBounds_toArray, List.set_cons_succ, List.set_cons_zero]
      apply rem_sure 4 (by kernel_rfl) rfl (wanted_none rfl)
      · intro w2 hS K hK
        go_wp2_with fail
        exact hK _ hS (Ext.refl _)
      · kernel_rfl
      · kernel_rfl
      refine rem_one 6 (by kernel_rfl) (step_of rfl (wanted_none rfl) ?_)
      intro v3 hS3 hE3 K hK
      go_wp2_with fail
      refine (num_any _ _).mono ?_
      rintro e u3 ⟨rfl, rfl⟩
      refine hK _ _ hS3 ?_
      clear hK K
      try simp only [put_some, List.setIfInBounds_toArray, List.set_cons_succ, List.set_cons_zero]
      apply rem_sure 7 (by kernel_rfl) rfl (wanted_none rfl)
      · intro w2 hS K hK
        go_wp2_with fail
        exact hK _ hS (Ext.refl _)
      · kernel_rfl
      · kernel_rfl
      apply rem_sure 8 (by kernel_rfl) rfl (wanted_none rfl)
      · intro w2 hS K hK
        go_wp2_with fail
        exact hK _ hS (Ext.refl _)
      · kernel_rfl
      · kernel_rfl
      apply rem_sure 9 (by kernel_rfl) rfl (wanted_none rfl)
      · intro w2 hS K hK
        go_wp2_with fail
        exact hK _ hS (Ext.refl _)
      · kernel_rfl
      · kernel_rfl
      apply rem_sure 10 (by kernel_rfl) rfl (by kernel_rfl)
      · intro w2 hS K hK
        go_wp2_with fail
        exact hK _ hS (Ext.refl _)
      · kernel_rfl
      · kernel_rfl
      apply rem_sure 11 (by kernel_rfl) rfl (by kernel_rfl)
      · intro w2 hS K hK
        have cv := conv_at (cap := c9) (hS.at_ (p := p9) (l := (leB (A % PP))) (by simp))
        go_wp2_with fail
        exact hK _ hS (Ext.refl _)
      · kernel_rfl
      · kernel_rfl
      apply rem_sure 12 (by kernel_rfl) rfl (by kernel_rfl)
      · intro w2 hS K hK
        go_wp2_with fail
        exact hK _ hS (Ext.refl _)
      · kernel_rfl
      · kernel_rfl
      apply rem_sure 13 (by kernel_rfl) rfl (by kernel_rfl)
      · intro w2 hS K hK
        have cv := conv_at (cap := cx) (hS.at_ (p := px) (l := (leB (A % PP))) (by simp))
        go_wp2_with fail
        exact hK _ hS (Ext.refl _)
      · kernel_rfl
      · kernel_rfl
      apply rem_sure 14 (by kernel_rfl) rfl (by kernel_rfl)
      · intro w2 hS K hK
        go_wp2_with fail
        exact hK _ hS (Ext.refl _)
      · kernel_rfl
      · kernel_rfl
      apply rem_sure 15 (by kernel_rfl) rfl (wanted_none rfl)
      · intro w2 hS K hK
        go_wp2_with fail
        exact hK _ hS (Ext.refl _)
      · kernel_rfl
      · kernel_rfl
      apply rem_sure 16 (by kernel_rfl) rfl (wanted_none rfl)
      · intro w2 hS K hK
        go_wp2_with fail
        exact hK _ hS (Ext.refl _)
      · kernel_rfl
      · kernel_rfl
      apply rem_sure 17 (by kernel_rfl) rfl (by kernel_rfl)
      · intro w2 hS K hK
        go_wp2_with fail
        exact hK _ hS (Ext.refl _)
      · kernel_rfl
      · kernel_rfl
      apply rem_sure 18 (by kernel_rfl) rfl (by kernel_rfl)
      · intro w2 hS K hK
        have cv := conv_at (cap := c12) (hS.at_ (p := p12) (l := (leB (A % PP))) (by simp))
        go_wp2_with fail
        exact hK _ hS (Ext.refl _)
      · kernel_rfl
      · kernel_rfl
      apply rem_sure 19 (by kernel_rfl) rfl (by kernel_rfl)
      · intro w2 hS K hK
        go_wp2_with fail
        exact hK _ hS (Ext.refl _)
      · kernel_rfl
      · kernel_rfl
      apply rem_sure 20 (by kernel_rfl) rfl (by kernel_rfl)
      · intro w2 hS K hK
        have cv := conv_at (cap := cx) (hS.at_ (p := px) (l := (leB (A % PP))) (by simp))
        go_wp2_with fail
        exact hK _ hS (Ext.refl _)
      · kernel_rfl
      · kernel_rfl
      apply rem_sure 21 (by kernel_rfl) rfl (by kernel_rfl)
      · intro w2 hS K hK
        go_wp2_with fail
        exact hK _ hS (Ext.refl _)
      · kernel_rfl
      · kernel_rfl
      apply rem_sure 22 (by kernel_rfl) rfl (wanted_none rfl)
      · intro w2 hS K hK
        go_wp2_with fail
        exact hK _ hS (Ext.refl _)
      · kernel_rfl
      · kernel_rfl
      apply rem_sure 23 (by kernel_rfl) rfl (wanted_none rfl)
      · intro w2 hS K hK
        go_wp2_with fail
        exact hK _ hS (Ext.refl _)
      · kernel_rfl
      · kernel_rfl
      apply rem_sure 24 (by kernel_rfl) rfl (by kernel_rfl)
      · intro w2 hS K hK
        go_wp2_with fail
        exact hK _ hS (Ext.refl _)
      · kernel_rfl
      · kernel_rfl
      apply rem_sure 25 (by kernel_rfl) rfl (by kernel_rfl)
      · intro w2 hS K hK
        go_wp2_with fail
        exact hK _ hS (Ext.refl _)
      · kernel_rfl
      · kernel_rfl
      apply rem_sure 28 (by kernel_rfl) rfl (by kernel_rfl)
      · intro w2 hS K hK
        go_wp2_with fail
        exact hK _ hS (Ext.refl _)
      · kernel_rfl
      · kernel_rfl
      apply rem_sure 29 (by kernel_rfl) rfl (by kernel_rfl)
      · intro w2 hS K hK
        have cv := conv_at (cap := 32) (hS.at_ (p := (some ⟨gz, 0, none⟩)) (l := (leB (0 % PP))) (by simp))
        go_wp2_with fail
        exact hK _ hS (Ext.refl _)
      · kernel_rfl
      · kernel_rfl
      apply rem_sure 31 (by kernel_rfl) rfl (by kernel_rfl)
      · intro w2 hS K hK
        go_wp2_with fail
        exact hK _ hS (Ext.refl _)
      · kernel_rfl
      · kernel_rfl
      refine rem_one 26 (by kernel_rfl) (step_of rfl (by kernel_rfl) ?_)
      intro v4 hS4 hE4 K hK
      go_wp2_with fail
      refine (mul3_can _ _ _ _ la lb A B _ (hS4.at_ (by simp)) (hS4.at_ (by simp)) (Nat.le_refl 32) (Nat.le_refl 32) VA VB).mono ?_
      rintro e u4 ⟨p4, c4, rfl, hc4, hB4, hk4⟩
      refine hK _ _ (hS4.keep hk4) ?_
      clear hK K
      try simp only [put_some, List.setIfInBounds_toArray, List.set_cons_succ, List.set_cons_zero]
      refine rem_add (p := p4) (l := (leB ((A * B) % PP))) hB4 ?_
      apply rem_sure 27 (by kernel_rfl) rfl (by kernel_rfl)
      · intro w2 hS K hK
        have cv := conv_at (cap := c4) (hS.at_ (p := p4) (l := (leB ((A * B) % PP))) (by simp))
        go_wp2_with fail
        exact hK _ hS (Ext.refl _)
      · kernel_rfl
      · kernel_rfl
      apply rem_sure 30 (by kernel_rfl) rfl (by kernel_rfl)
      · intro w2 hS K hK
        go_wp2_with fail
        exact hK _ hS (Ext.refl _)
      · kernel_rfl
      · kernel_rfl
      apply rem_sure 32 (by kernel_rfl) rfl (by kernel_rfl)
      · intro w2 hS K hK
        go_wp2_with fail
        exact hK _ hS (Ext.refl _)
      · kernel_rfl
      · kernel_rfl
      apply rem_sure 33 (by kernel_rfl) rfl (wanted_none rfl)
      · intro w2 hS K hK
        go_wp2_with fail
        exact hK _ hS (Ext.refl _)
      · kernel_rfl
      · kernel_rfl
      apply rem_sure 34 (by kernel_rfl) rfl (wanted_none rfl)
      · intro w2 hS K hK
        go_wp2_with fail
        exact hK _ hS (Ext.refl _)
      · kernel_rfl
      · kernel_rfl
      refine rem_one 35 (by kernel_rfl) (step_of rfl (by kernel_rfl) ?_)
      intro v5 hS5 hE5 K hK
      go_wp2_with fail
      refine (knows_any _).mono ?_
      rintro e u5 ⟨rfl, hk5⟩
      refine hK _ _ (hS5.keep hk5) ?_
      clear hK K
      try simp only [put_some, List.setIfInBounds_toArray, List.set_cons_succ, List.set_cons_zero]
      apply rem_sure 36 (by kernel_rfl) rfl (wanted_none rfl)
      · intro w2 hS K hK
        go_wp2_with fail
        exact hK _ hS (Ext.refl _)
      · kernel_rfl
      · kernel_rfl
      apply rem_sure 37 (by kernel_rfl) rfl (wanted_none rfl)
      · intro w2 hS K hK
        go_wp2_with fail
        exact hK _ hS (Ext.refl _)
      · kernel_rfl
      · kernel_rfl
      refine rem_nil ?_
      intro v9 hS9 hE9
      go_wp2
      go_ret
      exact ⟨rfl, hS9.2⟩
    · have f1 := str_nonzero zA
      have f2 := str_nonzero zB
      have f3 : ((strOfNums (leB ((A * B) % PP))).toList == (strOfNums (leB 0)).toList) = false := str_nonzero (fun hd => (euclid_PP hd).elim zA zB)
      clear zA zB
      go_wp2_with fail
      refine wp_region_rem (SBy w [(p9, (leB (A % PP))), ((some ⟨g0, 0, none⟩), la), ((some ⟨g1, 0, none⟩), lb), ((some ⟨gz, 0, none⟩), (leB (0 % PP))), (p12, (leB (A % PP))), (px, (leB (A % PP)))]) (by kernel_rfl) (by kernel_rfl) (fun _ _ d _ _ h => by cases d <;> exact h) hst.drew ?_
      apply rem_sure 0 (by kernel_rfl) rfl (wanted_none rfl)
      · intro w2 hS K hK
        go_wp2_with fail
        exact hK _ hS (Ext.refl _)
      · kernel_rfl
      · kernel_rfl
      apply rem_sure 1 (by kernel_rfl) rfl (wanted_none rfl)
      · intro w2 hS K hK
        have cv := conv_at (cap := cx) (hS.at_ (p := px) (l := (leB (A % PP))) (by simp))
        go_wp2_with fail
        exact hK _ hS (Ext.refl _)
      · kernel_rfl
      · kernel_rfl
      apply rem_sure 2 (by kernel_rfl) rfl (wanted_none rfl)
      · intro w2 hS K hK
        go_wp2_with fail
        exact hK _ hS (Ext.refl _)
      · kernel_rfl
      · kernel_rfl
      apply rem_sure 3 (by kernel_rfl) rfl (wanted_none rfl)
      · intro w2 hS K hK
        have cv := conv_at (cap := 32) (hS.at_ (p := (some ⟨gz, 0, none⟩)) (l := (leB (0 % PP))) (by simp))
        go_wp2_with fail
        exact hK _ hS (Ext.refl _)
      · kernel_rfl
      · kernel_rfl
      apply rem_sure 4 (by kernel_rfl) rfl (wanted_none rfl)
      · intro w2 hS K hK
        go_wp2_with fail
        exact hK _ hS (Ext.refl _)
      · kernel_rfl
      · kernel_rfl
      apply rem_sure 5 (by kernel_rfl) rfl (wanted_none rfl)
      · intro w2 hS K hK
        go_wp2_with fail
        exact hK _ hS (Ext.refl _)
      · kernel_rfl
      · kernel_rfl
      apply rem_sure 6 (by kernel_rfl) rfl (by kernel_rfl)
      · intro w2 hS K hK
        go_wp2_with fail
        exact hK _ hS (Ext.refl _)
      · kernel_rfl
      · kernel_rfl
      apply rem_sure 7 (by kernel_rfl) rfl (by kernel_rfl)
      · intro w2 hS K hK
        go_wp2_with fail
        exact hK _ hS (Ext.refl _)
      · kernel_rfl
      · kernel_rfl
      apply rem_sure 10 (by kernel_rfl) rfl (by kernel_rfl)
      · intro w2 hS K hK
        go_wp2_with fail
        exact hK _ hS (Ext.refl _)
      · kernel_rfl
      · kernel_rfl
      apply rem_sure 11 (by kernel_rfl) rfl (by kernel_rfl)
      · intro w2 hS K hK
        have cv := conv_at (cap := 32) (hS.at_ (p := (some ⟨gz, 0, none⟩)) (l := (leB (0 % PP))) (by simp))
        go_wp2_with fail
        exact hK _ hS (Ext.refl _)
      · kernel_rfl
      · kernel_rfl
      refine rem_one 8 (by kernel_rfl) (step_of rfl (by kernel_rfl) ?_)
      intro v1 hS1 hE1 K hK
      go_wp2_with fail
      refine (add3_can _ _ _ _ lb (leB (0 % PP)) B 0 _ (hS1.at_ (by simp)) (hS1.at_ (by simp)) (Nat.le_refl 32) (Nat.le_refl 32) VB (Vm.can 0)).mono ?_
      rintro e u1 ⟨p1, c1, rfl, hc1, hB1, hk1⟩
      rw [show B + 0 = B from by grind] at hB1
      refine hK _ _ (hS1.keep hk1) ?_
      clear hK K
      try simp only [put_some, List.setIfInBounds_toArray, List.set_cons_succ, List.set_cons_zero]
      refine rem_add (p := p1) (l := (leB ((B) % PP))) hB1 ?_
      apply rem_sure 9 (by kernel_rfl) rfl (by kernel_rfl)
      · intro w2 hS K hK
        have cv := conv_at (cap := c1) (hS.at_ (p := p1) (l := (leB ((B) % PP))) (by simp))
        go_wp2_with fail
        exact hK _ hS (Ext.refl _)
      · kernel_rfl
      · kernel_rfl
      apply rem_sure 12 (by kernel_rfl) rfl (by kernel_rfl)
      · intro w2 hS K hK
        go_wp2_with fail
        exact hK _ hS (Ext.refl _)
      · kernel_rfl
      · kernel_rfl
      apply rem_sure 13 (by kernel_rfl) rfl (wanted_none rfl)
      · intro w2 hS K hK
        go_wp2_with fail
        exact hK _ hS (Ext.refl _)
      · kernel_rfl
      · kernel_rfl
      apply rem_sure 14 (by kernel_rfl) rfl (wanted_none rfl)
      · intro w2 hS K hK
        go_wp2_with fail
        exact hK _ hS (Ext.refl _)
      · kernel_rfl
      · kernel_rfl
      refine rem_nil ?_
      intro v9 hS9 hE9
      have hst : SBy w [(p9, (leB (A % PP))), ((some ⟨g0, 0, none⟩), la), ((some ⟨g1, 0, none⟩), lb), ((some ⟨gz, 0, none⟩), (leB (0 % PP))), (p12, (leB (A % PP))), (px, (leB (A % PP)))] v9 := hS9.sub (by simp)
      clear hS9 hE9
      generalize v9 = w8 at *
      go_wp2_with fail
      refine wp_region_rem (SBy w [(p9, (leB (A % PP))), ((some ⟨g0, 0, none⟩), la), ((some ⟨g1, 0, none⟩), lb), ((some ⟨gz, 0, none⟩), (leB (0 % PP))), (p12, (leB (A % PP))), (px, (leB (A % PP)))]) (by kernel_rfl) (by kernel_rfl) (fun _ _ d _ _ h => by cases d <;> exact h) hst.drew ?_
      apply rem_sure 0 (by kernel_rfl) rfl (wanted_none rfl)
      · intro w2 hS K hK
        go_wp2_with fail
        exact hK _ hS (Ext.refl _)
      · kernel_rfl
      · kernel_rfl
      apply rem_sure 2 (by kernel_rfl) rfl (wanted_none rfl)
      · intro w2 hS K hK
        go_wp2_with fail
        exact hK _ hS (Ext.refl _)
      · kernel_rfl
      · kernel_rfl
      apply rem_sure 5 (by kernel_rfl) rfl (wanted_none rfl)
      · intro w2 hS K hK
        go_wp2_with fail
        exact hK _ hS (Ext.refl _)
      · kernel_rfl
      · kernel_rfl
      refine rem_one 1 (by kernel_rfl) (step_of rfl (wanted_none rfl) ?_)
      intro v1 hS1 hE1 K hK
      go_wp2_with fail
      refine (num_any _ _).mono ?_
      rintro e u1 ⟨rfl, rfl⟩
      refine hK _ _ hS1 ?_
      clear hK K
      try simp only [put_some, List.setIfInBounds_toArray, List.set_cons_succ, List.set_cons_zero]
      refine rem_one 3 (by kernel_rfl) (step_of rfl (wanted_none rfl) ?_)
      intro v2 hS2 hE2 K hK
      go_wp2_with fail
      refine (num_any _ _).mono ?_
      rintro e u2 ⟨rfl, rfl⟩
      refine hK _ _ hS2 ?_
      clear hK K
      try simp only [put_some, List.setIfInBounds_toArray, List.set_cons_succ, List.set_cons_zero]
      apply rem_sure 4 (by kernel_rfl) rfl (wanted_none rfl)
      · intro w2 hS K hK
        go_wp2_with fail
        exact hK _ hS (Ext.refl _)
      · kernel_rfl
      · kernel_rfl
      refine rem_one 6 (by kernel_rfl) (step_of rfl (wanted_none rfl) ?_)
      intro v3 hS3 hE3 K hK
      go_wp2_with fail
      refine (num_any _ _).mono ?_
      rintro e u3 ⟨rfl, rfl⟩
      refine hK _ _ hS3 ?_
      clear hK K
      try simp only [put_some, List.setIfInBounds_toArray, List.set_cons_succ, List.set_cons_zero]
      apply rem_sure 7 (by kernel_rfl) rfl (wanted_none rfl)
      · intro w2 hS K hK
        go_wp2_with fail
        exact hK _ hS (Ext.refl _)
      · kernel_rfl
      · kernel_rfl
      apply rem_sure 8 (by kernel_rfl) rfl (wanted_none rfl)
      · intro w2 hS K hK
        go_wp2_with fail
        exact hK _ hS (Ext.refl _)
      · kernel_rfl
      · kernel_rfl
      apply rem_sure 9 (by kernel_rfl) rfl (wanted_none rfl)
      · intro w2 hS K hK
        go_wp2_with fail
        exact hK _ hS (Ext.refl _)
      · kernel_rfl
      · kernel_rfl
      apply rem_sure 10 (by kernel_rfl) rfl (by kernel_rfl)
      · intro w2 hS K hK
        go_wp2_with fail
        exact hK _ hS (Ext.refl _)
      · kernel_rfl
      · kernel_rfl
      apply rem_sure 11 (by kernel_rfl) rfl (by kernel_rfl)
      · intro w2 hS K hK
        have cv := conv_at (cap := c9) (hS.at_ (p := p9) (l := (leB (A % PP))) (by simp))
        go_wp2_with fail
        exact hK _ hS (Ext.refl _)
      · kernel_rfl
      · kernel_rfl
      apply rem_sure 12 (by kernel_rfl) rfl (by kernel_rfl)
      · intro w2 hS K hK
        go_wp2_with fail
        exact hK _ hS (Ext.refl _)
      · kernel_rfl
      · kernel_rfl
      apply rem_sure 13 (by kernel_rfl) rfl (by kernel_rfl)
      · intro w2 hS K hK
        have cv := conv_at (cap := cx) (hS.at_ (p := px) (l := (leB (A % PP))) (by simp))
        go_wp2_with fail
        exact hK _ hS (Ext.refl _)
      · kernel_rfl
      · kernel_rfl
      apply rem_sure 14 (by kernel_rfl) rfl (by kernel_rfl)
      · intro w2 hS K hK
        go_wp2_with fail
        exact hK _ hS (Ext.refl _)
      · kernel_rfl
      · kernel_rfl
      apply rem_sure 15 (by kernel_rfl) rfl (wanted_none rfl)
      · intro w2 hS K hK
        go_wp2_with fail
        exact hK _ hS (Ext.refl _)
      · kernel_rfl
      · kernel_rfl
      apply rem_sure 16 (by kernel_rfl) rfl (wanted_none rfl)
      · intro w2 hS K hK
        go_wp2_with fail
        exact hK _ hS (Ext.refl _)
      · kernel_rfl
      · kernel_rfl
      apply rem_sure 17 (by kernel_rfl) rfl (by kernel_rfl)
      · intro w2 hS K hK
        go_wp2_with fail
        exact hK _ hS (Ext.refl _)
      · kernel_rfl
      · kernel_rfl
      apply rem_sure 18 (by kernel_rfl) rfl (by kernel_rfl)
      · intro w2 hS K hK
        have cv := conv_at (cap := c12) (hS.at_ (p := p12) (l := (leB (A % PP))) (by simp))
        go_wp2_with fail
        exact hK _ hS (Ext.refl _)
      · kernel_rfl
      · kernel_rfl
      apply rem_sure 19 (by kernel_rfl) rfl (by kernel_rfl)
      · intro w2 hS K hK
        go_wp2_with fail
        exact hK _ hS (Ext.refl _)
      · kernel_rfl
      · kernel_rfl
      apply rem_sure 20 (by kernel_rfl) rfl (by kernel_rfl)
      · intro w2 hS K hK
        have cv := conv_at (cap := cx) (hS.at_ (p := px) (l := (leB (A % PP))) (by simp))
        go_wp2_with fail
        exact hK _ hS (Ext.refl _)
      · kernel_rfl
      · kernel_rfl
      apply rem_sure 21 (by kernel_rfl) rfl (by kernel_rfl)
      · intro w2 hS K hK
        go_wp2_with fail
        exact hK _ hS (Ext.refl _)
      · kernel_rfl
      · kernel_rfl
      apply rem_sure 22 (by kernel_rfl) rfl (wanted_none rfl)
      · intro w2 hS K hK
        go_wp2_with fail
        exact hK _ hS (Ext.refl _)
      · kernel_rfl
      · kernel_rfl
      apply rem_sure 23 (by kernel_rfl) rfl (wanted_none rfl)
      · intro w2 hS K hK
        go_wp2_with fail
        exact hK _ hS (Ext.refl _)
      · kernel_rfl
      · kernel_rfl
      apply rem_sure 24 (by kernel_rfl) rfl (by kernel_rfl)
      · intro w2 hS K hK
        go_wp2_with fail
        exact hK _ hS (Ext.refl _)
      · kernel_rfl
      · kernel_rfl
      apply rem_sure 25 (by kernel_rfl) rfl (by kernel_rfl)
      · intro w2 hS K hK
        go_wp2_with fail
        exact hK _ hS (Ext.refl _)
      · kernel_rfl
      · kernel_rfl
      apply rem_sure 28 (by kernel_rfl) rfl (by kernel_rfl)
      · intro w2 hS K hK
        go_wp2_with fail
        exact hK _ hS (Ext.refl _)
      · kernel_rfl
      · kernel_rfl
      apply rem_sure 29 (by kernel_rfl) rfl (by kernel_rfl)
      · intro w2 hS K hK
        have cv := conv_at (cap := 32) (hS.at_ (p := (some ⟨gz, 0, none⟩)) (l := (leB (0 % PP))) (by simp))
        go_wp2_with fail
        exact hK _ hS (Ext.refl _)
      · kernel_rfl
      · kernel_rfl
      apply rem_sure 31 (by kernel_rfl) rfl (by kernel_rfl)
      · intro w2 hS K hK
        go_wp2_with fail
        exact hK _ hS (Ext.refl _)
      · kernel_rfl
      · kernel_rfl
      refine rem_one 26 (by kernel_rfl) (step_of rfl (by kernel_rfl) ?_)
      intro v4 hS4 hE4 K hK
      go_wp2_with fail
      refine (mul3_can _ _ _ _ la lb A B _ (hS4.at_ (by simp)) (hS4.at_ (by simp)) (Nat.le_refl 32) (Nat.le_refl 32) VA VB).mono ?_
      rintro e u4 ⟨p4, c4, rfl, hc4, hB4, hk4⟩
      refine hK _ _ (hS4.keep hk4) ?_
      clear hK K
      try simp only [put_some, List.setIfInBounds_toArray, List.set_cons_succ, List.set_cons_zero]
      refine rem_add (p := p4) (l := (leB ((A * B) % PP))) hB4 ?_
      apply rem_sure 27 (by kernel_rfl) rfl (by kernel_rfl)
      · intro w2 hS K hK
        have cv := conv_at (cap := c4) (hS.at_ (p := p4) (l := (leB ((A * B) % PP))) (by simp))
        go_wp2_with fail
        exact hK _ hS (Ext.refl _)
      · kernel_rfl
      · kernel_rfl
      apply rem_sure 30 (by kernel_rfl) rfl (by kernel_rfl)
      · intro w2 hS K hK
        go_wp2_with fail
        exact hK _ hS (Ext.refl _)
      · kernel_rfl
      · kernel_rfl
      apply rem_sure 32 (by kernel_rfl) rfl (by kernel_rfl)
      · intro w2 hS K hK
        go_wp2_with fail
        exact hK _ hS (Ext.refl _)
      · kernel_rfl
      · kernel_rfl
      apply rem_sure 33 (by kernel_rfl) rfl (wanted_none rfl)
      · intro w2 hS K hK
        go_wp2_with fail
        exact hK _ hS (Ext.refl _)
      · kernel_rfl
      · kernel_rfl
      apply rem_sure 34 (by kernel_rfl) rfl (wanted_none rfl)
      · intro w2 hS K hK
        go_wp2_with fail
        exact hK _ hS (Ext.refl _)
      · kernel_rfl
      · kernel_rfl
      refine rem_one 35 (by kernel_rfl) (step_of rfl (by kernel_rfl) ?_)
      intro v5 hS5 hE5 K hK
      go_wp2_with fail
      refine (knows_any _).mono ?_
      rintro e u5 ⟨rfl, hk5⟩
      refine hK _ _ (hS5.keep hk5) ?_
      clear hK K
      try simp only [put_some, List.setIfInBounds_toArray, List.set_cons_succ, List.set_cons_zero]
      apply rem_sure 36 (by kernel_rfl) rfl (wanted_none rfl)
      · intro w2 hS K hK
        go_wp2_with fail
        exact hK _ hS (Ext.refl _)
      · kernel_rfl
      · kernel_rfl
      apply rem_sure 37 (by kernel_rfl) rfl (wanted_none rfl)
      · intro w2 hS K hK
        go_wp2_with fail
        exact hK _ hS (Ext.refl _)
      · kernel_rfl
      · kernel_rfl
      refine rem_nil ?_
      intro v9 hS9 hE9
      go_wp2
      go_ret
      exact ⟨rfl, hS9.2⟩
end Go.Proofs.Ytenppmciabdefaa
