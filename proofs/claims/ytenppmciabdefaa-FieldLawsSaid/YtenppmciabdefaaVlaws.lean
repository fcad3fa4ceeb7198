/- The walk of FieldLaws. No condition. -/
import Derived.Test.YtenppmciabdefaaMa
namespace Go.Proofs.Ytenppmciabdefaa
open Go Go.RowKit
theorem small_can0 : leB (0 % PP) = 0 :: zl31 := by decide +kernel
theorem small_can1 : leB (1 % PP) = 1 :: zl31 := by decide +kernel
theorem leB_inj {N M : Int} (hN : 0 ≤ N ∧ N < PP) (hM : 0 ≤ M ∧ M < PP) (h : leB N = leB M) : N = M := by
  have e := congrArg valB h
  unfold PP at *
  rwa [valB_leB N hN.1 (by omega), valB_leB M hM.1 (by omega)] at e
theorem mod_in (N : Int) : 0 ≤ N % PP ∧ N % PP < PP := ⟨Int.emod_nonneg _ (by decide), Int.emod_lt_of_pos N (by decide)⟩
theorem str_yes {N M : Int} (h : PP ∣ N - M) : ((strOfNums (leB (N % PP))).toList == (strOfNums (leB (M % PP))).toList) = true := by
  rw [mod_of h]
  exact beq_self_eq_true _
theorem str_no {N M : Int} (h : ¬ PP ∣ N - M) : ((strOfNums (leB (N % PP))).toList == (strOfNums (leB (M % PP))).toList) = false := by
  rw [beq_eq_false_iff_ne, ByteArray.toList_eq, ByteArray.toList_eq]
  intro he
  exact h (Int.dvd_of_emod_eq_zero (Int.emod_eq_emod_iff_emod_sub_eq_zero.1 (leB_inj (mod_in N) (mod_in M) (strOfNums_inj _ _ (leB_in _) (leB_in _) (Go.WideShapes.bytes_inj he)))))
set_option maxRecDepth 100000 in
set_option maxHeartbeats 40000000 in
theorem fieldLaws_walk (a0 : Option Addr) (n0 c0 : Nat) (l0 : List Int) (a1 : Option Addr) (n1 c1 : Nat) (l1 : List Int) (a2 : Option Addr) (n2 c2 : Nat) (l2 : List Int) (w : World) (b0 : Bs w a0 n0 l0) (_e0 : n0 ≤ c0) (_g0 : c0 ≤ 140737488351232) (b1 : Bs w a1 n1 l1) (_e1 : n1 ≤ c1) (_g1 : c1 ≤ 140737488351232) (b2 : Bs w a2 n2 l2) (_e2 : n2 ≤ c2) (_g2 : c2 ≤ 140737488351232) :
    Calls Try.prog 7 #[.slice a0 n0 c0, .slice a1 n1 c1, .slice a2 n2 c2] w fun e w' => e = .returned (.bool true) ∧ Below w.heap.size w w' := by
  go_enter Try.func7, Try.ntmps7
  go_wp2_with fail
  refine (fit_any a0 n0 c0 l0 _ b0).mono ?_
  rintro e w1 ⟨g0, rfl, hA, hb⟩
  have b1 := b1.keep hb
  have b2 := b2.keep hb
  go_wp2_with fail
  refine (fit_any a1 n1 c1 l1 _ b1).mono ?_
  rintro e w1 ⟨g1, rfl, hB, hb1⟩
  have b2 := b2.keep hb1
  have hA := hA.keep hb1
  have hb := Below.join hb hb1
  go_wp2_with fail
  refine (fit_any a2 n2 c2 l2 _ b2).mono ?_
  rintro e w1 ⟨g2, rfl, hC, hb1⟩
  have hA := hA.keep hb1
  have hB := hB.keep hb1
  have hb := Below.join hb hb1
  clear b0 b1 b2 hb1
  go_wp2_with fail
  refine (small_any 0 _).mono ?_
  rintro e w2 ⟨rfl, hu⟩
  have hb1 : Below w1.heap.size w1 w2 := by rw [← hu]; exact (Below.refl _ _).alloc (Nat.le_refl _) _
  have hZ : Bs w2 (some ⟨w1.heap.size, 0, none⟩) 32 (leB (0 % PP)) := by rw [← hu, small_can0]; exact bs_sm (by omega) (heap_alloc_new w1 _)
  have hA := hA.keep hb1
  have hB := hB.keep hb1
  have hC := hC.keep hb1
  have hb := Below.join hb hb1
  generalize w1.heap.size = gz at *
  generalize fitL l0 = la at *
  generalize fitL l1 = lb at *
  generalize fitL l2 = lc at *
  have VA := Vm.self la
  have VB := Vm.self lb
  have VC := Vm.self lc
  clear hu hb1
  go_wp2_with fail
  refine (gCanon_any _ 32 32 la _ hA (by omega) (by decide)).mono ?_
  rw [is32_yes hA.1]
  intro e w3 h
  obtain ⟨px, cx, rfl, hcx, hX, hb1⟩ := h.can (M := valB la) ⟨0, by omega⟩
  have hA := hA.keep hb1
  have hB := hB.keep hb1
  have hC := hC.keep hb1
  have hZ := hZ.keep hb1
  have hb := Below.join hb hb1
  generalize hAe : valB la = A at *
  have HAe := Lib.hid hAe
  generalize valB lb = B at *
  generalize valB lc = C at *
  clear hb1 h hAe
  go_wp2_with (go_at_call 20; refine (num_any _ _).mono ?_; rintro e w' ⟨rfl, rfl⟩)
  refine (knows_any _).mono ?_
  rintro e w4 ⟨rfl, hb1⟩
  have hst0 : SBy w [] w4 := ⟨by simp, Below.join hb hb1⟩
  have hst := ((((hst0.add (hX.keep hb1)).add (hZ.keep hb1)).add (hC.keep hb1)).add (hB.keep hb1)).add (hA.keep hb1)
  clear hst0 hb hb1 hX hZ hC hB hA
  go_wp2_with fail
  refine wp_region_rem (SBy w [((some ⟨g0, 0, none⟩), la), ((some ⟨g1, 0, none⟩), lb), ((some ⟨g2, 0, none⟩), lc), ((some ⟨gz, 0, none⟩), (leB (0 % PP))), (px, (leB (A % PP)))]) (by kernel_rfl) (by kernel_rfl) (fun _ _ d _ _ h => by cases d <;> exact h) hst.drew ?_
  apply rem_sure 0 (by kernel_rfl) rfl (wanted_none rfl)
  · intro w2 hS K hK
    go_wp2_with fail
    exact hK _ hS (Ext.refl _)
  · kernel_rfl
  · kernel_rfl
  apply rem_sure 1 (by kernel_rfl) rfl (wanted_none rfl)
  · intro w2 hS K hK
    go_wp2_with fail
    exact hK _ hS (Ext.refl _)
  · kernel_rfl
  · kernel_rfl
  apply rem_sure 4 (by kernel_rfl) rfl (wanted_none rfl)
  · intro w2 hS K hK
    go_wp2_with fail
    exact hK _ hS (Ext.refl _)
  · kernel_rfl
  · kernel_rfl
  apply rem_sure 5 (by kernel_rfl) rfl (wanted_none rfl)
  · intro w2 hS K hK
    go_wp2_with fail
    exact hK _ hS (Ext.refl _)
  · kernel_rfl
  · kernel_rfl
  refine rem_one 2 (by kernel_rfl) (step_of rfl (wanted_none rfl) ?_)
  intro v1 hS1 hE1 K hK
  go_wp2_with fail
  refine (mul3_can _ _ _ _ la lb A B _ (hS1.at_ (by simp)) (hS1.at_ (by simp)) (Nat.le_refl 32) (Nat.le_refl 32) VA VB).mono ?_
  rintro e u1 ⟨p1, c1, rfl, hc1, hB1, hk1⟩
  refine hK _ _ (hS1.keep hk1) ?_
  clear hK K
  try simp only [put_some, List.setIfInBounds_toArray, List.set_cons_succ, List.set_cons_zero]
  refine rem_add (p := p1) (l := (leB ((A * B) % PP))) hB1 ?_
  apply rem_sure 3 (by kernel_rfl) rfl (wanted_none rfl)
  · intro w2 hS K hK
    have cv := conv_at (cap := c1) (hS.at_ (p := p1) (l := (leB ((A * B) % PP))) (by simp))
    go_wp2_with fail
    exact hK _ hS (Ext.refl _)
  · kernel_rfl
  · kernel_rfl
  refine rem_one 6 (by kernel_rfl) (step_of rfl (wanted_none rfl) ?_)
  intro v2 hS2 hE2 K hK
  go_wp2_with fail
  refine (mul3_can _ _ _ _ lb la B A _ (hS2.at_ (by simp)) (hS2.at_ (by simp)) (Nat.le_refl 32) (Nat.le_refl 32) VB VA).mono ?_
  rintro e u2 ⟨p2, c2, rfl, hc2, hB2, hk2⟩
  rw [show B * A = A * B from by grind] at hB2
  refine hK _ _ (hS2.keep hk2) ?_
  clear hK K
  try simp only [put_some, List.setIfInBounds_toArray, List.set_cons_succ, List.set_cons_zero]
  refine rem_add (p := p2) (l := (leB ((A * B) % PP))) hB2 ?_
  apply rem_sure 7 (by kernel_rfl) rfl (wanted_none rfl)
  · intro w2 hS K hK
    have cv := conv_at (cap := c2) (hS.at_ (p := p2) (l := (leB ((A * B) % PP))) (by simp))
    go_wp2_with fail
    exact hK _ hS (Ext.refl _)
  · kernel_rfl
  · kernel_rfl
  apply rem_sure 8 (by kernel_rfl) rfl (wanted_none rfl)
  · intro w2 hS K hK
    go_wp2_with fail
    exact hK _ hS (Ext.refl _)
  · kernel_rfl
  · kernel_rfl
  apply rem_sure 9 (by kernel_rfl) rfl (wanted_none rfl)
  · intro w2 hS K hK
    go_wp2_with fail
    exact hK _ hS (Ext.refl _)
  · kernel_rfl
  · kernel_rfl
  apply rem_sure 10 (by kernel_rfl) rfl (by kernel_rfl)
  · intro w2 hS K hK
    go_wp2_with fail
    exact hK _ hS (Ext.refl _)
  · kernel_rfl
  · kernel_rfl
  apply rem_sure 11 (by kernel_rfl) rfl (by kernel_rfl)
  · intro w2 hS K hK
    go_wp2_with fail
    exact hK _ hS (Ext.refl _)
  · kernel_rfl
  · kernel_rfl
  apply rem_sure 14 (by kernel_rfl) rfl (by kernel_rfl)
  · intro w2 hS K hK
    go_wp2_with fail
    exact hK _ hS (Ext.refl _)
  · kernel_rfl
  · kernel_rfl
  apply rem_sure 15 (by kernel_rfl) rfl (by kernel_rfl)
  · intro w2 hS K hK
    go_wp2_with fail
    exact hK _ hS (Ext.refl _)
  · kernel_rfl
  · kernel_rfl
  refine rem_one 12 (by kernel_rfl) (step_of rfl (by kernel_rfl) ?_)
  intro v3 hS3 hE3 K hK
  go_wp2_with fail
  refine (add3_can _ _ _ _ la lb A B _ (hS3.at_ (by simp)) (hS3.at_ (by simp)) (Nat.le_refl 32) (Nat.le_refl 32) VA VB).mono ?_
  rintro e u3 ⟨p3, c3, rfl, hc3, hB3, hk3⟩
  refine hK _ _ (hS3.keep hk3) ?_
  clear hK K
  try simp only [put_some, List.setIfInBounds_toArray, List.set_cons_succ, List.set_cons_zero]
  refine rem_add (p := p3) (l := (leB ((A + B) % PP))) hB3 ?_
  apply rem_sure 13 (by kernel_rfl) rfl (by kernel_rfl)
  · intro w2 hS K hK
    have cv := conv_at (cap := c3) (hS.at_ (p := p3) (l := (leB ((A + B) % PP))) (by simp))
    go_wp2_with fail
    exact hK _ hS (Ext.refl _)
  · kernel_rfl
  · kernel_rfl
  refine rem_one 16 (by kernel_rfl) (step_of rfl (by kernel_rfl) ?_)
  intro v4 hS4 hE4 K hK
  go_wp2_with fail
  refine (add3_can _ _ _ _ lb la B A _ (hS4.at_ (by simp)) (hS4.at_ (by simp)) (Nat.le_refl 32) (Nat.le_refl 32) VB VA).mono ?_
  rintro e u4 ⟨p4, c4, rfl, hc4, hB4, hk4⟩
  rw [show B + A = A + B from by grind] at hB4
  refine hK _ _ (hS4.keep hk4) ?_
  clear hK K
  try simp only [put_some, List.setIfInBounds_toArray, List.set_cons_succ, List.set_cons_zero]
  refine rem_add (p := p4) (l := (leB ((A + B) % PP))) hB4 ?_
  apply rem_sure 17 (by kernel_rfl) rfl (by kernel_rfl)
  · intro w2 hS K hK
    have cv := conv_at (cap := c4) (hS.at_ (p := p4) (l := (leB ((A + B) % PP))) (by simp))
    go_wp2_with fail
    exact hK _ hS (Ext.refl _)
  · kernel_rfl
  · kernel_rfl
  apply rem_sure 18 (by kernel_rfl) rfl (by kernel_rfl)
  · intro w2 hS K hK
    go_wp2_with fail
    exact hK _ hS (Ext.refl _)
  · kernel_rfl
  · kernel_rfl
  apply rem_sure 19 (by kernel_rfl) rfl (wanted_none rfl)
  · intro w2 hS K hK
    go_wp2_with fail
    exact hK _ hS (Ext.refl _)
  · kernel_rfl
  · kernel_rfl
  apply rem_sure 20 (by kernel_rfl) rfl (wanted_none rfl)
  · intro w2 hS K hK
    go_wp2_with fail
    exact hK _ hS (Ext.refl _)
  · kernel_rfl
  · kernel_rfl
  apply rem_sure 21 (by kernel_rfl) rfl (by kernel_rfl)
  · intro w2 hS K hK
    go_wp2_with fail
    exact hK _ hS (Ext.refl _)
  · kernel_rfl
  · kernel_rfl
  apply rem_sure 22 (by kernel_rfl) rfl (by kernel_rfl)
  · intro w2 hS K hK
    go_wp2_with fail
    exact hK _ hS (Ext.refl _)
  · kernel_rfl
  · kernel_rfl
  apply rem_sure 24 (by kernel_rfl) rfl (by kernel_rfl)
  · intro w2 hS K hK
    go_wp2_with fail
    exact hK _ hS (Ext.refl _)
  · kernel_rfl
  · kernel_rfl
  apply rem_sure 27 (by kernel_rfl) rfl (by kernel_rfl)
  · intro w2 hS K hK
    go_wp2_with fail
    exact hK _ hS (Ext.refl _)
  · kernel_rfl
  · kernel_rfl
  apply rem_sure 28 (by kernel_rfl) rfl (by kernel_rfl)
  · intro w2 hS K hK
    go_wp2_with fail
    exact hK _ hS (Ext.refl _)
  · kernel_rfl
  · kernel_rfl
  apply rem_sure 29 (by kernel_rfl) rfl (by kernel_rfl)
  · intro w2 hS K hK
    go_wp2_with fail
    exact hK _ hS (Ext.refl _)
  · kernel_rfl
  · kernel_rfl
  refine rem_one 23 (by kernel_rfl) (step_of rfl (by kernel_rfl) ?_)
  intro v5 hS5 hE5 K hK
  go_wp2_with fail
  refine (mul3_can _ _ _ _ la lb A B _ (hS5.at_ (by simp)) (hS5.at_ (by simp)) (Nat.le_refl 32) (Nat.le_refl 32) VA VB).mono ?_
  rintro e u5 ⟨p5, c5, rfl, hc5, hB5, hk5⟩
  refine hK _ _ (hS5.keep hk5) ?_
  clear hK K
  try simp only [put_some, List.setIfInBounds_toArray, List.set_cons_succ, List.set_cons_zero]
  refine rem_add (p := p5) (l := (leB ((A * B) % PP))) hB5 ?_
  refine rem_one 25 (by kernel_rfl) (step_of rfl (by kernel_rfl) ?_)
  intro v6 hS6 hE6 K hK
  go_wp2_with fail
  refine (mul3_can _ _ _ _ (leB ((A * B) % PP)) lc (A * B) C _ (hS6.at_ (by simp)) (hS6.at_ (by simp)) hc5 (Nat.le_refl 32) (Vm.can (A * B)) VC).mono ?_
  rintro e u6 ⟨p6, c6, rfl, hc6, hB6, hk6⟩
  rw [show (A * B) * C = A * B * C from by grind] at hB6
  refine hK _ _ (hS6.keep hk6) ?_
  clear hK K
  try simp only [put_some, List.setIfInBounds_toArray, List.set_cons_succ, List.set_cons_zero]
  refine rem_add (p := p6) (l := (leB ((A * B * C) % PP))) hB6 ?_
  apply rem_sure 26 (by kernel_rfl) rfl (by kernel_rfl)
  · intro w2 hS K hK
    have cv := conv_at (cap := c6) (hS.at_ (p := p6) (l := (leB ((A * B * C) % PP))) (by simp))
    go_wp2_with fail
    exact hK _ hS (Ext.refl _)
  · kernel_rfl
  · kernel_rfl
  refine rem_one 30 (by kernel_rfl) (step_of rfl (by kernel_rfl) ?_)
  intro v7 hS7 hE7 K hK
  go_wp2_with fail
  refine (mul3_can _ _ _ _ lb lc B C _ (hS7.at_ (by simp)) (hS7.at_ (by simp)) (Nat.le_refl 32) (Nat.le_refl 32) VB VC).mono ?_
  rintro e u7 ⟨p7, c7, rfl, hc7, hB7, hk7⟩
  refine hK _ _ (hS7.keep hk7) ?_
  clear hK K
  try simp only [put_some, List.setIfInBounds_toArray, List.set_cons_succ, List.set_cons_zero]
  refine rem_add (p := p7) (l := (leB ((B * C) % PP))) hB7 ?_
  refine rem_one 31 (by kernel_rfl) (step_of rfl (by kernel_rfl) ?_)
  intro v8 hS8 hE8 K hK
  go_wp2_with fail
  refine (mul3_can _ _ _ _ la (leB ((B * C) % PP)) A (B * C) _ (hS8.at_ (by simp)) (hS8.at_ (by simp)) (Nat.le_refl 32) hc7 VA (Vm.can (B * C))).mono ?_
  rintro e u8 ⟨p8, c8, rfl, hc8, hB8, hk8⟩
  rw [show A * (B * C) = A * B * C from by grind] at hB8
  refine hK _ _ (hS8.keep hk8) ?_
  clear hK K
  try simp only [put_some, List.setIfInBounds_toArray, List.set_cons_succ, List.set_cons_zero]
  refine rem_add (p := p8) (l := (leB ((A * B * C) % PP))) hB8 ?_
  apply rem_sure 32 (by kernel_rfl) rfl (by kernel_rfl)
  · intro w2 hS K hK
    have cv := conv_at (cap := c8) (hS.at_ (p := p8) (l := (leB ((A * B * C) % PP))) (by simp))
    go_wp2_with fail
    exact hK _ hS (Ext.refl _)
  · kernel_rfl
  · kernel_rfl
  apply rem_sure 33 (by kernel_rfl) rfl (by kernel_rfl)
  · intro w2 hS K hK
    go_wp2_with fail
    exact hK _ hS (Ext.refl _)
  · kernel_rfl
  · kernel_rfl
  apply rem_sure 34 (by kernel_rfl) rfl (wanted_none rfl)
  · intro w2 hS K hK
    go_wp2_with fail
    exact hK _ hS (Ext.refl _)
  · kernel_rfl
  · kernel_rfl
  apply rem_sure 35 (by kernel_rfl) rfl (wanted_none rfl)
  · intro w2 hS K hK
    go_wp2_with fail
    exact hK _ hS (Ext.refl _)
  · kernel_rfl
  · kernel_rfl
  apply rem_sure 36 (by kernel_rfl) rfl (by kernel_rfl)
  · intro w2 hS K hK
    go_wp2_with fail
    exact hK _ hS (Ext.refl _)
  · kernel_rfl
  · kernel_rfl
  apply rem_sure 37 (by kernel_rfl) rfl (by kernel_rfl)
  · intro w2 hS K hK
    go_wp2_with fail
    exact hK _ hS (Ext.refl _)
  · kernel_rfl
  · kernel_rfl
  apply rem_sure 39 (by kernel_rfl) rfl (by kernel_rfl)
  · intro w2 hS K hK
    go_wp2_with fail
    exact hK _ hS (Ext.refl _)
  · kernel_rfl
  · kernel_rfl
  apply rem_sure 42 (by kernel_rfl) rfl (by kernel_rfl)
  · intro w2 hS K hK
    go_wp2_with fail
    exact hK _ hS (Ext.refl _)
  · kernel_rfl
  · kernel_rfl
  apply rem_sure 43 (by kernel_rfl) rfl (by kernel_rfl)
  · intro w2 hS K hK
    go_wp2_with fail
    exact hK _ hS (Ext.refl _)
  · kernel_rfl
  · kernel_rfl
  apply rem_sure 44 (by kernel_rfl) rfl (by kernel_rfl)
  · intro w2 hS K hK
    go_wp2_with fail
    exact hK _ hS (Ext.refl _)
  · kernel_rfl
  · kernel_rfl
  refine rem_one 38 (by kernel_rfl) (step_of rfl (by kernel_rfl) ?_)
  intro v9 hS9 hE9 K hK
  go_wp2_with fail
  refine (add3_can _ _ _ _ la lb A B _ (hS9.at_ (by simp)) (hS9.at_ (by simp)) (Nat.le_refl 32) (Nat.le_refl 32) VA VB).mono ?_
  rintro e u9 ⟨p9, c9, rfl, hc9, hB9, hk9⟩
  refine hK _ _ (hS9.keep hk9) ?_
  clear hK K
  try simp only [put_some, List.setIfInBounds_toArray, List.set_cons_succ, List.set_cons_zero]
  refine rem_add (p := p9) (l := (leB ((A + B) % PP))) hB9 ?_
  refine rem_one 40 (by kernel_rfl) (step_of rfl (by kernel_rfl) ?_)
  intro v10 hS10 hE10 K hK
  go_wp2_with fail
  refine (add3_can _ _ _ _ (leB ((A + B) % PP)) lc (A + B) C _ (hS10.at_ (by simp)) (hS10.at_ (by simp)) hc9 (Nat.le_refl 32) (Vm.can (A + B)) VC).mono ?_
  rintro e u10 ⟨p10, c10, rfl, hc10, hB10, hk10⟩
  rw [show (A + B) + C = A + B + C from by grind] at hB10
  refine hK _ _ (hS10.keep hk10) ?_
  clear hK K
  try simp only [put_some, List.setIfInBounds_toArray, List.set_cons_succ, List.set_cons_zero]
  refine rem_add (p := p10) (l := (leB ((A + B + C) % PP))) hB10 ?_
  apply rem_sure 41 (by kernel_rfl) rfl (by kernel_rfl)
  · intro w2 hS K hK
    have cv := conv_at (cap := c10) (hS.at_ (p := p10) (l := (leB ((A + B + C) % PP))) (by simp))
    go_wp2_with fail
    exact hK _ hS (Ext.refl _)
  · kernel_rfl
  · kernel_rfl
  refine rem_one 45 (by kernel_rfl) (step_of rfl (by kernel_rfl) ?_)
  intro v11 hS11 hE11 K hK
  go_wp2_with fail
  refine (add3_can _ _ _ _ lb lc B C _ (hS11.at_ (by simp)) (hS11.at_ (by simp)) (Nat.le_refl 32) (Nat.le_refl 32) VB VC).mono ?_
  rintro e u11 ⟨p11, c11, rfl, hc11, hB11, hk11⟩
  refine hK _ _ (hS11.keep hk11) ?_
  clear hK K
  try simp only [put_some, List.setIfInBounds_toArray, List.set_cons_succ, List.set_cons_zero]
  refine rem_add (p := p11) (l := (leB ((B + C) % PP))) hB11 ?_
  refine rem_one 46 (by kernel_rfl) (step_of rfl (by kernel_rfl) ?_)
  intro v12 hS12 hE12 K hK
  go_wp2_with fail
  refine (add3_can _ _ _ _ la (leB ((B + C) % PP)) A (B + C) _ (hS12.at_ (by simp)) (hS12.at_ (by simp)) (Nat.le_refl 32) hc11 VA (Vm.can (B + C))).mono ?_
  rintro e u12 ⟨p12, c12, rfl, hc12, hB12, hk12⟩
  rw [show A + (B + C) = A + B + C from by grind] at hB12
  refine hK _ _ (hS12.keep hk12) ?_
  clear hK K
  try simp only [put_some, List.setIfInBounds_toArray, List.set_cons_succ, List.set_cons_zero]
  refine rem_add (p := p12) (l := (leB ((A + B + C) % PP))) hB12 ?_
  apply rem_sure 47 (by kernel_rfl) rfl (by kernel_rfl)
  · intro w2 hS K hK
    have cv := conv_at (cap := c12) (hS.at_ (p := p12) (l := (leB ((A + B + C) % PP))) (by simp))
    go_wp2_with fail
    exact hK _ hS (Ext.refl _)
  · kernel_rfl
  · kernel_rfl
  apply rem_sure 48 (by kernel_rfl) rfl (by kernel_rfl)
  · intro w2 hS K hK
    go_wp2_with fail
    exact hK _ hS (Ext.refl _)
  · kernel_rfl
  · kernel_rfl
  apply rem_sure 49 (by kernel_rfl) rfl (wanted_none rfl)
  · intro w2 hS K hK
    go_wp2_with fail
    exact hK _ hS (Ext.refl _)
  · kernel_rfl
  · kernel_rfl
  refine rem_nil ?_
  intro v9 hS9 hE9
  have hst : SBy w [((some ⟨g0, 0, none⟩), la), ((some ⟨g1, 0, none⟩), lb), ((some ⟨g2, 0, none⟩), lc), ((some ⟨gz, 0, none⟩), (leB (0 % PP))), (px, (leB (A % PP)))] v9 := hS9.sub (by simp)
  clear hS9 hE9
  generalize v9 = w5 at *
  go_wp2_with fail
  refine wp_region_rem (SBy w [((some ⟨g0, 0, none⟩), la), ((some ⟨g1, 0, none⟩), lb), ((some ⟨g2, 0, none⟩), lc), ((some ⟨gz, 0, none⟩), (leB (0 % PP))), (px, (leB (A % PP)))]) (by kernel_rfl) (by kernel_rfl) (fun _ _ d _ _ h => by cases d <;> exact h) hst.drew ?_
  apply rem_sure 0 (by kernel_rfl) rfl (wanted_none rfl)
  · intro w2 hS K hK
    go_wp2_with fail
    exact hK _ hS (Ext.refl _)
  · kernel_rfl
  · kernel_rfl
  apply rem_sure 1 (by kernel_rfl) rfl (wanted_none rfl)
  · intro w2 hS K hK
    go_wp2_with fail
    exact hK _ hS (Ext.refl _)
  · kernel_rfl
  · kernel_rfl
  apply rem_sure 2 (by kernel_rfl) rfl (wanted_none rfl)
  · intro w2 hS K hK
    go_wp2_with fail
    exact hK _ hS (Ext.refl _)
  · kernel_rfl
  · kernel_rfl
  apply rem_sure 6 (by kernel_rfl) rfl (wanted_none rfl)
  · intro w2 hS K hK
    go_wp2_with fail
    exact hK _ hS (Ext.refl _)
  · kernel_rfl
  · kernel_rfl
  apply rem_sure 7 (by kernel_rfl) rfl (wanted_none rfl)
  · intro w2 hS K hK
    go_wp2_with fail
    exact hK _ hS (Ext.refl _)
  · kernel_rfl
  · kernel_rfl
  apply rem_sure 9 (by kernel_rfl) rfl (wanted_none rfl)
  · intro w2 hS K hK
    go_wp2_with fail
    exact hK _ hS (Ext.refl _)
  · kernel_rfl
  · kernel_rfl
  apply rem_sure 10 (by kernel_rfl) rfl (wanted_none rfl)
  · intro w2 hS K hK
    go_wp2_with fail
    exact hK _ hS (Ext.refl _)
  · kernel_rfl
  · kernel_rfl
  refine rem_one 3 (by kernel_rfl) (step_of rfl (wanted_none rfl) ?_)
  intro v1 hS1 hE1 K hK
  go_wp2_with fail
  refine (add3_can _ _ _ _ lb lc B C _ (hS1.at_ (by simp)) (hS1.at_ (by simp)) (Nat.le_refl 32) (Nat.le_refl 32) VB VC).mono ?_
  rintro e u1 ⟨p1, c1, rfl, hc1, hB1, hk1⟩
  refine hK _ _ (hS1.keep hk1) ?_
  clear hK K
  try simp only [put_some, List.setIfInBounds_toArray, List.set_cons_succ, List.set_cons_zero]
  refine rem_add (p := p1) (l := (leB ((B + C) % PP))) hB1 ?_
  refine rem_one 4 (by kernel_rfl) (step_of rfl (wanted_none rfl) ?_)
  intro v2 hS2 hE2 K hK
  go_wp2_with fail
  refine (mul3_can _ _ _ _ la (leB ((B + C) % PP)) A (B + C) _ (hS2.at_ (by simp)) (hS2.at_ (by simp)) (Nat.le_refl 32) hc1 VA (Vm.can (B + C))).mono ?_
  rintro e u2 ⟨p2, c2, rfl, hc2, hB2, hk2⟩
  rw [show A * (B + C) = A * B + A * C from by grind] at hB2
  refine hK _ _ (hS2.keep hk2) ?_
  clear hK K
  try simp only [put_some, List.setIfInBounds_toArray, List.set_cons_succ, List.set_cons_zero]
  refine rem_add (p := p2) (l := (leB ((A * B + A * C) % PP))) hB2 ?_
  apply rem_sure 5 (by kernel_rfl) rfl (wanted_none rfl)
  · intro w2 hS K hK
    have cv := conv_at (cap := c2) (hS.at_ (p := p2) (l := (leB ((A * B + A * C) % PP))) (by simp))
    go_wp2_with fail
    exact hK _ hS (Ext.refl _)
  · kernel_rfl
  · kernel_rfl
  refine rem_one 8 (by kernel_rfl) (step_of rfl (wanted_none rfl) ?_)
  intro v3 hS3 hE3 K hK
  go_wp2_with fail
  refine (mul3_can _ _ _ _ la lb A B _ (hS3.at_ (by simp)) (hS3.at_ (by simp)) (Nat.le_refl 32) (Nat.le_refl 32) VA VB).mono ?_
  rintro e u3 ⟨p3, c3, rfl, hc3, hB3, hk3⟩
  refine hK _ _ (hS3.keep hk3) ?_
  clear hK K
  try simp only [put_some, List.setIfInBounds_toArray, List.set_cons_succ, List.set_cons_zero]
  refine rem_add (p := p3) (l := (leB ((A * B) % PP))) hB3 ?_
  refine rem_one 11 (by kernel_rfl) (step_of rfl (wanted_none rfl) ?_)
  intro v4 hS4 hE4 K hK
  go_wp2_with fail
  refine (mul3_can _ _ _ _ la lc A C _ (hS4.at_ (by simp)) (hS4.at_ (by simp)) (Nat.le_refl 32) (Nat.le_refl 32) VA VC).mono ?_
  rintro e u4 ⟨p4, c4, rfl, hc4, hB4, hk4⟩
  refine hK _ _ (hS4.keep hk4) ?_
  clear hK K
  try simp only [put_some, List.setIfInBounds_toArray, List.set_cons_succ, List.set_cons_zero]
  refine rem_add (p := p4) (l := (leB ((A * C) % PP))) hB4 ?_
  refine rem_one 12 (by kernel_rfl) (step_of rfl (wanted_none rfl) ?_)
  intro v5 hS5 hE5 K hK
  go_wp2_with fail
  refine (add3_can _ _ _ _ (leB ((A * B) % PP)) (leB ((A * C) % PP)) (A * B) (A * C) _ (hS5.at_ (by simp)) (hS5.at_ (by simp)) hc3 hc4 (Vm.can (A * B)) (Vm.can (A * C))).mono ?_
  rintro e u5 ⟨p5, c5, rfl, hc5, hB5, hk5⟩
  rw [show (A * B) + (A * C) = A * B + A * C from by grind] at hB5
  refine hK _ _ (hS5.keep hk5) ?_
  clear hK K
  try simp only [put_some, List.setIfInBounds_toArray, List.set_cons_succ, List.set_cons_zero]
  refine rem_add (p := p5) (l := (leB ((A * B + A * C) % PP))) hB5 ?_
  apply rem_sure 13 (by kernel_rfl) rfl (wanted_none rfl)
  · intro w2 hS K hK
    have cv := conv_at (cap := c5) (hS.at_ (p := p5) (l := (leB ((A * B + A * C) % PP))) (by simp))
    go_wp2_with fail
    exact hK _ hS (Ext.refl _)
  · kernel_rfl
  · kernel_rfl
  apply rem_sure 14 (by kernel_rfl) rfl (wanted_none rfl)
  · intro w2 hS K hK
    go_wp2_with fail
    exact hK _ hS (Ext.refl _)
  · kernel_rfl
  · kernel_rfl
  apply rem_sure 15 (by kernel_rfl) rfl (wanted_none rfl)
  · intro w2 hS K hK
    go_wp2_with fail
    exact hK _ hS (Ext.refl _)
  · kernel_rfl
  · kernel_rfl
  apply rem_sure 16 (by kernel_rfl) rfl (by kernel_rfl)
  · intro w2 hS K hK
    go_wp2_with fail
    exact hK _ hS (Ext.refl _)
  · kernel_rfl
  · kernel_rfl
  apply rem_sure 17 (by kernel_rfl) rfl (by kernel_rfl)
  · intro w2 hS K hK
    go_wp2_with fail
    exact hK _ hS (Ext.refl _)
  · kernel_rfl
  · kernel_rfl
  apply rem_sure 19 (by kernel_rfl) rfl (by kernel_rfl)
  · intro w2 hS K hK
    go_wp2_with fail
    exact hK _ hS (Ext.refl _)
  · kernel_rfl
  · kernel_rfl
  apply rem_sure 22 (by kernel_rfl) rfl (by kernel_rfl)
  · intro w2 hS K hK
    go_wp2_with fail
    exact hK _ hS (Ext.refl _)
  · kernel_rfl
  · kernel_rfl
  apply rem_sure 23 (by kernel_rfl) rfl (by kernel_rfl)
  · intro w2 hS K hK
    have cv := conv_at (cap := cx) (hS.at_ (p := px) (l := (leB (A % PP))) (by simp))
    go_wp2_with fail
    exact hK _ hS (Ext.refl _)
  · kernel_rfl
  · kernel_rfl
  refine rem_one 18 (by kernel_rfl) (step_of rfl (by kernel_rfl) ?_)
  intro v6 hS6 hE6 K hK
  go_wp2_with fail
  refine (add3_can _ _ _ _ la lb A B _ (hS6.at_ (by simp)) (hS6.at_ (by simp)) (Nat.le_refl 32) (Nat.le_refl 32) VA VB).mono ?_
  rintro e u6 ⟨p6, c6, rfl, hc6, hB6, hk6⟩
  refine hK _ _ (hS6.keep hk6) ?_
  clear hK K
  try simp only [put_some, List.setIfInBounds_toArray, List.set_cons_succ, List.set_cons_zero]
  refine rem_add (p := p6) (l := (leB ((A + B) % PP))) hB6 ?_
  refine rem_one 20 (by kernel_rfl) (step_of rfl (by kernel_rfl) ?_)
  intro v7 hS7 hE7 K hK
  go_wp2_with fail
  refine (sub3_can _ _ _ _ (leB ((A + B) % PP)) lb (A + B) B _ (hS7.at_ (by simp)) (hS7.at_ (by simp)) hc6 (Nat.le_refl 32) (Vm.can (A + B)) VB).mono ?_
  rintro e u7 ⟨p7, c7, rfl, hc7, hB7, hk7⟩
  rw [show (A + B) - B = A from by grind] at hB7
  refine hK _ _ (hS7.keep hk7) ?_
  clear hK K
  try simp only [put_some, List.setIfInBounds_toArray, List.set_cons_succ, List.set_cons_zero]
  refine rem_add (p := p7) (l := (leB ((A) % PP))) hB7 ?_
  apply rem_sure 21 (by kernel_rfl) rfl (by kernel_rfl)
  · intro w2 hS K hK
    have cv := conv_at (cap := c7) (hS.at_ (p := p7) (l := (leB ((A) % PP))) (by simp))
    go_wp2_with fail
    exact hK _ hS (Ext.refl _)
  · kernel_rfl
  · kernel_rfl
  apply rem_sure 24 (by kernel_rfl) rfl (by kernel_rfl)
  · intro w2 hS K hK
    go_wp2_with fail
    exact hK _ hS (Ext.refl _)
  · kernel_rfl
  · kernel_rfl
  apply rem_sure 25 (by kernel_rfl) rfl (wanted_none rfl)
  · intro w2 hS K hK
    go_wp2_with fail
    exact hK _ hS (Ext.refl _)
  · kernel_rfl
  · kernel_rfl
  apply rem_sure 26 (by kernel_rfl) rfl (wanted_none rfl)
  · intro w2 hS K hK
    go_wp2_with fail
    exact hK _ hS (Ext.refl _)
  · kernel_rfl
  · kernel_rfl
  apply rem_sure 27 (by kernel_rfl) rfl (by kernel_rfl)
  · intro w2 hS K hK
    go_wp2_with fail
    exact hK _ hS (Ext.refl _)
  · kernel_rfl
  · kernel_rfl
  apply rem_sure 28 (by kernel_rfl) rfl (by kernel_rfl)
  · intro w2 hS K hK
    go_wp2_with fail
    exact hK _ hS (Ext.refl _)
  · kernel_rfl
  · kernel_rfl
  apply rem_sure 31 (by kernel_rfl) rfl (by kernel_rfl)
  · intro w2 hS K hK
    go_wp2_with fail
    exact hK _ hS (Ext.refl _)
  · kernel_rfl
  · kernel_rfl
  apply rem_sure 32 (by kernel_rfl) rfl (by kernel_rfl)
  · intro w2 hS K hK
    have cv := conv_at (cap := cx) (hS.at_ (p := px) (l := (leB (A % PP))) (by simp))
    go_wp2_with fail
    exact hK _ hS (Ext.refl _)
  · kernel_rfl
  · kernel_rfl
  refine rem_one 29 (by kernel_rfl) (step_of rfl (by kernel_rfl) ?_)
  intro v8 hS8 hE8 K hK
  go_wp2_with fail
  refine (add3_can _ _ _ _ la (leB (0 % PP)) A 0 _ (hS8.at_ (by simp)) (hS8.at_ (by simp)) (Nat.le_refl 32) (Nat.le_refl 32) VA (Vm.can 0)).mono ?_
  rintro e u8 ⟨p8, c8, rfl, hc8, hB8, hk8⟩
  rw [show A + 0 = A from by grind] at hB8
  refine hK _ _ (hS8.keep hk8) ?_
  clear hK K
  try simp only [put_some, List.setIfInBounds_toArray, List.set_cons_succ, List.set_cons_zero]
  refine rem_add (p := p8) (l := (leB ((A) % PP))) hB8 ?_
  apply rem_sure 30 (by kernel_rfl) rfl (by kernel_rfl)
  · intro w2 hS K hK
    have cv := conv_at (cap := c8) (hS.at_ (p := p8) (l := (leB ((A) % PP))) (by simp))
    go_wp2_with fail
    exact hK _ hS (Ext.refl _)
  · kernel_rfl
  · kernel_rfl
  apply rem_sure 33 (by kernel_rfl) rfl (by kernel_rfl)
  · intro w2 hS K hK
    go_wp2_with fail
    exact hK _ hS (Ext.refl _)
  · kernel_rfl
  · kernel_rfl
  apply rem_sure 34 (by kernel_rfl) rfl (wanted_none rfl)
  · intro w2 hS K hK
    go_wp2_with fail
    exact hK _ hS (Ext.refl _)
  · kernel_rfl
  · kernel_rfl
  apply rem_sure 35 (by kernel_rfl) rfl (wanted_none rfl)
  · intro w2 hS K hK
    go_wp2_with fail
    exact hK _ hS (Ext.refl _)
  · kernel_rfl
  · kernel_rfl
  apply rem_sure 36 (by kernel_rfl) rfl (by kernel_rfl)
  · intro w2 hS K hK
    go_wp2_with fail
    exact hK _ hS (Ext.refl _)
  · kernel_rfl
  · kernel_rfl
  apply rem_sure 40 (by kernel_rfl) rfl (by kernel_rfl)
  · intro w2 hS K hK
    go_wp2_with fail
    exact hK _ hS (Ext.refl _)
  · kernel_rfl
  · kernel_rfl
  apply rem_sure 41 (by kernel_rfl) rfl (by kernel_rfl)
  · intro w2 hS K hK
    have cv := conv_at (cap := cx) (hS.at_ (p := px) (l := (leB (A % PP))) (by simp))
    go_wp2_with fail
    exact hK _ hS (Ext.refl _)
  · kernel_rfl
  · kernel_rfl
  refine rem_one 37 (by kernel_rfl) (step_of rfl (by kernel_rfl) ?_)
  intro v9 hS9 hE9 K hK
  go_wp2_with fail
  refine (small_any 1 _).mono ?_
  rintro e u9 ⟨rfl, hu9⟩
  have hk9 : Below v9.heap.size v9 u9 := by rw [← hu9]; exact (Below.refl _ _).alloc (Nat.le_refl _) _
  have hB9 : Bs u9 (some ⟨v9.heap.size, 0, none⟩) 32 (leB (1 % PP)) := by rw [← hu9, small_can1]; exact bs_sm (by omega) (heap_alloc_new v9 _)
  refine hK _ _ (hS9.keep hk9) ?_
  clear hK K hu9
  try simp only [put_some, List.setIfInBounds_toArray, List.set_cons_succ, List.set_cons_zero]
  refine rem_add (p := (some ⟨v9.heap.size, 0, none⟩)) (l := (leB (1 % PP))) hB9 ?_
  refine rem_one 38 (by kernel_rfl) (step_of rfl (by kernel_rfl) ?_)
  intro v10 hS10 hE10 K hK
  go_wp2_with fail
  refine (mul3_can _ _ _ _ la (leB (1 % PP)) A 1 _ (hS10.at_ (by simp)) (hS10.at_ (by simp)) (Nat.le_refl 32) (Nat.le_refl 32) VA (Vm.can 1)).mono ?_
  rintro e u10 ⟨p10, c10, rfl, hc10, hB10, hk10⟩
  rw [show A * 1 = A from by grind] at hB10
  refine hK _ _ (hS10.keep hk10) ?_
  clear hK K
  try simp only [put_some, List.setIfInBounds_toArray, List.set_cons_succ, List.set_cons_zero]
  refine rem_add (p := p10) (l := (leB ((A) % PP))) hB10 ?_
  apply rem_sure 39 (by kernel_rfl) rfl (by kernel_rfl)
  · intro w2 hS K hK
    have cv := conv_at (cap := c10) (hS.at_ (p := p10) (l := (leB ((A) % PP))) (by simp))
    go_wp2_with fail
    exact hK _ hS (Ext.refl _)
  · kernel_rfl
  · kernel_rfl
  apply rem_sure 42 (by kernel_rfl) rfl (by kernel_rfl)
  · intro w2 hS K hK
    go_wp2_with fail
    exact hK _ hS (Ext.refl _)
  · kernel_rfl
  · kernel_rfl
  apply rem_sure 43 (by kernel_rfl) rfl (wanted_none rfl)
  · intro w2 hS K hK
    go_wp2_with fail
    exact hK _ hS (Ext.refl _)
  · kernel_rfl
  · kernel_rfl
  refine rem_nil ?_
  intro v9 hS9 hE9
  have hst : SBy w [((some ⟨g0, 0, none⟩), la), ((some ⟨g1, 0, none⟩), lb), ((some ⟨g2, 0, none⟩), lc), ((some ⟨gz, 0, none⟩), (leB (0 % PP))), (px, (leB (A % PP)))] v9 := hS9.sub (by simp)
  clear hS9 hE9
  generalize v9 = w6 at *
  go_wp2_with fail
  refine (gInv_any _ 32 32 la _ (hst.at_ (p := (some ⟨g0, 0, none⟩)) (l := la) (by simp)) (by omega)).mono ?_
  rw [is32_yes (hst.at_ (p := (some ⟨g0, 0, none⟩)) (l := la) (by simp)).1, HAe.out]
  intro e w7 h
  obtain ⟨p7, c7, rfl, hc7, hI, hb7⟩ := h.can (M := pinv A) ⟨0, by omega⟩
  have hst := (hst.keep hb7).add hI
  clear h hb7 hI HAe
  by_cases hz : PP ∣ A
  · have h1 := str_yes (N := A) (M := 0) (by simpa using hz)
    have h2 := str_yes (N := pinv A) (M := 0) (by simpa using pinv_zero hz)
    rw [Int.zero_emod] at h1 h2
    have cv1 := conv_at (cap := cx) (hst.at_ (p := px) (l := leB (A % PP)) (by simp))
    have cv2 := conv_at (cap := 32) (hst.at_ (p := some ⟨gz, 0, none⟩) (l := leB (0 % PP)) (by simp))
    have cv3 := conv_at (cap := c7) (hst.at_ (p := p7) (l := leB (pinv A % PP)) (by simp))
    clear hz
    go_wp2_with fail
    refine (num_any _ _).mono ?_
    rintro e w8 ⟨rfl, rfl⟩
    go_wp2
    go_ret
    exact ⟨rfl, hst.2⟩
  · have h1 := str_no (N := A) (M := 0) (by simpa using hz)
    rw [Int.zero_emod] at h1
    have cv1 := conv_at (cap := cx) (hst.at_ (p := px) (l := leB (A % PP)) (by simp))
    have cv2 := conv_at (cap := 32) (hst.at_ (p := some ⟨gz, 0, none⟩) (l := leB (0 % PP)) (by simp))
    have hI := inv_mul hz
    generalize pinv A = J at *
    have hIB : PP ∣ A * J * B - B := by
      obtain ⟨k, hk⟩ := hI
      exact ⟨k * B, by grind⟩
    have HIB := Lib.hid hIB
    clear hz hI hIB
    go_wp2_with fail
    clear h1 cv1 cv2
    refine wp_region_rem (SBy w [(p7, (leB (J % PP))), ((some ⟨g0, 0, none⟩), la), ((some ⟨g1, 0, none⟩), lb), ((some ⟨g2, 0, none⟩), lc), ((some ⟨gz, 0, none⟩), (leB (0 % PP))), (px, (leB (A % PP)))]) (by kernel_rfl) (by kernel_rfl) (fun _ _ d _ _ h => by cases d <;> exact h) hst.drew ?_
    apply rem_sure 0 (by kernel_rfl) rfl (wanted_none rfl)
    · intro w2 hS K hK
      go_wp2_with fail
      exact hK _ hS (Ext.refl _)
    · kernel_rfl
    · kernel_rfl
    refine rem_one 1 (by kernel_rfl) (step_of rfl (wanted_none rfl) ?_)
    intro v1 hS1 hE1 K hK
    go_wp2_with fail
    refine (num_any _ _).mono ?_
    rintro e u1 ⟨rfl, rfl⟩
    refine hK _ _ hS1 ?_
    clear hK K
    try simp only [put_some, List.setIfInBounds_toArray, List.set_cons_succ, List.set_cons_zero]
    apply rem_sure 2 (by kernel_rfl) rfl (wanted_none rfl)
    · intro w2 hS K hK
      go_wp2_with fail
      exact hK _ hS (Ext.refl _)
    · kernel_rfl
    · kernel_rfl
    apply rem_sure 3 (by kernel_rfl) rfl (wanted_none rfl)
    · intro w2 hS K hK
      go_wp2_with fail
      exact hK _ hS (Ext.refl _)
    · kernel_rfl
    · kernel_rfl
    apply rem_sure 4 (by kernel_rfl) rfl (by kernel_rfl)
    · intro w2 hS K hK
      go_wp2_with fail
      exact hK _ hS (Ext.refl _)
    · kernel_rfl
    · kernel_rfl
    apply rem_sure 5 (by kernel_rfl) rfl (by kernel_rfl)
    · intro w2 hS K hK
      go_wp2_with fail
      exact hK _ hS (Ext.refl _)
    · kernel_rfl
    · kernel_rfl
    apply rem_sure 7 (by kernel_rfl) rfl (by kernel_rfl)
    · intro w2 hS K hK
      go_wp2_with fail
      exact hK _ hS (Ext.refl _)
    · kernel_rfl
    · kernel_rfl
    apply rem_sure 10 (by kernel_rfl) rfl (by kernel_rfl)
    · intro w2 hS K hK
      go_wp2_with fail
      exact hK _ hS (Ext.refl _)
    · kernel_rfl
    · kernel_rfl
    apply rem_sure 11 (by kernel_rfl) rfl (by kernel_rfl)
    · intro w2 hS K hK
      go_wp2_with fail
      exact hK _ hS (Ext.refl _)
    · kernel_rfl
    · kernel_rfl
    refine rem_one 6 (by kernel_rfl) (step_of rfl (by kernel_rfl) ?_)
    intro v2 hS2 hE2 K hK
    go_wp2_with fail
    refine (mul3_can _ _ _ _ la (leB (J % PP)) A J _ (hS2.at_ (by simp)) (hS2.at_ (by simp)) (Nat.le_refl 32) hc7 VA (Vm.can J)).mono ?_
    rintro e u2 ⟨p2, c2, rfl, hc2, hB2, hk2⟩
    refine hK _ _ (hS2.keep hk2) ?_
    clear hK K
    try simp only [put_some, List.setIfInBounds_toArray, List.set_cons_succ, List.set_cons_zero]
    refine rem_add (p := p2) (l := (leB ((A * J) % PP))) hB2 ?_
    refine rem_one 8 (by kernel_rfl) (step_of rfl (by kernel_rfl) ?_)
    intro v3 hS3 hE3 K hK
    go_wp2_with fail
    refine (mul3_can _ _ _ _ (leB ((A * J) % PP)) lb (A * J) B _ (hS3.at_ (by simp)) (hS3.at_ (by simp)) hc2 (Nat.le_refl 32) (Vm.can (A * J)) VB).mono ?_
    rintro e u3 ⟨p3, c3, rfl, hc3, hB3, hk3⟩
    rw [mod_of (show PP ∣ (A * J) * B - B from HIB.out)] at hB3
    refine hK _ _ (hS3.keep hk3) ?_
    clear hK K
    try simp only [put_some, List.setIfInBounds_toArray, List.set_cons_succ, List.set_cons_zero]
    refine rem_add (p := p3) (l := (leB ((B) % PP))) hB3 ?_
    apply rem_sure 9 (by kernel_rfl) rfl (by kernel_rfl)
    · intro w2 hS K hK
      have cv := conv_at (cap := c3) (hS.at_ (p := p3) (l := (leB ((B) % PP))) (by simp))
      go_wp2_with fail
      exact hK _ hS (Ext.refl _)
    · kernel_rfl
    · kernel_rfl
    refine rem_one 12 (by kernel_rfl) (step_of rfl (by kernel_rfl) ?_)
    intro v4 hS4 hE4 K hK
    go_wp2_with fail
    refine (add3_can _ _ _ _ lb (leB (0 % PP)) B 0 _ (hS4.at_ (by simp)) (hS4.at_ (by simp)) (Nat.le_refl 32) (Nat.le_refl 32) VB (Vm.can 0)).mono ?_
    rintro e u4 ⟨p4, c4, rfl, hc4, hB4, hk4⟩
    rw [show B + 0 = B from by grind] at hB4
    refine hK _ _ (hS4.keep hk4) ?_
    clear hK K
    try simp only [put_some, List.setIfInBounds_toArray, List.set_cons_succ, List.set_cons_zero]
    refine rem_add (p := p4) (l := (leB ((B) % PP))) hB4 ?_
    apply rem_sure 13 (by kernel_rfl) rfl (by kernel_rfl)
    · intro w2 hS K hK
      have cv := conv_at (cap := c4) (hS.at_ (p := p4) (l := (leB ((B) % PP))) (by simp))
      go_wp2_with fail
      exact hK _ hS (Ext.refl _)
    · kernel_rfl
    · kernel_rfl
    apply rem_sure 14 (by kernel_rfl) rfl (by kernel_rfl)
    · intro w2 hS K hK
      go_wp2_with fail
      exact hK _ hS (Ext.refl _)
    · kernel_rfl
    · kernel_rfl
    apply rem_sure 15 (by kernel_rfl) rfl (wanted_none rfl)
    · intro w2 hS K hK
      go_wp2_with fail
      exact hK _ hS (Ext.refl _)
    · kernel_rfl
    · kernel_rfl
    apply rem_sure 16 (by kernel_rfl) rfl (wanted_none rfl)
    · intro w2 hS K hK
      go_wp2_with fail
      exact hK _ hS (Ext.refl _)
    · kernel_rfl
    · kernel_rfl
    refine rem_nil ?_
    intro v9 hS9 hE9
    go_wp2
    go_ret
    exact ⟨rfl, hS9.2⟩
end Go.Proofs.Ytenppmciabdefaa
