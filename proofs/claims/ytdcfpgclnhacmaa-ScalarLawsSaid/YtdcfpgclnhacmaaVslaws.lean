/- The walk of ScalarLaws. No condition. -/
import Derived.Test.YtdcfpgclnhacmaaVsone
namespace Go.Proofs.Ytdcfpgclnhacmaa
open Go Go.RowKit
set_option maxHeartbeats 40000000 in
set_option maxRecDepth 100000 in
theorem scalarLaws_walk (a0 : Option Addr) (n0 c0 : Nat) (l0 : List Int) (a1 : Option Addr) (n1 c1 : Nat) (l1 : List Int) (a2 : Option Addr) (n2 c2 : Nat) (l2 : List Int) (w : World) (b0 : Bs w a0 n0 l0) (_e0 : n0 ≤ c0) (_g0 : c0 ≤ 140737488351232) (b1 : Bs w a1 n1 l1) (_e1 : n1 ≤ c1) (_g1 : c1 ≤ 140737488351232) (b2 : Bs w a2 n2 l2) (_e2 : n2 ≤ c2) (_g2 : c2 ≤ 140737488351232) :
    Calls Try.prog 6 #[.slice a0 n0 c0, .slice a1 n1 c1, .slice a2 n2 c2] w fun e w' => e = .returned (.bool true) ∧ Below w.heap.size w w' := by
  go_enter Try.func6, Try.ntmps6
  go_wp2_with fail
  refine (fit_any a0 n0 c0 l0 _ b0).mono ?_
  rintro e w1 ⟨g0, rfl, hA, hb⟩
  have b1 := b1.keep hb
  have b2 := b2.keep hb
  go_wp2_with fail
  refine (fit_any a1 n1 c1 l1 _ b1).mono ?_
  rintro e w1 ⟨g1, rfl, hB, hb1⟩
  have b2 := b2.keep hb1
  have hA := hA.keep hb1
  have hb := bjoin hb hb1
  go_wp2_with fail
  refine (fit_any a2 n2 c2 l2 _ b2).mono ?_
  rintro e w1 ⟨g2, rfl, hC, hb1⟩
  have hA := hA.keep hb1
  have hB := hB.keep hb1
  have hb := bjoin hb hb1
  clear b0 b1 b2 hb1
  generalize fitL l0 = la at *
  generalize fitL l1 = lb at *
  generalize fitL l2 = lc at *
  have VA := Vm.self la
  have VB := Vm.self lb
  have VC := Vm.self lc
  generalize vd 256 la = A at *
  generalize vd 256 lb = B at *
  generalize vd 256 lc = C at *
  go_wp2_with fail
  refine (reduce_can _ 32 32 la A _ (by omega) hA VA).mono ?_
  rintro e w2 ⟨r, rfl, hR, hb1⟩
  have hA := hA.keep hb1
  have hB := hB.keep hb1
  have hC := hC.keep hb1
  have hb := bjoin hb hb1
  go_wp2_with fail
  refine (reduce_can _ 32 32 _ A _ (by omega) hR (Vm.can A)).mono ?_
  rintro e w3 ⟨s, rfl, hS, hb1⟩
  have hA := hA.keep hb1
  have hB := hB.keep hb1
  have hC := hC.keep hb1
  have hR := hR.keep hb1
  have hb := bjoin hb hb1
  have cA := conv_at (cap := 32) hR
  have cB := conv_at (cap := 32) hS
  clear hb1 hS
  generalize strOfNums (b32 (A % LL)) = S at *
  go_wp2_with fail
  refine (num_any _ _).mono ?_
  rintro e w' ⟨rfl, rfl⟩
  go_wp2_with fail
  refine (num_any _ _).mono ?_
  rintro e w' ⟨rfl, rfl⟩
  go_wp2_with fail
  refine (canonical_can _ _ A _ hR).mono ?_
  rintro e w4 ⟨rfl, hb1⟩
  clear cA cB
  have hA := hA.keep hb1
  have hB := hB.keep hb1
  have hC := hC.keep hb1
  have hR := hR.keep hb1
  have hb := bjoin hb hb1
  go_wp2_with fail
  refine (knows_any _).mono ?_
  rintro e w5 ⟨rfl, hb1⟩
  have hA := hA.keep hb1
  have hB := hB.keep hb1
  have hC := hC.keep hb1
  have hR := hR.keep hb1
  have hb := bjoin hb hb1
  go_wp2_with fail
  refine (muladd_can _ _ _ 32 32 32 la lb lc A B C _ hA hB hC VA VB VC).mono ?_
  rintro e w6 ⟨d, rfl, hD, hb1⟩
  have hst0 : SBy w [] w6 := ⟨by simp, bjoin hb hb1⟩
  have hst := ((((hst0.add hD).add (hR.keep hb1)).add (hC.keep hb1)).add (hB.keep hb1)).add (hA.keep hb1)
  clear hst0 hb hb1 hD hR hC hB hA
  go_wp2_with fail
  refine wp_region_rem (SBy w [((some ⟨g0, 0, none⟩), la), ((some ⟨g1, 0, none⟩), lb), ((some ⟨g2, 0, none⟩), lc), ((some ⟨r, 0, none⟩), (b32 (A % LL))), ((some ⟨d, 0, none⟩), (b32 ((A * B + C) % LL)))]) (by kernel_rfl) (by kernel_rfl) (fun _ _ d _ _ h => by cases d <;> exact h) hst.drew ?_
  apply rem_sure 0 (by kernel_rfl) rfl (wanted_none rfl)
  · intro w2 hS K hK
    go_wp2_with fail
    exact hK _ hS (Ext.refl _)
  · kernel_rfl
  · kernel_rfl
  refine rem_one 1 (by kernel_rfl) (step_of rfl (wanted_none rfl) ?_)
  intro v21 hS21 hE21 K hK
  go_wp2_with fail
  refine (num_any _ _).mono ?_
  rintro e u21 ⟨rfl, rfl⟩
  refine hK _ _ hS21 ?_
  clear hK K
  try simp only [put_some, List.setIfInBounds_toArray, List.set_cons_succ, List.set_cons_zero]
  apply rem_sure 2 (by kernel_rfl) rfl (wanted_none rfl)
  · intro w2 hS K hK
    go_wp2_with fail
    exact hK _ hS (Ext.refl _)
  · kernel_rfl
  · kernel_rfl
  apply rem_sure 3 (by kernel_rfl) rfl (wanted_none rfl)
  · intro w2 hS K hK
    go_wp2_with fail
    exact hK _ hS (Ext.refl _)
  · kernel_rfl
  · kernel_rfl
  apply rem_sure 4 (by kernel_rfl) rfl (by kernel_rfl)
  · intro w2 hS K hK
    go_wp2_with fail
    exact hK _ hS (Ext.refl _)
  · kernel_rfl
  · kernel_rfl
  refine rem_one 5 (by kernel_rfl) (step_of rfl (by kernel_rfl) ?_)
  intro v22 hS22 hE22 K hK
  go_wp2_with fail
  refine (canonical_can _ _ (A * B + C) _ (hS22.at_ (p := (some ⟨d, 0, none⟩)) (l := (b32 ((A * B + C) % LL))) (by simp))).mono ?_
  rintro e u22 ⟨rfl, hk22⟩
  refine hK _ _ (hS22.keep hk22) ?_
  clear hK K
  try simp only [put_some, List.setIfInBounds_toArray, List.set_cons_succ, List.set_cons_zero]
  apply rem_sure 6 (by kernel_rfl) rfl (by kernel_rfl)
  · intro w2 hS K hK
    go_wp2_with fail
    exact hK _ hS (Ext.refl _)
  · kernel_rfl
  · kernel_rfl
  apply rem_sure 7 (by kernel_rfl) rfl (wanted_none rfl)
  · intro w2 hS K hK
    go_wp2_with fail
    exact hK _ hS (Ext.refl _)
  · kernel_rfl
  · kernel_rfl
  apply rem_sure 8 (by kernel_rfl) rfl (wanted_none rfl)
  · intro w2 hS K hK
    go_wp2_with fail
    exact hK _ hS (Ext.refl _)
  · kernel_rfl
  · kernel_rfl
  apply rem_sure 9 (by kernel_rfl) rfl (by kernel_rfl)
  · intro w2 hS K hK
    go_wp2_with fail
    exact hK _ hS (Ext.refl _)
  · kernel_rfl
  · kernel_rfl
  apply rem_sure 10 (by kernel_rfl) rfl (by kernel_rfl)
  · intro w2 hS K hK
    have cv := conv_at (cap := 32) (hS.at_ (p := (some ⟨d, 0, none⟩)) (l := (b32 ((A * B + C) % LL))) (by simp))
    go_wp2_with fail
    exact hK _ hS (Ext.refl _)
  · kernel_rfl
  · kernel_rfl
  apply rem_sure 11 (by kernel_rfl) rfl (by kernel_rfl)
  · intro w2 hS K hK
    go_wp2_with fail
    exact hK _ hS (Ext.refl _)
  · kernel_rfl
  · kernel_rfl
  apply rem_sure 12 (by kernel_rfl) rfl (by kernel_rfl)
  · intro w2 hS K hK
    go_wp2_with fail
    exact hK _ hS (Ext.refl _)
  · kernel_rfl
  · kernel_rfl
  apply rem_sure 14 (by kernel_rfl) rfl (by kernel_rfl)
  · intro w2 hS K hK
    go_wp2_with fail
    exact hK _ hS (Ext.refl _)
  · kernel_rfl
  · kernel_rfl
  refine rem_one 13 (by kernel_rfl) (step_of rfl (by kernel_rfl) ?_)
  intro v23 hS23 hE23 K hK
  go_wp2_with fail
  refine (mul4_can _ _ _ _ la lb A B _ (hS23.at_ (by simp)) (hS23.at_ (by simp)) (Nat.le_refl 32) (Nat.le_refl 32) VA VB).mono ?_
  rintro e u23 ⟨p23, c23, rfl, hc23, hB23, hk23⟩
  refine hK _ _ (hS23.keep hk23) ?_
  clear hK K
  try simp only [put_some, List.setIfInBounds_toArray, List.set_cons_succ, List.set_cons_zero]
  refine rem_add (p := p23) (l := (b32 ((A * B) % LL))) hB23 ?_
  refine rem_one 15 (by kernel_rfl) (step_of rfl (by kernel_rfl) ?_)
  intro v24 hS24 hE24 K hK
  go_wp2_with fail
  refine (add4_can _ _ _ _ (b32 ((A * B) % LL)) lc (A * B) C _ (hS24.at_ (by simp)) (hS24.at_ (by simp)) hc23 (Nat.le_refl 32) (Vm.can (A * B)) VC).mono ?_
  rintro e u24 ⟨p24, c24, rfl, hc24, hB24, hk24⟩
  rw [show (A * B) + C = A * B + C from by grind] at hB24
  refine hK _ _ (hS24.keep hk24) ?_
  clear hK K
  try simp only [put_some, List.setIfInBounds_toArray, List.set_cons_succ, List.set_cons_zero]
  refine rem_add (p := p24) (l := (b32 ((A * B + C) % LL))) hB24 ?_
  apply rem_sure 16 (by kernel_rfl) rfl (by kernel_rfl)
  · intro w2 hS K hK
    have cv := conv_at (cap := c24) (hS.at_ (p := p24) (l := (b32 ((A * B + C) % LL))) (by simp))
    go_wp2_with fail
    exact hK _ hS (Ext.refl _)
  · kernel_rfl
  · kernel_rfl
  apply rem_sure 17 (by kernel_rfl) rfl (by kernel_rfl)
  · intro w2 hS K hK
    go_wp2_with fail
    exact hK _ hS (Ext.refl _)
  · kernel_rfl
  · kernel_rfl
  apply rem_sure 18 (by kernel_rfl) rfl (wanted_none rfl)
  · intro w2 hS K hK
    go_wp2_with fail
    exact hK _ hS (Ext.refl _)
  · kernel_rfl
  · kernel_rfl
  apply rem_sure 19 (by kernel_rfl) rfl (wanted_none rfl)
  · intro w2 hS K hK
    go_wp2_with fail
    exact hK _ hS (Ext.refl _)
  · kernel_rfl
  · kernel_rfl
  apply rem_sure 20 (by kernel_rfl) rfl (by kernel_rfl)
  · intro w2 hS K hK
    go_wp2_with fail
    exact hK _ hS (Ext.refl _)
  · kernel_rfl
  · kernel_rfl
  apply rem_sure 24 (by kernel_rfl) rfl (by kernel_rfl)
  · intro w2 hS K hK
    go_wp2_with fail
    exact hK _ hS (Ext.refl _)
  · kernel_rfl
  · kernel_rfl
  apply rem_sure 25 (by kernel_rfl) rfl (by kernel_rfl)
  · intro w2 hS K hK
    have cv := conv_at (cap := 32) (hS.at_ (p := (some ⟨r, 0, none⟩)) (l := (b32 (A % LL))) (by simp))
    go_wp2_with fail
    exact hK _ hS (Ext.refl _)
  · kernel_rfl
  · kernel_rfl
  refine rem_one 21 (by kernel_rfl) (step_of rfl (by kernel_rfl) ?_)
  intro v25 hS25 hE25 K hK
  go_wp2_with fail
  refine (small_any 1 _).mono ?_
  rintro e u25 ⟨rfl, hu25⟩
  have hk25 : Below v25.heap.size v25 u25 := by rw [← hu25]; exact (Below.refl _ _).alloc (Nat.le_refl _) _
  have hB25 : Bs u25 (some ⟨v25.heap.size, 0, none⟩) 32 (b32 (1 % LL)) := by rw [← hu25, small_can1]; exact bs_sm (by omega) (heap_alloc_new v25 _)
  refine hK _ _ (hS25.keep hk25) ?_
  clear hK K hu25
  try simp only [put_some, List.setIfInBounds_toArray, List.set_cons_succ, List.set_cons_zero]
  refine rem_add (p := (some ⟨v25.heap.size, 0, none⟩)) (l := (b32 (1 % LL))) hB25 ?_
  refine rem_one 22 (by kernel_rfl) (step_of rfl (by kernel_rfl) ?_)
  intro v26 hS26 hE26 K hK
  go_wp2_with fail
  refine (mul4_can _ _ _ _ la (b32 (1 % LL)) A 1 _ (hS26.at_ (by simp)) (hS26.at_ (by simp)) (Nat.le_refl 32) (Nat.le_refl 32) VA (Vm.can 1)).mono ?_
  rintro e u26 ⟨p26, c26, rfl, hc26, hB26, hk26⟩
  rw [show A * 1 = A from by grind] at hB26
  refine hK _ _ (hS26.keep hk26) ?_
  clear hK K
  try simp only [put_some, List.setIfInBounds_toArray, List.set_cons_succ, List.set_cons_zero]
  refine rem_add (p := p26) (l := (b32 ((A) % LL))) hB26 ?_
  apply rem_sure 23 (by kernel_rfl) rfl (by kernel_rfl)
  · intro w2 hS K hK
    have cv := conv_at (cap := c26) (hS.at_ (p := p26) (l := (b32 ((A) % LL))) (by simp))
    go_wp2_with fail
    exact hK _ hS (Ext.refl _)
  · kernel_rfl
  · kernel_rfl
  apply rem_sure 26 (by kernel_rfl) rfl (by kernel_rfl)
  · intro w2 hS K hK
    go_wp2_with fail
    exact hK _ hS (Ext.refl _)
  · kernel_rfl
  · kernel_rfl
  apply rem_sure 27 (by kernel_rfl) rfl (wanted_none rfl)
  · intro w2 hS K hK
    go_wp2_with fail
    exact hK _ hS (Ext.refl _)
  · kernel_rfl
  · kernel_rfl
  refine rem_nil ?_
  intro v9 hS9 hE9
  have hst : SBy w [((some ⟨g0, 0, none⟩), la), ((some ⟨g1, 0, none⟩), lb), ((some ⟨g2, 0, none⟩), lc), ((some ⟨r, 0, none⟩), (b32 (A % LL))), ((some ⟨d, 0, none⟩), (b32 ((A * B + C) % LL)))] v9 := hS9.sub (by simp)
  clear hS9 hE9
  generalize v9 = w7 at *
  go_wp2_with fail
  refine wp_region_rem (SBy w [((some ⟨g0, 0, none⟩), la), ((some ⟨g1, 0, none⟩), lb), ((some ⟨g2, 0, none⟩), lc), ((some ⟨r, 0, none⟩), (b32 (A % LL))), ((some ⟨d, 0, none⟩), (b32 ((A * B + C) % LL)))]) (by kernel_rfl) (by kernel_rfl) (fun _ _ d _ _ h => by cases d <;> exact h) hst.drew ?_
  apply rem_sure 0 (by kernel_rfl) rfl (wanted_none rfl)
  · intro w2 hS K hK
    go_wp2_with fail
    exact hK _ hS (Ext.refl _)
  · kernel_rfl
  · kernel_rfl
  apply rem_sure 1 (by kernel_rfl) rfl (wanted_none rfl)
  · intro w2 hS K hK
    go_wp2_with fail
    exact hK _ hS (Ext.refl _)
  · kernel_rfl
  · kernel_rfl
  apply rem_sure 4 (by kernel_rfl) rfl (wanted_none rfl)
  · intro w2 hS K hK
    go_wp2_with fail
    exact hK _ hS (Ext.refl _)
  · kernel_rfl
  · kernel_rfl
  apply rem_sure 5 (by kernel_rfl) rfl (wanted_none rfl)
  · intro w2 hS K hK
    go_wp2_with fail
    exact hK _ hS (Ext.refl _)
  · kernel_rfl
  · kernel_rfl
  refine rem_one 2 (by kernel_rfl) (step_of rfl (wanted_none rfl) ?_)
  intro v21 hS21 hE21 K hK
  go_wp2_with fail
  refine (mul4_can _ _ _ _ la lb A B _ (hS21.at_ (by simp)) (hS21.at_ (by simp)) (Nat.le_refl 32) (Nat.le_refl 32) VA VB).mono ?_
  rintro e u21 ⟨p21, c21, rfl, hc21, hB21, hk21⟩
  refine hK _ _ (hS21.keep hk21) ?_
  clear hK K
  try simp only [put_some, List.setIfInBounds_toArray, List.set_cons_succ, List.set_cons_zero]
  refine rem_add (p := p21) (l := (b32 ((A * B) % LL))) hB21 ?_
  apply rem_sure 3 (by kernel_rfl) rfl (wanted_none rfl)
  · intro w2 hS K hK
    have cv := conv_at (cap := c21) (hS.at_ (p := p21) (l := (b32 ((A * B) % LL))) (by simp))
    go_wp2_with fail
    exact hK _ hS (Ext.refl _)
  · kernel_rfl
  · kernel_rfl
  refine rem_one 6 (by kernel_rfl) (step_of rfl (wanted_none rfl) ?_)
  intro v22 hS22 hE22 K hK
  go_wp2_with fail
  refine (mul4_can _ _ _ _ lb la B A _ (hS22.at_ (by simp)) (hS22.at_ (by simp)) (Nat.le_refl 32) (Nat.le_refl 32) VB VA).mono ?_
  rintro e u22 ⟨p22, c22, rfl, hc22, hB22, hk22⟩
  rw [show B * A = A * B from by grind] at hB22
  refine hK _ _ (hS22.keep hk22) ?_
  clear hK K
  try simp only [put_some, List.setIfInBounds_toArray, List.set_cons_succ, List.set_cons_zero]
  refine rem_add (p := p22) (l := (b32 ((A * B) % LL))) hB22 ?_
  apply rem_sure 7 (by kernel_rfl) rfl (wanted_none rfl)
  · intro w2 hS K hK
    have cv := conv_at (cap := c22) (hS.at_ (p := p22) (l := (b32 ((A * B) % LL))) (by simp))
    go_wp2_with fail
    exact hK _ hS (Ext.refl _)
  · kernel_rfl
  · kernel_rfl
  apply rem_sure 8 (by kernel_rfl) rfl (wanted_none rfl)
  · intro w2 hS K hK
    go_wp2_with fail
    exact hK _ hS (Ext.refl _)
  · kernel_rfl
  · kernel_rfl
  apply rem_sure 9 (by kernel_rfl) rfl (wanted_none rfl)
  · intro w2 hS K hK
    go_wp2_with fail
    exact hK _ hS (Ext.refl _)
  · kernel_rfl
  · kernel_rfl
  apply rem_sure 10 (by kernel_rfl) rfl (by kernel_rfl)
  · intro w2 hS K hK
    go_wp2_with fail
    exact hK _ hS (Ext.refl _)
  · kernel_rfl
  · kernel_rfl
  apply rem_sure 11 (by kernel_rfl) rfl (by kernel_rfl)
  · intro w2 hS K hK
    go_wp2_with fail
    exact hK _ hS (Ext.refl _)
  · kernel_rfl
  · kernel_rfl
  apply rem_sure 13 (by kernel_rfl) rfl (by kernel_rfl)
  · intro w2 hS K hK
    go_wp2_with fail
    exact hK _ hS (Ext.refl _)
  · kernel_rfl
  · kernel_rfl
  apply rem_sure 16 (by kernel_rfl) rfl (by kernel_rfl)
  · intro w2 hS K hK
    go_wp2_with fail
    exact hK _ hS (Ext.refl _)
  · kernel_rfl
  · kernel_rfl
  apply rem_sure 17 (by kernel_rfl) rfl (by kernel_rfl)
  · intro w2 hS K hK
    go_wp2_with fail
    exact hK _ hS (Ext.refl _)
  · kernel_rfl
  · kernel_rfl
  apply rem_sure 18 (by kernel_rfl) rfl (by kernel_rfl)
  · intro w2 hS K hK
    go_wp2_with fail
    exact hK _ hS (Ext.refl _)
  · kernel_rfl
  · kernel_rfl
  refine rem_one 12 (by kernel_rfl) (step_of rfl (by kernel_rfl) ?_)
  intro v23 hS23 hE23 K hK
  go_wp2_with fail
  refine (mul4_can _ _ _ _ la lb A B _ (hS23.at_ (by simp)) (hS23.at_ (by simp)) (Nat.le_refl 32) (Nat.le_refl 32) VA VB).mono ?_
  rintro e u23 ⟨p23, c23, rfl, hc23, hB23, hk23⟩
  refine hK _ _ (hS23.keep hk23) ?_
  clear hK K
  try simp only [put_some, List.setIfInBounds_toArray, List.set_cons_succ, List.set_cons_zero]
  refine rem_add (p := p23) (l := (b32 ((A * B) % LL))) hB23 ?_
  refine rem_one 14 (by kernel_rfl) (step_of rfl (by kernel_rfl) ?_)
  intro v24 hS24 hE24 K hK
  go_wp2_with fail
  refine (mul4_can _ _ _ _ (b32 ((A * B) % LL)) lc (A * B) C _ (hS24.at_ (by simp)) (hS24.at_ (by simp)) hc23 (Nat.le_refl 32) (Vm.can (A * B)) VC).mono ?_
  rintro e u24 ⟨p24, c24, rfl, hc24, hB24, hk24⟩
  rw [show (A * B) * C = A * B * C from by grind] at hB24
  refine hK _ _ (hS24.keep hk24) ?_
  clear hK K
  try simp only [put_some, List.setIfInBounds_toArray, List.set_cons_succ, List.set_cons_zero]
  refine rem_add (p := p24) (l := (b32 ((A * B * C) % LL))) hB24 ?_
  apply rem_sure 15 (by kernel_rfl) rfl (by kernel_rfl)
  · intro w2 hS K hK
    have cv := conv_at (cap := c24) (hS.at_ (p := p24) (l := (b32 ((A * B * C) % LL))) (by simp))
    go_wp2_with fail
    exact hK _ hS (Ext.refl _)
  · kernel_rfl
  · kernel_rfl
  refine rem_one 19 (by kernel_rfl) (step_of rfl (by kernel_rfl) ?_)
  intro v25 hS25 hE25 K hK
  go_wp2_with fail
  refine (mul4_can _ _ _ _ lb lc B C _ (hS25.at_ (by simp)) (hS25.at_ (by simp)) (Nat.le_refl 32) (Nat.le_refl 32) VB VC).mono ?_
  rintro e u25 ⟨p25, c25, rfl, hc25, hB25, hk25⟩
  refine hK _ _ (hS25.keep hk25) ?_
  clear hK K
  try simp only [put_some, List.setIfInBounds_toArray, List.set_cons_succ, List.set_cons_zero]
  refine rem_add (p := p25) (l := (b32 ((B * C) % LL))) hB25 ?_
  refine rem_one 20 (by kernel_rfl) (step_of rfl (by kernel_rfl) ?_)
  intro v26 hS26 hE26 K hK
  go_wp2_with fail
  refine (mul4_can _ _ _ _ la (b32 ((B * C) % LL)) A (B * C) _ (hS26.at_ (by simp)) (hS26.at_ (by simp)) (Nat.le_refl 32) hc25 VA (Vm.can (B * C))).mono ?_
  rintro e u26 ⟨p26, c26, rfl, hc26, hB26, hk26⟩
  rw [show A * (B * C) = A * B * C from by grind] at hB26
  refine hK _ _ (hS26.keep hk26) ?_
  clear hK K
  try simp only [put_some, List.setIfInBounds_toArray, List.set_cons_succ, List.set_cons_zero]
  refine rem_add (p := p26) (l := (b32 ((A * B * C) % LL))) hB26 ?_
  apply rem_sure 21 (by kernel_rfl) rfl (by kernel_rfl)
  · intro w2 hS K hK
    have cv := conv_at (cap := c26) (hS.at_ (p := p26) (l := (b32 ((A * B * C) % LL))) (by simp))
    go_wp2_with fail
    exact hK _ hS (Ext.refl _)
  · kernel_rfl
  · kernel_rfl
  apply rem_sure 22 (by kernel_rfl) rfl (by kernel_rfl)
  · intro w2 hS K hK
    go_wp2_with fail
    exact hK _ hS (Ext.refl _)
  · kernel_rfl
  · kernel_rfl
  apply rem_sure 23 (by kernel_rfl) rfl (wanted_none rfl)
  · intro w2 hS K hK
    go_wp2_with fail
    exact hK _ hS (Ext.refl _)
  · kernel_rfl
  · kernel_rfl
  apply rem_sure 24 (by kernel_rfl) rfl (wanted_none rfl)
  · intro w2 hS K hK
    go_wp2_with fail
    exact hK _ hS (Ext.refl _)
  · kernel_rfl
  · kernel_rfl
  apply rem_sure 25 (by kernel_rfl) rfl (by kernel_rfl)
  · intro w2 hS K hK
    go_wp2_with fail
    exact hK _ hS (Ext.refl _)
  · kernel_rfl
  · kernel_rfl
  apply rem_sure 26 (by kernel_rfl) rfl (by kernel_rfl)
  · intro w2 hS K hK
    go_wp2_with fail
    exact hK _ hS (Ext.refl _)
  · kernel_rfl
  · kernel_rfl
  apply rem_sure 27 (by kernel_rfl) rfl (by kernel_rfl)
  · intro w2 hS K hK
    go_wp2_with fail
    exact hK _ hS (Ext.refl _)
  · kernel_rfl
  · kernel_rfl
  apply rem_sure 31 (by kernel_rfl) rfl (by kernel_rfl)
  · intro w2 hS K hK
    go_wp2_with fail
    exact hK _ hS (Ext.refl _)
  · kernel_rfl
  · kernel_rfl
  apply rem_sure 32 (by kernel_rfl) rfl (by kernel_rfl)
  · intro w2 hS K hK
    go_wp2_with fail
    exact hK _ hS (Ext.refl _)
  · kernel_rfl
  · kernel_rfl
  apply rem_sure 34 (by kernel_rfl) rfl (by kernel_rfl)
  · intro w2 hS K hK
    go_wp2_with fail
    exact hK _ hS (Ext.refl _)
  · kernel_rfl
  · kernel_rfl
  apply rem_sure 35 (by kernel_rfl) rfl (by kernel_rfl)
  · intro w2 hS K hK
    go_wp2_with fail
    exact hK _ hS (Ext.refl _)
  · kernel_rfl
  · kernel_rfl
  refine rem_one 28 (by kernel_rfl) (step_of rfl (by kernel_rfl) ?_)
  intro v27 hS27 hE27 K hK
  go_wp2_with fail
  refine (add4_can _ _ _ _ lb lc B C _ (hS27.at_ (by simp)) (hS27.at_ (by simp)) (Nat.le_refl 32) (Nat.le_refl 32) VB VC).mono ?_
  rintro e u27 ⟨p27, c27, rfl, hc27, hB27, hk27⟩
  refine hK _ _ (hS27.keep hk27) ?_
  clear hK K
  try simp only [put_some, List.setIfInBounds_toArray, List.set_cons_succ, List.set_cons_zero]
  refine rem_add (p := p27) (l := (b32 ((B + C) % LL))) hB27 ?_
  refine rem_one 29 (by kernel_rfl) (step_of rfl (by kernel_rfl) ?_)
  intro v28 hS28 hE28 K hK
  go_wp2_with fail
  refine (mul4_can _ _ _ _ la (b32 ((B + C) % LL)) A (B + C) _ (hS28.at_ (by simp)) (hS28.at_ (by simp)) (Nat.le_refl 32) hc27 VA (Vm.can (B + C))).mono ?_
  rintro e u28 ⟨p28, c28, rfl, hc28, hB28, hk28⟩
  rw [show A * (B + C) = A * B + A * C from by grind] at hB28
  refine hK _ _ (hS28.keep hk28) ?_
  clear hK K
  try simp only [put_some, List.setIfInBounds_toArray, List.set_cons_succ, List.set_cons_zero]
  refine rem_add (p := p28) (l := (b32 ((A * B + A * C) % LL))) hB28 ?_
  apply rem_sure 30 (by kernel_rfl) rfl (by kernel_rfl)
  · intro w2 hS K hK
    have cv := conv_at (cap := c28) (hS.at_ (p := p28) (l := (b32 ((A * B + A * C) % LL))) (by simp))
    go_wp2_with fail
    exact hK _ hS (Ext.refl _)
  · kernel_rfl
  · kernel_rfl
  refine rem_one 33 (by kernel_rfl) (step_of rfl (by kernel_rfl) ?_)
  intro v29 hS29 hE29 K hK
  go_wp2_with fail
  refine (mul4_can _ _ _ _ la lb A B _ (hS29.at_ (by simp)) (hS29.at_ (by simp)) (Nat.le_refl 32) (Nat.le_refl 32) VA VB).mono ?_
  rintro e u29 ⟨p29, c29, rfl, hc29, hB29, hk29⟩
  refine hK _ _ (hS29.keep hk29) ?_
  clear hK K
  try simp only [put_some, List.setIfInBounds_toArray, List.set_cons_succ, List.set_cons_zero]
  refine rem_add (p := p29) (l := (b32 ((A * B) % LL))) hB29 ?_
  refine rem_one 36 (by kernel_rfl) (step_of rfl (by kernel_rfl) ?_)
  intro v30 hS30 hE30 K hK
  go_wp2_with fail
  refine (mul4_can _ _ _ _ la lc A C _ (hS30.at_ (by simp)) (hS30.at_ (by simp)) (Nat.le_refl 32) (Nat.le_refl 32) VA VC).mono ?_
  rintro e u30 ⟨p30, c30, rfl, hc30, hB30, hk30⟩
  refine hK _ _ (hS30.keep hk30) ?_
  clear hK K
  try simp only [put_some, List.setIfInBounds_toArray, List.set_cons_succ, List.set_cons_zero]
  refine rem_add (p := p30) (l := (b32 ((A * C) % LL))) hB30 ?_
  refine rem_one 37 (by kernel_rfl) (step_of rfl (by kernel_rfl) ?_)
  intro v31 hS31 hE31 K hK
  go_wp2_with fail
  refine (add4_can _ _ _ _ (b32 ((A * B) % LL)) (b32 ((A * C) % LL)) (A * B) (A * C) _ (hS31.at_ (by simp)) (hS31.at_ (by simp)) hc29 hc30 (Vm.can (A * B)) (Vm.can (A * C))).mono ?_
  rintro e u31 ⟨p31, c31, rfl, hc31, hB31, hk31⟩
  rw [show (A * B) + (A * C) = A * B + A * C from by grind] at hB31
  refine hK _ _ (hS31.keep hk31) ?_
  clear hK K
  try simp only [put_some, List.setIfInBounds_toArray, List.set_cons_succ, List.set_cons_zero]
  refine rem_add (p := p31) (l := (b32 ((A * B + A * C) % LL))) hB31 ?_
  apply rem_sure 38 (by kernel_rfl) rfl (by kernel_rfl)
  · intro w2 hS K hK
    have cv := conv_at (cap := c31) (hS.at_ (p := p31) (l := (b32 ((A * B + A * C) % LL))) (by simp))
    go_wp2_with fail
    exact hK _ hS (Ext.refl _)
  · kernel_rfl
  · kernel_rfl
  apply rem_sure 39 (by kernel_rfl) rfl (by kernel_rfl)
  · intro w2 hS K hK
    go_wp2_with fail
    exact hK _ hS (Ext.refl _)
  · kernel_rfl
  · kernel_rfl
  apply rem_sure 40 (by kernel_rfl) rfl (wanted_none rfl)
  · intro w2 hS K hK
    go_wp2_with fail
    exact hK _ hS (Ext.refl _)
  · kernel_rfl
  · kernel_rfl
  apply rem_sure 41 (by kernel_rfl) rfl (wanted_none rfl)
  · intro w2 hS K hK
    go_wp2_with fail
    exact hK _ hS (Ext.refl _)
  · kernel_rfl
  · kernel_rfl
  apply rem_sure 42 (by kernel_rfl) rfl (by kernel_rfl)
  · intro w2 hS K hK
    go_wp2_with fail
    exact hK _ hS (Ext.refl _)
  · kernel_rfl
  · kernel_rfl
  apply rem_sure 43 (by kernel_rfl) rfl (by kernel_rfl)
  · intro w2 hS K hK
    go_wp2_with fail
    exact hK _ hS (Ext.refl _)
  · kernel_rfl
  · kernel_rfl
  apply rem_sure 46 (by kernel_rfl) rfl (by kernel_rfl)
  · intro w2 hS K hK
    go_wp2_with fail
    exact hK _ hS (Ext.refl _)
  · kernel_rfl
  · kernel_rfl
  apply rem_sure 47 (by kernel_rfl) rfl (by kernel_rfl)
  · intro w2 hS K hK
    go_wp2_with fail
    exact hK _ hS (Ext.refl _)
  · kernel_rfl
  · kernel_rfl
  refine rem_one 44 (by kernel_rfl) (step_of rfl (by kernel_rfl) ?_)
  intro v32 hS32 hE32 K hK
  go_wp2_with fail
  refine (add4_can _ _ _ _ la lb A B _ (hS32.at_ (by simp)) (hS32.at_ (by simp)) (Nat.le_refl 32) (Nat.le_refl 32) VA VB).mono ?_
  rintro e u32 ⟨p32, c32, rfl, hc32, hB32, hk32⟩
  refine hK _ _ (hS32.keep hk32) ?_
  clear hK K
  try simp only [put_some, List.setIfInBounds_toArray, List.set_cons_succ, List.set_cons_zero]
  refine rem_add (p := p32) (l := (b32 ((A + B) % LL))) hB32 ?_
  apply rem_sure 45 (by kernel_rfl) rfl (by kernel_rfl)
  · intro w2 hS K hK
    have cv := conv_at (cap := c32) (hS.at_ (p := p32) (l := (b32 ((A + B) % LL))) (by simp))
    go_wp2_with fail
    exact hK _ hS (Ext.refl _)
  · kernel_rfl
  · kernel_rfl
  refine rem_one 48 (by kernel_rfl) (step_of rfl (by kernel_rfl) ?_)
  intro v33 hS33 hE33 K hK
  go_wp2_with fail
  refine (add4_can _ _ _ _ lb la B A _ (hS33.at_ (by simp)) (hS33.at_ (by simp)) (Nat.le_refl 32) (Nat.le_refl 32) VB VA).mono ?_
  rintro e u33 ⟨p33, c33, rfl, hc33, hB33, hk33⟩
  rw [show B + A = A + B from by grind] at hB33
  refine hK _ _ (hS33.keep hk33) ?_
  clear hK K
  try simp only [put_some, List.setIfInBounds_toArray, List.set_cons_succ, List.set_cons_zero]
  refine rem_add (p := p33) (l := (b32 ((A + B) % LL))) hB33 ?_
  apply rem_sure 49 (by kernel_rfl) rfl (by kernel_rfl)
  · intro w2 hS K hK
    have cv := conv_at (cap := c33) (hS.at_ (p := p33) (l := (b32 ((A + B) % LL))) (by simp))
    go_wp2_with fail
    exact hK _ hS (Ext.refl _)
  · kernel_rfl
  · kernel_rfl
  apply rem_sure 50 (by kernel_rfl) rfl (by kernel_rfl)
  · intro w2 hS K hK
    go_wp2_with fail
    exact hK _ hS (Ext.refl _)
  · kernel_rfl
  · kernel_rfl
  apply rem_sure 51 (by kernel_rfl) rfl (wanted_none rfl)
  · intro w2 hS K hK
    go_wp2_with fail
    exact hK _ hS (Ext.refl _)
  · kernel_rfl
  · kernel_rfl
  apply rem_sure 52 (by kernel_rfl) rfl (wanted_none rfl)
  · intro w2 hS K hK
    go_wp2_with fail
    exact hK _ hS (Ext.refl _)
  · kernel_rfl
  · kernel_rfl
  refine rem_nil ?_
  intro v9 hS9 hE9
  go_wp2
  go_ret
  exact ⟨rfl, hS9.2⟩
end Go.Proofs.Ytdcfpgclnhacmaa
