/- The walk of ScalarNegs. No condition. -/
import Derived.Test.YtdcfpgclnhacmaaXb
namespace Go.Proofs.Ytdcfpgclnhacmaa
open Go Go.RowKit
theorem tneg_can (p : Option Addr) (cap : Nat) (l : List Int) (A : Int) (w : World) (hr : Bs w p 32 l) (vA : Vm l A) :
    Calls Try.prog 15 #[.slice p 32 cap] w fun e w' => ∃ g cap', e = .returned (.tuple #[.slice (some ⟨g, 0, none⟩) 32 cap', .int .i64 0]) ∧ Bs w' (some ⟨g, 0, none⟩) 32 (b32 ((-A) % LL)) ∧ Below w.heap.size w w' := by
  refine (tneg_yes p cap l w hr).mono ?_
  rintro e w' ⟨g, c, rfl, _, _, hB, hbel⟩
  refine ⟨g, c, rfl, ?_, hbel⟩
  rw [← mod_of (N := -vd 256 l) (M := -A) (by
    obtain ⟨x, hx⟩ := vA
    exact ⟨-x, by generalize LL = L at *; grind⟩)]
  exact hB
set_option maxHeartbeats 8000000 in
set_option maxRecDepth 100000 in
theorem scalarNegs_walk (a0 : Option Addr) (n0 c0 : Nat) (l0 : List Int) (w : World) (b0 : Bs w a0 n0 l0) (e0 : n0 ≤ c0) (g0 : c0 ≤ 140737488351232) :
    Calls Try.prog 4 #[.slice a0 n0 c0] w fun e w' => e = .returned (.bool true) ∧ Below w.heap.size w w' := by
  have hl0 := Lib.hid b0.1
  go_enter Try.func4, Try.ntmps4
  go_wp2_with fail
  refine (lent_any a0 n0 c0 l0 _ (by omega) b0).mono ?_
  rintro e w1 ⟨g, cg, rfl, hcg, hcg2, hg, hglt, hBg, hb1⟩
  have b0 := b0.keep hb1
  have hBh := hBg.head hl0.out
  clear hcg2 hBg hg hglt
  by_cases h : n0 = 32
  · subst h
    have VA := Vm.self l0
    generalize vd 256 l0 = A at *
    go_wp2_with fail
    refine (neg_can _ cg l0 A _ hBh VA).mono ?_
    rintro e w4 ⟨b, rfl, hB, hb4⟩
    have b0 := b0.keep hb4
    have hb := bjoin hb1 hb4
    clear hb1 hb4 hBh
    go_wp2_with fail
    refine (tneg_can _ c0 l0 A _ b0 VA).mono ?_
    rintro e w5 ⟨q, cq, rfl, hR, hb5⟩
    have b0 := b0.keep hb5
    have hB := hB.keep hb5
    have hb := bjoin hb hb5
    have cA := conv_at (cap := 32) hB
    have cB := conv_at (cap := cq) hR
    clear hb5 hR
    generalize hS : strOfNums (b32 ((-A) % LL)) = S at *
    clear hS
    go_wp2_with fail
    refine (num_any _ _).mono ?_
    rintro e w' ⟨rfl, rfl⟩
    clear cA cB
    go_wp2_with fail
    refine (small_any 1 _).mono ?_
    rintro e w6 ⟨rfl, hu⟩
    obtain ⟨hb6, h1⟩ := small_bs 1 w5 small_can1 (by omega) hu
    clear hu
    go_wp2_with fail
    refine (muladd_can _ _ _ c0 32 32 _ _ _ A 1 (-A) _ (b0.keep hb6) h1 (hB.keep hb6) VA (Vm.can 1) (Vm.can (-A))).mono ?_
    rintro e w7 ⟨m, rfl, hM, hb7⟩
    rw [show A * 1 + -A = 0 from by omega] at hM
    have hst0 : SBy w [] w7 := ⟨by simp, bjoin (bjoin hb hb6) hb7⟩
    have hst := hst0.add hM
    clear hst0 hb hb6 hb7 hM hB h1 b0
    go_wp2_with fail
    refine wp_region_rem (SBy w [((some ⟨m, 0, none⟩), (b32 (0 % LL)))]) (by kernel_rfl) (by kernel_rfl) (fun _ _ d _ _ h => by cases d <;> exact h) hst.drew ?_
    apply rem_sure 0 (by kernel_rfl) rfl (wanted_none rfl)
    · intro w2 hS K hK
      go_wp2_with fail
      exact hK _ hS (Ext.refl _)
    · kernel_rfl
    · kernel_rfl
    refine rem_one 1 (by kernel_rfl) (step_of rfl (wanted_none rfl) ?_)
    intro v21 hS21 hE21 K hK
    go_wp2_with fail
    refine (num_any _ _).mono ?_
    rintro e u21 ⟨rfl, rfl⟩
    refine hK _ _ hS21 ?_
    clear hK K
    try simp only [put_some, List.setIfInBounds_toArray, List.set_cons_succ, List.set_cons_zero]
    apply rem_sure 2 (by kernel_rfl) rfl (wanted_none rfl)
    · intro w2 hS K hK
      go_wp2_with fail
      exact hK _ hS (Ext.refl _)
    · kernel_rfl
    · kernel_rfl
    apply rem_sure 3 (by kernel_rfl) rfl (wanted_none rfl)
    · intro w2 hS K hK
      go_wp2_with fail
      exact hK _ hS (Ext.refl _)
    · kernel_rfl
    · kernel_rfl
    apply rem_sure 4 (by kernel_rfl) rfl (by kernel_rfl)
    · intro w2 hS K hK
      go_wp2_with fail
      exact hK _ hS (Ext.refl _)
    · kernel_rfl
    · kernel_rfl
    apply rem_sure 5 (by kernel_rfl) rfl (by kernel_rfl)
    · intro w2 hS K hK
      have cv := conv_at (cap := 32) (hS.at_ (p := (some ⟨m, 0, none⟩)) (l := (b32 (0 % LL))) (by simp))
      go_wp2_with fail
      exact hK _ hS (Ext.refl _)
    · kernel_rfl
    · kernel_rfl
    refine rem_one 6 (by kernel_rfl) (step_of rfl (by kernel_rfl) ?_)
    intro v22 hS22 hE22 K hK
    go_wp2_with fail
    refine (small_any 0 _).mono ?_
    rintro e u22 ⟨rfl, hu22⟩
    have hk22 : Below v22.heap.size v22 u22 := by rw [← hu22]; exact (Below.refl _ _).alloc (Nat.le_refl _) _
    have hB22 : Bs u22 (some ⟨v22.heap.size, 0, none⟩) 32 (b32 (0 % LL)) := by rw [← hu22, small_can0]; exact bs_sm (by omega) (heap_alloc_new v22 _)
    refine hK _ _ (hS22.keep hk22) ?_
    clear hK K hu22
    try simp only [put_some, List.setIfInBounds_toArray, List.set_cons_succ, List.set_cons_zero]
    refine rem_add (p := (some ⟨v22.heap.size, 0, none⟩)) (l := (b32 (0 % LL))) hB22 ?_
    apply rem_sure 7 (by kernel_rfl) rfl (by kernel_rfl)
    · intro w2 hS K hK
      have cv := conv_at (cap := 32) (hS.at_ (p := (some ⟨v22.heap.size, 0, none⟩)) (l := (b32 (0 % LL))) (by simp))
      go_wp2_with fail
      exact hK _ hS (Ext.refl _)
    · kernel_rfl
    · kernel_rfl
    apply rem_sure 8 (by kernel_rfl) rfl (by kernel_rfl)
    · intro w2 hS K hK
      go_wp2_with fail
      exact hK _ hS (Ext.refl _)
    · kernel_rfl
    · kernel_rfl
    apply rem_sure 9 (by kernel_rfl) rfl (wanted_none rfl)
    · intro w2 hS K hK
      go_wp2_with fail
      exact hK _ hS (Ext.refl _)
    · kernel_rfl
    · kernel_rfl
    apply rem_sure 10 (by kernel_rfl) rfl (wanted_none rfl)
    · intro w2 hS K hK
      go_wp2_with fail
      exact hK _ hS (Ext.refl _)
    · kernel_rfl
    · kernel_rfl
    refine rem_one 11 (by kernel_rfl) (step_of rfl (by kernel_rfl) ?_)
    intro v23 hS23 hE23 K hK
    go_wp2_with fail
    refine (knows_any _).mono ?_
    rintro e u23 ⟨rfl, hk23⟩
    refine hK _ _ (hS23.keep hk23) ?_
    clear hK K
    try simp only [put_some, List.setIfInBounds_toArray, List.set_cons_succ, List.set_cons_zero]
    apply rem_sure 12 (by kernel_rfl) rfl (wanted_none rfl)
    · intro w2 hS K hK
      go_wp2_with fail
      exact hK _ hS (Ext.refl _)
    · kernel_rfl
    · kernel_rfl
    apply rem_sure 13 (by kernel_rfl) rfl (wanted_none rfl)
    · intro w2 hS K hK
      go_wp2_with fail
      exact hK _ hS (Ext.refl _)
    · kernel_rfl
    · kernel_rfl
    refine rem_nil ?_
    intro v9 hS9 hE9
    go_wp2
    go_ret
    exact ⟨rfl, hS9.2⟩
  · have cA := conv_nil
    go_wp2_with fail
    refine (neg_no _ n0 cg _ h).mono ?_
    rintro e w4 ⟨rfl, rfl⟩
    go_wp2_with fail
    refine (tneg_no _ n0 c0 _ h).mono ?_
    rintro e w5 ⟨rfl, rfl⟩
    go_wp2_with fail
    refine (num_any _ _).mono ?_
    rintro e w' ⟨rfl, rfl⟩
    go_wp2_with fail
    refine (knows_any _).mono ?_
    rintro e w9 ⟨rfl, hb9⟩
    go_wp2
    go_ret
    exact ⟨rfl, bjoin hb1 hb9⟩
end Go.Proofs.Ytdcfpgclnhacmaa
