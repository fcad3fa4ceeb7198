/- The walk of synodlaw04.knows. No condition. -/
import Derived.Test.YtdcfpgclnhacmaaXa
namespace Go.Proofs.Ytdcfpgclnhacmaa
open Go Go.RowKit
theorem canonical_can (p : Option Addr) (cap : Nat) (N : Int) (w : World) (h : Bs w p 32 (b32 (N % LL))) :
    Calls Try.prog 19 #[.slice p 32 cap] w fun e w' => e = .returned (.bool true) ∧ Below w.heap.size w w' := by
  refine (canonical_yes p cap _ w h).mono ?_
  rintro e w' ⟨rfl, hb⟩
  rw [vd_b32 (mod_LL N)]
  exact ⟨by rw [decide_eq_true (mod_LL N).2], hb⟩
theorem neg_can (p : Option Addr) (cap : Nat) (l : List Int) (A : Int) (w : World) (hr : Bs w p 32 l) (vA : Vm l A) :
    Calls Try.prog 14 #[.slice p 32 cap] w fun e w' => ∃ b, e = .returned (.tuple #[.slice (some ⟨b, 0, none⟩) 32 32, .int .i64 0]) ∧ Bs w' (some ⟨b, 0, none⟩) 32 (b32 ((-A) % LL)) ∧ Below w.heap.size w w' := by
  refine (neg_yes p cap l w hr).mono ?_
  rintro e w' ⟨b, rfl, _, hB, hbel⟩
  refine ⟨b, rfl, ?_, hbel⟩
  rw [← mod_of (N := -vd 256 l) (M := -A) (by
    obtain ⟨x, hx⟩ := vA
    exact ⟨-x, by generalize LL = L at *; grind⟩)]
  exact hB
theorem small_bs (n : Int) (w : World) {w2 : World} {l : List Int} (e : l = n :: zl31) (hn : 0 ≤ n ∧ n < 256) (hu : w.alloc (.cells (sm n) 5) = w2) : Below w.heap.size w w2 ∧ Bs w2 (some ⟨w.heap.size, 0, none⟩) 32 l := by
  subst e
  subst hu
  exact ⟨(Below.refl _ _).alloc (Nat.le_refl _) _, bs_sm hn (heap_alloc_new w _)⟩
theorem small_can2 : b32 (2 % LL) = 2 :: zl31 := by decide +kernel
theorem small_can3 : b32 (3 % LL) = 3 :: zl31 := by decide +kernel
theorem small_can4 : b32 (4 % LL) = 4 :: zl31 := by decide +kernel
set_option maxRecDepth 100000 in
set_option maxHeartbeats 8000000 in
theorem knows_any (w : World) :
    Calls Try.prog 13 #[] w fun e w' => e = .returned (.bool true) ∧ Below w.heap.size w w' := by
  go_enter Try.func13, Try.ntmps13
  go_wp2_with fail
  refine (small_any 2 _).mono ?_
  rintro e w1 ⟨rfl, hu⟩
  obtain ⟨hb1, h2⟩ := small_bs 2 w small_can2 (by omega) hu
  clear hu
  go_wp2_with fail
  refine (small_any 3 _).mono ?_
  rintro e w2 ⟨rfl, hu⟩
  obtain ⟨hb2, h3⟩ := small_bs 3 w1 small_can3 (by omega) hu
  clear hu
  go_wp2_with fail
  refine (small_any 4 _).mono ?_
  rintro e w3 ⟨rfl, hu⟩
  obtain ⟨hb3, h4⟩ := small_bs 4 w2 small_can4 (by omega) hu
  clear hu
  have h2' := (h2.keep hb2).keep hb3
  have h3' := h3.keep hb3
  have hb := bjoin (bjoin hb1 hb2) hb3
  clear hb1 hb2 hb3 h2 h3
  go_wp2_with fail
  refine (muladd_can _ _ _ 32 32 32 _ _ _ 2 3 4 _ h2' h3' h4 (Vm.can 2) (Vm.can 3) (Vm.can 4)).mono ?_
  rintro e w4 ⟨b, rfl, hB, hb4⟩
  rw [show (2 * 3 + 4 : Int) = 10 from rfl] at hB
  have hb := bjoin hb hb4
  clear h2' h3' h4 hb4
  go_wp2_with fail
  refine (small_any 0 _).mono ?_
  rintro e w5 ⟨rfl, hu⟩
  obtain ⟨hb5, h0⟩ := small_bs 0 w4 small_can0 (by omega) hu
  clear hu
  have hB := hB.keep hb5
  have hb := bjoin hb hb5
  clear hb5
  go_wp2_with fail
  refine (neg_can _ 32 _ 0 _ h0 (Vm.can 0)).mono ?_
  rintro e w6 ⟨m, rfl, hM, hb6⟩
  rw [show (-0 : Int) = 0 from rfl] at hM
  have hst0 : SBy w [] w6 := ⟨by simp, bjoin hb hb6⟩
  have hst := (hst0.add hM).add (hB.keep hb6)
  clear hst0 hb hb6 hM hB h0
  go_wp2_with fail
  refine wp_region_rem (SBy w [((some ⟨b, 0, none⟩), (b32 (10 % LL))), ((some ⟨m, 0, none⟩), (b32 (0 % LL)))]) (by kernel_rfl) (by kernel_rfl) (fun _ _ d _ _ h => by cases d <;> exact h) hst.drew ?_
  apply rem_sure 0 (by kernel_rfl) rfl (wanted_none rfl)
  · intro w2 hS K hK
    go_wp2_with fail
    exact hK _ hS (Ext.refl _)
  · kernel_rfl
  · kernel_rfl
  apply rem_sure 2 (by kernel_rfl) rfl (wanted_none rfl)
  · intro w2 hS K hK
    go_wp2_with fail
    exact hK _ hS (Ext.refl _)
  · kernel_rfl
  · kernel_rfl
  refine rem_one 1 (by kernel_rfl) (step_of rfl (wanted_none rfl) ?_)
  intro v21 hS21 hE21 K hK
  go_wp2_with fail
  refine (num_any _ _).mono ?_
  rintro e u21 ⟨rfl, rfl⟩
  refine hK _ _ hS21 ?_
  clear hK K
  try simp only [put_some, List.setIfInBounds_toArray, List.set_cons_succ, List.set_cons_zero]
  refine rem_one 3 (by kernel_rfl) (step_of rfl (wanted_none rfl) ?_)
  intro v22 hS22 hE22 K hK
  go_wp2_with fail
  refine (num_any _ _).mono ?_
  rintro e u22 ⟨rfl, rfl⟩
  refine hK _ _ hS22 ?_
  clear hK K
  try simp only [put_some, List.setIfInBounds_toArray, List.set_cons_succ, List.set_cons_zero]
  apply rem_sure 4 (by kernel_rfl) rfl (wanted_none rfl)
  · intro w2 hS K hK
    go_wp2_with fail
    exact hK _ hS (Ext.refl _)
  · kernel_rfl
  · kernel_rfl
  apply rem_sure 5 (by kernel_rfl) rfl (wanted_none rfl)
  · intro w2 hS K hK
    go_wp2_with fail
    exact hK _ hS (Ext.refl _)
  · kernel_rfl
  · kernel_rfl
  apply rem_sure 6 (by kernel_rfl) rfl (wanted_none rfl)
  · intro w2 hS K hK
    go_wp2_with fail
    exact hK _ hS (Ext.refl _)
  · kernel_rfl
  · kernel_rfl
  apply rem_sure 7 (by kernel_rfl) rfl (by kernel_rfl)
  · intro w2 hS K hK
    go_wp2_with fail
    exact hK _ hS (Ext.refl _)
  · kernel_rfl
  · kernel_rfl
  apply rem_sure 8 (by kernel_rfl) rfl (by kernel_rfl)
  · intro w2 hS K hK
    have cv := conv_at (cap := 32) (hS.at_ (p := (some ⟨b, 0, none⟩)) (l := (b32 (10 % LL))) (by simp))
    go_wp2_with fail
    exact hK _ hS (Ext.refl _)
  · kernel_rfl
  · kernel_rfl
  refine rem_one 9 (by kernel_rfl) (step_of rfl (by kernel_rfl) ?_)
  intro v23 hS23 hE23 K hK
  go_wp2_with fail
  refine (small_any 10 _).mono ?_
  rintro e u23 ⟨rfl, hu23⟩
  have hk23 : Below v23.heap.size v23 u23 := by rw [← hu23]; exact (Below.refl _ _).alloc (Nat.le_refl _) _
  have hB23 : Bs u23 (some ⟨v23.heap.size, 0, none⟩) 32 (b32 (10 % LL)) := by rw [← hu23, small_can10]; exact bs_sm (by omega) (heap_alloc_new v23 _)
  refine hK _ _ (hS23.keep hk23) ?_
  clear hK K hu23
  try simp only [put_some, List.setIfInBounds_toArray, List.set_cons_succ, List.set_cons_zero]
  refine rem_add (p := (some ⟨v23.heap.size, 0, none⟩)) (l := (b32 (10 % LL))) hB23 ?_
  apply rem_sure 10 (by kernel_rfl) rfl (by kernel_rfl)
  · intro w2 hS K hK
    have cv := conv_at (cap := 32) (hS.at_ (p := (some ⟨v23.heap.size, 0, none⟩)) (l := (b32 (10 % LL))) (by simp))
    go_wp2_with fail
    exact hK _ hS (Ext.refl _)
  · kernel_rfl
  · kernel_rfl
  apply rem_sure 11 (by kernel_rfl) rfl (by kernel_rfl)
  · intro w2 hS K hK
    go_wp2_with fail
    exact hK _ hS (Ext.refl _)
  · kernel_rfl
  · kernel_rfl
  apply rem_sure 12 (by kernel_rfl) rfl (wanted_none rfl)
  · intro w2 hS K hK
    go_wp2_with fail
    exact hK _ hS (Ext.refl _)
  · kernel_rfl
  · kernel_rfl
  apply rem_sure 13 (by kernel_rfl) rfl (wanted_none rfl)
  · intro w2 hS K hK
    go_wp2_with fail
    exact hK _ hS (Ext.refl _)
  · kernel_rfl
  · kernel_rfl
  apply rem_sure 14 (by kernel_rfl) rfl (by kernel_rfl)
  · intro w2 hS K hK
    go_wp2_with fail
    exact hK _ hS (Ext.refl _)
  · kernel_rfl
  · kernel_rfl
  apply rem_sure 15 (by kernel_rfl) rfl (by kernel_rfl)
  · intro w2 hS K hK
    have cv := conv_at (cap := 32) (hS.at_ (p := (some ⟨m, 0, none⟩)) (l := (b32 (0 % LL))) (by simp))
    go_wp2_with fail
    exact hK _ hS (Ext.refl _)
  · kernel_rfl
  · kernel_rfl
  refine rem_one 16 (by kernel_rfl) (step_of rfl (by kernel_rfl) ?_)
  intro v24 hS24 hE24 K hK
  go_wp2_with fail
  refine (small_any 0 _).mono ?_
  rintro e u24 ⟨rfl, hu24⟩
  have hk24 : Below v24.heap.size v24 u24 := by rw [← hu24]; exact (Below.refl _ _).alloc (Nat.le_refl _) _
  have hB24 : Bs u24 (some ⟨v24.heap.size, 0, none⟩) 32 (b32 (0 % LL)) := by rw [← hu24, small_can0]; exact bs_sm (by omega) (heap_alloc_new v24 _)
  refine hK _ _ (hS24.keep hk24) ?_
  clear hK K hu24
  try simp only [put_some, List.setIfInBounds_toArray, List.set_cons_succ, List.set_cons_zero]
  refine rem_add (p := (some ⟨v24.heap.size, 0, none⟩)) (l := (b32 (0 % LL))) hB24 ?_
  apply rem_sure 17 (by kernel_rfl) rfl (by kernel_rfl)
  · intro w2 hS K hK
    have cv := conv_at (cap := 32) (hS.at_ (p := (some ⟨v24.heap.size, 0, none⟩)) (l := (b32 (0 % LL))) (by simp))
    go_wp2_with fail
    exact hK _ hS (Ext.refl _)
  · kernel_rfl
  · kernel_rfl
  apply rem_sure 18 (by kernel_rfl) rfl (by kernel_rfl)
  · intro w2 hS K hK
    go_wp2_with fail
    exact hK _ hS (Ext.refl _)
  · kernel_rfl
  · kernel_rfl
  apply rem_sure 19 (by kernel_rfl) rfl (wanted_none rfl)
  · intro w2 hS K hK
    go_wp2_with fail
    exact hK _ hS (Ext.refl _)
  · kernel_rfl
  · kernel_rfl
  apply rem_sure 20 (by kernel_rfl) rfl (wanted_none rfl)
  · intro w2 hS K hK
    go_wp2_with fail
    exact hK _ hS (Ext.refl _)
  · kernel_rfl
  · kernel_rfl
  refine rem_one 21 (by kernel_rfl) (step_of rfl (by kernel_rfl) ?_)
  intro v25 hS25 hE25 K hK
  go_wp2_with fail
  refine (small_any 1 _).mono ?_
  rintro e u25 ⟨rfl, hu25⟩
  have hk25 : Below v25.heap.size v25 u25 := by rw [← hu25]; exact (Below.refl _ _).alloc (Nat.le_refl _) _
  have hB25 : Bs u25 (some ⟨v25.heap.size, 0, none⟩) 32 (b32 (1 % LL)) := by rw [← hu25, small_can1]; exact bs_sm (by omega) (heap_alloc_new v25 _)
  refine hK _ _ (hS25.keep hk25) ?_
  clear hK K hu25
  try simp only [put_some, List.setIfInBounds_toArray, List.set_cons_succ, List.set_cons_zero]
  refine rem_add (p := (some ⟨v25.heap.size, 0, none⟩)) (l := (b32 (1 % LL))) hB25 ?_
  refine rem_one 22 (by kernel_rfl) (step_of rfl (by kernel_rfl) ?_)
  intro v26 hS26 hE26 K hK
  go_wp2_with fail
  refine (canonical_can _ _ (1) _ (hS26.at_ (p := (some ⟨v25.heap.size, 0, none⟩)) (l := (b32 (1 % LL))) (by simp))).mono ?_
  rintro e u26 ⟨rfl, hk26⟩
  refine hK _ _ (hS26.keep hk26) ?_
  clear hK K
  try simp only [put_some, List.setIfInBounds_toArray, List.set_cons_succ, List.set_cons_zero]
  apply rem_sure 23 (by kernel_rfl) rfl (wanted_none rfl)
  · intro w2 hS K hK
    go_wp2_with fail
    exact hK _ hS (Ext.refl _)
  · kernel_rfl
  · kernel_rfl
  apply rem_sure 24 (by kernel_rfl) rfl (wanted_none rfl)
  · intro w2 hS K hK
    go_wp2_with fail
    exact hK _ hS (Ext.refl _)
  · kernel_rfl
  · kernel_rfl
  refine rem_one 25 (by kernel_rfl) (step_of rfl (by kernel_rfl) ?_)
  intro v27 hS27 hE27 K hK
  go_wp2_with fail
  refine (canonical_no none 0 0 _ (by omega) (by unfold maxLen; omega)).mono ?_
  rintro e u27 ⟨rfl, rfl⟩
  refine hK _ _ hS27 ?_
  clear hK K
  try simp only [put_some, List.setIfInBounds_toArray, List.set_cons_succ, List.set_cons_zero]
  apply rem_sure 26 (by kernel_rfl) rfl (by kernel_rfl)
  · intro w2 hS K hK
    go_wp2_with fail
    exact hK _ hS (Ext.refl _)
  · kernel_rfl
  · kernel_rfl
  apply rem_sure 27 (by kernel_rfl) rfl (wanted_none rfl)
  · intro w2 hS K hK
    go_wp2_with fail
    exact hK _ hS (Ext.refl _)
  · kernel_rfl
  · kernel_rfl
  apply rem_sure 28 (by kernel_rfl) rfl (wanted_none rfl)
  · intro w2 hS K hK
    go_wp2_with fail
    exact hK _ hS (Ext.refl _)
  · kernel_rfl
  · kernel_rfl
  refine rem_nil ?_
  intro v9 hS9 hE9
  go_wp2
  go_ret
  exact ⟨rfl, hS9.2⟩
end Go.Proofs.Ytdcfpgclnhacmaa
