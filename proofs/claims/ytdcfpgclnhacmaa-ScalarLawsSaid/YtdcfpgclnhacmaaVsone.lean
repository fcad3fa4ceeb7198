/- The walk of ScalarOne. No condition. -/
import Derived.Test.YtdcfpgclnhacmaaXb
namespace Go.Proofs.Ytdcfpgclnhacmaa
open Go Go.RowKit
theorem reduce_can (p : Option Addr) (n cap : Nat) (l : List Int) (A : Int) (w : World) (hn : n ≤ 64) (hr : Bs w p n l) (vA : Vm l A) :
    Calls Try.prog 17 #[.slice p n cap] w fun e w' => ∃ b, e = .returned (.tuple #[.slice (some ⟨b, 0, none⟩) 32 32, .int .i64 0]) ∧ Bs w' (some ⟨b, 0, none⟩) 32 (b32 (A % LL)) ∧ Below w.heap.size w w' := by
  refine (reduce_yes p n cap l w hn hr).mono ?_
  rintro e w' ⟨b, rfl, _, hB, hbel⟩
  exact ⟨b, rfl, by rw [← mod_of vA]; exact hB, hbel⟩
set_option maxHeartbeats 8000000 in
set_option maxRecDepth 100000 in
theorem scalarOne_walk (a0 : Option Addr) (n0 c0 : Nat) (l0 : List Int) (w : World) (b0 : Bs w a0 n0 l0) (_e0 : n0 ≤ c0) (_g0 : c0 ≤ 140737488351232) :
    Calls Try.prog 7 #[.slice a0 n0 c0] w fun e w' => e = .returned (.bool true) ∧ Below w.heap.size w w' := by
  go_enter Try.func7, Try.ntmps7
  go_wp2_with fail
  refine (fit_any a0 n0 c0 l0 _ b0).mono ?_
  rintro e w1 ⟨g0, rfl, hA, hb⟩
  generalize fitL l0 = la at *
  clear b0
  go_wp2_with fail
  refine (reduce_can _ 32 32 la (vd 256 la) _ (by omega) hA (Vm.self la)).mono ?_
  rintro e w2 ⟨b, rfl, hB, hb2⟩
  have hA := hA.keep hb2
  have hb := bjoin hb hb2
  have hci := canon_iff hA.1 hA.2.1
  have hla := hA.2.1
  clear hb2
  by_cases hlt : vd 256 la < LL
  · have hdec : decide (vd 256 la < LL) = true := by simpa using hlt
    rw [hci.2 hlt] at hB
    have hst0 : SBy w [] w2 := ⟨by simp, hb⟩
    have hst := (hst0.add hA).add hB
    clear hst0 hb hA hB hci hla hlt
    go_wp2_with fail
    refine wp_region_rem (SBy w [((some ⟨b, 0, none⟩), la), ((some ⟨g0, 0, none⟩), la)]) (by kernel_rfl) (by kernel_rfl) (fun _ _ d _ _ h => by cases d <;> exact h) hst.drew ?_
    apply rem_sure 0 (by kernel_rfl) rfl (wanted_none rfl)
    · intro w2 hS K hK
      go_wp2_with fail
      exact hK _ hS (Ext.refl _)
    · kernel_rfl
    · kernel_rfl
    refine rem_one 1 (by kernel_rfl) (step_of rfl (wanted_none rfl) ?_)
    intro v21 hS21 hE21 K hK
    go_wp2_with fail
    refine (num_any _ _).mono ?_
    rintro e u21 ⟨rfl, rfl⟩
    refine hK _ _ hS21 ?_
    clear hK K
    try simp only [put_some, List.setIfInBounds_toArray, List.set_cons_succ, List.set_cons_zero]
    apply rem_sure 2 (by kernel_rfl) rfl (wanted_none rfl)
    · intro w2 hS K hK
      go_wp2_with fail
      exact hK _ hS (Ext.refl _)
    · kernel_rfl
    · kernel_rfl
    apply rem_sure 3 (by kernel_rfl) rfl (wanted_none rfl)
    · intro w2 hS K hK
      go_wp2_with fail
      exact hK _ hS (Ext.refl _)
    · kernel_rfl
    · kernel_rfl
    apply rem_sure 4 (by kernel_rfl) rfl (by kernel_rfl)
    · intro w2 hS K hK
      go_wp2_with fail
      exact hK _ hS (Ext.refl _)
    · kernel_rfl
    · kernel_rfl
    apply rem_sure 6 (by kernel_rfl) rfl (by kernel_rfl)
    · intro w2 hS K hK
      go_wp2_with fail
      exact hK _ hS (Ext.refl _)
    · kernel_rfl
    · kernel_rfl
    apply rem_sure 7 (by kernel_rfl) rfl (by kernel_rfl)
    · intro w2 hS K hK
      have cv := conv_at (cap := 32) (hS.at_ (p := (some ⟨b, 0, none⟩)) (l := la) (by simp))
      go_wp2_with fail
      exact hK _ hS (Ext.refl _)
    · kernel_rfl
    · kernel_rfl
    apply rem_sure 8 (by kernel_rfl) rfl (by kernel_rfl)
    · intro w2 hS K hK
      go_wp2_with fail
      exact hK _ hS (Ext.refl _)
    · kernel_rfl
    · kernel_rfl
    apply rem_sure 9 (by kernel_rfl) rfl (by kernel_rfl)
    · intro w2 hS K hK
      have cv := conv_at (cap := 32) (hS.at_ (p := (some ⟨g0, 0, none⟩)) (l := la) (by simp))
      go_wp2_with fail
      exact hK _ hS (Ext.refl _)
    · kernel_rfl
    · kernel_rfl
    apply rem_sure 10 (by kernel_rfl) rfl (by kernel_rfl)
    · intro w2 hS K hK
      go_wp2_with fail
      exact hK _ hS (Ext.refl _)
    · kernel_rfl
    · kernel_rfl
    refine rem_one 5 (by kernel_rfl) (step_of rfl (by kernel_rfl) ?_)
    intro v22 hS22 hE22 K hK
    go_wp2_with fail
    refine (canonical_yes _ _ la _ (hS22.at_ (p := (some ⟨g0, 0, none⟩)) (l := la) (by simp))).mono ?_
    rintro e u22 ⟨rfl, hk22⟩
    rw [hdec]
    refine hK _ _ (hS22.keep hk22) ?_
    clear hK K
    try simp only [put_some, List.setIfInBounds_toArray, List.set_cons_succ, List.set_cons_zero]
    apply rem_sure 11 (by kernel_rfl) rfl (by kernel_rfl)
    · intro w2 hS K hK
      go_wp2_with fail
      exact hK _ hS (Ext.refl _)
    · kernel_rfl
    · kernel_rfl
    apply rem_sure 12 (by kernel_rfl) rfl (wanted_none rfl)
    · intro w2 hS K hK
      go_wp2_with fail
      exact hK _ hS (Ext.refl _)
    · kernel_rfl
    · kernel_rfl
    apply rem_sure 13 (by kernel_rfl) rfl (wanted_none rfl)
    · intro w2 hS K hK
      go_wp2_with fail
      exact hK _ hS (Ext.refl _)
    · kernel_rfl
    · kernel_rfl
    apply rem_sure 14 (by kernel_rfl) rfl (by kernel_rfl)
    · intro w2 hS K hK
      go_wp2_with fail
      exact hK _ hS (Ext.refl _)
    · kernel_rfl
    · kernel_rfl
    refine rem_one 15 (by kernel_rfl) (step_of rfl (by kernel_rfl) ?_)
    intro v23 hS23 hE23 K hK
    go_wp2_with fail
    refine (canonical_yes _ _ la _ (hS23.at_ (p := (some ⟨b, 0, none⟩)) (l := la) (by simp))).mono ?_
    rintro e u23 ⟨rfl, hk23⟩
    rw [hdec]
    refine hK _ _ (hS23.keep hk23) ?_
    clear hK K
    try simp only [put_some, List.setIfInBounds_toArray, List.set_cons_succ, List.set_cons_zero]
    apply rem_sure 16 (by kernel_rfl) rfl (wanted_none rfl)
    · intro w2 hS K hK
      go_wp2_with fail
      exact hK _ hS (Ext.refl _)
    · kernel_rfl
    · kernel_rfl
    apply rem_sure 17 (by kernel_rfl) rfl (wanted_none rfl)
    · intro w2 hS K hK
      go_wp2_with fail
      exact hK _ hS (Ext.refl _)
    · kernel_rfl
    · kernel_rfl
    refine rem_one 18 (by kernel_rfl) (step_of rfl (by kernel_rfl) ?_)
    intro v24 hS24 hE24 K hK
    go_wp2_with fail
    refine (knows_any _).mono ?_
    rintro e u24 ⟨rfl, hk24⟩
    refine hK _ _ (hS24.keep hk24) ?_
    clear hK K
    try simp only [put_some, List.setIfInBounds_toArray, List.set_cons_succ, List.set_cons_zero]
    apply rem_sure 19 (by kernel_rfl) rfl (wanted_none rfl)
    · intro w2 hS K hK
      go_wp2_with fail
      exact hK _ hS (Ext.refl _)
    · kernel_rfl
    · kernel_rfl
    apply rem_sure 20 (by kernel_rfl) rfl (wanted_none rfl)
    · intro w2 hS K hK
      go_wp2_with fail
      exact hK _ hS (Ext.refl _)
    · kernel_rfl
    · kernel_rfl
    refine rem_nil ?_
    intro v9 hS9 hE9
    go_wp2
    go_ret
    exact ⟨rfl, hS9.2⟩
  · have hdec : decide (vd 256 la < LL) = false := by simpa using hlt
    have he : ((strOfNums (b32 (vd 256 la % LL))).toList == (strOfNums la).toList) = false := by
      rw [str_eq (b32_in _) hla, decide_eq_false fun e => hlt (hci.1 e)]
    have hst0 : SBy w [] w2 := ⟨by simp, hb⟩
    have hst := (hst0.add hA).add hB
    clear hst0 hb hA hB hci hla hlt
    go_wp2_with fail
    refine wp_region_rem (SBy w [((some ⟨b, 0, none⟩), (b32 (vd 256 la % LL))), ((some ⟨g0, 0, none⟩), la)]) (by kernel_rfl) (by kernel_rfl) (fun _ _ d _ _ h => by cases d <;> exact h) hst.drew ?_
    apply rem_sure 0 (by kernel_rfl) rfl (wanted_none rfl)
    · intro w2 hS K hK
      go_wp2_with fail
      exact hK _ hS (Ext.refl _)
    · kernel_rfl
    · kernel_rfl
    refine rem_one 1 (by kernel_rfl) (step_of rfl (wanted_none rfl) ?_)
    intro v21 hS21 hE21 K hK
    go_wp2_with fail
    refine (num_any _ _).mono ?_
    rintro e u21 ⟨rfl, rfl⟩
    refine hK _ _ hS21 ?_
    clear hK K
    try simp only [put_some, List.setIfInBounds_toArray, List.set_cons_succ, List.set_cons_zero]
    apply rem_sure 2 (by kernel_rfl) rfl (wanted_none rfl)
    · intro w2 hS K hK
      go_wp2_with fail
      exact hK _ hS (Ext.refl _)
    · kernel_rfl
    · kernel_rfl
    apply rem_sure 3 (by kernel_rfl) rfl (wanted_none rfl)
    · intro w2 hS K hK
      go_wp2_with fail
      exact hK _ hS (Ext.refl _)
    · kernel_rfl
    · kernel_rfl
    apply rem_sure 4 (by kernel_rfl) rfl (by kernel_rfl)
    · intro w2 hS K hK
      go_wp2_with fail
      exact hK _ hS (Ext.refl _)
    · kernel_rfl
    · kernel_rfl
    apply rem_sure 6 (by kernel_rfl) rfl (by kernel_rfl)
    · intro w2 hS K hK
      go_wp2_with fail
      exact hK _ hS (Ext.refl _)
    · kernel_rfl
    · kernel_rfl
    apply rem_sure 7 (by kernel_rfl) rfl (by kernel_rfl)
    · intro w2 hS K hK
      have cv := conv_at (cap := 32) (hS.at_ (p := (some ⟨b, 0, none⟩)) (l := (b32 (vd 256 la % LL))) (by simp))
      go_wp2_with fail
      exact hK _ hS (Ext.refl _)
    · kernel_rfl
    · kernel_rfl
    apply rem_sure 8 (by kernel_rfl) rfl (by kernel_rfl)
    · intro w2 hS K hK
      go_wp2_with fail
      exact hK _ hS (Ext.refl _)
    · kernel_rfl
    · kernel_rfl
    apply rem_sure 9 (by kernel_rfl) rfl (by kernel_rfl)
    · intro w2 hS K hK
      have cv := conv_at (cap := 32) (hS.at_ (p := (some ⟨g0, 0, none⟩)) (l := la) (by simp))
      go_wp2_with fail
      exact hK _ hS (Ext.refl _)
    · kernel_rfl
    · kernel_rfl
    apply rem_sure 10 (by kernel_rfl) rfl (by kernel_rfl)
    · intro w2 hS K hK
      go_wp2_with fail
      exact hK _ hS (Ext.refl _)
    · kernel_rfl
    · kernel_rfl
    refine rem_one 5 (by kernel_rfl) (step_of rfl (by kernel_rfl) ?_)
    intro v22 hS22 hE22 K hK
    go_wp2_with fail
    refine (canonical_yes _ _ la _ (hS22.at_ (p := (some ⟨g0, 0, none⟩)) (l := la) (by simp))).mono ?_
    rintro e u22 ⟨rfl, hk22⟩
    rw [hdec]
    refine hK _ _ (hS22.keep hk22) ?_
    clear hK K
    try simp only [put_some, List.setIfInBounds_toArray, List.set_cons_succ, List.set_cons_zero]
    apply rem_sure 11 (by kernel_rfl) rfl (by kernel_rfl)
    · intro w2 hS K hK
      go_wp2_with fail
      exact hK _ hS (Ext.refl _)
    · kernel_rfl
    · kernel_rfl
    apply rem_sure 12 (by kernel_rfl) rfl (wanted_none rfl)
    · intro w2 hS K hK
      go_wp2_with fail
      exact hK _ hS (Ext.refl _)
    · kernel_rfl
    · kernel_rfl
    apply rem_sure 13 (by kernel_rfl) rfl (wanted_none rfl)
    · intro w2 hS K hK
      go_wp2_with fail
      exact hK _ hS (Ext.refl _)
    · kernel_rfl
    · kernel_rfl
    apply rem_sure 14 (by kernel_rfl) rfl (by kernel_rfl)
    · intro w2 hS K hK
      go_wp2_with fail
      exact hK _ hS (Ext.refl _)
    · kernel_rfl
    · kernel_rfl
    refine rem_one 15 (by kernel_rfl) (step_of rfl (by kernel_rfl) ?_)
    intro v23 hS23 hE23 K hK
    go_wp2_with fail
    refine (canonical_can _ _ (vd 256 la) _ (hS23.at_ (p := (some ⟨b, 0, none⟩)) (l := (b32 (vd 256 la % LL))) (by simp))).mono ?_
    rintro e u23 ⟨rfl, hk23⟩
    refine hK _ _ (hS23.keep hk23) ?_
    clear hK K
    try simp only [put_some, List.setIfInBounds_toArray, List.set_cons_succ, List.set_cons_zero]
    apply rem_sure 16 (by kernel_rfl) rfl (wanted_none rfl)
    · intro w2 hS K hK
      go_wp2_with fail
      exact hK _ hS (Ext.refl _)
    · kernel_rfl
    · kernel_rfl
    apply rem_sure 17 (by kernel_rfl) rfl (wanted_none rfl)
    · intro w2 hS K hK
      go_wp2_with fail
      exact hK _ hS (Ext.refl _)
    · kernel_rfl
    · kernel_rfl
    refine rem_one 18 (by kernel_rfl) (step_of rfl (by kernel_rfl) ?_)
    intro v24 hS24 hE24 K hK
    go_wp2_with fail
    refine (knows_any _).mono ?_
    rintro e u24 ⟨rfl, hk24⟩
    refine hK _ _ (hS24.keep hk24) ?_
    clear hK K
    try simp only [put_some, List.setIfInBounds_toArray, List.set_cons_succ, List.set_cons_zero]
    apply rem_sure 19 (by kernel_rfl) rfl (wanted_none rfl)
    · intro w2 hS K hK
      go_wp2_with fail
      exact hK _ hS (Ext.refl _)
    · kernel_rfl
    · kernel_rfl
    apply rem_sure 20 (by kernel_rfl) rfl (wanted_none rfl)
    · intro w2 hS K hK
      go_wp2_with fail
      exact hK _ hS (Ext.refl _)
    · kernel_rfl
    · kernel_rfl
    refine rem_nil ?_
    intro v9 hS9 hE9
    go_wp2
    go_ret
    exact ⟨rfl, hS9.2⟩
end Go.Proofs.Ytdcfpgclnhacmaa
