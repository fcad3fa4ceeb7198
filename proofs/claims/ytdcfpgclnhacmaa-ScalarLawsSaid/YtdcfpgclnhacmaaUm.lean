/- The walk of scalar.wide.rest. No condition. -/
import Derived.Test.YtdcfpgclnhacmaaUl
import Derived.WalkMore
namespace Go.Proofs.Ytdcfpgclnhacmaa
open Go Go.RowKit
theorem rest_last (V R : Int) (h0 : 0 ≤ R) (h1 : R < LL * 2 ^ 0) (h2 : R % LL = V % LL) : R = V % LL := by
  rw [Int.pow_zero, Int.mul_one] at h1
  rw [← h2, Int.emod_eq_of_lt h0 h1]
set_option maxRecDepth 100000 in
set_option maxHeartbeats 4000000 in
theorem rest_any (V : Int) (w : World) (h0 : 0 ≤ V) (h1 : V < LL * 2 ^ (264 + 1)) :
    Calls Try.prog 27 #[.agg (arrU (w9 V))] w fun e w' => e = .returned (.agg (arrU (w9 (V % LL)))) ∧ Below w.heap.size w w' := by
  have H1 := Lib.hid h1
  clear h1
  go_enter Try.func27, Try.ntmps27
  go_wp2
  obtain ⟨W0, hW0, hz, hb0, q0, q1⟩ := two_new w (.cells (arrU (w9 V)) 40) (.cells #[.int .u64 0, .int .u64 0, .int .u64 0, .int .u64 0, .int .u64 0, .int .u64 0, .int .u64 0, .int .u64 0, .int .u64 0] 40)
  rw [hW0]
  have hS0 : St w [(w.heap.size, arrU (w9 V)), (w.heap.size + 1, #[.int .u64 0, .int .u64 0, .int .u64 0, .int .u64 0, .int .u64 0, .int .u64 0, .int .u64 0, .int .u64 0, .int .u64 0])] W0 := ⟨fun p hp => by
    simp only [List.mem_cons, List.not_mem_nil, or_false] at hp
    rcases hp with rfl | rfl
    · exact q0
    · exact q1, hb0⟩
  clear hW0 hz q0 q1 hb0
  go_step3
  go_wp2
  go_step3
  go_wp2
  go_loopw [3, 4, 5, 6, 7, 8, 9, 10, 11, 12, 13, 14, 15, 16, 17, 18, 19] (fun i _ _ _ _ _ _ _ _ _ _ _ _ _ _ _ _ wr => ∃ (m : Nat) (z R : Int), m ≤ 265 ∧ z = (m : Int) - 1 ∧ i = .int .i64 z ∧ 0 ≤ R ∧ Hid (R < LL * 2 ^ m) ∧ Hid (R % LL = V % LL) ∧ St w [(w.heap.size, arrU (w9 R)), (w.heap.size + 1, #[.int .u64 0, .int .u64 0, .int .u64 0, .int .u64 0, .int .u64 0, .int .u64 0, .int .u64 0, .int .u64 0, .int .u64 0])] wr) (fun i _ _ _ _ _ _ _ _ _ _ _ _ _ _ _ _ _ => (intOf i + 1).toNat)
  case atStart => exact ⟨265, 264, V, by omega, by omega, rfl, h0, H1, rfl, hS0⟩
  case round =>
    obtain ⟨m, z, R, hm, hz, rfl, r0, hr1, hr2, hst⟩ := hrel
    have hr1 := hr1.out
    cases m with
    | zero =>
      obtain rfl : z = -1 := by omega
      obtain rfl : R = V % LL := rest_last V R r0 hr1 hr2.out
      have s9 : (arrU (w9 (V % LL))).size = 9 := by rw [arrU_size, w9_length]
      have o9 := arrU_one (w9 (V % LL))
      have hA := hst.at_ (g := w.heap.size) (cs := arrU (w9 (V % LL))) (by simp)
      have hR := hst.at_ (g := w.heap.size + 1) (cs := #[.int .u64 0, .int .u64 0, .int .u64 0, .int .u64 0, .int .u64 0, .int .u64 0, .int .u64 0, .int .u64 0, .int .u64 0]) (by simp)
      have hbel := hst.2
      generalize hcs : arrU (w9 (V % LL)) = cs at *
      have S9 := Lib.hid s9
      have O9 := Lib.hid o9
      have HCS := Lib.hid hcs
      clear s9 o9 hcs hst hr1 hr2 hz hS0 H1
      go_wp2_with (first | (refine wpList_load_row rfl 40 _ rfl w.heap.size rfl _ _ _ _ hA Try.underlying40 rfl (by rw [S9.out]; exact infoW) ?_) | (refine wpList_store_row rfl 40 (.tmp 2) (.tmp 20) rfl (w.heap.size + 1) cs rfl rfl 40 _ hR (by rw [S9.out]; exact infoW) (by rw [S9.out]; rfl) O9.out ?_))
      try rw [Exit.noGoto_ret]
      refine ret_cell rfl (w.heap.size + 1) _ _ _ _ rfl (setRow_here hR cs) Try.underlying40 rfl (by rw [S9.out]; exact infoW) rfl ⟨by rw [HCS.out], ?_⟩
      exact below_setRow hbel (by omega) _
    | succ k =>
      obtain rfl : z = (k : Int) := by omega
      have hV9 : R < M9 := by
        have := (LLn_lt k (by omega)).1
        have e : LL * 2 ^ (k + 1) = LL * 2 ^ k * 2 := by rw [Int.pow_succ, ← Int.mul_assoc]
        have h264 : LL * 2 ^ k * 2 < M9 := by
          have h1 : LL * 2 ^ k ≤ LL * 2 ^ 264 := Int.mul_le_mul_of_nonneg_left (pow2_le (by omega)) (by unfold LL; omega)
          have h2 : LL * 2 ^ 264 * 2 < M9 := by unfold LL M9; decide +kernel
          omega
        omega
      have hf := rst_fact k R r0 hr1
      have HF := Lib.hid hf
      have HM := Lib.hid hV9
      have sD : (arrU (w9 (R - LL * 2 ^ k))).size = 9 := by rw [arrU_size, w9_length]
      have oD := Lib.hid (arrU_one (w9 (R - LL * 2 ^ k)))
      have sR : (arrU (w9 R)).size = 9 := by rw [arrU_size, w9_length]
      have SD := Lib.hid sD
      have SR := Lib.hid sR
      have hkk : decide ((k : Int) ≥ 0) = true := by simp
      have hk264 : k ≤ 264 := by omega
      have HZ := Lib.hid hz
      clear hf hV9 sD sR hr1 hz hS0 H1
      go_wp2_with fail
      refine wp_region_rem (St w [(w.heap.size, arrU (w9 R)), (w.heap.size + 1, #[.int .u64 0, .int .u64 0, .int .u64 0, .int .u64 0, .int .u64 0, .int .u64 0, .int .u64 0, .int .u64 0, .int .u64 0])]) (by kernel_rfl) (by kernel_rfl) (fun _ _ d _ _ h => by cases d <;> exact h) hst.drew ?_
      apply rem_sure 0 (by kernel_rfl) rfl (wanted_none rfl)
      · intro w2 hS K hK
        exact wp_load_row 40 _ rfl w.heap.size rfl _ (arrU (w9 R)) _ _ (hS.at_ (by simp)) Try.underlying40 rfl (by rw [SR.out]; exact infoW) (hK _ hS (Ext.refl _))
      · kernel_rfl
      · kernel_rfl
      try simp only [put_some, List.setIfInBounds_toArray, List.set_cons_succ, List.set_cons_zero]
      apply rem_sure 1 (by kernel_rfl) rfl (wanted_none rfl)
      · intro w2 hS K hK
        go_wp2_with fail
        exact hK _ hS (Ext.refl _)
      · kernel_rfl
      · kernel_rfl
      try simp only [put_some, List.setIfInBounds_toArray, List.set_cons_succ, List.set_cons_zero]
      refine rem_two 2 7 (by kernel_rfl) (step_of rfl (wanted_none rfl) ?_) (step_of rfl (wanted_none rfl) ?_)
      · intro v21 hS21 hE21 K hK
        go_wp2_with fail
        refine (shifted_any k _ hk264).mono ?_
        rintro e u21 ⟨rfl, hk21⟩
        refine hK _ _ (hS21.keep hk21) ?_
        clear hK K
        try simp only [put_some, List.setIfInBounds_toArray, List.set_cons_succ, List.set_cons_zero]
        refine rem_two 3 7 (by kernel_rfl) (step_of rfl (wanted_none rfl) ?_) (step_of rfl (wanted_none rfl) ?_)
        · intro v22 hS22 hE22 K hK
          go_wp2_with fail
          refine (minus_num R (LL * 2 ^ k) _ ⟨r0, HM.out⟩ (LLn_lt k hk264)).mono ?_
          rintro e u22 ⟨rfl, hk22⟩
          refine hK _ _ (hS22.keep hk22) ?_
          clear hK K
          try simp only [put_some, List.setIfInBounds_toArray, List.set_cons_succ, List.set_cons_zero]
          apply rem_sure 4 (by kernel_rfl) rfl (wanted_none rfl)
          · intro w2 hS K hK
            go_wp2_with fail
            exact hK _ hS (Ext.refl _)
          · kernel_rfl
          · kernel_rfl
          try simp only [put_some, List.setIfInBounds_toArray, List.set_cons_succ, List.set_cons_zero]
          apply rem_sure 5 (by kernel_rfl) rfl (wanted_none rfl)
          · intro w2 hS K hK
            go_wp2_with fail
            exact hK _ hS (Ext.refl _)
          · kernel_rfl
          · kernel_rfl
          try simp only [put_some, List.setIfInBounds_toArray, List.set_cons_succ, List.set_cons_zero]
          apply rem_sure 6 (by kernel_rfl) rfl (wanted_none rfl)
          · intro w2 hS K hK
            go_wp2_with fail
            exact hK _ hS (Ext.refl _)
          · kernel_rfl
          · kernel_rfl
          try simp only [put_some, List.setIfInBounds_toArray, List.set_cons_succ, List.set_cons_zero]
          refine rem_one 7 (by kernel_rfl) (step_of rfl (wanted_none rfl) ?_)
          intro v23 hS23 hE23 K hK
          go_wp2_with fail
          have al_X := hS23
          refine hK _ _ (hS23.alloc _) ?_
          clear hK K
          try simp only [put_some, List.setIfInBounds_toArray, List.set_cons_succ, List.set_cons_zero]
          refine rem_one 8 (by kernel_rfl) (step_of rfl (wanted_none rfl) ?_)
          intro v24 hS24 hE24 K hK
          have hg_X := (hE24 _ _ (heap_alloc_new v23 _))
          refine wp_store_row 40 _ _ rfl v23.heap.size (arrU (w9 (R - LL * 2 ^ k))) rfl rfl 40 _ hg_X (by rw [SD.out]; exact infoW) (by rw [SD.out]; rfl) oD.out ?_
          refine hK _ _ (al_X.storeNew hS24 _) ?_
          clear hK K
          try simp only [put_some, List.setIfInBounds_toArray, List.set_cons_succ, List.set_cons_zero]
          apply rem_sure 9 (by kernel_rfl) rfl (wanted_none rfl)
          · intro w2 hS K hK
            go_wp2_with fail
            exact hK _ hS (Ext.refl _)
          · kernel_rfl
          · kernel_rfl
          try simp only [put_some, List.setIfInBounds_toArray, List.set_cons_succ, List.set_cons_zero]
          refine rem_nil ?_
          intro v9 hS9 hE9
          have hX := (hE9 _ _ (setRow_here hg_X (arrU (w9 (R - LL * 2 ^ k)))))
          have hW := hS9.at_ (g := w.heap.size) (cs := arrU (w9 R)) (by simp)
          have hS' := hS9.set0 (Nat.le_refl _) (by simp) (arrU (w9 (R - LL * 2 ^ k)))
          obtain ⟨f0, f1, f2⟩ := HF.out
          have F2 := Lib.hid (f2.trans hr2.out)
          have HS9 := Lib.hid hS9
          have HS' := Lib.hid hS'
          clear hS9 hE9 hS' hst f2 hr2
          by_cases hle : LL * 2 ^ k ≤ R
          · have hd : decide (LL * 2 ^ k ≤ R) = true := by simpa using hle
            have er : rst k R = R - LL * 2 ^ k := by unfold rst; rw [if_pos hle]
            rw [er] at f0 f1 F2
            have F0 := Lib.hid f0
            have F1 := Lib.hid f1
            clear f0 f1 er hle
            go_wp2_with (first | (refine wpList_load_row rfl 40 _ rfl v23.heap.size rfl _ _ _ _ hX Try.underlying40 rfl (by rw [SD.out]; exact infoW) ?_) | (refine wpList_store_row rfl 40 (.tmp 1) (.tmp 19) rfl w.heap.size (arrU (w9 (R - LL * 2 ^ k))) rfl rfl 40 _ hW (by rw [SD.out]; exact infoW) (by rw [SD.out]; rfl) oD.out ?_))
            go_roundw
            case rel => exact ⟨k, (k : Int) - 1, R - LL * 2 ^ k, by omega, rfl, rfl, F0.out, F1.out, F2.out, HS'.out⟩
            case measure => simp [intOf]
          · have hd : decide (LL * 2 ^ k ≤ R) = false := by simpa using hle
            have er : rst k R = R := by unfold rst; rw [if_neg hle]
            rw [er] at f0 f1 F2
            have F0 := Lib.hid f0
            have F1 := Lib.hid f1
            clear f0 f1 er hle
            go_wp2_with fail
            go_roundw
            case rel => exact ⟨k, (k : Int) - 1, R, by omega, rfl, rfl, F0.out, F1.out, F2.out, HS9.out⟩
            case measure => simp [intOf]
        · intro v25 hS25 hE25 K hK
          go_wp2_with fail
          have al_X := hS25
          refine hK _ _ (hS25.alloc _) ?_
          clear hK K
          try simp only [put_some, List.setIfInBounds_toArray, List.set_cons_succ, List.set_cons_zero]
          refine rem_one 3 (by kernel_rfl) (step_of rfl (wanted_none rfl) ?_)
          intro v26 hS26 hE26 K hK
          go_wp2_with fail
          refine (minus_num R (LL * 2 ^ k) _ ⟨r0, HM.out⟩ (LLn_lt k hk264)).mono ?_
          rintro e u26 ⟨rfl, hk26⟩
          refine hK _ _ (hS26.keep hk26) ?_
          clear hK K
          try simp only [put_some, List.setIfInBounds_toArray, List.set_cons_succ, List.set_cons_zero]
          apply rem_sure 4 (by kernel_rfl) rfl (wanted_none rfl)
          · intro w2 hS K hK
            go_wp2_with fail
            exact hK _ hS (Ext.refl _)
          · kernel_rfl
          · kernel_rfl
          try simp only [put_some, List.setIfInBounds_toArray, List.set_cons_succ, List.set_cons_zero]
          apply rem_sure 5 (by kernel_rfl) rfl (wanted_none rfl)
          · intro w2 hS K hK
            go_wp2_with fail
            exact hK _ hS (Ext.refl _)
          · kernel_rfl
          · kernel_rfl
          try simp only [put_some, List.setIfInBounds_toArray, List.set_cons_succ, List.set_cons_zero]
          apply rem_sure 6 (by kernel_rfl) rfl (wanted_none rfl)
          · intro w2 hS K hK
            go_wp2_with fail
            exact hK _ hS (Ext.refl _)
          · kernel_rfl
          · kernel_rfl
          try simp only [put_some, List.setIfInBounds_toArray, List.set_cons_succ, List.set_cons_zero]
          refine rem_one 8 (by kernel_rfl) (step_of rfl (wanted_none rfl) ?_)
          intro v27 hS27 hE27 K hK
          have hg_X := (hE27 _ _ (block_stay hk26 (hE26 _ _ (heap_alloc_new v25 _))))
          refine wp_store_row 40 _ _ rfl v25.heap.size (arrU (w9 (R - LL * 2 ^ k))) rfl rfl 40 _ hg_X (by rw [SD.out]; exact infoW) (by rw [SD.out]; rfl) oD.out ?_
          refine hK _ _ (al_X.storeNew hS27 _) ?_
          clear hK K
          try simp only [put_some, List.setIfInBounds_toArray, List.set_cons_succ, List.set_cons_zero]
          apply rem_sure 9 (by kernel_rfl) rfl (wanted_none rfl)
          · intro w2 hS K hK
            go_wp2_with fail
            exact hK _ hS (Ext.refl _)
          · kernel_rfl
          · kernel_rfl
          try simp only [put_some, List.setIfInBounds_toArray, List.set_cons_succ, List.set_cons_zero]
          refine rem_nil ?_
          intro v9 hS9 hE9
          have hX := (hE9 _ _ (setRow_here hg_X (arrU (w9 (R - LL * 2 ^ k)))))
          have hW := hS9.at_ (g := w.heap.size) (cs := arrU (w9 R)) (by simp)
          have hS' := hS9.set0 (Nat.le_refl _) (by simp) (arrU (w9 (R - LL * 2 ^ k)))
          obtain ⟨f0, f1, f2⟩ := HF.out
          have F2 := Lib.hid (f2.trans hr2.out)
          have HS9 := Lib.hid hS9
          have HS' := Lib.hid hS'
          clear hS9 hE9 hS' hst f2 hr2
          by_cases hle : LL * 2 ^ k ≤ R
          · have hd : decide (LL * 2 ^ k ≤ R) = true := by simpa using hle
            have er : rst k R = R - LL * 2 ^ k := by unfold rst; rw [if_pos hle]
            rw [er] at f0 f1 F2
            have F0 := Lib.hid f0
            have F1 := Lib.hid f1
            clear f0 f1 er hle
            go_wp2_with (first | (refine wpList_load_row rfl 40 _ rfl v25.heap.size rfl _ _ _ _ hX Try.underlying40 rfl (by rw [SD.out]; exact infoW) ?_) | (refine wpList_store_row rfl 40 (.tmp 1) (.tmp 19) rfl w.heap.size (arrU (w9 (R - LL * 2 ^ k))) rfl rfl 40 _ hW (by rw [SD.out]; exact infoW) (by rw [SD.out]; rfl) oD.out ?_))
            go_roundw
            case rel => exact ⟨k, (k : Int) - 1, R - LL * 2 ^ k, by omega, rfl, rfl, F0.out, F1.out, F2.out, HS'.out⟩
            case measure => simp [intOf]
          · have hd : decide (LL * 2 ^ k ≤ R) = false := by simpa using hle
            have er : rst k R = R := by unfold rst; rw [if_neg hle]
            rw [er] at f0 f1 F2
            have F0 := Lib.hid f0
            have F1 := Lib.hid f1
            clear f0 f1 er hle
            go_wp2_with fail
            go_roundw
            case rel => exact ⟨k, (k : Int) - 1, R, by omega, rfl, rfl, F0.out, F1.out, F2.out, HS9.out⟩
            case measure => simp [intOf]
      · intro v28 hS28 hE28 K hK
        go_wp2_with fail
        have al_X := hS28
        refine hK _ _ (hS28.alloc _) ?_
        clear hK K
        try simp only [put_some, List.setIfInBounds_toArray, List.set_cons_succ, List.set_cons_zero]
        refine rem_one 2 (by kernel_rfl) (step_of rfl (wanted_none rfl) ?_)
        intro v29 hS29 hE29 K hK
        go_wp2_with fail
        refine (shifted_any k _ hk264).mono ?_
        rintro e u29 ⟨rfl, hk29⟩
        refine hK _ _ (hS29.keep hk29) ?_
        clear hK K
        try simp only [put_some, List.setIfInBounds_toArray, List.set_cons_succ, List.set_cons_zero]
        refine rem_one 3 (by kernel_rfl) (step_of rfl (wanted_none rfl) ?_)
        intro v30 hS30 hE30 K hK
        go_wp2_with fail
        refine (minus_num R (LL * 2 ^ k) _ ⟨r0, HM.out⟩ (LLn_lt k hk264)).mono ?_
        rintro e u30 ⟨rfl, hk30⟩
        refine hK _ _ (hS30.keep hk30) ?_
        clear hK K
        try simp only [put_some, List.setIfInBounds_toArray, List.set_cons_succ, List.set_cons_zero]
        apply rem_sure 4 (by kernel_rfl) rfl (wanted_none rfl)
        · intro w2 hS K hK
          go_wp2_with fail
          exact hK _ hS (Ext.refl _)
        · kernel_rfl
        · kernel_rfl
        try simp only [put_some, List.setIfInBounds_toArray, List.set_cons_succ, List.set_cons_zero]
        apply rem_sure 5 (by kernel_rfl) rfl (wanted_none rfl)
        · intro w2 hS K hK
          go_wp2_with fail
          exact hK _ hS (Ext.refl _)
        · kernel_rfl
        · kernel_rfl
        try simp only [put_some, List.setIfInBounds_toArray, List.set_cons_succ, List.set_cons_zero]
        apply rem_sure 6 (by kernel_rfl) rfl (wanted_none rfl)
        · intro w2 hS K hK
          go_wp2_with fail
          exact hK _ hS (Ext.refl _)
        · kernel_rfl
        · kernel_rfl
        try simp only [put_some, List.setIfInBounds_toArray, List.set_cons_succ, List.set_cons_zero]
        refine rem_one 8 (by kernel_rfl) (step_of rfl (wanted_none rfl) ?_)
        intro v31 hS31 hE31 K hK
        have hg_X := (hE31 _ _ (block_stay hk30 (hE30 _ _ (block_stay hk29 (hE29 _ _ (heap_alloc_new v28 _))))))
        refine wp_store_row 40 _ _ rfl v28.heap.size (arrU (w9 (R - LL * 2 ^ k))) rfl rfl 40 _ hg_X (by rw [SD.out]; exact infoW) (by rw [SD.out]; rfl) oD.out ?_
        refine hK _ _ (al_X.storeNew hS31 _) ?_
        clear hK K
        try simp only [put_some, List.setIfInBounds_toArray, List.set_cons_succ, List.set_cons_zero]
        apply rem_sure 9 (by kernel_rfl) rfl (wanted_none rfl)
        · intro w2 hS K hK
          go_wp2_with fail
          exact hK _ hS (Ext.refl _)
        · kernel_rfl
        · kernel_rfl
        try simp only [put_some, List.setIfInBounds_toArray, List.set_cons_succ, List.set_cons_zero]
        refine rem_nil ?_
        intro v9 hS9 hE9
        have hX := (hE9 _ _ (setRow_here hg_X (arrU (w9 (R - LL * 2 ^ k)))))
        have hW := hS9.at_ (g := w.heap.size) (cs := arrU (w9 R)) (by simp)
        have hS' := hS9.set0 (Nat.le_refl _) (by simp) (arrU (w9 (R - LL * 2 ^ k)))
        obtain ⟨f0, f1, f2⟩ := HF.out
        have F2 := Lib.hid (f2.trans hr2.out)
        have HS9 := Lib.hid hS9
        have HS' := Lib.hid hS'
        clear hS9 hE9 hS' hst f2 hr2
        by_cases hle : LL * 2 ^ k ≤ R
        · have hd : decide (LL * 2 ^ k ≤ R) = true := by simpa using hle
          have er : rst k R = R - LL * 2 ^ k := by unfold rst; rw [if_pos hle]
          rw [er] at f0 f1 F2
          have F0 := Lib.hid f0
          have F1 := Lib.hid f1
          clear f0 f1 er hle
          go_wp2_with (first | (refine wpList_load_row rfl 40 _ rfl v28.heap.size rfl _ _ _ _ hX Try.underlying40 rfl (by rw [SD.out]; exact infoW) ?_) | (refine wpList_store_row rfl 40 (.tmp 1) (.tmp 19) rfl w.heap.size (arrU (w9 (R - LL * 2 ^ k))) rfl rfl 40 _ hW (by rw [SD.out]; exact infoW) (by rw [SD.out]; rfl) oD.out ?_))
          go_roundw
          case rel => exact ⟨k, (k : Int) - 1, R - LL * 2 ^ k, by omega, rfl, rfl, F0.out, F1.out, F2.out, HS'.out⟩
          case measure => simp [intOf]
        · have hd : decide (LL * 2 ^ k ≤ R) = false := by simpa using hle
          have er : rst k R = R := by unfold rst; rw [if_neg hle]
          rw [er] at f0 f1 F2
          have F0 := Lib.hid f0
          have F1 := Lib.hid f1
          clear f0 f1 er hle
          go_wp2_with fail
          go_roundw
          case rel => exact ⟨k, (k : Int) - 1, R, by omega, rfl, rfl, F0.out, F1.out, F2.out, HS9.out⟩
          case measure => simp [intOf]
end Go.Proofs.Ytdcfpgclnhacmaa
