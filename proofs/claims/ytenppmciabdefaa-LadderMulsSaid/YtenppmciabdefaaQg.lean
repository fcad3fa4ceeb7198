/- The walk of ladder.Mul. No condition. -/
import Derived.Test.YtenppmciabdefaaQf
namespace Go.Proofs.Ytenppmciabdefaa
open Go Go.RowKit Go.Shelf
set_option linter.unusedSimpArgs false
attribute [local go_sem] Oper.semAt_some
set_option maxRecDepth 100000 in
set_option maxHeartbeats 8000000 in
theorem name_tmps {P : Program} {F : Fence} {n : Nat} {Q : Exit → Act → World → Prop} {T : Array Value} {ds : List Deferred} {c : Code} {w : World} (h : ∀ T', T' = T → c.wpIn F n P Q { tmps := T', defers := ds } w) : c.wpIn F n P Q { tmps := T, defers := ds } w := h _ rfl
set_option maxRecDepth 100000 in
set_option maxHeartbeats 8000000 in
theorem mul_yes (pk pu : Option Addr) (ck cu : Nat) (lk lu : List Int) (w : World) (hk : Bs w pk 32 lk) (hu : Bs w pu 32 lu) :
    Calls Try.prog 57 #[.slice pk 32 ck, .slice pu 32 cu] w fun e w' => ∃ b, e = .returned (.tuple #[.slice (some ⟨b, 0, none⟩) 32 32, .int .i64 0]) ∧ w.heap.size ≤ b ∧ IsB w' b (leB (mulN lk lu % PP)) ∧ Below w.heap.size w w' := by
  refine (callsIn_wide (n := 8)).1 (callsIn_of_wp_marks Try.func57 rfl trivial (wpIn_wide.2 ?_) rfl)
  simp only [Try.ntmps57, List.size_toArray, List.length_cons, List.length_nil, Nat.reduceAdd, Nat.reduceSub, Array.replicate_succ, Array.replicate_zero, List.push_toArray, List.append_toArray, List.nil_append, List.cons_append]
  have hkin := Lib.hid hk.2.1
  go_wp2_with fail
  refine (clamp_yes pk ck lk _ hk).mono ?_
  rintro e w1 ⟨gk, c1, rfl, hc1, _, hgk, hgklt, hK, hb1⟩
  have hu1 := hu.keep hb1
  go_wp2_with fail
  refine (clone_any pu 32 cu lu _ (by omega) (by omega) hu1).mono ?_
  rintro e w2 ⟨gu, c2, rfl, hc2, _, hgu, hown, hb2⟩
  have q31 := own_cell hown hu.1 31 (by omega)
  have f31 := hown.frozenAt 31
  have x31 := byte_at hu.2.1 31
  obtain ⟨hown2, hb2'⟩ := own_set hown hb2 hb2.size 31 (lu.getD 31 0 % 128)
  obtain ⟨_, _, _, u3, _⟩ := u8_fact _ x31
  have hU0 := Bs.of_ownG hown2 (uTop_in hu.2.1)
  have hcl : Hid (lu.set 31 (lu.getD 31 0 % 128) = uTop lu) := rfl
  generalize lu.getD 31 0 = c31 at *
  rw [hcl.out] at hU0
  have hK2 := hK.keep hb2'
  have hbel2 := Below.join hb1 hb2'
  obtain ⟨w3, hw3⟩ : ∃ w3, w3 = w2.setCell ⟨gu, 31, none⟩ (.int .u8 (c31 % 128)) := ⟨_, rfl⟩
  rw [← hw3] at hU0 hK2 hbel2
  have HW3 := Lib.hid hw3
  clear hw3 hown2 hb2' hown hb1 hb2 hu1 hk hu hK
  go_wp2_with fail
  rw [← HW3.out]
  refine (gFrom_yes _ c2 (uTop lu) _ (by omega) hU0).mono ?_
  rintro e w4 ⟨X, rfl, hX, hb4⟩
  obtain ⟨x0, x1, x2, x3, x4, rfl⟩ := five_of hX
  have hK4 := hK2.keep hb4
  have hbel4 := Below.join hbel2 hb4
  clear hU0 hK2 hbel2 hb4 q31 f31 HW3
  go_wp2_with fail
  obtain ⟨w5, hw5, hz5, hb5, q5⟩ := one_new w4 (.cells #[.int .u64 x0, .int .u64 x1, .int .u64 x2, .int .u64 x3, .int .u64 x4] 46)
  rw [hw5]
  refine (gSmall_fe 1 _ (by omega) (by omega)).mono ?_
  rintro e w6 ⟨O, rfl, hO, hb6⟩
  obtain ⟨o0, o1, o2, o3, o4, rfl⟩ := five_of hO
  have hb46 := Below.join hb5 hb6
  have q6 := block_stay hb6 q5
  have hK6 := hK4.keep hb46
  have hbel6 := Below.join hbel4 hb46
  have hwb : w.heap.size ≤ w6.heap.size := hbel6.size
  have hs6 : w4.heap.size < w6.heap.size := (Array.getElem?_eq_some_iff.1 q6).1
  have HZ5 := Lib.hid hz5
  generalize w4.heap.size = g8 at *
  clear hw5 hb5 hb6 hb46 q5 hK4 hbel4 hz5
  have d0 : w6.cell? ⟨g8, 0, none⟩ = some (.int .u64 x0) := (cell_of_row w6 _ 0 _ _ _ q6).trans rfl
  have d1 : w6.cell? ⟨g8, 1, none⟩ = some (.int .u64 x1) := (cell_of_row w6 _ 1 _ _ _ q6).trans rfl
  have d2 : w6.cell? ⟨g8, 2, none⟩ = some (.int .u64 x2) := (cell_of_row w6 _ 2 _ _ _ q6).trans rfl
  have d3 : w6.cell? ⟨g8, 3, none⟩ = some (.int .u64 x3) := (cell_of_row w6 _ 3 _ _ _ q6).trans rfl
  have d4 : w6.cell? ⟨g8, 4, none⟩ = some (.int .u64 x4) := (cell_of_row w6 _ 4 _ _ _ q6).trans rfl
  go_wp2_with fail
  refine (lbits_any _ _ ⟨_, _, _, rfl⟩).mono ?_
  rintro e w7 ⟨rfl, hw7⟩
  obtain ⟨W7, hW7, hz7, hb7, q0, q1, q2, q3⟩ := four_new w6 (.cells #[.int .u64 o0, .int .u64 o1, .int .u64 o2, .int .u64 o3, .int .u64 o4] 46) (.cells #[.int .u64 o0, .int .u64 o1, .int .u64 o2, .int .u64 o3, .int .u64 o4, .int .u64 0, .int .u64 0, .int .u64 0, .int .u64 0, .int .u64 0, .int .u64 x0, .int .u64 x1, .int .u64 x2, .int .u64 x3, .int .u64 x4, .int .u64 o0, .int .u64 o1, .int .u64 o2, .int .u64 o3, .int .u64 o4, .int .u64 x0, .int .u64 x1, .int .u64 x2, .int .u64 x3, .int .u64 x4] 86) (.cells #[.pointer (some ⟨w6.heap.size + 1, 0, none⟩)] 82) (.cells #[.slice (some ⟨gk, 0, none⟩) 32 c1] 22)
  rw [hW7] at hw7
  subst hw7
  have hK7 := hK6.keep hb7
  have hbel7 := Below.join hbel6 hb7
  have hgk6 : gk < w6.heap.size := by have := World.block_lt_of_cell? w6 _ (hK6.cell 0 (by omega)); exact this
  clear hW7 hb7 hK6 d0 d1 d2 d3 d4 q6
  simp only [World.size_alloc]
  generalize w6.heap.size = h at *
  go_wp2_with fail
  have hKc : ∀ i, i < 32 → W7.cell? ⟨gk, i, none⟩ = some (.int .u8 ((clampL lk).getD i 0)) := fun i hi => by have := hK7.cell i hi; rwa [Nat.zero_add] at this
  have hbc : W7.cell? ⟨h + 1 + 1 + 1, 0, none⟩ = some (.slice (some ⟨gk, 0, none⟩) 32 c1) := (cell_of_row W7 _ 0 _ _ _ q3).trans rfl
  have hsz : W7.heap.size = h + 4 := hz7
  have HSZ := Lib.hid hsz
  have hwh : w.heap.size ≤ h := by have := hwb; exact this
  have h0 : LadI w (h + 1) (h + 1 + 1) (valB (uTop lu)) #[.int .u64 x0, .int .u64 x1, .int .u64 x2, .int .u64 x3, .int .u64 x4] [] W7 := by
    refine ⟨⟨#[.int .u64 o0, .int .u64 o1, .int .u64 o2, .int .u64 o3, .int .u64 o4], #[.int .u64 0, .int .u64 0, .int .u64 0, .int .u64 0, .int .u64 0], #[.int .u64 x0, .int .u64 x1, .int .u64 x2, .int .u64 x3, .int .u64 x4], #[.int .u64 o0, .int .u64 o1, .int .u64 o2, .int .u64 o3, .int .u64 o4], ⟨hO, fe_zero, hX, hO⟩, World.rangeAt_of_block q1 0 10, World.rangeAt_of_block q1 10 10, World.rangeAt_of_block q1 20 5, ?_, (cell_of_row W7 _ 0 _ _ _ q2).trans rfl, _, hbc⟩, hbel7⟩
    intro j hj
    refine ⟨?_, frozen_of_row W7 (h + 1) (0 + j) _ _ q1⟩
    rw [Nat.zero_add, cell_of_row W7 _ j _ _ _ q1, Array.getElem?_eq_getElem (by simpa using hj)]
    rfl
  clear hz7 hsz
  refine (wpIn_wide (n := 8)).1 (name_tmps ?_)
  intro T hT
  refine wpIn_rangeFunc_ownF rfl (by omega) (gf := 98) (lb := #[.pointer (some ⟨h + 1 + 1 + 1, 0, none⟩)]) (by rw [hT]; rfl) trivial (enters_of Try.func98 (by kernel_rfl) rfl)
    (bits_stops 7 (by omega) W7.heap.size (h + 1) (h + 1 + 1 + 1) gk c1 (clampL lk) W7 (Nat.le_refl _) (by rw [HSZ.out]; omega) (by rw [HSZ.out]; omega) (by omega) (by omega) (clampL_in hkin.out) hbc hKc) kpB_t (fun W l _ o' hl _ _ _ => kpB_b W l o' hl) (Below.refl _ _) (fun _ => rfl)
    (LadI w (h + 1) (h + 1 + 1) (valB (uTop lu)) #[.int .u64 x0, .int .u64 x1, .int .u64 x2, .int .u64 x3, .int .u64 x4]) (fun _ _ _ => False) (ladI_own (by rw [HSZ.out]; omega)) (fun _ _ _ _ _ hs _ _ => hs) h0 (fun x => { tmps := (T.setIfInBounds 48 (.bool x)).setIfInBounds 12 (.bool x), defers := [] }) ?assign ?body ?done ?stop
  case assign =>
    intro l x W K hK
    subst hT
    gi_wp2
    exact hK
  case stop =>
    intro D c pre W _ _ hs
    exact hs.elim
  case body =>
    rintro l pre x W ⟨⟨A0, A1, A2, A3, ⟨f0, f1, f2, f3⟩, r0, r1, r2, ht, hc, hv⟩, hbW⟩ hlen
    subst hT
    have hblt : h + 1 < W.heap.size := by
      obtain ⟨v, hv⟩ := Option.isSome_iff_exists.1 (ht 0 (by omega)).1
      exact World.block_lt_of_cell? W _ hv
    have hWL : W7.heap.size ≤ W.heap.size := by
      obtain ⟨v, hv⟩ := hv
      have := World.block_lt_of_cell? W _ hv
      rw [HSZ.out]
      exact this
    cases x
    case false =>
      gi_wp2
      refine ⟨trivial, ?_⟩
      gi_at_call 83
      refine (CallsIn.inRound l (callsIn_wide.2 (step_fe (h + 1) A0 A1 A2 A3 _ _ _ _ _ _ _ hblt r0 r1 r2 ht f0 f1 f2 f3 hX))).mono ?_
      rintro e W2 ⟨v, B0, B1, B2, B3, rfl, g0, g1, g2, g3, s0, s1, s2, st, htn⟩
      gi_wp2
      refine ⟨htn.others ht, kpB_tn htn hWL, ladI_of hc hv hbW (by omega) (by omega) htn (B0 := B0) (B1 := B1) (B2 := B2) (B3 := B3) ?_ ?_ ?_ ?_ s0 s1 s2 st⟩
      · rw [ladF_snoc]; exact g0.mod (modP _)
      · rw [ladF_snoc]; exact g1.mod (modP _)
      · rw [ladF_snoc]; exact g2.mod (modP _)
      · rw [ladF_snoc]; exact g3.mod (modP _)
    case true =>
      gi_wp2
      obtain ⟨a0, a1, a2, a3, a4, rfl⟩ := five_of f0
      obtain ⟨b0, b1, b2, b3, b4, rfl⟩ := five_of f1
      obtain ⟨m0, m1, m2, m3, m4, rfl⟩ := five_of f2
      obtain ⟨n0, n1, n2, n3, n4, rfl⟩ := five_of f3
      have hsw : SwK W (h + 1) (h + 1 + 1) #[.int .u64 x0, .int .u64 x1, .int .u64 x2, .int .u64 x3, .int .u64 x4].toList W := ⟨hc, ht, r2, Tn.refl _ _⟩
      refine wpIn_region_then (fun a b' w' => b' = ((((((((((((((a.put (some 50) (.pointer (some ⟨h + 1, 0, none⟩))).put (some 51) (.pointer (some ⟨h + 1, 0, none⟩))).put (some 52) (.pointer (some ⟨h + 1, 0, none⟩))).put (some 53) (.pointer (some ⟨h + 1, 0, none⟩))).put (some 54) (.pointer (some ⟨h + 1, 10, none⟩))).put (some 55) (.agg (pr #[.int .u64 m0, .int .u64 m1, .int .u64 m2, .int .u64 m3, .int .u64 m4] #[.int .u64 n0, .int .u64 n1, .int .u64 n2, .int .u64 n3, .int .u64 n4]).toArray)).put (some 56) (.pointer (some ⟨h + 1, 0, none⟩))).put (some 57) (.pointer (some ⟨h + 1, 0, none⟩))).put (some 58) (.pointer (some ⟨h + 1, 0, none⟩))).put (some 59) (.agg (pr #[.int .u64 a0, .int .u64 a1, .int .u64 a2, .int .u64 a3, .int .u64 a4] #[.int .u64 b0, .int .u64 b1, .int .u64 b2, .int .u64 b3, .int .u64 b4]).toArray)).put (some 60) (.pointer (some ⟨h + 1, 0, none⟩))).put (some 61) (.pointer (some ⟨h + 1, 0, none⟩))).put (some 62) (.pointer (some ⟨h + 1, 0, none⟩))).put (some 63) (.pointer (some ⟨h + 1, 10, none⟩))) ∧ SwK W (h + 1) (h + 1 + 1) #[.int .u64 x0, .int .u64 x1, .int .u64 x2, .int .u64 x3, .int .u64 x4].toList w' ∧ w'.rangeAt (h + 1) 0 (pr #[.int .u64 m0, .int .u64 m1, .int .u64 m2, .int .u64 m3, .int .u64 m4] #[.int .u64 n0, .int .u64 n1, .int .u64 n2, .int .u64 n3, .int .u64 n4]) ∧ w'.rangeAt (h + 1) 10 (pr #[.int .u64 a0, .int .u64 a1, .int .u64 a2, .int .u64 a3, .int .u64 a4] #[.int .u64 b0, .int .u64 b1, .int .u64 b2, .int .u64 b3, .int .u64 b4])) ?_ ?_
      · refine wpIn_region_rem (SwK W (h + 1) (h + 1 + 1) #[.int .u64 x0, .int .u64 x1, .int .u64 x2, .int .u64 x3, .int .u64 x4].toList) (by kernel_rfl) (by kernel_rfl) (by kernel_rfl) hsw.drew ?_
        have r0d : W.drew.rangeAt (h + 1) 0 (pr #[.int .u64 a0, .int .u64 a1, .int .u64 a2, .int .u64 a3, .int .u64 a4] #[.int .u64 b0, .int .u64 b1, .int .u64 b2, .int .u64 b3, .int .u64 b4]) := r0
        have r1d : W.drew.rangeAt (h + 1) 10 (pr #[.int .u64 m0, .int .u64 m1, .int .u64 m2, .int .u64 m3, .int .u64 m4] #[.int .u64 n0, .int .u64 n1, .int .u64 n2, .int .u64 n3, .int .u64 n4]) := r1
        apply rem_sure 0 (by kernel_rfl) rfl (wanted_none rfl)
        · intro w2 hS K hK
          have hc := hS.c
          go_wp2_with fail
          exact hK _ hS (Ext.refl _)
        · kernel_rfl
        · kernel_rfl
        try ((repeat rw [put_none]); (try simp only [put_some, List.setIfInBounds_toArray, List.set_cons_succ, List.set_cons_zero]))
        apply rem_sure 1 (by kernel_rfl) rfl (wanted_none rfl)
        · intro w2 hS K hK
          have hc := hS.c
          go_wp2_with fail
          exact hK _ hS (Ext.refl _)
        · kernel_rfl
        · kernel_rfl
        try ((repeat rw [put_none]); (try simp only [put_some, List.setIfInBounds_toArray, List.set_cons_succ, List.set_cons_zero]))
        apply rem_sure 2 (by kernel_rfl) rfl (wanted_none rfl)
        · intro w2 hS K hK
          have hc := hS.c
          go_wp2_with fail
          exact hK _ hS (Ext.refl _)
        · kernel_rfl
        · kernel_rfl
        try ((repeat rw [put_none]); (try simp only [put_some, List.setIfInBounds_toArray, List.set_cons_succ, List.set_cons_zero]))
        apply rem_sure 3 (by kernel_rfl) rfl (wanted_none rfl)
        · intro w2 hS K hK
          have hc := hS.c
          go_wp2_with fail
          exact hK _ hS (Ext.refl _)
        · kernel_rfl
        · kernel_rfl
        try ((repeat rw [put_none]); (try simp only [put_some, List.setIfInBounds_toArray, List.set_cons_succ, List.set_cons_zero]))
        apply rem_sure 4 (by kernel_rfl) rfl (wanted_none rfl)
        · intro w2 hS K hK
          have hc := hS.c
          go_wp2_with fail
          exact hK _ hS (Ext.refl _)
        · kernel_rfl
        · kernel_rfl
        try ((repeat rw [put_none]); (try simp only [put_some, List.setIfInBounds_toArray, List.set_cons_succ, List.set_cons_zero]))
        apply rem_sure 6 (by kernel_rfl) rfl (wanted_none rfl)
        · intro w2 hS K hK
          have hc := hS.c
          go_wp2_with fail
          exact hK _ hS (Ext.refl _)
        · kernel_rfl
        · kernel_rfl
        try ((repeat rw [put_none]); (try simp only [put_some, List.setIfInBounds_toArray, List.set_cons_succ, List.set_cons_zero]))
        apply rem_sure 7 (by kernel_rfl) rfl (wanted_none rfl)
        · intro w2 hS K hK
          have hc := hS.c
          go_wp2_with fail
          exact hK _ hS (Ext.refl _)
        · kernel_rfl
        · kernel_rfl
        try ((repeat rw [put_none]); (try simp only [put_some, List.setIfInBounds_toArray, List.set_cons_succ, List.set_cons_zero]))
        apply rem_sure 8 (by kernel_rfl) rfl (wanted_none rfl)
        · intro w2 hS K hK
          have hc := hS.c
          go_wp2_with fail
          exact hK _ hS (Ext.refl _)
        · kernel_rfl
        · kernel_rfl
        try ((repeat rw [put_none]); (try simp only [put_some, List.setIfInBounds_toArray, List.set_cons_succ, List.set_cons_zero]))
        refine rem_two 5 9 (by kernel_rfl) (step_of rfl (wanted_none rfl) ?_) (step_of rfl (wanted_none rfl) ?_)
        · intro v5 hS5 hE5 K hK
          refine wp_load_mid 84 _ rfl (h + 1) 10 rfl (pr #[.int .u64 m0, .int .u64 m1, .int .u64 m2, .int .u64 m3, .int .u64 m4] #[.int .u64 n0, .int .u64 n1, .int .u64 n2, .int .u64 n3, .int .u64 n4]) _ (rangeAt_ext r1d hE5) Try.underlying84 rfl (by kernel_rfl) (hK _ _ hS5 ?_)
          clear hK K
          try ((repeat rw [put_none]); (try simp only [put_some, List.setIfInBounds_toArray, List.set_cons_succ, List.set_cons_zero]))
          refine rem_one 9 (by kernel_rfl) (step_of rfl (wanted_none rfl) ?_)
          intro v9 hS9 hE9 K hK
          refine wp_load_mid 84 _ rfl (h + 1) 0 rfl (pr #[.int .u64 a0, .int .u64 a1, .int .u64 a2, .int .u64 a3, .int .u64 a4] #[.int .u64 b0, .int .u64 b1, .int .u64 b2, .int .u64 b3, .int .u64 b4]) _ (rangeAt_ext r0d (hE5.trans hE9)) Try.underlying84 rfl (by kernel_rfl) (hK _ _ hS9 ?_)
          clear hK K
          try ((repeat rw [put_none]); (try simp only [put_some, List.setIfInBounds_toArray, List.set_cons_succ, List.set_cons_zero]))
          apply rem_sure 10 (by kernel_rfl) rfl (wanted_none rfl)
          · intro w2 hS K hK
            have hc := hS.c
            go_wp2_with fail
            exact hK _ hS (Ext.refl _)
          · kernel_rfl
          · kernel_rfl
          try ((repeat rw [put_none]); (try simp only [put_some, List.setIfInBounds_toArray, List.set_cons_succ, List.set_cons_zero]))
          apply rem_sure 11 (by kernel_rfl) rfl (wanted_none rfl)
          · intro w2 hS K hK
            have hc := hS.c
            go_wp2_with fail
            exact hK _ hS (Ext.refl _)
          · kernel_rfl
          · kernel_rfl
          try ((repeat rw [put_none]); (try simp only [put_some, List.setIfInBounds_toArray, List.set_cons_succ, List.set_cons_zero]))
          refine rem_one 12 (by kernel_rfl) (step_of rfl (wanted_none rfl) ?_)
          intro u12 hS12 hE12 K hK
          have hth12 : u12.there (h + 1) 0 10 := fun j hj => by have := hS12.t (0 + j) (by omega); rwa [Nat.zero_add] at this
          refine wp_store_mid 84 _ _ rfl (h + 1) 0 (pr #[.int .u64 m0, .int .u64 m1, .int .u64 m2, .int .u64 m3, .int .u64 m4] #[.int .u64 n0, .int .u64 n1, .int .u64 n2, .int .u64 n3, .int .u64 n4]).toArray rfl rfl hth12 (by kernel_rfl) (pr_one f2 f3) ?_
          have hn12 := World.rangeAt_setCells_same u12 (h + 1) 0 (pr #[.int .u64 m0, .int .u64 m1, .int .u64 m2, .int .u64 m3, .int .u64 m4] #[.int .u64 n0, .int .u64 n1, .int .u64 n2, .int .u64 n3, .int .u64 n4]) hth12
          refine hK _ _ (hS12.mid (by omega) 0 (pr #[.int .u64 m0, .int .u64 m1, .int .u64 m2, .int .u64 m3, .int .u64 m4] #[.int .u64 n0, .int .u64 n1, .int .u64 n2, .int .u64 n3, .int .u64 n4]) (by simp [pr])) ?_
          clear hK K
          repeat rw [put_none]
          apply rem_sure 13 (by kernel_rfl) rfl (wanted_none rfl)
          · intro w2 hS K hK
            have hc := hS.c
            go_wp2_with fail
            exact hK _ hS (Ext.refl _)
          · kernel_rfl
          · kernel_rfl
          try ((repeat rw [put_none]); (try simp only [put_some, List.setIfInBounds_toArray, List.set_cons_succ, List.set_cons_zero]))
          apply rem_sure 14 (by kernel_rfl) rfl (wanted_none rfl)
          · intro w2 hS K hK
            have hc := hS.c
            go_wp2_with fail
            exact hK _ hS (Ext.refl _)
          · kernel_rfl
          · kernel_rfl
          try ((repeat rw [put_none]); (try simp only [put_some, List.setIfInBounds_toArray, List.set_cons_succ, List.set_cons_zero]))
          refine rem_one 15 (by kernel_rfl) (step_of rfl (wanted_none rfl) ?_)
          intro u15 hS15 hE15 K hK
          have hth15 : u15.there (h + 1) 10 10 := fun j hj => by have := hS15.t (10 + j) (by omega); rwa [Nat.zero_add] at this
          refine wp_store_mid 84 _ _ rfl (h + 1) 10 (pr #[.int .u64 a0, .int .u64 a1, .int .u64 a2, .int .u64 a3, .int .u64 a4] #[.int .u64 b0, .int .u64 b1, .int .u64 b2, .int .u64 b3, .int .u64 b4]).toArray rfl rfl hth15 (by kernel_rfl) (pr_one f0 f1) ?_
          have hn15 := World.rangeAt_setCells_same u15 (h + 1) 10 (pr #[.int .u64 a0, .int .u64 a1, .int .u64 a2, .int .u64 a3, .int .u64 a4] #[.int .u64 b0, .int .u64 b1, .int .u64 b2, .int .u64 b3, .int .u64 b4]) hth15
          have hm12 := World.rangeAt_setCells_apart (rangeAt_ext hn12 hE15) (h + 1) 10 (pr #[.int .u64 a0, .int .u64 a1, .int .u64 a2, .int .u64 a3, .int .u64 a4] #[.int .u64 b0, .int .u64 b1, .int .u64 b2, .int .u64 b3, .int .u64 b4]) (.inr (.inl (Nat.le_refl _)))
          refine hK _ _ (hS15.mid (by omega) 10 (pr #[.int .u64 a0, .int .u64 a1, .int .u64 a2, .int .u64 a3, .int .u64 a4] #[.int .u64 b0, .int .u64 b1, .int .u64 b2, .int .u64 b3, .int .u64 b4]) (by simp [pr])) ?_
          clear hK K
          repeat rw [put_none]
          refine rem_nil ?_
          intro v9 hS9 hE9
          exact ⟨rfl, rfl, rfl, hS9, rangeAt_ext hm12 hE9, rangeAt_ext hn15 hE9⟩
        · intro v9 hS9 hE9 K hK
          refine wp_load_mid 84 _ rfl (h + 1) 0 rfl (pr #[.int .u64 a0, .int .u64 a1, .int .u64 a2, .int .u64 a3, .int .u64 a4] #[.int .u64 b0, .int .u64 b1, .int .u64 b2, .int .u64 b3, .int .u64 b4]) _ (rangeAt_ext r0d hE9) Try.underlying84 rfl (by kernel_rfl) (hK _ _ hS9 ?_)
          clear hK K
          try ((repeat rw [put_none]); (try simp only [put_some, List.setIfInBounds_toArray, List.set_cons_succ, List.set_cons_zero]))
          refine rem_one 5 (by kernel_rfl) (step_of rfl (wanted_none rfl) ?_)
          intro v5 hS5 hE5 K hK
          refine wp_load_mid 84 _ rfl (h + 1) 10 rfl (pr #[.int .u64 m0, .int .u64 m1, .int .u64 m2, .int .u64 m3, .int .u64 m4] #[.int .u64 n0, .int .u64 n1, .int .u64 n2, .int .u64 n3, .int .u64 n4]) _ (rangeAt_ext r1d (hE9.trans hE5)) Try.underlying84 rfl (by kernel_rfl) (hK _ _ hS5 ?_)
          clear hK K
          try ((repeat rw [put_none]); (try simp only [put_some, List.setIfInBounds_toArray, List.set_cons_succ, List.set_cons_zero]))
          apply rem_sure 10 (by kernel_rfl) rfl (wanted_none rfl)
          · intro w2 hS K hK
            have hc := hS.c
            go_wp2_with fail
            exact hK _ hS (Ext.refl _)
          · kernel_rfl
          · kernel_rfl
          try ((repeat rw [put_none]); (try simp only [put_some, List.setIfInBounds_toArray, List.set_cons_succ, List.set_cons_zero]))
          apply rem_sure 11 (by kernel_rfl) rfl (wanted_none rfl)
          · intro w2 hS K hK
            have hc := hS.c
            go_wp2_with fail
            exact hK _ hS (Ext.refl _)
          · kernel_rfl
          · kernel_rfl
          try ((repeat rw [put_none]); (try simp only [put_some, List.setIfInBounds_toArray, List.set_cons_succ, List.set_cons_zero]))
          refine rem_one 12 (by kernel_rfl) (step_of rfl (wanted_none rfl) ?_)
          intro u12 hS12 hE12 K hK
          have hth12 : u12.there (h + 1) 0 10 := fun j hj => by have := hS12.t (0 + j) (by omega); rwa [Nat.zero_add] at this
          refine wp_store_mid 84 _ _ rfl (h + 1) 0 (pr #[.int .u64 m0, .int .u64 m1, .int .u64 m2, .int .u64 m3, .int .u64 m4] #[.int .u64 n0, .int .u64 n1, .int .u64 n2, .int .u64 n3, .int .u64 n4]).toArray rfl rfl hth12 (by kernel_rfl) (pr_one f2 f3) ?_
          have hn12 := World.rangeAt_setCells_same u12 (h + 1) 0 (pr #[.int .u64 m0, .int .u64 m1, .int .u64 m2, .int .u64 m3, .int .u64 m4] #[.int .u64 n0, .int .u64 n1, .int .u64 n2, .int .u64 n3, .int .u64 n4]) hth12
          refine hK _ _ (hS12.mid (by omega) 0 (pr #[.int .u64 m0, .int .u64 m1, .int .u64 m2, .int .u64 m3, .int .u64 m4] #[.int .u64 n0, .int .u64 n1, .int .u64 n2, .int .u64 n3, .int .u64 n4]) (by simp [pr])) ?_
          clear hK K
          repeat rw [put_none]
          apply rem_sure 13 (by kernel_rfl) rfl (wanted_none rfl)
          · intro w2 hS K hK
            have hc := hS.c
            go_wp2_with fail
            exact hK _ hS (Ext.refl _)
          · kernel_rfl
          · kernel_rfl
          try ((repeat rw [put_none]); (try simp only [put_some, List.setIfInBounds_toArray, List.set_cons_succ, List.set_cons_zero]))
          apply rem_sure 14 (by kernel_rfl) rfl (wanted_none rfl)
          · intro w2 hS K hK
            have hc := hS.c
            go_wp2_with fail
            exact hK _ hS (Ext.refl _)
          · kernel_rfl
          · kernel_rfl
          try ((repeat rw [put_none]); (try simp only [put_some, List.setIfInBounds_toArray, List.set_cons_succ, List.set_cons_zero]))
          refine rem_one 15 (by kernel_rfl) (step_of rfl (wanted_none rfl) ?_)
          intro u15 hS15 hE15 K hK
          have hth15 : u15.there (h + 1) 10 10 := fun j hj => by have := hS15.t (10 + j) (by omega); rwa [Nat.zero_add] at this
          refine wp_store_mid 84 _ _ rfl (h + 1) 10 (pr #[.int .u64 a0, .int .u64 a1, .int .u64 a2, .int .u64 a3, .int .u64 a4] #[.int .u64 b0, .int .u64 b1, .int .u64 b2, .int .u64 b3, .int .u64 b4]).toArray rfl rfl hth15 (by kernel_rfl) (pr_one f0 f1) ?_
          have hn15 := World.rangeAt_setCells_same u15 (h + 1) 10 (pr #[.int .u64 a0, .int .u64 a1, .int .u64 a2, .int .u64 a3, .int .u64 a4] #[.int .u64 b0, .int .u64 b1, .int .u64 b2, .int .u64 b3, .int .u64 b4]) hth15
          have hm12 := World.rangeAt_setCells_apart (rangeAt_ext hn12 hE15) (h + 1) 10 (pr #[.int .u64 a0, .int .u64 a1, .int .u64 a2, .int .u64 a3, .int .u64 a4] #[.int .u64 b0, .int .u64 b1, .int .u64 b2, .int .u64 b3, .int .u64 b4]) (.inr (.inl (Nat.le_refl _)))
          refine hK _ _ (hS15.mid (by omega) 10 (pr #[.int .u64 a0, .int .u64 a1, .int .u64 a2, .int .u64 a3, .int .u64 a4] #[.int .u64 b0, .int .u64 b1, .int .u64 b2, .int .u64 b3, .int .u64 b4]) (by simp [pr])) ?_
          clear hK K
          repeat rw [put_none]
          refine rem_nil ?_
          intro v9 hS9 hE9
          exact ⟨rfl, rfl, rfl, hS9, rangeAt_ext hm12 hE9, rangeAt_ext hn15 hE9⟩
      rintro b' W1 ⟨rfl, hk1, e0, e1⟩
      try ((repeat rw [put_none]); (try simp only [put_some, List.setIfInBounds_toArray, List.set_cons_succ, List.set_cons_zero]))
      have hc1 := hk1.c
      have hb1 : h + 1 < W1.heap.size := Nat.lt_of_lt_of_le hblt hk1.n.size
      gi_wp2
      refine ⟨trivial, ?_⟩
      gi_at_call 83
      refine (CallsIn.inRound l (callsIn_wide.2 (step_fe (h + 1) _ _ _ _ _ _ _ _ _ _ _ hb1 e0 e1 hk1.x hk1.t f2 f3 f0 f1 hX))).mono ?_
      rintro e W2 ⟨v, B0, B1, B2, B3, rfl, g0, g1, g2, g3, s0, s1, s2, st, htn⟩
      have hc2 := cell_tn htn (by show h + 1 + 1 ≠ h + 1; omega) hc1
      obtain ⟨ya0, ya1, ya2, ya3, ya4, rfl⟩ := five_of g0
      obtain ⟨yb0, yb1, yb2, yb3, yb4, rfl⟩ := five_of g1
      obtain ⟨yc0, yc1, yc2, yc3, yc4, rfl⟩ := five_of g2
      obtain ⟨yd0, yd1, yd2, yd3, yd4, rfl⟩ := five_of g3
      gi_wp2
      have hsw2 : SwK W2 (h + 1) (h + 1 + 1) #[.int .u64 x0, .int .u64 x1, .int .u64 x2, .int .u64 x3, .int .u64 x4].toList W2 := ⟨hc2, st, s2, Tn.refl _ _⟩
      refine wpIn_region_then (fun a b' w' => b' = ((((((((((((((a.put (some 67) (.pointer (some ⟨h + 1, 0, none⟩))).put (some 68) (.pointer (some ⟨h + 1, 0, none⟩))).put (some 69) (.pointer (some ⟨h + 1, 0, none⟩))).put (some 70) (.pointer (some ⟨h + 1, 0, none⟩))).put (some 71) (.pointer (some ⟨h + 1, 10, none⟩))).put (some 72) (.agg (pr #[.int .u64 yc0, .int .u64 yc1, .int .u64 yc2, .int .u64 yc3, .int .u64 yc4] #[.int .u64 yd0, .int .u64 yd1, .int .u64 yd2, .int .u64 yd3, .int .u64 yd4]).toArray)).put (some 73) (.pointer (some ⟨h + 1, 0, none⟩))).put (some 74) (.pointer (some ⟨h + 1, 0, none⟩))).put (some 75) (.pointer (some ⟨h + 1, 0, none⟩))).put (some 76) (.agg (pr #[.int .u64 ya0, .int .u64 ya1, .int .u64 ya2, .int .u64 ya3, .int .u64 ya4] #[.int .u64 yb0, .int .u64 yb1, .int .u64 yb2, .int .u64 yb3, .int .u64 yb4]).toArray)).put (some 77) (.pointer (some ⟨h + 1, 0, none⟩))).put (some 78) (.pointer (some ⟨h + 1, 0, none⟩))).put (some 79) (.pointer (some ⟨h + 1, 0, none⟩))).put (some 80) (.pointer (some ⟨h + 1, 10, none⟩))) ∧ SwK W2 (h + 1) (h + 1 + 1) #[.int .u64 x0, .int .u64 x1, .int .u64 x2, .int .u64 x3, .int .u64 x4].toList w' ∧ w'.rangeAt (h + 1) 0 (pr #[.int .u64 yc0, .int .u64 yc1, .int .u64 yc2, .int .u64 yc3, .int .u64 yc4] #[.int .u64 yd0, .int .u64 yd1, .int .u64 yd2, .int .u64 yd3, .int .u64 yd4]) ∧ w'.rangeAt (h + 1) 10 (pr #[.int .u64 ya0, .int .u64 ya1, .int .u64 ya2, .int .u64 ya3, .int .u64 ya4] #[.int .u64 yb0, .int .u64 yb1, .int .u64 yb2, .int .u64 yb3, .int .u64 yb4])) ?_ ?_
      · refine wpIn_region_rem (SwK W2 (h + 1) (h + 1 + 1) #[.int .u64 x0, .int .u64 x1, .int .u64 x2, .int .u64 x3, .int .u64 x4].toList) (by kernel_rfl) (by kernel_rfl) (by kernel_rfl) hsw2.drew ?_
        have s0d : W2.drew.rangeAt (h + 1) 0 (pr #[.int .u64 ya0, .int .u64 ya1, .int .u64 ya2, .int .u64 ya3, .int .u64 ya4] #[.int .u64 yb0, .int .u64 yb1, .int .u64 yb2, .int .u64 yb3, .int .u64 yb4]) := s0
        have s1d : W2.drew.rangeAt (h + 1) 10 (pr #[.int .u64 yc0, .int .u64 yc1, .int .u64 yc2, .int .u64 yc3, .int .u64 yc4] #[.int .u64 yd0, .int .u64 yd1, .int .u64 yd2, .int .u64 yd3, .int .u64 yd4]) := s1
        apply rem_sure 0 (by kernel_rfl) rfl (wanted_none rfl)
        · intro w2 hS K hK
          have hc := hS.c
          go_wp2_with fail
          exact hK _ hS (Ext.refl _)
        · kernel_rfl
        · kernel_rfl
        try ((repeat rw [put_none]); (try simp only [put_some, List.setIfInBounds_toArray, List.set_cons_succ, List.set_cons_zero]))
        apply rem_sure 1 (by kernel_rfl) rfl (wanted_none rfl)
        · intro w2 hS K hK
          have hc := hS.c
          go_wp2_with fail
          exact hK _ hS (Ext.refl _)
        · kernel_rfl
        · kernel_rfl
        try ((repeat rw [put_none]); (try simp only [put_some, List.setIfInBounds_toArray, List.set_cons_succ, List.set_cons_zero]))
        apply rem_sure 2 (by kernel_rfl) rfl (wanted_none rfl)
        · intro w2 hS K hK
          have hc := hS.c
          go_wp2_with fail
          exact hK _ hS (Ext.refl _)
        · kernel_rfl
        · kernel_rfl
        try ((repeat rw [put_none]); (try simp only [put_some, List.setIfInBounds_toArray, List.set_cons_succ, List.set_cons_zero]))
        apply rem_sure 3 (by kernel_rfl) rfl (wanted_none rfl)
        · intro w2 hS K hK
          have hc := hS.c
          go_wp2_with fail
          exact hK _ hS (Ext.refl _)
        · kernel_rfl
        · kernel_rfl
        try ((repeat rw [put_none]); (try simp only [put_some, List.setIfInBounds_toArray, List.set_cons_succ, List.set_cons_zero]))
        apply rem_sure 4 (by kernel_rfl) rfl (wanted_none rfl)
        · intro w2 hS K hK
          have hc := hS.c
          go_wp2_with fail
          exact hK _ hS (Ext.refl _)
        · kernel_rfl
        · kernel_rfl
        try ((repeat rw [put_none]); (try simp only [put_some, List.setIfInBounds_toArray, List.set_cons_succ, List.set_cons_zero]))
        apply rem_sure 6 (by kernel_rfl) rfl (wanted_none rfl)
        · intro w2 hS K hK
          have hc := hS.c
          go_wp2_with fail
          exact hK _ hS (Ext.refl _)
        · kernel_rfl
        · kernel_rfl
        try ((repeat rw [put_none]); (try simp only [put_some, List.setIfInBounds_toArray, List.set_cons_succ, List.set_cons_zero]))
        apply rem_sure 7 (by kernel_rfl) rfl (wanted_none rfl)
        · intro w2 hS K hK
          have hc := hS.c
          go_wp2_with fail
          exact hK _ hS (Ext.refl _)
        · kernel_rfl
        · kernel_rfl
        try ((repeat rw [put_none]); (try simp only [put_some, List.setIfInBounds_toArray, List.set_cons_succ, List.set_cons_zero]))
        apply rem_sure 8 (by kernel_rfl) rfl (wanted_none rfl)
        · intro w2 hS K hK
          have hc := hS.c
          go_wp2_with fail
          exact hK _ hS (Ext.refl _)
        · kernel_rfl
        · kernel_rfl
        try ((repeat rw [put_none]); (try simp only [put_some, List.setIfInBounds_toArray, List.set_cons_succ, List.set_cons_zero]))
        refine rem_two 5 9 (by kernel_rfl) (step_of rfl (wanted_none rfl) ?_) (step_of rfl (wanted_none rfl) ?_)
        · intro v5 hS5 hE5 K hK
          refine wp_load_mid 84 _ rfl (h + 1) 10 rfl (pr #[.int .u64 yc0, .int .u64 yc1, .int .u64 yc2, .int .u64 yc3, .int .u64 yc4] #[.int .u64 yd0, .int .u64 yd1, .int .u64 yd2, .int .u64 yd3, .int .u64 yd4]) _ (rangeAt_ext s1d hE5) Try.underlying84 rfl (by kernel_rfl) (hK _ _ hS5 ?_)
          clear hK K
          try ((repeat rw [put_none]); (try simp only [put_some, List.setIfInBounds_toArray, List.set_cons_succ, List.set_cons_zero]))
          refine rem_one 9 (by kernel_rfl) (step_of rfl (wanted_none rfl) ?_)
          intro v9 hS9 hE9 K hK
          refine wp_load_mid 84 _ rfl (h + 1) 0 rfl (pr #[.int .u64 ya0, .int .u64 ya1, .int .u64 ya2, .int .u64 ya3, .int .u64 ya4] #[.int .u64 yb0, .int .u64 yb1, .int .u64 yb2, .int .u64 yb3, .int .u64 yb4]) _ (rangeAt_ext s0d (hE5.trans hE9)) Try.underlying84 rfl (by kernel_rfl) (hK _ _ hS9 ?_)
          clear hK K
          try ((repeat rw [put_none]); (try simp only [put_some, List.setIfInBounds_toArray, List.set_cons_succ, List.set_cons_zero]))
          apply rem_sure 10 (by kernel_rfl) rfl (wanted_none rfl)
          · intro w2 hS K hK
            have hc := hS.c
            go_wp2_with fail
            exact hK _ hS (Ext.refl _)
          · kernel_rfl
          · kernel_rfl
          try ((repeat rw [put_none]); (try simp only [put_some, List.setIfInBounds_toArray, List.set_cons_succ, List.set_cons_zero]))
          apply rem_sure 11 (by kernel_rfl) rfl (wanted_none rfl)
          · intro w2 hS K hK
            have hc := hS.c
            go_wp2_with fail
            exact hK _ hS (Ext.refl _)
          · kernel_rfl
          · kernel_rfl
          try ((repeat rw [put_none]); (try simp only [put_some, List.setIfInBounds_toArray, List.set_cons_succ, List.set_cons_zero]))
          refine rem_one 12 (by kernel_rfl) (step_of rfl (wanted_none rfl) ?_)
          intro u12 hS12 hE12 K hK
          have hth12 : u12.there (h + 1) 0 10 := fun j hj => by have := hS12.t (0 + j) (by omega); rwa [Nat.zero_add] at this
          refine wp_store_mid 84 _ _ rfl (h + 1) 0 (pr #[.int .u64 yc0, .int .u64 yc1, .int .u64 yc2, .int .u64 yc3, .int .u64 yc4] #[.int .u64 yd0, .int .u64 yd1, .int .u64 yd2, .int .u64 yd3, .int .u64 yd4]).toArray rfl rfl hth12 (by kernel_rfl) (pr_one g2 g3) ?_
          have hn12 := World.rangeAt_setCells_same u12 (h + 1) 0 (pr #[.int .u64 yc0, .int .u64 yc1, .int .u64 yc2, .int .u64 yc3, .int .u64 yc4] #[.int .u64 yd0, .int .u64 yd1, .int .u64 yd2, .int .u64 yd3, .int .u64 yd4]) hth12
          refine hK _ _ (hS12.mid (by omega) 0 (pr #[.int .u64 yc0, .int .u64 yc1, .int .u64 yc2, .int .u64 yc3, .int .u64 yc4] #[.int .u64 yd0, .int .u64 yd1, .int .u64 yd2, .int .u64 yd3, .int .u64 yd4]) (by simp [pr])) ?_
          clear hK K
          repeat rw [put_none]
          apply rem_sure 13 (by kernel_rfl) rfl (wanted_none rfl)
          · intro w2 hS K hK
            have hc := hS.c
            go_wp2_with fail
            exact hK _ hS (Ext.refl _)
          · kernel_rfl
          · kernel_rfl
          try ((repeat rw [put_none]); (try simp only [put_some, List.setIfInBounds_toArray, List.set_cons_succ, List.set_cons_zero]))
          apply rem_sure 14 (by kernel_rfl) rfl (wanted_none rfl)
          · intro w2 hS K hK
            have hc := hS.c
            go_wp2_with fail
            exact hK _ hS (Ext.refl _)
          · kernel_rfl
          · kernel_rfl
          try ((repeat rw [put_none]); (try simp only [put_some, List.setIfInBounds_toArray, List.set_cons_succ, List.set_cons_zero]))
          refine rem_one 15 (by kernel_rfl) (step_of rfl (wanted_none rfl) ?_)
          intro u15 hS15 hE15 K hK
          have hth15 : u15.there (h + 1) 10 10 := fun j hj => by have := hS15.t (10 + j) (by omega); rwa [Nat.zero_add] at this
          refine wp_store_mid 84 _ _ rfl (h + 1) 10 (pr #[.int .u64 ya0, .int .u64 ya1, .int .u64 ya2, .int .u64 ya3, .int .u64 ya4] #[.int .u64 yb0, .int .u64 yb1, .int .u64 yb2, .int .u64 yb3, .int .u64 yb4]).toArray rfl rfl hth15 (by kernel_rfl) (pr_one g0 g1) ?_
          have hn15 := World.rangeAt_setCells_same u15 (h + 1) 10 (pr #[.int .u64 ya0, .int .u64 ya1, .int .u64 ya2, .int .u64 ya3, .int .u64 ya4] #[.int .u64 yb0, .int .u64 yb1, .int .u64 yb2, .int .u64 yb3, .int .u64 yb4]) hth15
          have hm12 := World.rangeAt_setCells_apart (rangeAt_ext hn12 hE15) (h + 1) 10 (pr #[.int .u64 ya0, .int .u64 ya1, .int .u64 ya2, .int .u64 ya3, .int .u64 ya4] #[.int .u64 yb0, .int .u64 yb1, .int .u64 yb2, .int .u64 yb3, .int .u64 yb4]) (.inr (.inl (Nat.le_refl _)))
          refine hK _ _ (hS15.mid (by omega) 10 (pr #[.int .u64 ya0, .int .u64 ya1, .int .u64 ya2, .int .u64 ya3, .int .u64 ya4] #[.int .u64 yb0, .int .u64 yb1, .int .u64 yb2, .int .u64 yb3, .int .u64 yb4]) (by simp [pr])) ?_
          clear hK K
          repeat rw [put_none]
          refine rem_nil ?_
          intro v9 hS9 hE9
          exact ⟨rfl, rfl, rfl, hS9, rangeAt_ext hm12 hE9, rangeAt_ext hn15 hE9⟩
        · intro v9 hS9 hE9 K hK
          refine wp_load_mid 84 _ rfl (h + 1) 0 rfl (pr #[.int .u64 ya0, .int .u64 ya1, .int .u64 ya2, .int .u64 ya3, .int .u64 ya4] #[.int .u64 yb0, .int .u64 yb1, .int .u64 yb2, .int .u64 yb3, .int .u64 yb4]) _ (rangeAt_ext s0d hE9) Try.underlying84 rfl (by kernel_rfl) (hK _ _ hS9 ?_)
          clear hK K
          try ((repeat rw [put_none]); (try simp only [put_some, List.setIfInBounds_toArray, List.set_cons_succ, List.set_cons_zero]))
          refine rem_one 5 (by kernel_rfl) (step_of rfl (wanted_none rfl) ?_)
          intro v5 hS5 hE5 K hK
          refine wp_load_mid 84 _ rfl (h + 1) 10 rfl (pr #[.int .u64 yc0, .int .u64 yc1, .int .u64 yc2, .int .u64 yc3, .int .u64 yc4] #[.int .u64 yd0, .int .u64 yd1, .int .u64 yd2, .int .u64 yd3, .int .u64 yd4]) _ (rangeAt_ext s1d (hE9.trans hE5)) Try.underlying84 rfl (by kernel_rfl) (hK _ _ hS5 ?_)
          clear hK K
          try ((repeat rw [put_none]); (try simp only [put_some, List.setIfInBounds_toArray, List.set_cons_succ, List.set_cons_zero]))
          apply rem_sure 10 (by kernel_rfl) rfl (wanted_none rfl)
          · intro w2 hS K hK
            have hc := hS.c
            go_wp2_with fail
            exact hK _ hS (Ext.refl _)
          · kernel_rfl
          · kernel_rfl
          try ((repeat rw [put_none]); (try simp only [put_some, List.setIfInBounds_toArray, List.set_cons_succ, List.set_cons_zero]))
          apply rem_sure 11 (by kernel_rfl) rfl (wanted_none rfl)
          · intro w2 hS K hK
            have hc := hS.c
            go_wp2_with fail
            exact hK _ hS (Ext.refl _)
          · kernel_rfl
          · kernel_rfl
          try ((repeat rw [put_none]); (try simp only [put_some, List.setIfInBounds_toArray, List.set_cons_succ, List.set_cons_zero]))
          refine rem_one 12 (by kernel_rfl) (step_of rfl (wanted_none rfl) ?_)
          intro u12 hS12 hE12 K hK
          have hth12 : u12.there (h + 1) 0 10 := fun j hj => by have := hS12.t (0 + j) (by omega); rwa [Nat.zero_add] at this
          refine wp_store_mid 84 _ _ rfl (h + 1) 0 (pr #[.int .u64 yc0, .int .u64 yc1, .int .u64 yc2, .int .u64 yc3, .int .u64 yc4] #[.int .u64 yd0, .int .u64 yd1, .int .u64 yd2, .int .u64 yd3, .int .u64 yd4]).toArray rfl rfl hth12 (by kernel_rfl) (pr_one g2 g3) ?_
          have hn12 := World.rangeAt_setCells_same u12 (h + 1) 0 (pr #[.int .u64 yc0, .int .u64 yc1, .int .u64 yc2, .int .u64 yc3, .int .u64 yc4] #[.int .u64 yd0, .int .u64 yd1, .int .u64 yd2, .int .u64 yd3, .int .u64 yd4]) hth12
          refine hK _ _ (hS12.mid (by omega) 0 (pr #[.int .u64 yc0, .int .u64 yc1, .int .u64 yc2, .int .u64 yc3, .int .u64 yc4] #[.int .u64 yd0, .int .u64 yd1, .int .u64 yd2, .int .u64 yd3, .int .u64 yd4]) (by simp [pr])) ?_
          clear hK K
          repeat rw [put_none]
          apply rem_sure 13 (by kernel_rfl) rfl (wanted_none rfl)
          · intro w2 hS K hK
            have hc := hS.c
            go_wp2_with fail
            exact hK _ hS (Ext.refl _)
          · kernel_rfl
          · kernel_rfl
          try ((repeat rw [put_none]); (try simp only [put_some, List.setIfInBounds_toArray, List.set_cons_succ, List.set_cons_zero]))
          apply rem_sure 14 (by kernel_rfl) rfl (wanted_none rfl)
          · intro w2 hS K hK
            have hc := hS.c
            go_wp2_with fail
            exact hK _ hS (Ext.refl _)
          · kernel_rfl
          · kernel_rfl
          try ((repeat rw [put_none]); (try simp only [put_some, List.setIfInBounds_toArray, List.set_cons_succ, List.set_cons_zero]))
          refine rem_one 15 (by kernel_rfl) (step_of rfl (wanted_none rfl) ?_)
          intro u15 hS15 hE15 K hK
          have hth15 : u15.there (h + 1) 10 10 := fun j hj => by have := hS15.t (10 + j) (by omega); rwa [Nat.zero_add] at this
          refine wp_store_mid 84 _ _ rfl (h + 1) 10 (pr #[.int .u64 ya0, .int .u64 ya1, .int .u64 ya2, .int .u64 ya3, .int .u64 ya4] #[.int .u64 yb0, .int .u64 yb1, .int .u64 yb2, .int .u64 yb3, .int .u64 yb4]).toArray rfl rfl hth15 (by kernel_rfl) (pr_one g0 g1) ?_
          have hn15 := World.rangeAt_setCells_same u15 (h + 1) 10 (pr #[.int .u64 ya0, .int .u64 ya1, .int .u64 ya2, .int .u64 ya3, .int .u64 ya4] #[.int .u64 yb0, .int .u64 yb1, .int .u64 yb2, .int .u64 yb3, .int .u64 yb4]) hth15
          have hm12 := World.rangeAt_setCells_apart (rangeAt_ext hn12 hE15) (h + 1) 10 (pr #[.int .u64 ya0, .int .u64 ya1, .int .u64 ya2, .int .u64 ya3, .int .u64 ya4] #[.int .u64 yb0, .int .u64 yb1, .int .u64 yb2, .int .u64 yb3, .int .u64 yb4]) (.inr (.inl (Nat.le_refl _)))
          refine hK _ _ (hS15.mid (by omega) 10 (pr #[.int .u64 ya0, .int .u64 ya1, .int .u64 ya2, .int .u64 ya3, .int .u64 ya4] #[.int .u64 yb0, .int .u64 yb1, .int .u64 yb2, .int .u64 yb3, .int .u64 yb4]) (by simp [pr])) ?_
          clear hK K
          repeat rw [put_none]
          refine rem_nil ?_
          intro v9 hS9 hE9
          exact ⟨rfl, rfl, rfl, hS9, rangeAt_ext hm12 hE9, rangeAt_ext hn15 hE9⟩
      rintro b' W3 ⟨rfl, hk3, e3, e4⟩
      try ((repeat rw [put_none]); (try simp only [put_some, List.setIfInBounds_toArray, List.set_cons_succ, List.set_cons_zero]))
      gi_wp2
      have hall := (hk1.n.trans htn).trans hk3.n
      refine ⟨hall.others ht, kpB_tn hall hWL, ladI_of hc hv hbW (by omega) (by omega) hall ?_ ?_ ?_ ?_ e3 e4 hk3.x hk3.t⟩
      · rw [ladF_snoc]; exact g2.mod (modP _)
      · rw [ladF_snoc]; exact g3.mod (modP _)
      · rw [ladF_snoc]; exact g0.mod (modP _)
      · rw [ladF_snoc]; exact g1.mod (modP _)
  case done =>
    rintro D xs W hD hxs ⟨⟨A0, A1, A2, A3, ⟨f0, f1, f2, f3⟩, r0, r1, r2, ht, hc, hv⟩, hbW⟩ hWD
    subst hT
    subst hxs
    obtain ⟨a0, a1, a2, a3, a4, rfl⟩ := five_of f0
    obtain ⟨b0, b1, b2, b3, b4, rfl⟩ := five_of f1
    go_wp2_with fail
    have hcS : ∀ v, Below W.heap.size W v → v.cell? ⟨h + 1 + 1, 0, none⟩ = some (.pointer (some ⟨h + 1, 0, none⟩)) := fun v hb => by rw [hb.cell (World.block_lt_of_cell? W _ hc)]; exact hc
    have hr0S : ∀ v, Below W.heap.size W v → v.rangeAt (h + 1) 0 (#[.int .u64 a0, .int .u64 a1, .int .u64 a2, .int .u64 a3, .int .u64 a4]).toList := fun v hb j u hj => by
      have h5 : j < 5 := by have := (List.getElem?_eq_some_iff.1 hj).1; simpa using this
      refine rangeAt_below r0 hb j u ?_
      unfold pr
      rw [List.getElem?_append_left (by simpa using h5)]
      exact hj
    have hr5S : ∀ v, Below W.heap.size W v → v.rangeAt (h + 1) 5 (#[.int .u64 b0, .int .u64 b1, .int .u64 b2, .int .u64 b3, .int .u64 b4]).toList := fun v hb j u hj => by
      have := rangeAt_below r0 hb (5 + j) u (by
        unfold pr
        rw [List.getElem?_append_right (by simp)]
        simpa using hj)
      rwa [Nat.zero_add] at this
    refine wp_region_then (fun a b' w' => ∃ (I J : Array Value) (g : Nat), b' = (((((((((((((((a.put (some 81) (.pointer (some ⟨h + 1, 0, none⟩))).put (some 82) (.pointer (some ⟨h + 1, 0, none⟩))).put (some 83) (.pointer (some ⟨h + 1, 0, none⟩))).put (some 84) (.pointer (some ⟨h + 1, 0, none⟩))).put (some 85) (.agg #[.int .u64 a0, .int .u64 a1, .int .u64 a2, .int .u64 a3, .int .u64 a4])).put (some 86) (.pointer (some ⟨h + 1, 0, none⟩))).put (some 87) (.pointer (some ⟨h + 1, 0, none⟩))).put (some 88) (.pointer (some ⟨h + 1, 0, none⟩))).put (some 89) (.pointer (some ⟨h + 1, 5, none⟩))).put (some 90) (.agg #[.int .u64 b0, .int .u64 b1, .int .u64 b2, .int .u64 b3, .int .u64 b4])).put (some 91) (.agg I)).put (some 92) (.agg J)).put (some 93) (.slice (some ⟨g, 0, none⟩) 32 32)).put (some 4) (.slice (some ⟨g, 0, none⟩) 32 32)).put (some 5) (.int .i64 0)) ∧ W.heap.size ≤ g ∧ IsB w' g (leB (mulN lk lu % PP)) ∧ Below W.heap.size W w') ?_ ?_
    · refine wp_region_rem (Below W.heap.size W) (by kernel_rfl) (by kernel_rfl) (fun _ _ _ _ _ h => h.elim) (Below.drew (Below.refl _ _)) ?_
      apply rem_sure 0 (by kernel_rfl) rfl (wanted_none rfl)
      · intro w2 hS K hK
        have hc := hcS _ hS
        go_wp2_with fail
        exact hK _ hS (Ext.refl _)
      · kernel_rfl
      · kernel_rfl
      try ((repeat rw [put_none]); (try simp only [put_some, List.setIfInBounds_toArray, List.set_cons_succ, List.set_cons_zero]))
      apply rem_sure 1 (by kernel_rfl) rfl (wanted_none rfl)
      · intro w2 hS K hK
        have hc := hcS _ hS
        go_wp2_with fail
        exact hK _ hS (Ext.refl _)
      · kernel_rfl
      · kernel_rfl
      try ((repeat rw [put_none]); (try simp only [put_some, List.setIfInBounds_toArray, List.set_cons_succ, List.set_cons_zero]))
      apply rem_sure 2 (by kernel_rfl) rfl (wanted_none rfl)
      · intro w2 hS K hK
        have hc := hcS _ hS
        go_wp2_with fail
        exact hK _ hS (Ext.refl _)
      · kernel_rfl
      · kernel_rfl
      try ((repeat rw [put_none]); (try simp only [put_some, List.setIfInBounds_toArray, List.set_cons_succ, List.set_cons_zero]))
      apply rem_sure 3 (by kernel_rfl) rfl (wanted_none rfl)
      · intro w2 hS K hK
        have hc := hcS _ hS
        go_wp2_with fail
        exact hK _ hS (Ext.refl _)
      · kernel_rfl
      · kernel_rfl
      try ((repeat rw [put_none]); (try simp only [put_some, List.setIfInBounds_toArray, List.set_cons_succ, List.set_cons_zero]))
      apply rem_sure 4 (by kernel_rfl) rfl (wanted_none rfl)
      · intro w2 hS K hK
        exact wp_load_mid 46 _ rfl (h + 1) 0 rfl (#[.int .u64 a0, .int .u64 a1, .int .u64 a2, .int .u64 a3, .int .u64 a4].toList) _ (hr0S _ hS) Try.underlying46 rfl (by kernel_rfl) (hK _ hS (Ext.refl _))
      · kernel_rfl
      · kernel_rfl
      repeat rw [put_none]
      apply rem_sure 5 (by kernel_rfl) rfl (wanted_none rfl)
      · intro w2 hS K hK
        have hc := hcS _ hS
        go_wp2_with fail
        exact hK _ hS (Ext.refl _)
      · kernel_rfl
      · kernel_rfl
      try ((repeat rw [put_none]); (try simp only [put_some, List.setIfInBounds_toArray, List.set_cons_succ, List.set_cons_zero]))
      apply rem_sure 6 (by kernel_rfl) rfl (wanted_none rfl)
      · intro w2 hS K hK
        have hc := hcS _ hS
        go_wp2_with fail
        exact hK _ hS (Ext.refl _)
      · kernel_rfl
      · kernel_rfl
      try ((repeat rw [put_none]); (try simp only [put_some, List.setIfInBounds_toArray, List.set_cons_succ, List.set_cons_zero]))
      apply rem_sure 7 (by kernel_rfl) rfl (wanted_none rfl)
      · intro w2 hS K hK
        have hc := hcS _ hS
        go_wp2_with fail
        exact hK _ hS (Ext.refl _)
      · kernel_rfl
      · kernel_rfl
      try ((repeat rw [put_none]); (try simp only [put_some, List.setIfInBounds_toArray, List.set_cons_succ, List.set_cons_zero]))
      apply rem_sure 8 (by kernel_rfl) rfl (wanted_none rfl)
      · intro w2 hS K hK
        have hc := hcS _ hS
        go_wp2_with fail
        exact hK _ hS (Ext.refl _)
      · kernel_rfl
      · kernel_rfl
      try ((repeat rw [put_none]); (try simp only [put_some, List.setIfInBounds_toArray, List.set_cons_succ, List.set_cons_zero]))
      apply rem_sure 9 (by kernel_rfl) rfl (wanted_none rfl)
      · intro w2 hS K hK
        exact wp_load_mid 46 _ rfl (h + 1) 5 rfl (#[.int .u64 b0, .int .u64 b1, .int .u64 b2, .int .u64 b3, .int .u64 b4].toList) _ (hr5S _ hS) Try.underlying46 rfl (by kernel_rfl) (hK _ hS (Ext.refl _))
      · kernel_rfl
      · kernel_rfl
      repeat rw [put_none]
      refine rem_one 10 (by kernel_rfl) (step_of rfl (wanted_none rfl) ?_)
      intro v10 hS10 hE10 K hK
      go_wp2_with fail
      refine (gInverse_fe _ _ _ f1).mono ?_
      rintro e u10 ⟨I, rfl, hI, hk10⟩
      refine hK _ _ (hS10.trans (hk10.mono hS10.size)) ?_
      clear hK K
      try ((repeat rw [put_none]); (try simp only [put_some, List.setIfInBounds_toArray, List.set_cons_succ, List.set_cons_zero]))
      refine rem_one 11 (by kernel_rfl) (step_of rfl (wanted_none rfl) ?_)
      intro v11 hS11 hE11 K hK
      go_wp2_with fail
      refine (gTimes_fe _ _ _ _ _ f0 hI).mono ?_
      rintro e u11 ⟨J, rfl, hJ, hk11⟩
      refine hK _ _ (hS11.trans (hk11.mono hS11.size)) ?_
      clear hK K
      try ((repeat rw [put_none]); (try simp only [put_some, List.setIfInBounds_toArray, List.set_cons_succ, List.set_cons_zero]))
      refine rem_one 12 (by kernel_rfl) (step_of rfl (wanted_none rfl) ?_)
      intro v12 hS12 hE12 K hK
      go_wp2_with fail
      refine (gBytes_fe _ _ _ hJ).mono ?_
      rintro e u12 ⟨g, rfl, hg, hB, hk12⟩
      refine hK _ _ (hS12.trans (hk12.mono hS12.size)) ?_
      clear hK K
      try ((repeat rw [put_none]); (try simp only [put_some, List.setIfInBounds_toArray, List.set_cons_succ, List.set_cons_zero]))
      apply rem_sure 13 (by kernel_rfl) rfl (wanted_none rfl)
      · intro w2 hS K hK
        go_wp2_with fail
        exact hK _ hS (Ext.refl _)
      · kernel_rfl
      · kernel_rfl
      try ((repeat rw [put_none]); (try simp only [put_some, List.setIfInBounds_toArray, List.set_cons_succ, List.set_cons_zero]))
      apply rem_sure 14 (by kernel_rfl) rfl (wanted_none rfl)
      · intro w2 hS K hK
        go_wp2_with fail
        exact hK _ hS (Ext.refl _)
      · kernel_rfl
      · kernel_rfl
      try ((repeat rw [put_none]); (try simp only [put_some, List.setIfInBounds_toArray, List.set_cons_succ, List.set_cons_zero]))
      refine rem_nil ?_
      intro v9 hS9 hE9
      exact ⟨I, J, g, rfl, Nat.le_trans hS12.size hg, hE9 _ _ hB, hS9⟩
    rintro b' W9 ⟨I, J, g, rfl, hg, hB, hk9⟩
    try ((repeat rw [put_none]); (try simp only [put_some, List.setIfInBounds_toArray, List.set_cons_succ, List.set_cons_zero]))
    go_wp2_with fail
    have hDlt : D < W.heap.size := (Array.getElem?_eq_some_iff.1 hWD).1
    have hK9 : W9.heap[D]? = some (.deferred (some [])) := (hk9.block D hDlt).trans hWD
    refine ⟨by simp, .inl ⟨_, _, rfl, run_takeDeferred hK9, ?_⟩⟩
    have hwD : w.heap.size ≤ D := by have h1 := HSZ.out; have h2 : W7.heap.size ≤ D := hD; omega
    have hWs : w.heap.size ≤ W.heap.size := hbW.size
    refine ⟨_, results_tmp2 rfl _ _ _, g, rfl, by omega, ?_, ?_⟩
    · exact (World.putObj_heap_other (by omega)).trans hB
    · exact (hbW.trans (hk9.mono hWs)).trans (belowK_b (w := w) (Nat.le_refl _) W9 D _ _ hwD hK9 rfl rfl)
end Go.Proofs.Ytenppmciabdefaa
