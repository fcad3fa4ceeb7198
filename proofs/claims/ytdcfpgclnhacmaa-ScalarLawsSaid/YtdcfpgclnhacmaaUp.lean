/- The walk of scalar.MulAdd. No condition. -/
import Derived.Test.YtdcfpgclnhacmaaUo
namespace Go.Proofs.Ytdcfpgclnhacmaa
open Go Go.RowKit
theorem OneBlk.drewI {W0 wr : World} {b : Nat} {t : TypeId} {cs : Array Value} (h : OneBlk W0 b t cs wr) : OneBlk W0 b t cs wr.drew := h.drew
theorem muladd_no (pa pb pc : Option Addr) (na ca nb cb nc cc : Nat) (w : World) (h : ¬ (na = 32 ∧ nb = 32 ∧ nc = 32)) :
    Calls Try.prog 9 #[.slice pa na ca, .slice pb nb cb, .slice pc nc cc] w fun e w' => e = .returned (.tuple #[.slice none 0 0, .int .i64 1]) ∧ w = w' := by
  by_cases h1 : na = 32
  · subst h1
    by_cases h2 : nb = 32
    · subst h2
      have h3 : ((nc : Int) != 32) = true := by rw [bne_iff_ne]; omega
      clear h
      go_enter Try.func9, Try.ntmps9
      go_wp2
      go_ret2
      exact ⟨rfl, rfl⟩
    · have h3 : ((nb : Int) != 32) = true := by rw [bne_iff_ne]; omega
      clear h h2
      go_enter Try.func9, Try.ntmps9
      go_wp2
      go_ret2
      exact ⟨rfl, rfl⟩
  · have h3 : ((na : Int) != 32) = true := by rw [bne_iff_ne]; omega
    clear h h1
    go_enter Try.func9, Try.ntmps9
    go_wp2
    go_ret2
    exact ⟨rfl, rfl⟩
theorem three_rows (w : World) (A B C Z : Array Value) (t : TypeId) : ∃ W0, ((((((w.alloc (.cells Z t)).alloc (.cells Z t)).alloc (.cells Z t)).setRow w.heap.size A).setRow (w.heap.size + 1) B).setRow (w.heap.size + 1 + 1) C) = W0 ∧ Below w.heap.size w W0 ∧
    W0.heap[w.heap.size]? = some (.cells A t (0, 0)) ∧ W0.heap[w.heap.size + 1]? = some (.cells B t (0, 0)) ∧ W0.heap[w.heap.size + 1 + 1]? = some (.cells C t (0, 0)) ∧
    (((w.alloc (.cells Z t)).alloc (.cells Z t)).alloc (.cells Z t)).heap[w.heap.size]? = some (.cells Z t (0, 0)) ∧
    ((((w.alloc (.cells Z t)).alloc (.cells Z t)).alloc (.cells Z t)).setRow w.heap.size A).heap[w.heap.size + 1]? = some (.cells Z t (0, 0)) ∧
    (((((w.alloc (.cells Z t)).alloc (.cells Z t)).alloc (.cells Z t)).setRow w.heap.size A).setRow (w.heap.size + 1) B).heap[w.heap.size + 1 + 1]? = some (.cells Z t (0, 0)) := by
  obtain ⟨W1, hW1, hz, hb, q0, q1, q2⟩ := three_new w (.cells Z t) (.cells Z t) (.cells Z t)
  rw [hW1]
  have r1 := (setRow_other W1 w.heap.size (w.heap.size + 1) A (by omega)).trans q1
  have r2 := (setRow_other W1 w.heap.size (w.heap.size + 1 + 1) A (by omega)).trans q2
  have r0 := setRow_here q0 A
  have s2 := (setRow_other (W1.setRow w.heap.size A) (w.heap.size + 1) (w.heap.size + 1 + 1) B (by omega)).trans r2
  have s1 := setRow_here r1 B
  have s0 := (setRow_other (W1.setRow w.heap.size A) (w.heap.size + 1) (w.heap.size) B (by omega)).trans r0
  refine ⟨_, rfl, below_setRow (below_setRow (below_setRow hb (by omega) _) (by omega) _) (by omega) _, (setRow_other _ (w.heap.size + 1 + 1) (w.heap.size) C (by omega)).trans s0, (setRow_other _ (w.heap.size + 1 + 1) (w.heap.size + 1) C (by omega)).trans s1, setRow_here s2 C, q0, r1, s2⟩
set_option maxRecDepth 100000 in
set_option maxHeartbeats 16000000 in
theorem muladd_yes (pa pb pc : Option Addr) (ca cb cc : Nat) (la lb lc : List Int) (w : World) (ha : Bs w pa 32 la) (hb : Bs w pb 32 lb) (hc : Bs w pc 32 lc) :
    Calls Try.prog 9 #[.slice pa 32 ca, .slice pb 32 cb, .slice pc 32 cc] w fun e w' => ∃ b, e = .returned (.tuple #[.slice (some ⟨b, 0, none⟩) 32 32, .int .i64 0]) ∧ w.heap.size ≤ b ∧ Bs w' (some ⟨b, 0, none⟩) 32 (b32 ((vd 256 la * vd 256 lb + vd 256 lc) % LL)) ∧ Below w.heap.size w w' := by
  have vX := vb_in ha.1 ha.2.1
  have vY := vb_in hb.1 hb.2.1
  have vZ := vb_in hc.1 hc.2.1
  go_enter Try.func9, Try.ntmps9
  go_wp2_with fail
  refine (get_any pa 32 ca la _ (by omega) ha).mono ?_
  rintro e w1 ⟨rfl, hb1⟩
  go_wp2_with fail
  refine (get_any pb 32 cb lb _ (by omega) (hb.keep hb1)).mono ?_
  rintro e w2 ⟨rfl, hb2⟩
  have hb12 := bjoin hb1 hb2
  go_wp2_with fail
  refine (get_any pc 32 cc lc _ (by omega) (hc.keep hb12)).mono ?_
  rintro e w3 ⟨rfl, hb3⟩
  have hb13 := bjoin hb12 hb3
  clear hb1 hb2 hb3 hb12 ha hb hc
  generalize hX : vd 256 la = X at *
  generalize hY : vd 256 lb = Y at *
  generalize hZ : vd 256 lc = Z at *
  have EX := Lib.hid hX
  have EY := Lib.hid hY
  have EZ := Lib.hid hZ
  clear hX hY hZ
  have VX := Lib.hid vX
  have VY := Lib.hid vY
  have VZ := Lib.hid vZ
  clear vX vY vZ
  have sA : ∀ V, (arrU (w9 V)).size = 9 := fun V => by rw [arrU_size, w9_length]
  have oA := fun V => arrU_one (w9 V)
  have SA := Lib.hid sA
  have OA := Lib.hid oA
  clear sA oA
  obtain ⟨W0, hW0, hbW, q0, q1, q2, z0, z1, z2⟩ := three_rows w3 (arrU (w9 X)) (arrU (w9 Y)) (arrU (w9 Z)) #[.int .u64 0, .int .u64 0, .int .u64 0, .int .u64 0, .int .u64 0, .int .u64 0, .int .u64 0, .int .u64 0, .int .u64 0] 40
  go_wp2_with (first | (refine wpList_store_row rfl 40 (.tmp 8) (.tmp 32) rfl w3.heap.size (arrU (w9 X)) rfl rfl 40 _ z0 (by rw [SA.out]; exact infoW) (by rw [SA.out]; rfl) (OA.out _) ?_) | (refine wpList_store_row rfl 40 (.tmp 9) (.tmp 34) rfl (w3.heap.size + 1) (arrU (w9 Y)) rfl rfl 40 _ z1 (by rw [SA.out]; exact infoW) (by rw [SA.out]; rfl) (OA.out _) ?_) | (refine wpList_store_row rfl 40 (.tmp 10) (.tmp 36) rfl (w3.heap.size + 1 + 1) (arrU (w9 Z)) rfl rfl 40 _ z2 (by rw [SA.out]; exact infoW) (by rw [SA.out]; rfl) (OA.out _) ?_; rw [hW0]))
  have hbW' := bjoin hb13 hbW
  have hle := hb13.size
  clear hW0 z0 z1 z2 hb13
  generalize w3.heap.size = s at *
  have HBW := Lib.hid hbW'
  clear hbW hbW'
  go_loopw [37] (fun i wr => ∃ n : Nat, n ≤ 4 ∧ i = .int .i64 n ∧ OneBlk W0 (s + 1 + 1) 40 (arrU (w9 (smu X Y Z n))) wr) (fun i _ => 4 - (intOf i).toNat)
  case atStart => exact ⟨0, by omega, rfl, by rw [smu_zero]; exact OneBlk.start q2⟩
  case round =>
    obtain ⟨n, hn, rfl, hG⟩ := hrel
    by_cases hlt : n < 4
    · obtain ⟨wo, rfl⟩ : ∃ wo : World, wo = wr := ⟨_, rfl⟩
      have hdl : decide ((n : Int) < 4) = true := by simp; omega
      go_wp2
      clear hdl
      go_loopw [40, 12] (fun k c wr => ∃ (m : Nat) (V C : Int), m ≤ 5 ∧ k = .int .i64 m ∧ c = .int .u64 C ∧ 0 ≤ C ∧ C < 18446744073709551616 ∧ Hid (0 ≤ V ∧ V < M9) ∧ Hid (V + 18446744073709551616 ^ (n + m) * C = smu X Y Z n + 18446744073709551616 ^ n * ((w9 X).getD n 0 * (Y % 18446744073709551616 ^ m))) ∧ OneBlk W0 (s + 1 + 1) 40 (arrU (w9 V)) wr) (fun k _ _ => 5 - (intOf k).toNat)
      case atStart => exact ⟨0, smu X Y Z n, 0, by omega, rfl, rfl, by omega, by omega, by have := smu_in X Y Z n VX.out VY.out VZ.out; exact ⟨this.1, small_M9 this.2 (by omega)⟩, by show _ = _; simp [Int.emod_one], hG⟩
      case round =>
        obtain ⟨m, V, C, hm, rfl, rfl, hC0, hC1, hV, hE, hI⟩ := hrel
        by_cases hmlt : m < 5
        · have hdm : decide ((m : Int) < 5) = true := by simp; omega
          have PL := Lib.hid (smu_place X Y Z V C n m (by omega) (by omega) hE.out hV.out)
          have dX := fun (w' : World) (h : OneBlk W0 (s + 1 + 1) 40 (arrU (w9 V)) w') => (h.farCell (i := s) (j := n) (by omega)).trans ((cell_of_row W0 _ n _ _ _ q0).trans (arrU_at _ _ (by rw [w9_length]; omega)))
          have dY := fun (w' : World) (h : OneBlk W0 (s + 1 + 1) 40 (arrU (w9 V)) w') => (h.farCell (i := s + 1) (j := m) (by omega)).trans ((cell_of_row W0 _ m _ _ _ q1).trans (arrU_at _ _ (by rw [w9_length]; omega)))
          have dV := fun (w' : World) (h : OneBlk W0 (s + 1 + 1) 40 (arrU (w9 V)) w') => (h.cell (n + m)).trans (arrU_at _ _ (by rw [w9_length]; omega))
          have xb := w9_range X n
          have yb := w9_range Y m
          have vb := w9_range V (n + m)
          have HX := Lib.hid dX
          have HY := Lib.hid dY
          have HV := Lib.hid dV
          have M9f : ∀ (V' x : Int), 0 ≤ x ∧ x < 18446744073709551616 → V' = V + 18446744073709551616 ^ (n + m) * (x - (w9 V).getD (n + m) 0) → 0 ≤ V' ∧ V' < M9 := fun V' x hx h => set_M9 (by omega) hx hV.out h
          have HM := Lib.hid M9f
          generalize (w9 X).getD n 0 = x at *
          generalize (w9 Y).getD m 0 = y at *
          generalize (w9 V).getD (n + m) 0 = v at *
          obtain ⟨p0, p1, p2, p3, p4, p5⟩ := place_mul x y C v xb yb ⟨hC0, hC1⟩ vb
          have P2 : Hid ((v + (x * y % 18446744073709551616 + C)) % 18446744073709551616 = (v + (x * y + C)) % 18446744073709551616) := by
            show _ = _
            generalize x * y = t
            omega
          have P3 : Hid (IntKind.u64.wrap (x * y / 18446744073709551616 + (x * y % 18446744073709551616 + C) / 18446744073709551616 + (v + (x * y % 18446744073709551616 + C) % 18446744073709551616) / 18446744073709551616) = (v + (x * y + C)) / 18446744073709551616) := by
            show _ = _
            rw [p3, IntKind.wrap_u64, Int.emod_eq_of_lt p4 p5]
          have P4 := Lib.hid p4
          have P5 := Lib.hid p5
          have h9 : (n : Int) + m < 9 := by omega
          clear dX dY dV M9f hE hV p2 p3 p4 p5 hG
          go_wp2_with fail
          have hst := hI
          refine wp_region_rem (OneBlk W0 (s + 1 + 1) 40 (arrU (w9 V))) (by kernel_rfl) (by kernel_rfl) (fun _ _ d _ _ h => by cases d <;> exact h) hst.drew ?_
          apply rem_sure 0 (by kernel_rfl) rfl (wanted_none rfl)
          · intro w2 hS K hK
            go_wp2_with fail
            exact hK _ hS (Ext.refl _)
          · kernel_rfl
          · kernel_rfl
          try simp only [put_some, List.setIfInBounds_toArray, List.set_cons_succ, List.set_cons_zero]
          apply rem_sure 1 (by kernel_rfl) rfl (wanted_none rfl)
          · intro w2 hS K hK
            go_wp2_with fail
            exact hK _ hS (Ext.refl _)
          · kernel_rfl
          · kernel_rfl
          try simp only [put_some, List.setIfInBounds_toArray, List.set_cons_succ, List.set_cons_zero]
          apply rem_sure 2 (by kernel_rfl) rfl (wanted_none rfl)
          · intro w2 hS K hK
            have cx := HX.out w2 hS
            go_wp2_with fail
            exact hK _ hS (Ext.refl _)
          · kernel_rfl
          · kernel_rfl
          try simp only [put_some, List.setIfInBounds_toArray, List.set_cons_succ, List.set_cons_zero]
          apply rem_sure 3 (by kernel_rfl) rfl (wanted_none rfl)
          · intro w2 hS K hK
            go_wp2_with fail
            exact hK _ hS (Ext.refl _)
          · kernel_rfl
          · kernel_rfl
          try simp only [put_some, List.setIfInBounds_toArray, List.set_cons_succ, List.set_cons_zero]
          apply rem_sure 4 (by kernel_rfl) rfl (wanted_none rfl)
          · intro w2 hS K hK
            go_wp2_with fail
            exact hK _ hS (Ext.refl _)
          · kernel_rfl
          · kernel_rfl
          try simp only [put_some, List.setIfInBounds_toArray, List.set_cons_succ, List.set_cons_zero]
          apply rem_sure 5 (by kernel_rfl) rfl (wanted_none rfl)
          · intro w2 hS K hK
            have cy := HY.out w2 hS
            go_wp2_with fail
            exact hK _ hS (Ext.refl _)
          · kernel_rfl
          · kernel_rfl
          try simp only [put_some, List.setIfInBounds_toArray, List.set_cons_succ, List.set_cons_zero]
          refine rem_one 6 (by kernel_rfl) (step_of rfl (wanted_none rfl) ?_)
          intro v21 hS21 hE21 K hK
          go_wp2_with fail
          refine (mul64_any x y _ xb yb).mono ?_
          rintro e u21 ⟨rfl, rfl⟩
          refine hK _ _ (hS21) ?_
          clear hK K
          try simp only [put_some, List.setIfInBounds_toArray, List.set_cons_succ, List.set_cons_zero]
          apply rem_sure 7 (by kernel_rfl) rfl (wanted_none rfl)
          · intro w2 hS K hK
            go_wp2_with fail
            exact hK _ hS (Ext.refl _)
          · kernel_rfl
          · kernel_rfl
          try simp only [put_some, List.setIfInBounds_toArray, List.set_cons_succ, List.set_cons_zero]
          apply rem_sure 8 (by kernel_rfl) rfl (wanted_none rfl)
          · intro w2 hS K hK
            go_wp2_with fail
            exact hK _ hS (Ext.refl _)
          · kernel_rfl
          · kernel_rfl
          try simp only [put_some, List.setIfInBounds_toArray, List.set_cons_succ, List.set_cons_zero]
          apply rem_sure 9 (by kernel_rfl) rfl (wanted_none rfl)
          · intro w2 hS K hK
            go_wp2_with fail
            exact hK _ hS (Ext.refl _)
          · kernel_rfl
          · kernel_rfl
          try simp only [put_some, List.setIfInBounds_toArray, List.set_cons_succ, List.set_cons_zero]
          apply rem_sure 10 (by kernel_rfl) rfl (wanted_none rfl)
          · intro w2 hS K hK
            go_wp2_with fail
            exact hK _ hS (Ext.refl _)
          · kernel_rfl
          · kernel_rfl
          try simp only [put_some, List.setIfInBounds_toArray, List.set_cons_succ, List.set_cons_zero]
          apply rem_sure 11 (by kernel_rfl) rfl (wanted_none rfl)
          · intro w2 hS K hK
            go_wp2_with fail
            exact hK _ hS (Ext.refl _)
          · kernel_rfl
          · kernel_rfl
          try simp only [put_some, List.setIfInBounds_toArray, List.set_cons_succ, List.set_cons_zero]
          refine rem_nil ?_
          intro v9 hS9 hE9
          have hV9 := HV.out v9 hS9
          have fV9 := hS9.free (n + m)
          have HS9 := Lib.hid hS9
          have hlo := Int.emod_nonneg (x * y) (show (18446744073709551616 : Int) ≠ 0 by omega)
          have hlo1 := Int.emod_lt_of_pos (x * y) (show (0 : Int) < 18446744073709551616 by omega)
          have hhi : 0 ≤ x * y / 18446744073709551616 := Int.ediv_nonneg (Int.mul_nonneg xb.1 yb.1) (by omega)
          generalize x * y / 18446744073709551616 = hi at *
          generalize x * y % 18446744073709551616 = lo at *
          clear hS9 hE9 hI hst
          go_wp2_with (rw [add64_run _ _ _ (by omega) (by omega) (by omega) (by omega)])
          go_roundw
          case rel =>
            have pl := PL.out
            exact ⟨m + 1, V + 18446744073709551616 ^ (n + m) * ((v + (x * y + C)) % 18446744073709551616 - v), (v + (x * y + C)) / 18446744073709551616, by omega, by go_num, by rw [P3.out], P4.out, P5.out, HM.out _ _ ⟨Int.emod_nonneg _ (by omega), Int.emod_lt_of_pos _ (by omega)⟩ rfl, pl.2, by rw [P2.out, ← pl.1, ← arrU_set]; exact HS9.out.setCell _ _⟩
          case measure => simp [intOf]; omega
        · obtain rfl : m = 5 := by omega
          have hdm : decide ((5 : Int) < 5) = false := rfl
          have hE5 : Hid (V + 18446744073709551616 ^ (n + 5) * C = smu X Y Z (n + 1)) := by
            have := hE.out
            rw [Int.emod_eq_of_lt VY.out.1 (by have := VY.out.2; have h1 : (2 : Int) ^ (8 * 32) < 18446744073709551616 ^ 5 := by decide +kernel
                                               omega), ← smu_next X Y Z n (by omega)] at this
            exact this
          clear hE
          rw [show ((5 : Nat) : Int) = 5 from rfl]
          go_wp2
          go_loopw [17, 12] (fun k c wr => ∃ (m : Nat) (V C : Int), n + 5 ≤ m ∧ m ≤ 9 ∧ k = .int .i64 m ∧ c = .int .u64 C ∧ 0 ≤ C ∧ C < 18446744073709551616 ∧ Hid (0 ≤ V ∧ V < M9) ∧ Hid (V + 18446744073709551616 ^ m * C = smu X Y Z (n + 1)) ∧ OneBlk W0 (s + 1 + 1) 40 (arrU (w9 V)) wr) (fun k _ _ => 9 - (intOf k).toNat)
          case atStart => exact ⟨n + 5, V, C, by omega, by omega, by go_num, rfl, hC0, hC1, hV, hE5, hI⟩
          case round =>
            clear hV hE5 hI hC0 hC1
            obtain ⟨m, V, C, hm5, hm, rfl, rfl, hC0, hC1, hV, hE, hI⟩ := hrel
            by_cases hmc : m < 9 ∧ 0 < C
            · obtain ⟨hmlt, hCp⟩ := hmc
              have hdm : decide ((m : Int) < 9) = true := by simp; omega
              have hdc : decide (C > 0) = true := by simpa using hCp
              have dV := (hI.cell m).trans (arrU_at _ _ (by rw [w9_length]; omega))
              have fV := hI.free m
              have vb := w9_range V m
              have pa := place_add (β := 18446744073709551616) (by omega) 9 V m C hmlt hV.out.1 hV.out.2
              have PA := Lib.hid pa
              have HM : Hid (0 ≤ V + 18446744073709551616 ^ m * (((w9 V).getD m 0 + C) % 18446744073709551616 - (w9 V).getD m 0) ∧ V + 18446744073709551616 ^ m * (((w9 V).getD m 0 + C) % 18446744073709551616 - (w9 V).getD m 0) < M9) := set_M9 hmlt ⟨Int.emod_nonneg _ (by omega), Int.emod_lt_of_pos _ (by omega)⟩ hV.out rfl
              generalize (w9 V).getD m 0 = v at *
              have HI := Lib.hid hI
              clear pa hI
              go_wp2_with (rw [add64_run _ _ _ (by omega) (by omega) (by omega) (by omega)])
              go_roundw
              case rel =>
                have pl := PA.out
                have pl1 : (w9 V).set m ((v + C) % 18446744073709551616) = w9 (V + 18446744073709551616 ^ m * ((v + C) % 18446744073709551616 - v)) := pl.1
                exact ⟨m + 1, V + 18446744073709551616 ^ m * ((v + C) % 18446744073709551616 - v), (v + C) / 18446744073709551616, by omega, by omega, by go_num, rfl, by omega, by omega, HM, by show _ = _; rw [pl.2, hE.out], by rw [← pl1, ← arrU_set]; exact HI.out.setCell _ _⟩
              case measure => simp [intOf]; omega
            · have hfin : V = smu X Y Z (n + 1) := by
                by_cases hCz : C = 0
                · have := hE.out; rw [hCz, Int.mul_zero] at this; omega
                · obtain rfl : m = 9 := by omega
                  have h1 := hE.out
                  have h2 := (smu_in X Y Z (n + 1) VX.out VY.out VZ.out).2
                  have h3 := small_M9 h2 (by omega)
                  have h4 : (18446744073709551616 : Int) ^ 9 = M9 := rfl
                  rw [h4] at h1
                  have h5 : M9 * 1 ≤ M9 * C := Int.mul_le_mul_of_nonneg_left (by omega) (by unfold M9; decide)
                  have := hV.out.1
                  omega
              by_cases hmlt : m < 9
              · obtain rfl : C = 0 := by omega
                have hdm : decide ((m : Int) < 9) = true := by simp; omega
                have HF := Lib.hid hfin
                clear hmc hE hV hfin
                go_wp2
                go_roundw
                case rel => exact ⟨n + 1, by omega, by go_num, by rw [← HF.out]; exact hI⟩
                case measure => simp [intOf]; omega
              · have hdm : decide ((m : Int) < 9) = false := by simp; omega
                have HF := Lib.hid hfin
                clear hmc hE hV hfin
                go_wp2
                go_roundw
                case rel => exact ⟨n + 1, by omega, by go_num, by rw [← HF.out]; exact hI⟩
                case measure => simp [intOf]; omega
    · obtain rfl : n = 4 := by omega
      have hX4 : smu X Y Z 4 = X * Y + Z := by
        unfold smu
        rw [Int.emod_eq_of_lt VX.out.1 (by have := VX.out.2; have h1 : (2 : Int) ^ (8 * 32) = 18446744073709551616 ^ 4 := by decide +kernel
                                           omega)]
        omega
      have hin := smu_in X Y Z 4 VX.out VY.out VZ.out
      rw [hX4] at hG hin
      have hA := hG.blk
      have hbel := hG.below HBW.out (by omega)
      have h0 := hin.1
      have h1 := Lib.hid (small_rest hin.2 (by omega))
      have HG := Lib.hid hG
      clear hG hin hX4
      have hdl : decide ((4 : Int) < 4) = false := rfl
      go_wp2_with (first | (refine wpList_load_row rfl 40 _ rfl (s + 1 + 1) rfl _ _ _ _ hA Try.underlying40 rfl (by rw [SA.out]; exact infoW) ?_) | fail)
      refine (rest_any _ _ h0 h1.out).mono ?_
      rintro e w6 ⟨rfl, hb6⟩
      go_wp2_with fail
      refine (put_any _ _).mono ?_
      rintro e w7 ⟨b, rfl, hlt, hblk, hb7⟩
      have hb56 := bjoin hbel hb6
      have hs := hb56.size
      have hB := Bs.b32 hblk
      clear hblk hbel hb6 hA
      go_wp2
      go_ret2
      exact ⟨b, rfl, by omega, by rw [EX.out, EY.out, EZ.out]; exact hB, bjoin hb56 hb7⟩
end Go.Proofs.Ytdcfpgclnhacmaa
