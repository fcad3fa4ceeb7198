/- The walk of synodref04.Neg. No condition. -/
import Derived.Test.YtdcfpgclnhacmaaTd
import Derived.Test.YtdcfpgclnhacmaaWp
namespace Go.Proofs.Ytdcfpgclnhacmaa
open Go Go.RowKit
/-- Are the first k bytes 0? -/
def zr (L : List Int) (k : Nat) : Bool := (L.take k).all fun x => x == 0
theorem zr_next (L : List Int) (k : Nat) (hk : k < L.length) : zr L (k + 1) = (zr L k && (L.getD k 0 == 0)) := by
  unfold zr
  rw [List.take_succ_eq_append_getElem hk, List.all_append]
  simp [List.getD, hk]
theorem zr_all {R : Int} (h0 : 0 ≤ R) (h1 : R < LL) : zr (b32 R) 32 = decide (R = 0) := by
  have hv : vd 256 (b32 R) = R := vd_dg (by omega) 32 R h0 (by have : LL < 256 ^ 32 := by { unfold LL; decide +kernel }; omega)
  unfold zr
  rw [List.take_of_length_le (by rw [b32_length]; omega)]
  by_cases h : R = 0
  · subst h; decide +kernel
  · rw [decide_eq_false h, Bool.eq_false_iff]
    intro ha
    apply h
    rw [← hv]
    have : ∀ L : List Int, (L.all fun x => x == 0) = true → vd 256 L = 0 := by
      intro L
      induction L with
      | nil => intro _; rfl
      | cons x L ih =>
        intro h
        simp only [List.all_cons, Bool.and_eq_true, beq_iff_eq] at h
        simp [vd, h.1, ih h.2]
    exact this _ ha
theorem getD_self (L : List Int) (k : Nat) : L.set k (L.getD k 0) = L := by
  apply List.ext_getElem?
  intro j
  rw [List.getElem?_set]
  by_cases h : k = j
  · subst h
    by_cases hk : k < L.length
    · simp [hk]
    · simp [hk]
  · rw [if_neg h]
theorem mix_32 (R : Int) (h0 : 0 ≤ R) (h1 : R < LL) : mix (d34 R) (d34 0) 32 = d34 R := by
  have hL : LL < 256 ^ 32 := by unfold LL; decide +kernel
  have z : ∀ k, 32 ≤ k → k < 34 → mix (d34 R) (d34 0) k = mix (d34 R) (d34 0) (k + 1) := by
    intro k hk hk2
    have hl : (d34 R).length = (d34 0).length := by rw [d34_length, d34_length]
    rw [← mix_set _ _ k hl (by rw [d34_length]; exact hk2)]
    have e1 : (d34 R).getD k 0 = 0 := by
      rw [d34_at R k hk2, Int.ediv_eq_zero_of_lt h0 (by
        have : (256 : Int) ^ 32 ≤ 256 ^ k := by rw [pow8, pow8]; exact pow2_le (by omega)
        omega)]; rfl
    have e2 := mix_at (d34 R) (d34 0) k hl (by rw [d34_length]; exact hk2)
    rw [d34_at 0 k hk2] at e2
    rw [e1]
    conv => lhs; rw [← getD_self (mix (d34 R) (d34 0) k) k]
    rw [e2]; simp
  rw [z 32 (by omega) (by omega), z 33 (by omega) (by omega)]
  have := mix_all (d34 R) (d34 0) (by rw [d34_length, d34_length])
  rwa [d34_length] at this
set_option maxHeartbeats 1000000 in
theorem tneg_no (p : Option Addr) (n cap : Nat) (w : World) (hn : n ≠ 32) :
    Calls Try.prog 15 #[.slice p n cap] w fun e w' => e = .returned (.tuple #[.slice none 0 0, .int .i64 1]) ∧ w = w' := by
  have hd : ((n : Int) != 32) = true := by rw [bne_iff_ne]; omega
  go_enter Try.func15, Try.ntmps15
  go_wp2
  go_ret2
  exact ⟨rfl, rfl⟩
set_option maxRecDepth 100000 in
set_option maxHeartbeats 8000000 in
theorem tneg_yes (p : Option Addr) (cap : Nat) (l : List Int) (w : World) (hr : Bs w p 32 l) :
    Calls Try.prog 15 #[.slice p 32 cap] w fun e w' => ∃ g cap', e = .returned (.tuple #[.slice (some ⟨g, 0, none⟩) 32 cap', .int .i64 0]) ∧ w.heap.size ≤ g ∧ 32 ≤ cap' ∧ Bs w' (some ⟨g, 0, none⟩) 32 (b32 ((-vd 256 l) % LL)) ∧ Below w.heap.size w w' := by
  have hmk := make34
  obtain ⟨n0, n9, n1, n2⟩ := neg_val (vd 256 l)
  have hml := mod_LL (vd 256 l)
  have N2 := Lib.hid n2
  have ML := Lib.hid hml
  clear n1 n2 n9 n0 hml
  go_enter Try.func15, Try.ntmps15
  go_wp2_with fail
  refine (treduce_yes p 32 cap l _ (by omega) hr).mono ?_
  rintro e w1 ⟨gr, cr, rfl, hgr, hcr, hB, hb1⟩
  generalize hR : vd 256 l % LL = R at *
  have HR := Lib.hid hR
  clear hR hr
  have hgrl : gr < w1.heap.size := World.block_lt_of_cell? w1 _ (hB.cell 0 (by omega))
  have cB := fun i hi => hB.cell i hi
  have CB := Lib.hid cB
  have HB := Lib.hid hB
  clear cB hB
  go_wp2
  obtain ⟨W0, hW0, hz, hb0, q0⟩ := one_new w1 (.cells (arrI (mix (d34 R) (d34 0) 0)) 3)
  rw [show Obj.cells Z34 3 = .cells (arrI (mix (d34 R) (d34 0) 0)) 3 from by rw [mix_zero, d34_zero], hW0]
  have HZ := Lib.hid hz
  clear hW0 hz hmk
  go_loopw [7, 8] (fun z i wr => ∃ k : Nat, k ≤ 32 ∧ i = .int .i64 k ∧ z = .bool (zr (b32 R) k) ∧ OneBlk W0 w1.heap.size 3 (arrI (mix (d34 R) (d34 0) k)) wr) (fun _ i _ => 32 - (intOf i).toNat)
  case atStart => exact ⟨0, by omega, rfl, rfl, OneBlk.start q0⟩
  case round =>
    obtain ⟨k, hk, rfl, rfl, hI⟩ := hrel
    by_cases hlt : k < 32
    · have hdk : decide ((k : Int) < 32) = true := by simp; omega
      have hl : (d34 R).length = (d34 0).length := by rw [d34_length, d34_length]
      have hbel := hI.below hb0 (Nat.le_refl _)
      have cr' : wr.cell? ⟨gr, k, none⟩ = some (.int .u8 ((b32 R).getD k 0)) := by
        have h1 := CB.out k hlt
        rw [Nat.zero_add] at h1
        rw [hbel.cell (p := ⟨gr, k, none⟩) hgrl]
        exact h1
      have cr2 : ∀ v, (wr.setCell ⟨w1.heap.size, k, none⟩ v).cell? ⟨gr, k, none⟩ = some (.int .u8 ((b32 R).getD k 0)) := fun v => by
        rw [((hI.setCell k v).below hb0 (Nat.le_refl _)).cell (p := ⟨gr, k, none⟩) hgrl]
        have h1 := CB.out k hlt
        rwa [Nat.zero_add] at h1
      have cx := (hI.cell k).trans (arrI_at _ _ (by rw [mix_length _ _ _ hl (by rw [d34_length]; omega), d34_length]; omega))
      have fx := hI.free k
      have xb : 0 ≤ (b32 R).getD k 0 ∧ (b32 R).getD k 0 < 256 := dg_in (by omega) 32 R k
      have hst : (arrI (mix (d34 R) (d34 0) k)).setIfInBounds k (.int .i64 ((b32 R).getD k 0)) = arrI (mix (d34 R) (d34 0) (k + 1)) := by
        rw [arrI_set, dg_at (by omega) 32 R k hlt, ← d34_at R k (by omega), mix_set _ _ _ hl (by rw [d34_length]; omega)]
      have hzn := zr_next (b32 R) k (by rw [b32_length]; exact hlt)
      generalize (b32 R).getD k 0 = x at *
      generalize (mix (d34 R) (d34 0) k).getD k 0 = y at *
      have HST := Lib.hid hst
      have HI := Lib.hid hI
      have CR2 := cr2 (.int .i64 x)
      clear hst hI hbel hl cr2
      cases hzk : zr (b32 R) k with
      | false =>
        rw [hzk, Bool.false_and] at hzn
        have HZN := Lib.hid hzn
        clear hzn hzk
        go_wp2
        go_roundw
        case rel => exact ⟨k + 1, by omega, by go_num, by rw [HZN.out], by rw [← HST.out]; exact HI.out.setCell _ _⟩
        case measure => simp [intOf]; omega
      | true =>
        rw [hzk, Bool.true_and] at hzn
        have HZN := Lib.hid hzn
        clear hzn hzk
        go_wp2
        go_roundw
        case rel => exact ⟨k + 1, by omega, by go_num, by rw [HZN.out], by rw [← HST.out]; exact HI.out.setCell _ _⟩
        case measure => simp [intOf]; omega
    · obtain rfl : k = 32 := by omega
      have hdk : decide ((32 : Int) < 32) = false := rfl
      rw [zr_all ML.out.1 ML.out.2]
      have hA := hI.blk
      rw [mix_32 R ML.out.1 ML.out.2] at hA
      have hbel := hI.below hb0 (Nat.le_refl _)
      have hb1r := bjoin hb1 hbel
      have hBr := HB.out.keep hbel
      have hN2 := N2.out
      have hIx := Is.of_block hA (d34_length R)
      clear hI hA CB HB
      by_cases hR0 : R = 0
      · have hd0 : decide (R = 0) = true := by simpa using hR0
        rw [hd0]
        have hRm : (-vd 256 l) % LL = R := by
          rw [← hN2, hR0]; unfold LL; decide
        have HRM := Lib.hid hRm
        clear hN2 hR0 hd0 hRm
        go_wp2
        go_ret2
        exact ⟨gr, cr, rfl, hgr, hcr, by rw [HRM.out]; exact hBr, hb1r⟩
      · have hd0 : decide (R = 0) = false := by simpa using hR0
        rw [hd0]
        have HN2 := Lib.hid hN2
        clear hN2 hd0
        go_wp2_with fail
        refine (order_any _).mono ?_
        rintro e w3 ⟨gl, cl, rfl, hcl, _, hgl, hIl, hb3⟩
        have hIx3 := hIx.keep hb3
        have hb13 := bjoin hb1r hb3
        clear hIx hb1r hb3
        go_wp2_with fail
        refine (less_any _ _ cl 34 LL R _ hIl hIx3 ⟨Int.le_of_lt LL_pos, L34.1⟩ ⟨ML.out.1, by have := ML.out.2; have := L34.1; omega⟩).mono ?_
        rintro e w4 ⟨gy, rfl, hgy, hy, hb4⟩
        have hIy := Is.of_block hy (d34_length (LL - R))
        have hb14 := bjoin hb13 hb4
        have hlr : 0 ≤ LL - R ∧ LL - R < 256 ^ 34 := by have := ML.out; have := L34.1; omega
        have HLR := Lib.hid hlr
        clear hb13 hb4 hy hIl hIx3 hlr
        go_wp2_with fail
        refine (trest_any _ 34 34 (d34 (LL - R)) _ (by omega) hIy (dg_in (by omega) 34 _)).mono ?_
        rintro e w5 ⟨g, cg, rfl, hg, hcg, hB5, hb5⟩
        rw [vd_dg (by omega) 34 _ HLR.out.1 HLR.out.2, HN2.out] at hB5
        have hs := hb14.size
        go_wp2
        go_ret2
        exact ⟨g, cg, rfl, by omega, hcg, hB5, bjoin hb14 hb5⟩
end Go.Proofs.Ytdcfpgclnhacmaa
