/- The walk of ScalarProducts. No condition. -/
import Derived.Test.YtdcfpgclnhacmaaXb
namespace Go.Proofs.Ytdcfpgclnhacmaa
open Go Go.RowKit
set_option maxHeartbeats 4000000 in
set_option maxRecDepth 100000 in
theorem scalarProducts_walk (a0 : Option Addr) (n0 c0 : Nat) (l0 : List Int) (a1 : Option Addr) (n1 c1 : Nat) (l1 : List Int) (a2 : Option Addr) (n2 c2 : Nat) (l2 : List Int) (w : World) (b0 : Bs w a0 n0 l0) (e0 : n0 ≤ c0) (g0 : c0 ≤ 140737488351232) (b1 : Bs w a1 n1 l1) (e1 : n1 ≤ c1) (g1 : c1 ≤ 140737488351232) (b2 : Bs w a2 n2 l2) (e2 : n2 ≤ c2) (g2 : c2 ≤ 140737488351232) :
    Calls Try.prog 3 #[.slice a0 n0 c0, .slice a1 n1 c1, .slice a2 n2 c2] w fun e w' => e = .returned (.bool true) ∧ Below w.heap.size w w' := by
  have hl0 := Lib.hid b0.1
  have hl1 := Lib.hid b1.1
  have hl2 := Lib.hid b2.1
  go_enter Try.func3, Try.ntmps3
  go_wp2_with fail
  refine (lent_any a0 n0 c0 l0 _ (by omega) b0).mono ?_
  rintro e w1 ⟨g, cg, rfl, hcg, hcg2, hg, hglt, hBg, hb1⟩
  go_wp2_with fail
  refine (lent_any a1 n1 c1 l1 _ (by omega) (b1.keep hb1)).mono ?_
  rintro e w2 ⟨k, ck, rfl, hck, hck2, hk, hklt, hBk, hb2⟩
  have hb12 := bjoin hb1 hb2
  go_wp2_with fail
  refine (lent_any a2 n2 c2 l2 _ (by omega) (b2.keep hb12)).mono ?_
  rintro e w3 ⟨m, cm, rfl, hcm, hcm2, hm, hmlt, hBm, hb3⟩
  have hb13 := bjoin hb12 hb3
  have b0 := b0.keep hb13
  have b1 := b1.keep hb13
  have b2 := b2.keep hb13
  have hBg := (hBg.keep hb2).keep hb3
  have hBk := hBk.keep hb3
  unfold maxLen at hcg2 hck2 hcm2
  clear hb1 hb2 hb3 hb12 hg hglt hk hklt hm hmlt
  by_cases h : n0 = 32 ∧ n1 = 32 ∧ n2 = 32
  · obtain ⟨rfl, rfl, rfl⟩ := h
    go_wp2_with fail
    refine (muladd_yes _ _ _ cg ck cm l0 l1 l2 _ (hBg.head hl0.out) (hBk.head hl1.out) (hBm.head hl2.out)).mono ?_
    rintro e w4 ⟨b, rfl, hlt, hB, hb4⟩
    go_wp2_with fail
    refine (tmuladd_yes _ _ _ c0 c1 c2 l0 l1 l2 _ (b0.keep hb4) (b1.keep hb4) (b2.keep hb4)).mono ?_
    rintro e w5 ⟨q, cq, rfl, hq, hcq, hR, hb5⟩
    have cA := conv_at (cap := 32) (hB.keep hb5)
    have cB := conv_at (cap := cq) hR
    have hb45 := bjoin hb4 hb5
    have hb15 := bjoin hb13 hb45
    have b0 := b0.keep hb45
    have b1 := b1.keep hb45
    have b2 := b2.keep hb45
    have hBg := hBg.keep hb45
    have hBk := hBk.keep hb45
    have hBm := hBm.keep hb45
    clear hb13 hb4 hb5 hb45 hB hR hlt hq hcq
    generalize strOfNums (b32 ((vd 256 l0 * vd 256 l1 + vd 256 l2) % LL)) = S at *
    go_wp2_with fail
    refine (num_any _ _).mono ?_
    rintro e w' ⟨rfl, rfl⟩
    go_wp2_with fail
    refine (stays_any g cg _ 32 c0 l0 _ (by omega) hcg hcg2 hBg b0).mono ?_
    rintro e w6 ⟨rfl, k6, rfl⟩
    go_wp2_with fail
    refine (stays_any k ck _ 32 c1 l1 _ (by omega) hck hck2 (hBk.drewN _) (b1.drewN _)).mono ?_
    rintro e w7 ⟨rfl, k7, rfl⟩
    go_wp2_with fail
    refine (stays_any m cm _ 32 c2 l2 _ (by omega) hcm hcm2 (hBm.drewN _) (b2.drewN _)).mono ?_
    rintro e w8 ⟨rfl, k8, rfl⟩
    go_wp2_with fail
    refine (knows_any _).mono ?_
    rintro e w9 ⟨rfl, hb9⟩
    go_wp2
    go_ret
    exact ⟨rfl, bjoin (bel_drewN hb15 _) hb9⟩
  · have cA := conv_nil
    go_wp2_with fail
    refine (muladd_no _ _ _ n0 cg n1 ck n2 cm _ h).mono ?_
    rintro e w4 ⟨rfl, rfl⟩
    go_wp2_with fail
    refine (tmuladd_no _ _ _ n0 c0 n1 c1 n2 c2 _ h).mono ?_
    rintro e w5 ⟨rfl, rfl⟩
    go_wp2_with fail
    refine (num_any _ _).mono ?_
    rintro e w' ⟨rfl, rfl⟩
    go_wp2_with fail
    refine (stays_any g cg _ n0 c0 l0 _ (by omega) hcg hcg2 hBg b0).mono ?_
    rintro e w6 ⟨rfl, k6, rfl⟩
    go_wp2_with fail
    refine (stays_any k ck _ n1 c1 l1 _ (by omega) hck hck2 (hBk.drewN _) (b1.drewN _)).mono ?_
    rintro e w7 ⟨rfl, k7, rfl⟩
    go_wp2_with fail
    refine (stays_any m cm _ n2 c2 l2 _ (by omega) hcm hcm2 (hBm.drewN _) (b2.drewN _)).mono ?_
    rintro e w8 ⟨rfl, k8, rfl⟩
    go_wp2_with fail
    refine (knows_any _).mono ?_
    rintro e w9 ⟨rfl, hb9⟩
    go_wp2
    go_ret
    exact ⟨rfl, bjoin (bel_drewN hb13 _) hb9⟩
end Go.Proofs.Ytdcfpgclnhacmaa
