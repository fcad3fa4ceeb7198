/- The walk of FieldSums. No condition. -/
import Derived.Test.YtenppmciabdefaaWt
import Derived.Test.YtenppmciabdefaaVproducts
namespace Go.Proofs.Ytenppmciabdefaa
open Go.RowKit
set_option maxHeartbeats 4000000 in
set_option maxRecDepth 100000 in
theorem fieldSums_walk (a0 : Option Addr) (n0 c0 : Nat) (l0 : List Int) (a1 : Option Addr) (n1 c1 : Nat) (l1 : List Int) (w : World) (b0 : Bs w a0 n0 l0) (e0 : n0 ≤ c0) (g0 : c0 ≤ 140737488351232) (b1 : Bs w a1 n1 l1) (e1 : n1 ≤ c1) (g1 : c1 ≤ 140737488351232) :
    Calls Try.prog 5 #[.slice a0 n0 c0, .slice a1 n1 c1] w fun e w' => e = .returned (.bool true) ∧ Below w.heap.size w w' := by
  have hl0 := Lib.hid b0.1
  have hl1 := Lib.hid b1.1
  go_enter Try.func5, Try.ntmps5
  go_wp2_with fail
  refine (lent_any a0 n0 c0 l0 _ (by omega) b0).mono ?_
  rintro e w1 ⟨g, cg, rfl, hcg, hcg2, _, _, hBg, hb1⟩
  go_wp2_with fail
  refine (lent_any a1 n1 c1 l1 _ (by omega) (b1.keep hb1)).mono ?_
  rintro e w2 ⟨k, ck, rfl, hck, hck2, _, _, hBk, hb2⟩
  have hb := Below.join hb1 hb2
  have b0 := b0.keep hb
  have b1 := b1.keep hb
  have hBg := hBg.keep hb2
  have m0 : n0 ≤ maxLen := by unfold maxLen; omega
  have m1 : n1 ≤ maxLen := by unfold maxLen; omega
  unfold maxLen at hcg2 hck2
  clear hb1 hb2
  go_wp2_with fail
  refine (gAdd_any _ _ n0 cg n1 ck l0 l1 _ (hBg.head hl0.out) (hBk.head hl1.out) (by omega) (by omega) m0 m1).mono ?_
  rintro e w3 ⟨p1, k1, d1, rfl, _, hR1, hb3⟩
  have hb := Below.join hb hb3
  have b0 := b0.keep hb3
  have b1 := b1.keep hb3
  have hBg := hBg.keep hb3
  have hBk := hBk.keep hb3
  clear hb3
  go_wp2_with fail
  refine (radd_any _ _ n0 c0 n1 c1 l0 l1 _ b0 b1).mono ?_
  rintro e w3 ⟨p2, k2, d2, rfl, _, hR2, hb3⟩
  have hb := Below.join hb hb3
  have b0 := b0.keep hb3
  have b1 := b1.keep hb3
  have hBg := hBg.keep hb3
  have hBk := hBk.keep hb3
  have hR1 := hR1.keep hb3
  clear hb3
  go_wp2_with fail
  refine (gSub_any _ _ n0 cg n1 ck l0 l1 _ (hBg.head hl0.out) (hBk.head hl1.out) (by omega) (by omega) m0 m1).mono ?_
  rintro e w3 ⟨p3, k3, d3, rfl, _, hR3, hb3⟩
  have hb := Below.join hb hb3
  have b0 := b0.keep hb3
  have b1 := b1.keep hb3
  have hBg := hBg.keep hb3
  have hBk := hBk.keep hb3
  have hR1 := hR1.keep hb3
  have hR2 := hR2.keep hb3
  clear hb3
  go_wp2_with fail
  refine (rsub_any _ _ n0 c0 n1 c1 l0 l1 _ b0 b1).mono ?_
  rintro e w3 ⟨p4, k4, d4, rfl, _, hR4, hb3⟩
  have hb := Below.join hb hb3
  have b0 := b0.keep hb3
  have b1 := b1.keep hb3
  have hBg := hBg.keep hb3
  have hBk := hBk.keep hb3
  have hR1 := hR1.keep hb3
  have hR2 := hR2.keep hb3
  have hR3 := hR3.keep hb3
  clear hb3
  go_wp2_with fail
  refine (gCanon_any _ n0 cg l0 _ (hBg.head hl0.out) (by omega) m0).mono ?_
  rintro e w3 ⟨p5, k5, d5, rfl, _, hR5, hb3⟩
  have hb := Below.join hb hb3
  have b0 := b0.keep hb3
  have b1 := b1.keep hb3
  have hBg := hBg.keep hb3
  have hBk := hBk.keep hb3
  have hR1 := hR1.keep hb3
  have hR2 := hR2.keep hb3
  have hR3 := hR3.keep hb3
  have hR4 := hR4.keep hb3
  clear hb3
  go_wp2_with fail
  refine (rcanon_any _ n0 c0 l0 _ b0).mono ?_
  rintro e w3 ⟨p6, k6, d6, rfl, _, hR6, hb3⟩
  have hb := Below.join hb hb3
  have b0 := b0.keep hb3
  have b1 := b1.keep hb3
  have hBg := hBg.keep hb3
  have hBk := hBk.keep hb3
  have hR1 := hR1.keep hb3
  have hR2 := hR2.keep hb3
  have hR3 := hR3.keep hb3
  have hR4 := hR4.keep hb3
  have hR5 := hR5.keep hb3
  clear hb3
  have cv1 := conv_at (cap := d1) hR1
  have cv2 := conv_at (cap := d2) hR2
  have cv3 := conv_at (cap := d3) hR3
  have cv4 := conv_at (cap := d4) hR4
  have cv5 := conv_at (cap := d5) hR5
  have cv6 := conv_at (cap := d6) hR6
  clear hR1 hR2 hR3 hR4 hR5 hR6
  generalize strOfNums (oL (both l0 l1) (valB l0 + valB l1)) = S at *
  generalize strOfNums (oL (both l0 l1) (valB l0 - valB l1)) = T at *
  generalize strOfNums (oL (is32 l0) (valB l0)) = U at *
  generalize oE (both l0 l1) = x at *
  generalize oE (is32 l0) = y at *
  go_wp2_with (go_at_call 20; refine (num_any _ _).mono ?_; rintro e w' ⟨rfl, rfl⟩)
  refine (stays_any g cg _ n0 c0 l0 _ (by omega) hcg hcg2 hBg b0).mono ?_
  rintro e w5 ⟨rfl, j5, rfl⟩
  go_wp2_with fail
  refine (stays_any k ck _ n1 c1 l1 _ (by omega) hck hck2 (hBk.drewN _) (b1.drewN _)).mono ?_
  rintro e w6 ⟨rfl, j6, rfl⟩
  go_wp2_with fail
  refine (knows_any _).mono ?_
  rintro e w7 ⟨rfl, hb7⟩
  go_wp2
  go_ret
  exact ⟨rfl, Below.join (bel_drewN hb _) hb7⟩
end Go.Proofs.Ytenppmciabdefaa
