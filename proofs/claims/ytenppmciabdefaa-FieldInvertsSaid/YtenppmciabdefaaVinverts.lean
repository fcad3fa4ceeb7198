/- The walk of FieldInverts. No condition. -/
import Derived.Test.YtenppmciabdefaaGc
import Derived.Test.YtenppmciabdefaaVproducts
namespace Go.Proofs.Ytenppmciabdefaa
open Go.RowKit
set_option maxHeartbeats 4000000 in
set_option maxRecDepth 100000 in
theorem fieldInverts_walk (a0 : Option Addr) (n0 c0 : Nat) (l0 : List Int) (w : World) (b0 : Bs w a0 n0 l0) (e0 : n0 ≤ c0) (g0 : c0 ≤ 140737488351232) :
    Calls Try.prog 6 #[.slice a0 n0 c0] w fun e w' => e = .returned (.bool true) ∧ Below w.heap.size w w' := by
  have hl0 := Lib.hid b0.1
  go_enter Try.func6, Try.ntmps6
  go_wp2_with fail
  refine (lent_any a0 n0 c0 l0 _ (by omega) b0).mono ?_
  rintro e w1 ⟨g, cg, rfl, hcg, hcg2, _, _, hBg, hb⟩
  have b0 := b0.keep hb
  unfold maxLen at hcg2
  go_wp2_with fail
  refine (gInv_any _ n0 cg l0 _ (hBg.head hl0.out) (by omega)).mono ?_
  rintro e w3 ⟨p1, k1, d1, rfl, _, hR1, hb3⟩
  have hb := Below.join hb hb3
  have b0 := b0.keep hb3
  have hBg := hBg.keep hb3
  clear hb3
  go_wp2_with fail
  refine (rinv_any _ n0 c0 l0 _ b0).mono ?_
  rintro e w3 ⟨p2, k2, d2, rfl, _, hR2, hb3⟩
  have hb := Below.join hb hb3
  have b0 := b0.keep hb3
  have hBg := hBg.keep hb3
  have hR1 := hR1.keep hb3
  clear hb3
  have cv1 := conv_at (cap := d1) hR1
  have cv2 := conv_at (cap := d2) hR2
  clear hR1 hR2
  generalize strOfNums (oL (is32 l0) (pinv (valB l0))) = S at *
  generalize oE (is32 l0) = x at *
  go_wp2_with (go_at_call 20; refine (num_any _ _).mono ?_; rintro e w' ⟨rfl, rfl⟩)
  refine (stays_any g cg _ n0 c0 l0 _ (by omega) hcg hcg2 hBg b0).mono ?_
  rintro e w5 ⟨rfl, j5, rfl⟩
  go_wp2_with fail
  refine (knows_any _).mono ?_
  rintro e w7 ⟨rfl, hb7⟩
  go_wp2
  go_ret
  exact ⟨rfl, Below.join (bel_drewN hb _) hb7⟩
end Go.Proofs.Ytenppmciabdefaa
