/- The walk of ScalarReduces. No condition. -/
import Derived.Test.YtdcfpgclnhacmaaXb
namespace Go.Proofs.Ytdcfpgclnhacmaa
open Go Go.RowKit
set_option maxHeartbeats 4000000 in
set_option maxRecDepth 100000 in
theorem scalarReduces_walk (a0 : Option Addr) (n0 c0 : Nat) (l0 : List Int) (w : World) (b0 : Bs w a0 n0 l0) (e0 : n0 ≤ c0) (g0 : c0 ≤ 140737488351232) :
    Calls Try.prog 5 #[.slice a0 n0 c0] w fun e w' => e = .returned (.bool true) ∧ Below w.heap.size w w' := by
  have hl0 := Lib.hid b0.1
  go_enter Try.func5, Try.ntmps5
  go_wp2_with fail
  refine (lent_any a0 n0 c0 l0 _ (by omega) b0).mono ?_
  rintro e w1 ⟨g, cg, rfl, hcg, hcg2, hg, hglt, hBg, hb1⟩
  have b0 := b0.keep hb1
  have hm := hcg2
  unfold maxLen at hcg2
  by_cases h64 : n0 ≤ 64
  · go_wp2_with fail
    refine (reduce_yes _ n0 cg l0 _ h64 (hBg.head hl0.out)).mono ?_
    rintro e w4 ⟨b, rfl, hlt, hB, hb4⟩
    go_wp2_with fail
    refine (treduce_yes _ n0 c0 l0 _ h64 (b0.keep hb4)).mono ?_
    rintro e w5 ⟨q, cq, rfl, hq, hcq, hR, hb5⟩
    have cA := conv_at (cap := 32) (hB.keep hb5)
    have cB := conv_at (cap := cq) hR
    have hb45 := bjoin hb4 hb5
    have hb15 := bjoin hb1 hb45
    have b0 := b0.keep hb45
    have hBg := hBg.keep hb45
    clear hb1 hb4 hb5 hb45 hB hR hlt hq hcq hg hglt hm
    generalize strOfNums (b32 (vd 256 l0 % LL)) = S at *
    go_wp2_with fail
    refine (num_any _ _).mono ?_
    rintro e w' ⟨rfl, rfl⟩
    by_cases h32 : n0 = 32
    · subst h32
      go_wp2_with fail
      refine (canonical_yes _ cg l0 _ (hBg.head hl0.out)).mono ?_
      rintro e w6 ⟨rfl, hb6⟩
      go_wp2_with fail
      refine (tcanonical_yes _ c0 l0 _ (b0.keep hb6)).mono ?_
      rintro e w7 ⟨rfl, hb7⟩
      have hb67 := bjoin hb6 hb7
      have hb17 := bjoin hb15 hb67
      have b0 := b0.keep hb67
      have hBg := hBg.keep hb67
      clear hb6 hb7 hb67 hb15
      generalize decide (vd 256 l0 < LL) = B at *
      go_wp2_with fail
      refine (stays_any g cg _ 32 c0 l0 _ (by omega) hcg hcg2 hBg b0).mono ?_
      rintro e w6 ⟨rfl, k6, rfl⟩
      go_wp2_with fail
      refine (knows_any _).mono ?_
      rintro e w9 ⟨rfl, hb9⟩
      go_wp2
      go_ret
      exact ⟨rfl, bjoin (bel_drewN hb17 _) hb9⟩
    · go_wp2_with fail
      refine (canonical_no _ n0 cg _ h32 (by unfold maxLen; omega)).mono ?_
      rintro e w6 ⟨rfl, rfl⟩
      go_wp2_with fail
      refine (tcanonical_no _ n0 c0 _ h32).mono ?_
      rintro e w7 ⟨rfl, rfl⟩
      go_wp2_with fail
      refine (stays_any g cg _ n0 c0 l0 _ (by omega) hcg hcg2 hBg b0).mono ?_
      rintro e w6 ⟨rfl, k6, rfl⟩
      go_wp2_with fail
      refine (knows_any _).mono ?_
      rintro e w9 ⟨rfl, hb9⟩
      go_wp2
      go_ret
      exact ⟨rfl, bjoin (bel_drewN hb15 _) hb9⟩
  · have cA := conv_nil
    go_wp2_with fail
    refine (reduce_no _ n0 cg _ (by omega) (by unfold maxLen; omega)).mono ?_
    rintro e w4 ⟨rfl, rfl⟩
    go_wp2_with fail
    refine (treduce_no _ n0 c0 _ (by omega) (by unfold maxLen; omega)).mono ?_
    rintro e w5 ⟨rfl, rfl⟩
    clear hm hg hglt
    go_wp2_with fail
    refine (num_any _ _).mono ?_
    rintro e w' ⟨rfl, rfl⟩
    go_wp2_with fail
    refine (canonical_no _ n0 cg _ (by omega) (by unfold maxLen; omega)).mono ?_
    rintro e w6 ⟨rfl, rfl⟩
    go_wp2_with fail
    refine (tcanonical_no _ n0 c0 _ (by omega)).mono ?_
    rintro e w7 ⟨rfl, rfl⟩
    go_wp2_with fail
    refine (stays_any g cg _ n0 c0 l0 _ (by omega) hcg hcg2 hBg b0).mono ?_
    rintro e w6 ⟨rfl, k6, rfl⟩
    go_wp2_with fail
    refine (knows_any _).mono ?_
    rintro e w9 ⟨rfl, hb9⟩
    go_wp2
    go_ret
    exact ⟨rfl, bjoin (bel_drewN hb1 _) hb9⟩
end Go.Proofs.Ytdcfpgclnhacmaa
