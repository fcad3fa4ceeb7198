/- The walk of LadderClamps. No condition. -/
import Derived.Test.YtenppmciabdefaaQm
import Derived.Test.YtenppmciabdefaaVproducts
namespace Go.Proofs.Ytenppmciabdefaa
open Go.RowKit
/-- What Clamp answers: the bytes, and the number of the error. -/
def clL (l : List Int) : List Int := if l.length = 32 then clampL l else []
def clE (l : List Int) : Int := if l.length = 32 then 0 else 1
theorem clamp_any (p : Option Addr) (n cap : Nat) (l : List Int) (w : World) (hr : Bs w p n l) :
    Calls Try.prog 53 #[.slice p n cap] w fun e w' => ∃ q k c, e = .returned (.tuple #[.slice q k c, .int .i64 (clE l)]) ∧ Bs w' q k (clL l) ∧ Below w.heap.size w w' := by
  by_cases h : n = 32
  · subst h
    refine (clamp_yes p cap l w hr).mono ?_
    rintro e w1 ⟨g, c1, rfl, _, _, _, _, hK, hb⟩
    exact ⟨_, _, _, by rw [clE, if_pos hr.1], by rw [clL, if_pos hr.1]; exact hK, hb⟩
  · refine (clamp_no p n cap w h).mono ?_
    rintro e w1 ⟨rfl, rfl⟩
    have h2 : ¬ l.length = 32 := by rw [hr.1]; exact h
    exact ⟨_, _, _, by rw [clE, if_neg h2], by rw [clL, if_neg h2]; exact Bs.empty _ _, Below.refl _ _⟩
theorem mclamp_any (p : Option Addr) (n cap : Nat) (l : List Int) (w : World) (hr : Bs w p n l) :
    Calls Try.prog 54 #[.slice p n cap] w fun e w' => ∃ q k c, e = .returned (.tuple #[.slice q k c, .int .i64 (clE l)]) ∧ Bs w' q k (clL l) ∧ Below w.heap.size w w' := by
  by_cases h : n = 32
  · subst h
    refine (mclamp_yes p cap l w hr).mono ?_
    rintro e w1 ⟨g, c1, rfl, _, _, _, _, hK, hb⟩
    exact ⟨_, _, _, by rw [clE, if_pos hr.1], by rw [clL, if_pos hr.1]; exact hK, hb⟩
  · refine (mclamp_no p n cap w h).mono ?_
    rintro e w1 ⟨rfl, rfl⟩
    have h2 : ¬ l.length = 32 := by rw [hr.1]; exact h
    exact ⟨_, _, _, by rw [clE, if_neg h2], by rw [clL, if_neg h2]; exact Bs.empty _ _, Below.refl _ _⟩
set_option maxHeartbeats 4000000 in
set_option maxRecDepth 100000 in
theorem ladderClamps_walk (a0 : Option Addr) (n0 c0 : Nat) (l0 : List Int) (w : World) (b0 : Bs w a0 n0 l0) (e0 : n0 ≤ c0) (g0 : c0 ≤ 140737488351232) :
    Calls Try.prog 12 #[.slice a0 n0 c0] w fun e w' => e = .returned (.bool true) ∧ Below w.heap.size w w' := by
  have hl0 := Lib.hid b0.1
  go_enter Try.func12, Try.ntmps12
  go_wp2_with fail
  refine (lent_any a0 n0 c0 l0 _ (by omega) b0).mono ?_
  rintro e w1 ⟨g, cg, rfl, hcg, hcg2, _, _, hBg, hb⟩
  have b0 := b0.keep hb
  unfold maxLen at hcg2
  go_wp2_with fail
  refine (clamp_any _ n0 cg l0 _ (hBg.head hl0.out)).mono ?_
  rintro e w3 ⟨p1, k1, d1, rfl, hR1, hb3⟩
  have hb := Below.join hb hb3
  have b0 := b0.keep hb3
  have hBg := hBg.keep hb3
  clear hb3
  go_wp2_with fail
  refine (mclamp_any _ n0 c0 l0 _ b0).mono ?_
  rintro e w3 ⟨p2, k2, d2, rfl, hR2, hb3⟩
  have hb := Below.join hb hb3
  have b0 := b0.keep hb3
  have hBg := hBg.keep hb3
  have hR1 := hR1.keep hb3
  clear hb3
  have cv1 := conv_at (cap := d1) hR1
  have cv2 := conv_at (cap := d2) hR2
  clear hR1 hR2
  generalize strOfNums (clL l0) = S at *
  generalize clE l0 = x at *
  go_wp2_with (go_at_call 55; refine (num5_any _ _).mono ?_; rintro e w' ⟨rfl, rfl⟩)
  refine (stays_any g cg _ n0 c0 l0 _ (by omega) hcg hcg2 hBg b0).mono ?_
  rintro e w5 ⟨rfl, j5, rfl⟩
  go_wp2_with fail
  refine (knows5_yes _).mono ?_
  rintro e w7 ⟨rfl, hb7⟩
  go_wp2
  go_ret
  exact ⟨rfl, Below.join (bel_drewN hb _) hb7⟩
end Go.Proofs.Ytenppmciabdefaa
