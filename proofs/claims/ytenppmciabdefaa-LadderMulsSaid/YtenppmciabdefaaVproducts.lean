/- The walk of FieldProducts. No condition. -/
import Derived.Test.YtenppmciabdefaaWq
namespace Go.Proofs.Ytenppmciabdefaa
open Go.RowKit
theorem bel_drewN {B : Nat} {a w : World} (h : Below B a w) (k : Nat) : Below B a (w.drewN k) := ⟨h.os, h.tape, h.output, h.size, h.block⟩
theorem conv_nil (w : World) : (convert 22 9 (.slice none 0 0)).run Try.prog w = .ok (.string ByteArray.empty) w := conv_at (Bs.empty w none)
theorem Bs.head {w : World} {p : Option Addr} {n : Nat} {l : List Int} (h : Bs w p (n + 2) (l ++ [201, 202])) (hl : l.length = n) : Bs w p n l := by
  have := h.take n (by omega)
  rw [← hl, List.take_left] at this
  rw [← hl]
  exact this
set_option maxHeartbeats 2000000 in
set_option maxRecDepth 100000 in
theorem fieldProducts_walk (a0 : Option Addr) (n0 c0 : Nat) (l0 : List Int) (a1 : Option Addr) (n1 c1 : Nat) (l1 : List Int) (w : World) (b0 : Bs w a0 n0 l0) (e0 : n0 ≤ c0) (g0 : c0 ≤ 140737488351232) (b1 : Bs w a1 n1 l1) (e1 : n1 ≤ c1) (g1 : c1 ≤ 140737488351232) :
    Calls Try.prog 3 #[.slice a0 n0 c0, .slice a1 n1 c1] w fun e w' => e = .returned (.bool true) ∧ Below w.heap.size w w' := by
  have hl0 := Lib.hid b0.1
  have hl1 := Lib.hid b1.1
  go_enter Try.func3, Try.ntmps3
  go_wp2_with fail
  refine (lent_any a0 n0 c0 l0 _ (by omega) b0).mono ?_
  rintro e w1 ⟨g, cg, rfl, hcg, hcg2, hg, hglt, hBg, hb1⟩
  go_wp2_with fail
  refine (lent_any a1 n1 c1 l1 _ (by omega) (b1.keep hb1)).mono ?_
  rintro e w2 ⟨k, ck, rfl, hck, hck2, hk, hklt, hBk, hb2⟩
  have hb12 := Below.join hb1 hb2
  have b0' := b0.keep hb12
  have b1' := b1.keep hb12
  have hBg' := hBg.keep hb2
  unfold maxLen at hcg2 hck2
  clear hb1 hb2 hBg b0 b1 hg hglt hk hklt
  by_cases h : n0 = 32 ∧ n1 = 32
  · obtain ⟨rfl, rfl⟩ := h
    obtain ⟨_, _, q0, r0⟩ := (hBg'.head hl0.out).rd
    obtain ⟨_, _, q1, r1⟩ := (hBk.head hl1.out).rd
    simp at q0 q1
    obtain ⟨rfl, rfl⟩ := q0
    obtain ⟨rfl, rfl⟩ := q1
    obtain ⟨B0, o0, rfl, s0⟩ := b0'.rd
    obtain ⟨B1, o1, rfl, s1⟩ := b1'.rd
    go_wp2_with fail
    refine (gMul_yes g 0 cg k 0 ck l0 l1 _ (by omega) (by omega) hl0.out hl1.out r0 r1).mono ?_
    rintro e w3 ⟨b, rfl, hlt, hB, hb3⟩
    go_wp2_with fail
    refine (rmul_yes B0 o0 c0 B1 o1 c1 l0 l1 _ hl0.out hl1.out (s0.below hb3) (s1.below hb3)).mono ?_
    rintro e w4 ⟨m, cm, rfl, hcm, hm, hR, hb4⟩
    have cA := conv_at (cap := 32) ((Bs.leB hB).keep hb4)
    have cB := conv_at (cap := cm) (Bs.of_rd hR rfl)
    have hb34 := Below.join hb3 hb4
    have hb14 := Below.join hb12 hb34
    have b0'' := b0'.keep hb34
    have b1'' := b1'.keep hb34
    have hBg'' := hBg'.keep hb34
    have hBk'' := hBk.keep hb34
    clear hb12 hb3 hb4 hb34 b0' b1' hBg' hBk r0 r1 s0 s1 hB hR hlt hm hcm
    generalize strOfNums (leB (valB l0 * valB l1 % PP)) = S at *
    go_wp2_with fail
    refine (num_any _ _).mono ?_
    rintro e w' ⟨rfl, rfl⟩
    go_wp2_with fail
    refine (stays_any g cg _ 32 c0 l0 _ (by omega) hcg hcg2 hBg'' b0'').mono ?_
    rintro e w5 ⟨rfl, k5, rfl⟩
    go_wp2_with fail
    refine (stays_any k ck _ 32 c1 l1 _ (by omega) hck hck2 (hBk''.drewN _) (b1''.drewN _)).mono ?_
    rintro e w6 ⟨rfl, k6, rfl⟩
    go_wp2_with fail
    refine (knows_any _).mono ?_
    rintro e w7 ⟨rfl, hb7⟩
    go_wp2
    go_ret
    exact ⟨rfl, Below.join (bel_drewN hb14 _) hb7⟩
  · have cA := conv_nil
    go_wp2_with fail
    refine (gMul_no _ _ n0 cg n1 ck _ (by unfold maxLen; omega) (by unfold maxLen; omega) h).mono ?_
    rintro e w3 ⟨rfl, rfl⟩
    go_wp2_with fail
    refine (rmul_no a0 a1 n0 c0 n1 c1 _ h).mono ?_
    rintro e w4 ⟨rfl, rfl⟩
    go_wp2_with fail
    refine (num_any _ _).mono ?_
    rintro e w' ⟨rfl, rfl⟩
    go_wp2_with fail
    refine (stays_any g cg _ n0 c0 l0 _ (by omega) hcg hcg2 hBg' b0').mono ?_
    rintro e w5 ⟨rfl, k5, rfl⟩
    go_wp2_with fail
    refine (stays_any k ck _ n1 c1 l1 _ (by omega) hck hck2 (hBk.drewN _) (b1'.drewN _)).mono ?_
    rintro e w6 ⟨rfl, k6, rfl⟩
    go_wp2_with fail
    refine (knows_any _).mono ?_
    rintro e w7 ⟨rfl, hb7⟩
    go_wp2
    go_ret
    exact ⟨rfl, Below.join (bel_drewN hb12 _) hb7⟩
end Go.Proofs.Ytenppmciabdefaa
