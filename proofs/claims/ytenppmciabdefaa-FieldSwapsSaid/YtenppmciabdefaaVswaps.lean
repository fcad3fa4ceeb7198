/- The walks of field.Swap and FieldSwaps. No condition. -/
import Derived.Test.YtenppmciabdefaaWt
import Derived.Test.YtenppmciabdefaaVproducts
namespace Go.Proofs.Ytenppmciabdefaa
open Go.RowKit
/-- The two, perhaps the other way round. -/
theorem go_if {α : Type} (yes : Bool) (x y : α) : (if yes then x else y) = cond yes x y := by cases yes <;> rfl
set_option maxHeartbeats 2000000 in
theorem gSwap_yes (yes : Bool) (Ba oa ca Bb ob cb : Nat) (la lb : List Int) (w : World) (hca : 32 ≤ ca) (hcb : 32 ≤ cb) (hla : la.length = 32) (hlb : lb.length = 32) (ha : RdB w Ba oa la) (hb : RdB w Bb ob lb) :
    Calls Try.prog 23 #[.bool yes, .slice (some ⟨Ba, oa, none⟩) 32 ca, .slice (some ⟨Bb, ob, none⟩) 32 cb] w fun e w' =>
      ∃ b c, e = .returned (.tuple #[.slice (some ⟨b, 0, none⟩) 32 32, .slice (some ⟨c, 0, none⟩) 32 32, .int .i64 0]) ∧ Bs w' (some ⟨b, 0, none⟩) 32 (leB (cond yes (valB lb) (valB la) % PP)) ∧ Bs w' (some ⟨c, 0, none⟩) 32 (leB (cond yes (valB la) (valB lb) % PP)) ∧ Below w.heap.size w w' := by
  cases yes
  all_goals
    go_enter Try.func23, Try.ntmps23
    go_wp2_with fail
    refine (get_any _ _ _ la _ hca hla ha).mono ?_
    rintro e w1 ⟨x0, x1, x2, x3, x4, rfl, ⟨hx0, hx1, hx2, hx3, hx4, hxd⟩, hb1⟩
    go_wp2_with fail
    refine (put_any _ _ _ _ _ _ hx0 hx1 hx2 hx3 hx4).mono ?_
    rintro e w2 ⟨b, rfl, hlt2, hB2, hb2⟩
    have h12 := Below.join hb1 hb2
    have hs2 := Bs.leB hB2
    rw [mod_of hxd] at hs2
    clear hB2 hlt2 hb1 hb2
    go_wp2_with fail
    refine (get_any _ _ _ lb _ hcb hlb (hb.below h12)).mono ?_
    rintro e w3 ⟨y0, y1, y2, y3, y4, rfl, ⟨hy0, hy1, hy2, hy3, hy4, hyd⟩, hb3⟩
    go_wp2_with fail
    refine (put_any _ _ _ _ _ _ hy0 hy1 hy2 hy3 hy4).mono ?_
    rintro e w4 ⟨c, rfl, hlt4, hB4, hb4⟩
    have hs4 := Bs.leB hB4
    rw [mod_of hyd] at hs4
    have h34 := Below.join hb3 hb4
    have hs2' := hs2.keep h34
    clear hB4 hlt4 hs2 hb3 hb4
    go_wp2
    go_ret3
    first | exact ⟨b, c, rfl, hs2', hs4, Below.join h12 h34⟩ | exact ⟨c, b, rfl, hs4, hs2', Below.join h12 h34⟩
theorem gSwap_no (yes : Bool) (pa pb : Option Addr) (na ca nb cb : Nat) (w : World) (_hna : na ≤ 9223372036854775807) (_hnb : nb ≤ 9223372036854775807) (h : ¬ (na = 32 ∧ nb = 32)) :
    Calls Try.prog 23 #[.bool yes, .slice pa na ca, .slice pb nb cb] w fun e w' => e = .returned (.tuple #[.slice none 0 0, .slice none 0 0, .int .i64 1]) ∧ w = w' := by
  by_cases h1 : na = 32
  · subst h1
    have h2 : ((nb : Int) != 32) = true := by rw [bne_iff_ne]; omega
    clear h
    go_enter Try.func23, Try.ntmps23
    go_wp2
    go_ret3
    exact ⟨rfl, rfl⟩
  · have h2 : ((na : Int) != 32) = true := by rw [bne_iff_ne]; omega
    clear h h1
    go_enter Try.func23, Try.ntmps23
    go_wp2
    go_ret3
    exact ⟨rfl, rfl⟩
set_option maxHeartbeats 4000000 in
set_option maxRecDepth 100000 in
theorem fieldSwaps_yes (yes : Bool) (a0 : Option Addr) (c0 : Nat) (l0 : List Int) (a1 : Option Addr) (c1 : Nat) (l1 : List Int) (w : World) (b0 : Bs w a0 32 l0) (_e0 : 32 ≤ c0) (_g0 : c0 ≤ 140737488351232) (b1 : Bs w a1 32 l1) (_e1 : 32 ≤ c1) (_g1 : c1 ≤ 140737488351232) :
    Calls Try.prog 4 #[.bool yes, .slice a0 32 c0, .slice a1 32 c1] w fun e w' => e = .returned (.bool true) ∧ Below w.heap.size w w' := by
  have hl0 := Lib.hid b0.1
  have hl1 := Lib.hid b1.1
  cases yes
  all_goals
    go_enter Try.func4, Try.ntmps4
    go_wp2_with fail
    refine (lent_any a0 32 c0 l0 _ (by omega) b0).mono ?_
    rintro e w1 ⟨g, cg, rfl, hcg, hcg2, _, _, hBg, hb1⟩
    go_wp2_with fail
    refine (lent_any a1 32 c1 l1 _ (by omega) (b1.keep hb1)).mono ?_
    rintro e w2 ⟨k, ck, rfl, hck, hck2, _, _, hBk, hb2⟩
    have hb := Below.join hb1 hb2
    have b0 := b0.keep hb
    have b1 := b1.keep hb
    have hBg := hBg.keep hb2
    obtain ⟨_, _, q0, r0⟩ := (hBg.head hl0.out).rd
    obtain ⟨_, _, q1, r1⟩ := (hBk.head hl1.out).rd
    simp at q0 q1
    obtain ⟨rfl, rfl⟩ := q0
    obtain ⟨rfl, rfl⟩ := q1
    clear hb1 hb2
    go_wp2_with fail
    refine (gSwap_yes _ g 0 cg k 0 ck l0 l1 _ (by omega) (by omega) hl0.out hl1.out r0 r1).mono ?_
    rintro e w3 ⟨b, c, rfl, hR1, hR2, hb3⟩
    have hb := Below.join hb hb3
    have b0 := b0.keep hb3
    have b1 := b1.keep hb3
    obtain ⟨B0, o0, rfl, s0⟩ := b0.rd
    clear hb3
    go_wp2_with fail
    refine (rcanon_yes B0 o0 c0 l0 _ hl0.out s0).mono ?_
    rintro e w4 ⟨m, cm, rfl, _, _, hR3, hb3⟩
    have hR3 := Bs.of_rd hR3 rfl
    have hb := Below.join hb hb3
    have b1 := b1.keep hb3
    have hR1 := hR1.keep hb3
    have hR2 := hR2.keep hb3
    obtain ⟨B1, o1, rfl, s1⟩ := b1.rd
    clear hb3
    go_wp2_with fail
    refine (rcanon_yes B1 o1 c1 l1 _ hl1.out s1).mono ?_
    rintro e w5 ⟨n, cn, rfl, _, _, hR4, hb3⟩
    have hR4 := Bs.of_rd hR4 rfl
    have hb := Below.join hb hb3
    have hR1 := hR1.keep hb3
    have hR2 := hR2.keep hb3
    have hR3 := hR3.keep hb3
    simp only [cond_true, cond_false] at hR1 hR2
    have cv1 := conv_at (cap := 32) hR1
    have cv2 := conv_at (cap := 32) hR2
    have cv3 := conv_at (cap := cm) hR3
    have cv4 := conv_at (cap := cn) hR4
    clear hR1 hR2 hR3 hR4 hb3
    generalize strOfNums (leB (valB l0 % PP)) = S at *
    generalize strOfNums (leB (valB l1 % PP)) = T at *
    go_wp2_with (go_at_call 20; refine (num_any _ _).mono ?_; rintro e w' ⟨rfl, rfl⟩)
    refine (knows_any _).mono ?_
    rintro e w7 ⟨rfl, hb7⟩
    go_wp2
    go_ret
    exact ⟨rfl, Below.join hb hb7⟩
set_option maxHeartbeats 4000000 in
set_option maxRecDepth 100000 in
theorem fieldSwaps_no (yes : Bool) (a0 : Option Addr) (n0 c0 : Nat) (l0 : List Int) (a1 : Option Addr) (n1 c1 : Nat) (l1 : List Int) (w : World) (h : ¬ (n0 = 32 ∧ n1 = 32)) (b0 : Bs w a0 n0 l0) (e0 : n0 ≤ c0) (g0 : c0 ≤ 140737488351232) (b1 : Bs w a1 n1 l1) (e1 : n1 ≤ c1) (g1 : c1 ≤ 140737488351232) :
    Calls Try.prog 4 #[.bool yes, .slice a0 n0 c0, .slice a1 n1 c1] w fun e w' => e = .returned (.bool true) ∧ Below w.heap.size w w' := by
  go_enter Try.func4, Try.ntmps4
  go_wp2_with fail
  refine (lent_any a0 n0 c0 l0 _ (by omega) b0).mono ?_
  rintro e w1 ⟨g, cg, rfl, hcg, hcg2, _, _, hBg, hb1⟩
  go_wp2_with fail
  refine (lent_any a1 n1 c1 l1 _ (by omega) (b1.keep hb1)).mono ?_
  rintro e w2 ⟨k, ck, rfl, hck, hck2, _, _, hBk, hb2⟩
  have hb := Below.join hb1 hb2
  have b0 := b0.keep hb
  have b1 := b1.keep hb
  clear hb1 hb2 hBg hBk
  go_wp2_with fail
  refine (gSwap_no yes _ _ n0 cg n1 ck _ (by omega) (by omega) h).mono ?_
  rintro e w3 ⟨rfl, rfl⟩
  by_cases h0 : n0 = 32
  · subst h0
    have h1 : ¬ n1 = 32 := fun hh => h ⟨rfl, hh⟩
    obtain ⟨B0, o0, rfl, s0⟩ := b0.rd
    go_wp2_with fail
    refine (rcanon_yes B0 o0 c0 l0 _ b0.1 s0).mono ?_
    rintro e w4 ⟨m, cm, rfl, _, _, hR3, hb3⟩
    have hb := Below.join hb hb3
    clear hR3 hb3
    go_wp2_with fail
    refine (rcanon_no a1 n1 c1 _ h1).mono ?_
    rintro e w5 ⟨rfl, rfl⟩
    go_wp2_with (go_at_call 20; refine (num_any _ _).mono ?_; rintro e w' ⟨rfl, rfl⟩)
    refine (knows_any _).mono ?_
    rintro e w7 ⟨rfl, hb7⟩
    go_wp2
    go_ret
    exact ⟨rfl, Below.join hb hb7⟩
  · go_wp2_with fail
    refine (rcanon_no a0 n0 c0 _ h0).mono ?_
    rintro e w4 ⟨rfl, rfl⟩
    go_wp2_with fail
    refine (rcanon_any a1 n1 c1 l1 _ b1).mono ?_
    rintro e w3 ⟨p6, k6, d6, rfl, _, hR6, hb3⟩
    have hb := Below.join hb hb3
    clear hR6 hb3
    go_wp2_with (go_at_call 20; refine (num_any _ _).mono ?_; rintro e w' ⟨rfl, rfl⟩)
    refine (knows_any _).mono ?_
    rintro e w7 ⟨rfl, hb7⟩
    go_wp2
    go_ret
    exact ⟨rfl, Below.join hb hb7⟩
theorem fieldSwaps_walk (yes : Bool) (a0 : Option Addr) (n0 c0 : Nat) (l0 : List Int) (a1 : Option Addr) (n1 c1 : Nat) (l1 : List Int) (w : World) (b0 : Bs w a0 n0 l0) (e0 : n0 ≤ c0) (g0 : c0 ≤ 140737488351232) (b1 : Bs w a1 n1 l1) (e1 : n1 ≤ c1) (g1 : c1 ≤ 140737488351232) :
    Calls Try.prog 4 #[.bool yes, .slice a0 n0 c0, .slice a1 n1 c1] w fun e w' => e = .returned (.bool true) ∧ Below w.heap.size w w' := by
  by_cases h : n0 = 32 ∧ n1 = 32
  · obtain ⟨rfl, rfl⟩ := h
    exact fieldSwaps_yes yes a0 c0 l0 a1 c1 l1 w b0 e0 g0 b1 e1 g1
  · exact fieldSwaps_no yes a0 n0 c0 l0 a1 n1 c1 l1 w h b0 e0 g0 b1 e1 g1
end Go.Proofs.Ytenppmciabdefaa
