/- The walks of field.Root, synodref03.Root and FieldRoots. No condition. -/
import Derived.Test.YtenppmciabdefaaHg
namespace Go.Proofs.Ytenppmciabdefaa
open Go Go.RowKit
/-- The results: bytes L, whether there is a root, and the error E. -/
def ResB3 (w : World) (L : List Int) (b : Bool) (E : Int) (e : Ending) (w' : World) : Prop :=
  ∃ p n c, e = .returned (.tuple #[.slice p n c, .bool b, .int .i64 E]) ∧ n ≤ c ∧ Bs w' p n L ∧ Below w.heap.size w w'
set_option maxRecDepth 100000 in
set_option maxHeartbeats 4000000 in
theorem gRoot_any (pa pb : Option Addr) (na ca nb cb : Nat) (la lb : List Int) (w : World) (ha : Bs w pa na la) (hb : Bs w pb nb lb) (hca : na ≤ ca) (hcb : nb ≤ cb) :
    Calls Try.prog 51 #[.slice pa na ca, .slice pb nb cb] w (ResB3 w (oL (both la lb) (rR (valB la) (valB lb))) (both la lb && rOk (valB la) (valB lb)) (oE (both la lb))) := by
  by_cases h : na = 32 ∧ nb = 32
  · rw [both_yes ⟨ha.1.trans h.1, hb.1.trans h.2⟩]
    obtain ⟨rfl, rfl⟩ := h
    go_enter Try.func51, Try.ntmps51
    go_wp2_with fail
    refine (eget_fe _ _ la _ hca ha).mono ?_
    rintro e w1 ⟨A, rfl, hA, hb1⟩
    have hb := hb.keep hb1
    go_wp2_with fail
    refine (eget_fe _ _ lb _ hcb hb).mono ?_
    rintro e w2 ⟨B, rfl, hB, hb2⟩
    go_wp2_with fail
    refine (root_fe A B _ _ _ hA hB).mono ?_
    rintro e w3 ⟨C, rfl, hC, hb3⟩
    have h13 := Below.join (Below.join hb1 hb2) hb3
    have sC := hC.size
    have oC := Lib.hid hC.one
    have HC := Lib.hid hC
    have d0 := heap_alloc_new w3 (.cells zero5 44)
    have c0 := setRow_here d0 C
    have hb4 := below_setRow (h13.alloc h13.size (.cells zero5 44)) h13.size C
    generalize rOk (valB la) (valB lb) = b at *
    clear hA hB hC hb1 hb2 hb3 h13
    go_wp2_with (first | (refine wpList_store_row rfl 44 _ _ rfl w3.heap.size C rfl rfl 44 _ d0 (by rw [sC]; exact infoFe) (by rw [sC]; rfl) oC.out ?_) | (refine wpList_load_row rfl 44 (.tmp 7) rfl w3.heap.size rfl _ C _ _ c0 Try.underlying44 rfl (by rw [sC]; exact infoFe) ?_))
    refine (eput_fe C _ _ HC.out).mono ?_
    rintro e w5 ⟨g, rfl, _, hR, hb5⟩
    go_wp2
    go_ret3
    exact ⟨_, _, _, rfl, Nat.le_refl _, Bs.leB hR, Below.join hb4 hb5⟩
  · rw [both_no (by rw [ha.1, hb.1]; exact h)]
    by_cases h1 : na = 32
    · subst h1
      have h2 : ((nb : Int) != 32) = true := by rw [bne_iff_ne]; omega
      clear h ha hb
      go_enter Try.func51, Try.ntmps51
      go_wp2
      go_ret3
      exact ⟨_, _, _, rfl, Nat.le_refl _, Bs.empty _ _, Below.refl _ _⟩
    · have h2 : ((na : Int) != 32) = true := by rw [bne_iff_ne]; omega
      clear h h1 ha hb
      go_enter Try.func51, Try.ntmps51
      go_wp2
      go_ret3
      exact ⟨_, _, _, rfl, Nat.le_refl _, Bs.empty _ _, Below.refl _ _⟩
set_option maxRecDepth 100000 in
set_option maxHeartbeats 4000000 in
theorem rRoot_any (pa pb : Option Addr) (na ca nb cb : Nat) (la lb : List Int) (w : World) (ha : Bs w pa na la) (hb : Bs w pb nb lb) :
    Calls Try.prog 52 #[.slice pa na ca, .slice pb nb cb] w (ResB3 w (oL (both la lb) (rR (valB la) (valB lb))) (both la lb && rOk (valB la) (valB lb)) (oE (both la lb))) := by
  by_cases h : na = 32 ∧ nb = 32
  · rw [both_yes ⟨ha.1.trans h.1, hb.1.trans h.2⟩]
    obtain ⟨rfl, rfl⟩ := h
    have en : ∀ L, numV L = .agg (arrI L) := fun _ => rfl
    go_enter Try.func52, Try.ntmps52
    go_wp2_with fail
    refine (length_yes _ _ _ _ _).mono ?_
    rintro e w1 ⟨rfl, rfl⟩
    go_wp2_with fail
    refine (rfrom_num _ _ la _ ha).mono ?_
    rintro e w1 ⟨A, rfl, hA, hb1⟩
    have hb := hb.keep hb1
    go_wp2_with fail
    refine (rfrom_num _ _ lb _ hb).mono ?_
    rintro e w2 ⟨B, rfl, hB, hb2⟩
    go_wp2_with fail
    refine (ratio_num A B _ _ _ hA hB).mono ?_
    rintro e w3 ⟨C, rfl, hC, hb3⟩
    rw [en]
    have h13 := Below.join (Below.join hb1 hb2) hb3
    have sC : (arrI C).size = 16 := by rw [arrI_size, hC.1]
    have HC := Lib.hid hC
    have d0 := heap_alloc_new w3 (.cells zero16 52)
    have c0 := setRow_here d0 (arrI C)
    have hb4 := below_setRow (h13.alloc h13.size (.cells zero16 52)) h13.size (arrI C)
    generalize rOk (valB la) (valB lb) = b at *
    clear hA hB hC hb1 hb2 hb3 h13 en
    go_wp2_with (first | (refine wpList_store_row rfl 52 _ _ rfl w3.heap.size (arrI C) rfl rfl 52 _ d0 (by rw [sC]; exact info_num) (by rw [sC]; rfl) (arrI_one C) ?_) | (refine wpList_load_row rfl 52 (.tmp 7) rfl w3.heap.size rfl _ (arrI C) _ _ c0 Try.underlying52 rfl (by rw [sC]; exact info_num) ?_))
    refine (rbytes_num C _ _ HC.out).mono ?_
    rintro e w5 ⟨g, cap, rfl, hc, hR, hb5⟩
    go_wp2
    go_ret3
    exact ⟨_, _, _, rfl, hc, hR, Below.join hb4 hb5⟩
  · rw [both_no (by rw [ha.1, hb.1]; exact h)]
    go_enter Try.func52, Try.ntmps52
    go_wp2_with fail
    refine (length_no pa pb na ca nb cb _ h).mono ?_
    rintro e w1 ⟨rfl, rfl⟩
    go_wp2
    go_ret3
    exact ⟨_, _, _, rfl, Nat.le_refl _, Bs.empty _ _, Below.refl _ _⟩
set_option maxHeartbeats 4000000 in
set_option maxRecDepth 100000 in
theorem fieldRoots_walk (a0 : Option Addr) (n0 c0 : Nat) (l0 : List Int) (a1 : Option Addr) (n1 c1 : Nat) (l1 : List Int) (w : World) (b0 : Bs w a0 n0 l0) (e0 : n0 ≤ c0) (g0 : c0 ≤ 140737488351232) (b1 : Bs w a1 n1 l1) (e1 : n1 ≤ c1) (g1 : c1 ≤ 140737488351232) :
    Calls Try.prog 10 #[.slice a0 n0 c0, .slice a1 n1 c1] w fun e w' => e = .returned (.bool true) ∧ Below w.heap.size w w' := by
  have hl0 := Lib.hid b0.1
  have hl1 := Lib.hid b1.1
  go_enter Try.func10, Try.ntmps10
  go_wp2_with fail
  refine (lent_any a0 n0 c0 l0 _ (by omega) b0).mono ?_
  rintro e w1 ⟨g, cg, rfl, hcg, hcg2, _, _, hBg, hb1⟩
  go_wp2_with fail
  refine (lent_any a1 n1 c1 l1 _ (by omega) (b1.keep hb1)).mono ?_
  rintro e w2 ⟨k, ck, rfl, hck, hck2, _, _, hBk, hb2⟩
  have hb := Below.join hb1 hb2
  have b0 := b0.keep hb
  have b1 := b1.keep hb
  have hBg := hBg.keep hb2
  unfold maxLen at hcg2 hck2
  clear hb1 hb2
  go_wp2_with fail
  refine (gRoot_any _ _ n0 cg n1 ck l0 l1 _ (hBg.head hl0.out) (hBk.head hl1.out) (by omega) (by omega)).mono ?_
  rintro e w3 ⟨p1, k1, d1, rfl, _, hR1, hb3⟩
  have hb := Below.join hb hb3
  have b0 := b0.keep hb3
  have b1 := b1.keep hb3
  have hBg := hBg.keep hb3
  have hBk := hBk.keep hb3
  clear hb3
  go_wp2_with fail
  refine (rRoot_any _ _ n0 c0 n1 c1 l0 l1 _ b0 b1).mono ?_
  rintro e w3 ⟨p2, k2, d2, rfl, _, hR2, hb3⟩
  have hb := Below.join hb hb3
  have b0 := b0.keep hb3
  have b1 := b1.keep hb3
  have hBg := hBg.keep hb3
  have hBk := hBk.keep hb3
  have hR1 := hR1.keep hb3
  clear hb3
  have cv1 := conv_at (cap := d1) hR1
  have cv2 := conv_at (cap := d2) hR2
  clear hR1 hR2
  generalize strOfNums (oL (both l0 l1) (rR (valB l0) (valB l1))) = S at *
  generalize (both l0 l1 && rOk (valB l0) (valB l1)) = y at *
  generalize oE (both l0 l1) = x at *
  go_wp2_with (go_at_call 20; refine (num_any _ _).mono ?_; rintro e w' ⟨rfl, rfl⟩)
  refine (stays_any g cg _ n0 c0 l0 _ (by omega) hcg hcg2 hBg b0).mono ?_
  rintro e w5 ⟨rfl, j5, rfl⟩
  go_wp2_with fail
  refine (stays_any k ck _ n1 c1 l1 _ (by omega) hck hck2 (hBk.drewN _) (b1.drewN _)).mono ?_
  rintro e w6 ⟨rfl, j6, rfl⟩
  go_wp2_with fail
  refine (knows_any _).mono ?_
  rintro e w7 ⟨rfl, hb7⟩
  go_wp2
  go_ret
  exact ⟨rfl, Below.join (bel_drewN hb _) hb7⟩
end Go.Proofs.Ytenppmciabdefaa
