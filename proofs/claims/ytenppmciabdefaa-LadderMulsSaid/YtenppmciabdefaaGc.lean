/- The walks of synodref03.Inverse, Inv, Minus1 and field.Inv. No condition. -/
import Derived.Test.YtenppmciabdefaaGb
namespace Go.Proofs.Ytenppmciabdefaa
open Go.RowKit
/-- 2 to the power (p - 1) / 4. -/
def rootM1 : Int := pw 2 14474011154664524427946373126085988481658748083205070504932198000989141204987
theorem pexp_inv : pexp 255 11 5 255 = 57896044618658097711785492504343953926634992332820282019728792003956564819947 := by decide +kernel
theorem pexp_minus1 : pexp 253 3 3 253 = 14474011154664524427946373126085988481658748083205070504932198000989141204987 := by decide +kernel
theorem pexp_eighth : pexp 252 14 4 252 = 7237005577332262213973186563042994240829374041602535252466099000494570602494 := by decide +kernel
set_option maxRecDepth 100000 in
set_option maxHeartbeats 4000000 in
theorem rinverse_num (A : List Int) (N : Int) (w : World) (hA : NumP A N) : Calls Try.prog 49 #[numV A] w (ResN w (pinv N)) := by
  have en : ∀ L, numV L = .agg (arrI L) := fun _ => rfl
  rw [en]
  have sA : (arrI A).size = 16 := by rw [arrI_size, hA.1]
  have HA := Lib.hid hA
  have c0 : ((w.alloc (.cells (arrI A) 52)).alloc (.cells #[.int .i64 0, .int .i64 0, .int .i64 0, .int .i64 0, .int .i64 0, .int .i64 0, .int .i64 0, .int .i64 0, .int .i64 0, .int .i64 0, .int .i64 0, .int .i64 0, .int .i64 0, .int .i64 0, .int .i64 0, .int .i64 0] 52)).heap[w.heap.size]? = some (.cells (arrI A) 52 (0, 0)) := by rw [heap_at, size_at, if_neg (by omega), heap_at, if_pos rfl]
  have c1 : ((w.alloc (.cells (arrI A) 52)).alloc (.cells zero16 52)).heap[w.heap.size + 1]? = some (.cells zero16 52 (0, 0)) := by rw [heap_at, size_at, if_pos rfl]
  have b0 := ((Below.refl w.heap.size w).alloc (Nat.le_refl _) (.cells (arrI A) 52)).alloc (by rw [size_at]; omega) (.cells zero16 52)
  have C1 := Lib.hid c1
  clear hA c1
  go_enter Try.func49, Try.ntmps49
  go_wp2_with (refine wpList_load_row rfl 52 _ rfl w.heap.size rfl _ _ _ _ c0 Try.underlying52 rfl (by rw [sA]; exact info_num) ?_)
  refine (rpower_inv A N _ HA.out).mono ?_
  rintro e w3 ⟨M, rfl, hM, hb3⟩
  rw [pexp_inv] at hM
  rw [en]
  have sM : (arrI M).size = 16 := by rw [arrI_size, hM.1]
  have HM := Lib.hid hM
  have c2 := block_stay hb3 C1.out
  have hb := b0.trans (hb3.mono (by rw [size_at, size_at]; omega))
  clear hM hb3 c0
  go_wp2_with (refine wpList_store_row rfl 52 _ _ rfl (w.heap.size + 1) (arrI M) rfl rfl 52 _ c2 (by rw [sM]; exact info_num) (by rw [sM]; rfl) (arrI_one M) ?_)
  refine ret_cell rfl (w.heap.size + 1) _ _ _ _ rfl (setRow_self c2 _) Try.underlying52 rfl (by rw [sM]; exact info_num) rfl ?_
  exact ⟨M, rfl, HM.out, below_setRow hb (by omega) _⟩
set_option maxRecDepth 100000 in
set_option maxHeartbeats 4000000 in
theorem rminus1_num (w : World) : Calls Try.prog 102 #[] w (ResN w rootM1) := by
  have en : ∀ L, numV L = .agg (arrI L) := fun _ => rfl
  have c1 : (w.alloc (.cells zero16 52)).heap[w.heap.size]? = some (.cells zero16 52 (0, 0)) := by rw [heap_at, if_pos rfl]
  have b0 := (Below.refl w.heap.size w).alloc (Nat.le_refl _) (.cells zero16 52)
  have C1 := Lib.hid c1
  clear c1
  go_enter Try.func102, Try.ntmps102
  go_wp2_with fail
  refine (rsmall_any 2 _ (by omega) (by omega)).mono ?_
  rintro e w2 ⟨A, rfl, hA, hb2⟩
  have HA := Lib.hid hA
  have c2 := block_stay hb2 C1.out
  have hb := b0.trans (hb2.mono (by rw [size_at]; omega))
  have hs := hb2.size
  rw [size_at] at hs
  clear hA hb2
  go_wp2_with fail
  refine (rpower_minus1 A 2 _ HA.out).mono ?_
  rintro e w3 ⟨M, rfl, hM, hb3⟩
  rw [pexp_minus1] at hM
  rw [en]
  have sM : (arrI M).size = 16 := by rw [arrI_size, hM.1]
  have HM := Lib.hid hM
  have c3 := block_stay hb3 c2
  have hb := hb.trans (hb3.mono (by omega))
  clear hM hb3 c2
  go_wp2_with (refine wpList_store_row rfl 52 _ _ rfl w.heap.size (arrI M) rfl rfl 52 _ c3 (by rw [sM]; exact info_num) (by rw [sM]; rfl) (arrI_one M) ?_)
  refine ret_cell rfl w.heap.size _ _ _ _ rfl (setRow_self c3 _) Try.underlying52 rfl (by rw [sM]; exact info_num) rfl ?_
  exact ⟨M, rfl, HM.out, below_setRow hb (Nat.le_refl _) _⟩
/-- What undoes a product, of bytes. -/
def invL (la : List Int) : List Int := oL (is32 la) (pinv (valB la))
theorem rinv_any (pa : Option Addr) (na ca : Nat) (la : List Int) (w : World) (ha : Bs w pa na la) :
    Calls Try.prog 31 #[.slice pa na ca] w (ResB w (oL (is32 la) (pinv (valB la))) (oE (is32 la))) := by
  by_cases h : na = 32
  · rw [is32_yes (ha.1.trans h)]
    subst h
    go_enter Try.func31, Try.ntmps31
    go_wp2_with fail
    refine (rfrom_num _ _ la _ ha).mono ?_
    rintro e w1 ⟨A, rfl, hA, hb1⟩
    go_wp2_with fail
    refine (rinverse_num A _ _ hA).mono ?_
    rintro e w2 ⟨B, rfl, hB, hb2⟩
    go_wp2_with fail
    refine (rbytes_num B _ _ hB).mono ?_
    rintro e w3 ⟨g, cap, rfl, hc, hR, hb3⟩
    go_wp2
    go_ret2
    exact ResB.yes hR hc (Below.join (Below.join hb1 hb2) hb3)
  · rw [is32_no (by rw [ha.1]; exact h)]
    have h2 : ((na : Int) != 32) = true := by rw [bne_iff_ne]; omega
    clear h ha
    go_enter Try.func31, Try.ntmps31
    go_wp2
    go_ret2
    exact ResB.no _ (Below.refl _ _)
theorem gInv_any (pa : Option Addr) (na ca : Nat) (la : List Int) (w : World) (ha : Bs w pa na la) (hca : na ≤ ca) :
    Calls Try.prog 30 #[.slice pa na ca] w (ResB w (oL (is32 la) (pinv (valB la))) (oE (is32 la))) := by
  by_cases h : na = 32
  · rw [is32_yes (ha.1.trans h)]
    subst h
    go_enter Try.func30, Try.ntmps30
    go_wp2_with fail
    refine (eget_fe _ _ la _ hca ha).mono ?_
    rintro e w1 ⟨A, rfl, hA, hb1⟩
    go_wp2_with fail
    refine (inv_fe A _ _ hA).mono ?_
    rintro e w2 ⟨B, rfl, hB, hb2⟩
    go_wp2_with fail
    refine (eput_fe B _ _ hB).mono ?_
    rintro e w3 ⟨b, rfl, _, hR, hb3⟩
    go_wp2
    go_ret2
    exact ResB.yes (Bs.leB hR) (Nat.le_refl _) (Below.join (Below.join hb1 hb2) hb3)
  · rw [is32_no (by rw [ha.1]; exact h)]
    have h2 : ((na : Int) != 32) = true := by rw [bne_iff_ne]; omega
    clear h ha
    go_enter Try.func30, Try.ntmps30
    go_wp2
    go_ret2
    exact ResB.no _ (Below.refl _ _)
end Go.Proofs.Ytenppmciabdefaa
