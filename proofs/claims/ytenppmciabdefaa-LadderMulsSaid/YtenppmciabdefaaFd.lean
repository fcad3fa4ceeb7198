/- The walks of field.element.inv, eighth, minus1. No condition. -/
import Derived.Test.YtenppmciabdefaaFc
import Derived.Test.YtenppmciabdefaaRe
namespace Go.Proofs.Ytenppmciabdefaa
open Go.RowKit
theorem pw_by (N : Int) {a m : Nat} (h : a = m) : pw N a = pw N m := by rw [h]
/-- N to the power p - 2. -/
def pinv (N : Int) : Int := pw N 57896044618658097711785492504343953926634992332820282019728792003956564819947
/-- N to the power (p + 3) / 8. -/
def peighth (N : Int) : Int := pw N 7237005577332262213973186563042994240829374041602535252466099000494570602494

set_option maxRecDepth 100000 in
set_option maxHeartbeats 4000000 in
theorem inv_fe (X : Array Value) (N : Int) (w : World) (hX : FeA X N) : Calls Try.prog 74 #[.agg X] w (ResF w (pinv N)) := by
  have sX := hX.size
  have HX := Lib.hid hX
  clear hX
  obtain ⟨W0, hW0, hz, hb0, q0, q1⟩ := two_new w (.cells X 44) (.cells #[.int .u64 0, .int .u64 0, .int .u64 0, .int .u64 0, .int .u64 0] 44)
  have hst0 : St w [] W0 := ⟨by simp, hb0⟩
  have hst : St w [(w.heap.size, X)] W0 := hst0.add q0
  have c0 : ((w.alloc (.cells X 44)).alloc (.cells #[.int .u64 0, .int .u64 0, .int .u64 0, .int .u64 0, .int .u64 0] 44)).heap[w.heap.size]? = some (.cells X 44 (0, 0)) := by rw [hW0]; exact q0
  have c1 : W0.heap[w.heap.size + 1]? = some (.cells zero5 44 (0, 0)) := q1
  have HW := Lib.hid hW0
  have HZ := Lib.hid hz
  clear hz hb0 q0 q1 hW0 hst0
  go_enter Try.func74, Try.ntmps74
  go_wp2_with (refine wpList_load_row rfl 44 _ rfl w.heap.size rfl _ _ _ _ c0 Try.underlying44 rfl (by rw [sX]; exact infoFe) ?_)
  rw [HW.out]
  clear c0 HW
  refine (ones_fe X N _ HX.out).mono ?_
  rintro e w3 ⟨A, B, rfl, hA, hB, hb3⟩
  have sA := hA.size
  have oA := Lib.hid hA.one
  have HA := Lib.hid hA
  have sB := hB.size
  have oB := Lib.hid hB.one
  have HB := Lib.hid hB
  have hst := hst.keep hb3
  have c1 := block_stay hb3 c1
  have hl1 : w.heap.size + 2 ≤ w3.heap.size := by have := hb3.size; have := HZ.out; omega
  clear hA hB hb3
  have d0 : ((w3.alloc (.cells zero5 44)).alloc (.cells zero5 44)).heap[w3.heap.size]? = some (.cells zero5 44 (0, 0)) := by rw [heap_at, size_at, if_neg (by omega), heap_at, if_pos rfl]
  have d1 : (((w3.alloc (.cells zero5 44)).alloc (.cells zero5 44)).setRow w3.heap.size A).heap[w3.heap.size + 1]? = some (.cells zero5 44 (0, 0)) := by rw [setRow_other _ _ _ _ (by omega), heap_at, size_at, if_pos rfl]
  go_wp2_with (first | (refine wpList_store_row rfl 44 (.tmp 3) (.tmp 8) rfl w3.heap.size A rfl rfl 44 _ d0 (by rw [sA]; exact infoFe) (by rw [sA]; rfl) oA.out ?_) | (refine wpList_store_row rfl 44 (.tmp 4) (.tmp 9) rfl (w3.heap.size + 1) B rfl rfl 44 _ d1 (by rw [sB]; exact infoFe) (by rw [sB]; rfl) oB.out ?_))
  have e0 := (setRow_other _ (w3.heap.size + 1) w3.heap.size B (by omega)).trans (setRow_here d0 A)
  have e1 := setRow_here d1 B
  have hst : St w [(w3.heap.size + 1, B), (w3.heap.size, A), (w.heap.size, X)] ((((w3.alloc (.cells zero5 44)).alloc (.cells zero5 44)).setRow w3.heap.size A).setRow (w3.heap.size + 1) B) :=
    ((((((hst.alloc _).alloc _).store (by omega) (by simp; omega) _).store (by omega) (by simp; omega) _).add e0).add e1)
  have c1 : ((((w3.alloc (.cells zero5 44)).alloc (.cells zero5 44)).setRow w3.heap.size A).setRow (w3.heap.size + 1) B).heap[w.heap.size + 1]? = some (.cells zero5 44 (0, 0)) := by
    rw [setRow_other _ _ _ _ (by omega), setRow_other _ _ _ _ (by omega)]
    exact Ext.alloc _ _ _ _ (Ext.alloc _ _ _ _ c1)
  rw [show (#[.int .u64 0, .int .u64 0, .int .u64 0, .int .u64 0, .int .u64 0] : Array Value) = zero5 from rfl]
  generalize (((w3.alloc (.cells zero5 44)).alloc (.cells zero5 44)).setRow w3.heap.size A).setRow (w3.heap.size + 1) B = w9 at *
  clear d0 d1 e0 e1
  simp only [put_none]
  have hne : ∀ p ∈ [(w3.heap.size + 1, B), (w3.heap.size, A), (w.heap.size, X)], p.1 ≠ w.heap.size + 1 := by simp; omega
  have HNE := Lib.hid hne
  clear hne
  refine wp_region_rem (St w [(w3.heap.size + 1, B), (w3.heap.size, A), (w.heap.size, X)]) (by kernel_rfl) (by kernel_rfl) (fun _ _ d _ _ h => by cases d <;> exact h) hst.drew ?_
  apply rem_sure 0 (by kernel_rfl) rfl (wanted_none rfl)
  · intro w2 hS K hK
    exact wp_load_row 44 _ rfl w3.heap.size rfl _ A _ _ (hS.at_ (by simp)) Try.underlying44 rfl (by rw [sA]; exact infoFe) (hK _ hS (Ext.refl _))
  · kernel_rfl
  · kernel_rfl
  try simp only [put_some, List.setIfInBounds_toArray, List.set_cons_succ, List.set_cons_zero]
  apply rem_sure 2 (by kernel_rfl) rfl (wanted_none rfl)
  · intro w2 hS K hK
    exact wp_load_row 44 _ rfl (w3.heap.size + 1) rfl _ B _ _ (hS.at_ (by simp)) Try.underlying44 rfl (by rw [sB]; exact infoFe) (hK _ hS (Ext.refl _))
  · kernel_rfl
  · kernel_rfl
  try simp only [put_some, List.setIfInBounds_toArray, List.set_cons_succ, List.set_cons_zero]
  refine rem_one 1 (by kernel_rfl) (step_of rfl (wanted_none rfl) ?_)
  intro v2 hS2 hE2 K hK
  go_wp2_with fail
  refine (squares_fe A _ 5 _ (by omega) HA.out).mono ?_
  rintro e u2 ⟨Q, rfl, hQ, hk2⟩
  rw [pw_sq N 1809251394333065553493296640760748560207343510400633813116524750123642650623 5 57896044618658097711785492504343953926634992332820282019728792003956564819936 (by decide +kernel)] at hQ
  have sQ := hQ.size
  have oQ := Lib.hid hQ.one
  have HQ := Lib.hid hQ
  clear hQ
  refine hK _ _ (hS2.keep hk2) ?_
  clear hK K
  try simp only [put_some, List.setIfInBounds_toArray, List.set_cons_succ, List.set_cons_zero]
  refine rem_one 3 (by kernel_rfl) (step_of rfl (wanted_none rfl) ?_)
  intro v3 hS3 hE3 K hK
  go_wp2_with fail
  refine (emul_fe Q B _ _ _ HQ.out HB.out).mono ?_
  rintro e u3 ⟨R, rfl, hR, hk3⟩
  rw [pw_mul N 57896044618658097711785492504343953926634992332820282019728792003956564819936 11 57896044618658097711785492504343953926634992332820282019728792003956564819947 (by decide +kernel)] at hR
  have sR := hR.size
  have oR := Lib.hid hR.one
  have HR := Lib.hid hR
  clear hR
  refine hK _ _ (hS3.keep hk3) ?_
  clear hK K
  try simp only [put_some, List.setIfInBounds_toArray, List.set_cons_succ, List.set_cons_zero]
  refine rem_one 4 (by kernel_rfl) (step_of rfl (wanted_none rfl) ?_)
  intro v4 hS4 hE4 K hK
  have hg_o := (hE4 _ _ (block_stay hk3 (hE3 _ _ (block_stay hk2 (hE2 _ _ c1)))))
  refine wp_store_row 44 _ _ rfl (w.heap.size + 1) R rfl rfl 44 _ hg_o (by rw [sR]; exact infoFe) (by first | rfl | (rw [sR]; rfl) | (rw [sR]; assumption)) oR.out ?_
  refine hK _ _ (hS4.store (by omega) HNE.out _) ?_
  clear hK K
  try simp only [put_some, List.setIfInBounds_toArray, List.set_cons_succ, List.set_cons_zero]
  refine rem_nil ?_
  intro v9 hS9 hE9
  have hres := (hE9 _ _ (setRow_here hg_o R))
  go_wp2_with fail
  refine ret_cell rfl (w.heap.size + 1) _ _ _ _ rfl hres Try.underlying44 rfl (by rw [sR]; exact infoFe) rfl ?_
  exact ⟨R, rfl, HR.out, hS9.2⟩
set_option maxRecDepth 100000 in
set_option maxHeartbeats 4000000 in
theorem eighth_fe (X : Array Value) (N : Int) (w : World) (hX : FeA X N) : Calls Try.prog 92 #[.agg X] w (ResF w (peighth N)) := by
  have sX := hX.size
  have HX := Lib.hid hX
  clear hX
  obtain ⟨W0, hW0, hz, hb0, q0, q1⟩ := two_new w (.cells X 44) (.cells #[.int .u64 0, .int .u64 0, .int .u64 0, .int .u64 0, .int .u64 0] 44)
  have hst0 : St w [] W0 := ⟨by simp, hb0⟩
  have hst : St w [(w.heap.size, X)] W0 := hst0.add q0
  have c0 : ((w.alloc (.cells X 44)).alloc (.cells #[.int .u64 0, .int .u64 0, .int .u64 0, .int .u64 0, .int .u64 0] 44)).heap[w.heap.size]? = some (.cells X 44 (0, 0)) := by rw [hW0]; exact q0
  have c1 : W0.heap[w.heap.size + 1]? = some (.cells zero5 44 (0, 0)) := q1
  have HW := Lib.hid hW0
  have HZ := Lib.hid hz
  clear hz hb0 q0 q1 hW0 hst0
  go_enter Try.func92, Try.ntmps92
  go_wp2_with (refine wpList_load_row rfl 44 _ rfl w.heap.size rfl _ _ _ _ c0 Try.underlying44 rfl (by rw [sX]; exact infoFe) ?_)
  rw [HW.out]
  clear c0 HW
  refine (ones_fe X N _ HX.out).mono ?_
  rintro e w3 ⟨A, B, rfl, hA, hB, hb3⟩
  have sA := hA.size
  have oA := Lib.hid hA.one
  have HA := Lib.hid hA
  have sB := hB.size
  have oB := Lib.hid hB.one
  have HB := Lib.hid hB
  have hst := hst.keep hb3
  have c1 := block_stay hb3 c1
  have hl1 : w.heap.size + 2 ≤ w3.heap.size := by have := hb3.size; have := HZ.out; omega
  clear hA hB hb3
  have d0 : ((w3.alloc (.cells zero5 44)).alloc (.cells zero5 44)).heap[w3.heap.size]? = some (.cells zero5 44 (0, 0)) := by rw [heap_at, size_at, if_neg (by omega), heap_at, if_pos rfl]
  have d1 : (((w3.alloc (.cells zero5 44)).alloc (.cells zero5 44)).setRow w3.heap.size A).heap[w3.heap.size + 1]? = some (.cells zero5 44 (0, 0)) := by rw [setRow_other _ _ _ _ (by omega), heap_at, size_at, if_pos rfl]
  go_wp2_with (first | (refine wpList_store_row rfl 44 (.tmp 3) (.tmp 8) rfl w3.heap.size A rfl rfl 44 _ d0 (by rw [sA]; exact infoFe) (by rw [sA]; rfl) oA.out ?_) | (refine wpList_store_row rfl 44 (.tmp 4) (.tmp 9) rfl (w3.heap.size + 1) B rfl rfl 44 _ d1 (by rw [sB]; exact infoFe) (by rw [sB]; rfl) oB.out ?_))
  have e0 := (setRow_other _ (w3.heap.size + 1) w3.heap.size B (by omega)).trans (setRow_here d0 A)
  have e1 := setRow_here d1 B
  have hst : St w [(w3.heap.size + 1, B), (w3.heap.size, A), (w.heap.size, X)] ((((w3.alloc (.cells zero5 44)).alloc (.cells zero5 44)).setRow w3.heap.size A).setRow (w3.heap.size + 1) B) :=
    ((((((hst.alloc _).alloc _).store (by omega) (by simp; omega) _).store (by omega) (by simp; omega) _).add e0).add e1)
  have c1 : ((((w3.alloc (.cells zero5 44)).alloc (.cells zero5 44)).setRow w3.heap.size A).setRow (w3.heap.size + 1) B).heap[w.heap.size + 1]? = some (.cells zero5 44 (0, 0)) := by
    rw [setRow_other _ _ _ _ (by omega), setRow_other _ _ _ _ (by omega)]
    exact Ext.alloc _ _ _ _ (Ext.alloc _ _ _ _ c1)
  rw [show (#[.int .u64 0, .int .u64 0, .int .u64 0, .int .u64 0, .int .u64 0] : Array Value) = zero5 from rfl]
  generalize (((w3.alloc (.cells zero5 44)).alloc (.cells zero5 44)).setRow w3.heap.size A).setRow (w3.heap.size + 1) B = w9 at *
  clear d0 d1 e0 e1
  simp only [put_none]
  have hne : ∀ p ∈ [(w3.heap.size + 1, B), (w3.heap.size, A), (w.heap.size, X)], p.1 ≠ w.heap.size + 1 := by simp; omega
  have HNE := Lib.hid hne
  clear hne
  have HX1 : Hid (FeA X (pw N 1)) := by show FeA X (pw N 1); rw [pw_one]; exact HX.out
  refine wp_region_rem (St w [(w3.heap.size + 1, B), (w3.heap.size, A), (w.heap.size, X)]) (by kernel_rfl) (by kernel_rfl) (fun _ _ d _ _ h => by cases d <;> exact h) hst.drew ?_
  apply rem_sure 0 (by kernel_rfl) rfl (wanted_none rfl)
  · intro w2 hS K hK
    exact wp_load_row 44 _ rfl w3.heap.size rfl _ A _ _ (hS.at_ (by simp)) Try.underlying44 rfl (by rw [sA]; exact infoFe) (hK _ hS (Ext.refl _))
  · kernel_rfl
  · kernel_rfl
  try simp only [put_some, List.setIfInBounds_toArray, List.set_cons_succ, List.set_cons_zero]
  apply rem_sure 2 (by kernel_rfl) rfl (wanted_none rfl)
  · intro w2 hS K hK
    exact wp_load_row 44 _ rfl w.heap.size rfl _ X _ _ (hS.at_ (by simp)) Try.underlying44 rfl (by rw [sX]; exact infoFe) (hK _ hS (Ext.refl _))
  · kernel_rfl
  · kernel_rfl
  try simp only [put_some, List.setIfInBounds_toArray, List.set_cons_succ, List.set_cons_zero]
  refine rem_one 1 (by kernel_rfl) (step_of rfl (wanted_none rfl) ?_)
  intro v2 hS2 hE2 K hK
  go_wp2_with fail
  refine (squares_fe A _ 1 _ (by omega) HA.out).mono ?_
  rintro e u2 ⟨Q, rfl, hQ, hk2⟩
  rw [pw_sq N 1809251394333065553493296640760748560207343510400633813116524750123642650623 1 3618502788666131106986593281521497120414687020801267626233049500247285301246 (by decide +kernel)] at hQ
  have sQ := hQ.size
  have oQ := Lib.hid hQ.one
  have HQ := Lib.hid hQ
  clear hQ
  refine hK _ _ (hS2.keep hk2) ?_
  clear hK K
  try simp only [put_some, List.setIfInBounds_toArray, List.set_cons_succ, List.set_cons_zero]
  refine rem_one 3 (by kernel_rfl) (step_of rfl (wanted_none rfl) ?_)
  intro v3 hS3 hE3 K hK
  go_wp2_with fail
  refine (emul_fe Q X _ _ _ HQ.out HX1.out).mono ?_
  rintro e u3 ⟨U, rfl, hU, hk3⟩
  rw [pw_mul N 3618502788666131106986593281521497120414687020801267626233049500247285301246 1 3618502788666131106986593281521497120414687020801267626233049500247285301247 (by decide +kernel)] at hU
  have sU := hU.size
  have oU := Lib.hid hU.one
  have HU := Lib.hid hU
  clear hU
  refine hK _ _ (hS3.keep hk3) ?_
  clear hK K
  try simp only [put_some, List.setIfInBounds_toArray, List.set_cons_succ, List.set_cons_zero]
  refine rem_one 4 (by kernel_rfl) (step_of rfl (wanted_none rfl) ?_)
  intro v4 hS4 hE4 K hK
  go_wp2_with fail
  refine (squares_fe U _ 1 _ (by omega) HU.out).mono ?_
  rintro e u4 ⟨R, rfl, hR, hk4⟩
  rw [pw_sq N 3618502788666131106986593281521497120414687020801267626233049500247285301247 1 7237005577332262213973186563042994240829374041602535252466099000494570602494 (by decide +kernel)] at hR
  have sR := hR.size
  have oR := Lib.hid hR.one
  have HR := Lib.hid hR
  clear hR
  refine hK _ _ (hS4.keep hk4) ?_
  clear hK K
  try simp only [put_some, List.setIfInBounds_toArray, List.set_cons_succ, List.set_cons_zero]
  refine rem_one 5 (by kernel_rfl) (step_of rfl (wanted_none rfl) ?_)
  intro v5 hS5 hE5 K hK
  have hg_o := (hE5 _ _ (block_stay hk4 (hE4 _ _ (block_stay hk3 (hE3 _ _ (block_stay hk2 (hE2 _ _ c1)))))))
  refine wp_store_row 44 _ _ rfl (w.heap.size + 1) R rfl rfl 44 _ hg_o (by rw [sR]; exact infoFe) (by first | rfl | (rw [sR]; rfl) | (rw [sR]; assumption)) oR.out ?_
  refine hK _ _ (hS5.store (by omega) HNE.out _) ?_
  clear hK K
  try simp only [put_some, List.setIfInBounds_toArray, List.set_cons_succ, List.set_cons_zero]
  refine rem_nil ?_
  intro v9 hS9 hE9
  have hres := (hE9 _ _ (setRow_here hg_o R))
  go_wp2_with fail
  refine ret_cell rfl (w.heap.size + 1) _ _ _ _ rfl hres Try.underlying44 rfl (by rw [sR]; exact infoFe) rfl ?_
  exact ⟨R, rfl, HR.out, hS9.2⟩
end Go.Proofs.Ytenppmciabdefaa
