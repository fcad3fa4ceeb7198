/- The walk of field.minus1. No condition. -/
import Derived.Test.YtenppmciabdefaaHc
namespace Go.Proofs.Ytenppmciabdefaa
open Go Go.RowKit
def two5 : Array Value := #[.int .u64 2, .int .u64 0, .int .u64 0, .int .u64 0, .int .u64 0]
set_option maxRecDepth 100000 in
set_option maxHeartbeats 4000000 in
theorem minus1_fe (w : World) : Calls Try.prog 94 #[] w (ResF w rootM1) := by
  have HX : Hid (FeA two5 (pw 2 1)) := by show FeA two5 (pw 2 1); rw [pw_one]; exact fe_two
  have sX : two5.size = 5 := rfl
  have oX : two5.all (·.oneCell') = true := by simp [two5, Value.oneCell']
  have d0 : ((w.alloc (.cells zero5 44)).alloc (.cells zero5 44)).heap[w.heap.size + 1]? = some (.cells zero5 44 (0, 0)) := by rw [heap_at, size_at, if_pos rfl]
  have e0 : ((w.alloc (.cells zero5 44)).alloc (.cells zero5 44)).heap[w.heap.size]? = some (.cells zero5 44 (0, 0)) := by rw [heap_at, size_at, if_neg (by omega), heap_at, if_pos rfl]
  have c0 := setRow_here d0 two5
  have c1 := (setRow_other ((w.alloc (.cells zero5 44)).alloc (.cells zero5 44)) (w.heap.size + 1) w.heap.size two5 (by omega)).trans e0
  have hb0 := below_setRow (((Below.refl w.heap.size w).alloc (Nat.le_refl _) (.cells zero5 44)).alloc (by rw [size_at]; omega) (.cells zero5 44)) (show w.heap.size ≤ w.heap.size + 1 by omega) two5
  have hz : w.heap.size + 2 ≤ (((w.alloc (.cells zero5 44)).alloc (.cells zero5 44)).setRow (w.heap.size + 1) two5).heap.size := by rw [setRow_size, size_at, size_at]; omega
  have C1 := Lib.hid c1
  have HZ := Lib.hid hz
  clear c1 e0 hz
  go_enter Try.func94, Try.ntmps94
  go_wp2_with (first | (refine wpList_store_row rfl 44 (.tmp 1) (.tmp 4) rfl (w.heap.size + 1) two5 rfl rfl 44 _ d0 infoFe rfl oX ?_) | (refine wpList_load_row rfl 44 (.tmp 1) rfl (w.heap.size + 1) rfl _ two5 _ _ c0 Try.underlying44 rfl (by rw [sX]; exact infoFe) ?_))
  refine (ones_fe two5 (pw 2 1) _ HX.out).mono ?_
  rintro e w3 ⟨A, B, rfl, hA, _, hb3⟩
  rw [pw_one] at hA
  have sA := hA.size
  have oA := Lib.hid hA.one
  have HA := Lib.hid hA
  have hst0 : St w [] _ := ⟨by simp, hb0⟩
  have hst := (hst0.add c0).keep hb3
  have c1 := block_stay hb3 C1.out
  have hl1 : w.heap.size + 2 ≤ w3.heap.size := Nat.le_trans HZ.out hb3.size
  clear hA hb3 d0 c0 hb0 C1 HZ hst0
  rename_i hB
  have sB := hB.size
  have oB := Lib.hid hB.one
  clear hB
  have d0 : ((w3.alloc (.cells zero5 44)).alloc (.cells zero5 44)).heap[w3.heap.size]? = some (.cells zero5 44 (0, 0)) := by rw [heap_at, size_at, if_neg (by omega), heap_at, if_pos rfl]
  have d1 : (((w3.alloc (.cells zero5 44)).alloc (.cells zero5 44)).setRow w3.heap.size A).heap[w3.heap.size + 1]? = some (.cells zero5 44 (0, 0)) := by rw [setRow_other _ _ _ _ (by omega), heap_at, size_at, if_pos rfl]
  go_wp2_with (first | (refine wpList_store_row rfl 44 (.tmp 2) (.tmp 8) rfl w3.heap.size A rfl rfl 44 _ d0 (by rw [sA]; exact infoFe) (by rw [sA]; rfl) oA.out ?_) | (refine wpList_store_row rfl 44 (.tmp 3) (.tmp 9) rfl (w3.heap.size + 1) B rfl rfl 44 _ d1 (by rw [sB]; exact infoFe) (by rw [sB]; rfl) oB.out ?_))
  have e0 := (setRow_other _ (w3.heap.size + 1) w3.heap.size B (by omega)).trans (setRow_here d0 A)
  have hst : St w [(w3.heap.size, A), (w.heap.size + 1, two5)] ((((w3.alloc (.cells zero5 44)).alloc (.cells zero5 44)).setRow w3.heap.size A).setRow (w3.heap.size + 1) B) :=
    (((((hst.alloc _).alloc _).store (by omega) (by simp; omega) _).store (by omega) (by simp; omega) _).add e0)
  have c1 : ((((w3.alloc (.cells zero5 44)).alloc (.cells zero5 44)).setRow w3.heap.size A).setRow (w3.heap.size + 1) B).heap[w.heap.size]? = some (.cells zero5 44 (0, 0)) := by
    rw [setRow_other _ _ _ _ (by omega), setRow_other _ _ _ _ (by omega)]
    exact Ext.alloc _ _ _ _ (Ext.alloc _ _ _ _ c1)
  rw [show (#[.int .u64 0, .int .u64 0, .int .u64 0, .int .u64 0, .int .u64 0] : Array Value) = zero5 from rfl]
  generalize (((w3.alloc (.cells zero5 44)).alloc (.cells zero5 44)).setRow w3.heap.size A).setRow (w3.heap.size + 1) B = w9 at *
  clear d0 d1 e0
  simp only [put_none]
  have hne : ∀ p ∈ [(w3.heap.size, A), (w.heap.size + 1, two5)], p.1 ≠ w.heap.size := by simp; omega
  have HNE := Lib.hid hne
  clear hne
  refine wp_region_rem (St w [(w3.heap.size, A), (w.heap.size + 1, two5)]) (by kernel_rfl) (by kernel_rfl) (fun _ _ d _ _ h => by cases d <;> exact h) hst.drew ?_
  apply rem_sure 0 (by kernel_rfl) rfl (wanted_none rfl)
  · intro w2 hS K hK
    exact wp_load_row 44 _ rfl w3.heap.size rfl _ A _ _ (hS.at_ (by simp)) Try.underlying44 rfl (by rw [sA]; exact infoFe) (hK _ hS (Ext.refl _))
  · kernel_rfl
  · kernel_rfl
  try simp only [put_some, List.setIfInBounds_toArray, List.set_cons_succ, List.set_cons_zero]
  apply rem_sure 2 (by kernel_rfl) rfl (wanted_none rfl)
  · intro w2 hS K hK
    exact wp_load_row 44 _ rfl (w.heap.size + 1) rfl _ two5 _ _ (hS.at_ (by simp)) Try.underlying44 rfl (by rw [sX]; exact infoFe) (hK _ hS (Ext.refl _))
  · kernel_rfl
  · kernel_rfl
  try simp only [put_some, List.setIfInBounds_toArray, List.set_cons_succ, List.set_cons_zero]
  apply rem_sure 3 (by kernel_rfl) rfl (wanted_none rfl)
  · intro w2 hS K hK
    exact wp_load_row 44 _ rfl (w.heap.size + 1) rfl _ two5 _ _ (hS.at_ (by simp)) Try.underlying44 rfl (by rw [sX]; exact infoFe) (hK _ hS (Ext.refl _))
  · kernel_rfl
  · kernel_rfl
  try simp only [put_some, List.setIfInBounds_toArray, List.set_cons_succ, List.set_cons_zero]
  apply rem_sure 4 (by kernel_rfl) rfl (wanted_none rfl)
  · intro w2 hS K hK
    exact wp_load_row 44 _ rfl (w.heap.size + 1) rfl _ two5 _ _ (hS.at_ (by simp)) Try.underlying44 rfl (by rw [sX]; exact infoFe) (hK _ hS (Ext.refl _))
  · kernel_rfl
  · kernel_rfl
  try simp only [put_some, List.setIfInBounds_toArray, List.set_cons_succ, List.set_cons_zero]
  refine rem_one 1 (by kernel_rfl) (step_of rfl (wanted_none rfl) ?_)
  intro v2 hS2 hE2 K hK
  go_wp2_with fail
  refine (squares_fe A _ 3 _ (by omega) HA.out).mono ?_
  rintro e u2 ⟨Q, rfl, hQ, hk2⟩
  rw [pw_sq 2 1809251394333065553493296640760748560207343510400633813116524750123642650623 3 14474011154664524427946373126085988481658748083205070504932198000989141204984 (by decide +kernel)] at hQ
  have sQ := hQ.size
  have oQ := Lib.hid hQ.one
  have HQ := Lib.hid hQ
  clear hQ
  refine hK _ _ (hS2.keep hk2) ?_
  clear hK K
  try simp only [put_some, List.setIfInBounds_toArray, List.set_cons_succ, List.set_cons_zero]
  refine rem_one 5 (by kernel_rfl) (step_of rfl (wanted_none rfl) ?_)
  intro v3 hS3 hE3 K hK
  go_wp2_with fail
  refine (emul_fe two5 two5 _ _ _ HX.out HX.out).mono ?_
  rintro e u3 ⟨U, rfl, hU, hk3⟩
  rw [pw_mul 2 1 1 2 (by decide +kernel)] at hU
  have sU := hU.size
  have oU := Lib.hid hU.one
  have HU := Lib.hid hU
  clear hU
  refine hK _ _ (hS3.keep hk3) ?_
  clear hK K
  try simp only [put_some, List.setIfInBounds_toArray, List.set_cons_succ, List.set_cons_zero]
  refine rem_one 6 (by kernel_rfl) (step_of rfl (wanted_none rfl) ?_)
  intro v4 hS4 hE4 K hK
  go_wp2_with fail
  refine (emul_fe two5 U _ _ _ HX.out HU.out).mono ?_
  rintro e u4 ⟨V, rfl, hV, hk4⟩
  rw [pw_mul 2 1 2 3 (by decide +kernel)] at hV
  have sV := hV.size
  have oV := Lib.hid hV.one
  have HV := Lib.hid hV
  clear hV
  refine hK _ _ (hS4.keep hk4) ?_
  clear hK K
  try simp only [put_some, List.setIfInBounds_toArray, List.set_cons_succ, List.set_cons_zero]
  refine rem_one 7 (by kernel_rfl) (step_of rfl (wanted_none rfl) ?_)
  intro v5 hS5 hE5 K hK
  go_wp2_with fail
  refine (emul_fe Q V _ _ _ HQ.out HV.out).mono ?_
  rintro e u5 ⟨R, rfl, hR, hk5⟩
  rw [pw_mul 2 14474011154664524427946373126085988481658748083205070504932198000989141204984 3 14474011154664524427946373126085988481658748083205070504932198000989141204987 (by decide +kernel)] at hR
  have sR := hR.size
  have oR := Lib.hid hR.one
  have HR := Lib.hid hR
  clear hR
  refine hK _ _ (hS5.keep hk5) ?_
  clear hK K
  try simp only [put_some, List.setIfInBounds_toArray, List.set_cons_succ, List.set_cons_zero]
  refine rem_one 8 (by kernel_rfl) (step_of rfl (wanted_none rfl) ?_)
  intro v6 hS6 hE6 K hK
  have hg_o := (hE6 _ _ (block_stay hk5 (hE5 _ _ (block_stay hk4 (hE4 _ _ (block_stay hk3 (hE3 _ _ (block_stay hk2 (hE2 _ _ c1)))))))))
  refine wp_store_row 44 _ _ rfl w.heap.size R rfl rfl 44 _ hg_o (by rw [sR]; exact infoFe) (by first | rfl | (rw [sR]; rfl) | (rw [sR]; assumption)) oR.out ?_
  refine hK _ _ (hS6.store (Nat.le_refl _) HNE.out _) ?_
  clear hK K
  try simp only [put_some, List.setIfInBounds_toArray, List.set_cons_succ, List.set_cons_zero]
  refine rem_nil ?_
  intro v9 hS9 hE9
  have hres := (hE9 _ _ (setRow_here hg_o R))
  go_wp2_with fail
  refine ret_cell rfl w.heap.size _ _ _ _ rfl hres Try.underlying44 rfl (by rw [sR]; exact infoFe) rfl ?_
  exact ⟨R, rfl, HR.out, hS9.2⟩
end Go.Proofs.Ytenppmciabdefaa
