/- The walk of field.element.ones. No condition. -/
import Derived.Test.YtenppmciabdefaaFb
import Derived.Test.YtenppmciabdefaaRd
namespace Go.Proofs.Ytenppmciabdefaa
open Go.RowKit
/-- N to the power k, not to be laid open. -/
def pw (N : Int) (k : Nat) : Int := N ^ k
theorem pw_one (N : Int) : pw N 1 = N := by unfold pw; simp [Int.pow_succ]
theorem pw_sq (N : Int) (a k m : Nat) (h : a * 2 ^ k = m) : pw N a ^ 2 ^ k = pw N m := by
  unfold pw
  rw [← Int.pow_mul, h]
theorem pw_mul (N : Int) (a b m : Nat) (h : a + b = m) : pw N a * pw N b = pw N m := by
  unfold pw
  rw [← Int.pow_add, h]
theorem put_some (a : Act) (d : Tmp) (v : Value) : a.put (some d) v = { tmps := a.tmps.setIfInBounds d v, defers := a.defers } := rfl
theorem put_none (a : Act) (v : Value) : a.put none v = a := rfl
theorem wanted_none {o : Oper} {y : Nat → Option Bool} (h : o.guard = none) : Region.wanted o y = true := by unfold Region.wanted; rw [h]
set_option maxRecDepth 100000 in
set_option maxHeartbeats 8000000 in
theorem ones_fe (X : Array Value) (N : Int) (w : World) (hX : FeA X N) : Calls Try.prog 90 #[.agg X] w fun e w' =>
    ∃ A B, e = .returned (.tuple #[.agg A, .agg B]) ∧ FeA A (pw N 1809251394333065553493296640760748560207343510400633813116524750123642650623) ∧ FeA B (pw N 11) ∧ Below w.heap.size w w' := by
  rw [← pw_one N] at hX
  have sX := hX.size
  have HX := Lib.hid hX
  have sZ : zero5.size = 5 := rfl
  clear hX
  obtain ⟨W0, hW0, hz, hb0, q0, q1, q2⟩ := three_new w (.cells X 44) (.cells #[.int .u64 0, .int .u64 0, .int .u64 0, .int .u64 0, .int .u64 0] 44) (.cells #[.int .u64 0, .int .u64 0, .int .u64 0, .int .u64 0, .int .u64 0] 44)
  have hst0 : St w [] W0 := ⟨by simp, hb0⟩
  have hst : St w [(w.heap.size + 1 + 1, zero5), (w.heap.size + 1, zero5), (w.heap.size, X)] W0 := ((hst0.add q0).add q1).add q2
  have c0 : (((w.alloc (.cells X 44)).alloc (.cells #[.int .u64 0, .int .u64 0, .int .u64 0, .int .u64 0, .int .u64 0] 44)).alloc (.cells #[.int .u64 0, .int .u64 0, .int .u64 0, .int .u64 0, .int .u64 0] 44)).heap[w.heap.size]? = some (.cells X 44 (0, 0)) := by rw [hW0]; exact q0
  have HW := Lib.hid hW0
  clear hz hb0 q0 q1 q2 hW0 hst0
  go_enter Try.func90, Try.ntmps90
  go_wp2_with (refine wpList_load_row rfl 44 _ rfl w.heap.size rfl _ _ _ _ c0 Try.underlying44 rfl (by rw [sX]; exact infoFe) ?_)
  rw [HW.out]
  clear c0 HW
  refine (squares_fe X _ 1 _ (by omega) HX.out).mono ?_
  rintro e w3 ⟨A2, rfl, hA2, hb3⟩
  rw [pw_sq N 1 1 2 (by decide +kernel)] at hA2
  have sA2 := hA2.size
  have oA2 := Lib.hid hA2.one
  have HA2 := Lib.hid hA2
  have hst := hst.keep hb3
  clear hA2 hb3
  go_wp2_with (refine wpList_store_row rfl 44 _ _ rfl w3.heap.size A2 rfl rfl 44 _ (heap_alloc_new w3 _) (by rw [sA2]; exact infoFe) (by rw [sA2]; rfl) oA2.out ?_)
  have lA2 : ∀ p ∈ [(w.heap.size + 1 + 1, zero5), (w.heap.size + 1, zero5), (w.heap.size, X)], p.1 < w3.heap.size := fun p hp => hst.lt hp
  have LA2 := Lib.hid lA2
  clear lA2
  have hst := (hst.storeNew (hst.alloc (.cells zero5 44)) A2).add (setRow_here (heap_alloc_new w3 _) A2)
  rw [show (w3.alloc (.cells #[.int .u64 0, .int .u64 0, .int .u64 0, .int .u64 0, .int .u64 0] 44)) = w3.alloc (.cells zero5 44) from rfl]
  generalize (w3.alloc (.cells zero5 44)).setRow w3.heap.size A2 = w9 at *
  generalize w3.heap.size = gA2 at *
  simp only [put_none]
  -- region 2: A9
  refine wp_region_then (fun a b w' => ∃ (A9 Q : Array Value) (gA9 : Nat), b = (((((a.put (some 15) (.agg A2)).put (some 17) (.agg X)).put (some 16) (.agg Q)).put (some 18) (.agg A9)).put (some 5) (.pointer (some ⟨gA9, 0, none⟩))) ∧ FeA A9 (pw N 9) ∧ (∀ p ∈ [(gA2, A2), (w.heap.size + 1 + 1, zero5), (w.heap.size + 1, zero5), (w.heap.size, X)], p.1 < gA9) ∧ St w [(gA9, A9), (gA2, A2), (w.heap.size + 1 + 1, zero5), (w.heap.size + 1, zero5), (w.heap.size, X)] w') ?_ ?_
  · refine wp_region_free [0, 2] [1, 3, 4, 5] (St w [(gA2, A2), (w.heap.size + 1 + 1, zero5), (w.heap.size + 1, zero5), (w.heap.size, X)]) (by kernel_rfl) (by kernel_rfl) (fun _ _ _ _ _ h => h.elim) hst.drew ?_
    apply sureX_cons (wanted_none rfl)
    · intro w2 hS K hK
      exact wp_load_row 44 _ rfl gA2 rfl _ A2 _ _ (hS.at_ (by simp)) Try.underlying44 rfl (by rw [sA2]; exact infoFe) (hK _ hS (Ext.refl _))
    · kernel_rfl
    · kernel_rfl
    simp only [put_some, List.setIfInBounds_toArray, List.set_cons_succ, List.set_cons_zero]
    apply sureX_cons (wanted_none rfl)
    · intro w2 hS K hK
      exact wp_load_row 44 _ rfl w.heap.size rfl _ X _ _ (hS.at_ (by simp)) Try.underlying44 rfl (by rw [sX]; exact infoFe) (hK _ hS (Ext.refl _))
    · kernel_rfl
    · kernel_rfl
    simp only [put_some, List.setIfInBounds_toArray, List.set_cons_succ, List.set_cons_zero]
    refine tailX_two 1 4 (by kernel_rfl) rfl rfl (wanted_none rfl) (wanted_none rfl) ?_ ?_
    · intro v2 hS2 hE2 K hK
      go_wp2_with fail
      refine (squares_fe A2 _ 2 _ (by omega) HA2.out).mono ?_
      rintro e u2 ⟨Q, rfl, hQ, hb3⟩
      rw [pw_sq N 2 2 8 (by decide +kernel)] at hQ
      have HQ := Lib.hid hQ
      clear hQ
      refine hK _ _ (hS2.keep hb3) ?_
      have hk2 := hb3
      clear hb3
      clear hK K
      try simp only [put_some, List.setIfInBounds_toArray, List.set_cons_succ, List.set_cons_zero]
      refine tailX_two 3 4 (by kernel_rfl) rfl rfl (wanted_none rfl) (wanted_none rfl) ?_ ?_
      · intro v3 hS3 hE3 K hK
        go_wp2_with fail
        refine (emul_fe Q X _ _ _ HQ.out HX.out).mono ?_
        rintro e u3 ⟨A9, rfl, hA9, hb5⟩
        rw [pw_mul N 8 1 9 (by decide +kernel)] at hA9
        have sA9 := hA9.size
        have oA9 := Lib.hid hA9.one
        have HA9 := Lib.hid hA9
        clear hA9
        refine hK _ _ (hS3.keep hb5) ?_
        have hk3 := hb5
        clear hb5
        clear hK K
        try simp only [put_some, List.setIfInBounds_toArray, List.set_cons_succ, List.set_cons_zero]
        refine tailX_one 4 (by kernel_rfl) rfl (wanted_none rfl) ?_
        intro v4 hS4 hE4 K hK
        go_wp2_with fail
        refine hK _ _ (hS4.alloc _) ?_
        have hal := hS4
        clear hK K
        try simp only [put_some, List.setIfInBounds_toArray, List.set_cons_succ, List.set_cons_zero]
        refine tailX_one 5 (by kernel_rfl) rfl (wanted_none rfl) ?_
        intro v5 hS5 hE5 K hK
        have hg7 := (hE5 _ _ (heap_alloc_new v4 _))
        refine wp_store_row 44 _ _ rfl v4.heap.size A9 rfl rfl 44 _ hg7 (by rw [sA9]; exact infoFe) (by rw [sA9]; rfl) oA9.out ?_
        refine hK _ _ (hal.storeNew hS5 _) (tailX_nil ?_)
        intro v9 hS9 hE9
        exact ⟨A9, Q, v4.heap.size, rfl, HA9.out, fun p hp => hal.lt hp, hS9.add (hE9 _ _ (setRow_here hg7 A9))⟩
      · intro v3 hS3 hE3 K hK
        go_wp2_with fail
        refine hK _ _ (hS3.alloc _) ?_
        have hal := hS3
        clear hK K
        try simp only [put_some, List.setIfInBounds_toArray, List.set_cons_succ, List.set_cons_zero]
        refine tailX_one 3 (by kernel_rfl) rfl (wanted_none rfl) ?_
        intro v4 hS4 hE4 K hK
        go_wp2_with fail
        refine (emul_fe Q X _ _ _ HQ.out HX.out).mono ?_
        rintro e u4 ⟨A9, rfl, hA9, hb5⟩
        rw [pw_mul N 8 1 9 (by decide +kernel)] at hA9
        have sA9 := hA9.size
        have oA9 := Lib.hid hA9.one
        have HA9 := Lib.hid hA9
        clear hA9
        refine hK _ _ (hS4.keep hb5) ?_
        have hk4 := hb5
        clear hb5
        clear hK K
        try simp only [put_some, List.setIfInBounds_toArray, List.set_cons_succ, List.set_cons_zero]
        refine tailX_one 5 (by kernel_rfl) rfl (wanted_none rfl) ?_
        intro v5 hS5 hE5 K hK
        have hg7 := (hE5 _ _ (block_stay hk4 (hE4 _ _ (heap_alloc_new v3 _))))
        refine wp_store_row 44 _ _ rfl v3.heap.size A9 rfl rfl 44 _ hg7 (by rw [sA9]; exact infoFe) (by rw [sA9]; rfl) oA9.out ?_
        refine hK _ _ (hal.storeNew hS5 _) (tailX_nil ?_)
        intro v9 hS9 hE9
        exact ⟨A9, Q, v3.heap.size, rfl, HA9.out, fun p hp => hal.lt hp, hS9.add (hE9 _ _ (setRow_here hg7 A9))⟩
    · intro v2 hS2 hE2 K hK
      go_wp2_with fail
      refine hK _ _ (hS2.alloc _) ?_
      have hal := hS2
      clear hK K
      try simp only [put_some, List.setIfInBounds_toArray, List.set_cons_succ, List.set_cons_zero]
      refine tailX_one 1 (by kernel_rfl) rfl (wanted_none rfl) ?_
      intro v3 hS3 hE3 K hK
      go_wp2_with fail
      refine (squares_fe A2 _ 2 _ (by omega) HA2.out).mono ?_
      rintro e u3 ⟨Q, rfl, hQ, hb3⟩
      rw [pw_sq N 2 2 8 (by decide +kernel)] at hQ
      have HQ := Lib.hid hQ
      clear hQ
      refine hK _ _ (hS3.keep hb3) ?_
      have hk3 := hb3
      clear hb3
      clear hK K
      try simp only [put_some, List.setIfInBounds_toArray, List.set_cons_succ, List.set_cons_zero]
      refine tailX_one 3 (by kernel_rfl) rfl (wanted_none rfl) ?_
      intro v4 hS4 hE4 K hK
      go_wp2_with fail
      refine (emul_fe Q X _ _ _ HQ.out HX.out).mono ?_
      rintro e u4 ⟨A9, rfl, hA9, hb5⟩
      rw [pw_mul N 8 1 9 (by decide +kernel)] at hA9
      have sA9 := hA9.size
      have oA9 := Lib.hid hA9.one
      have HA9 := Lib.hid hA9
      clear hA9
      refine hK _ _ (hS4.keep hb5) ?_
      have hk4 := hb5
      clear hb5
      clear hK K
      try simp only [put_some, List.setIfInBounds_toArray, List.set_cons_succ, List.set_cons_zero]
      refine tailX_one 5 (by kernel_rfl) rfl (wanted_none rfl) ?_
      intro v5 hS5 hE5 K hK
      have hg7 := (hE5 _ _ (block_stay hk4 (hE4 _ _ (block_stay hk3 (hE3 _ _ (heap_alloc_new v2 _))))))
      refine wp_store_row 44 _ _ rfl v2.heap.size A9 rfl rfl 44 _ hg7 (by rw [sA9]; exact infoFe) (by rw [sA9]; rfl) oA9.out ?_
      refine hK _ _ (hal.storeNew hS5 _) (tailX_nil ?_)
      intro v9 hS9 hE9
      exact ⟨A9, Q, v2.heap.size, rfl, HA9.out, fun p hp => hal.lt hp, hS9.add (hE9 _ _ (setRow_here hg7 A9))⟩
  rintro b w9 ⟨A9, Q, gA9, rfl, hA9, lA9, hst⟩
  have sA9 := hA9.size
  have HA9 := Lib.hid hA9
  have LA9 := Lib.hid lA9
  clear hA9 lA9
  simp only [put_some, List.setIfInBounds_toArray, List.set_cons_succ, List.set_cons_zero]
  -- region 3: A11
  have cA9 := hst.at_ (g := gA9) (cs := A9) (by simp)
  have cA2 := hst.at_ (g := gA2) (cs := A2) (by simp)
  go_wp2_with (first | (refine wpList_load_row rfl 44 (.tmp 5) rfl gA9 rfl _ _ _ _ cA9 Try.underlying44 rfl (by rw [sA9]; exact infoFe) ?_) | (refine wpList_load_row rfl 44 (.tmp 4) rfl gA2 rfl _ _ _ _ cA2 Try.underlying44 rfl (by rw [sA2]; exact infoFe) ?_))
  refine (emul_fe A9 A2 _ _ _ HA9.out HA2.out).mono ?_
  rintro e w5 ⟨A11, rfl, hA11, hb5⟩
  rw [pw_mul N 9 2 11 (by decide +kernel)] at hA11
  have sA11 := hA11.size
  have oA11 := Lib.hid hA11.one
  have HA11 := Lib.hid hA11
  clear hA11
  have hst := hst.keep hb5
  clear hb5
  clear cA9 cA2
  have cz := hst.at_ (g := w.heap.size + 1 + 1) (cs := zero5) (by simp)
  go_wp2_with (refine wpList_store_row rfl 44 _ _ rfl (w.heap.size + 1 + 1) A11 rfl rfl 44 _ cz (by rw [sA11]; exact infoFe) (by rw [sA11]; rfl) oA11.out ?_)
  have hst := (((hst.sub (bm := [(gA9, A9), (gA2, A2), (w.heap.size + 1, zero5), (w.heap.size, X)]) (by simp)).store (g := w.heap.size + 1 + 1) (by omega) (by have h1 := LA2.out (w.heap.size + 1 + 1, zero5) (by simp); have h2 := LA9.out (w.heap.size + 1 + 1, zero5) (by simp); simp; omega) A11).add (setRow_here cz A11))
  clear cz
  generalize w5.setRow (w.heap.size + 1 + 1) A11 = w9 at *
  simp only [put_none]
  -- region 4: A5
  refine wp_region_then (fun a b w' => ∃ (A5 Q : Array Value) (gA5 : Nat), b = (((((a.put (some 22) (.agg A11)).put (some 24) (.agg A9)).put (some 23) (.agg Q)).put (some 25) (.agg A5)).put (some 6) (.pointer (some ⟨gA5, 0, none⟩))) ∧ FeA A5 (pw N 31) ∧ (∀ p ∈ [((w.heap.size + 1 + 1), A11), (gA9, A9), (gA2, A2), (w.heap.size + 1, zero5), (w.heap.size, X)], p.1 < gA5) ∧ St w [(gA5, A5), ((w.heap.size + 1 + 1), A11), (gA9, A9), (gA2, A2), (w.heap.size + 1, zero5), (w.heap.size, X)] w') ?_ ?_
  · refine wp_region_free [0, 2] [1, 3, 4, 5] (St w [((w.heap.size + 1 + 1), A11), (gA9, A9), (gA2, A2), (w.heap.size + 1, zero5), (w.heap.size, X)]) (by kernel_rfl) (by kernel_rfl) (fun _ _ _ _ _ h => h.elim) hst.drew ?_
    apply sureX_cons (wanted_none rfl)
    · intro w2 hS K hK
      exact wp_load_row 44 _ rfl (w.heap.size + 1 + 1) rfl _ A11 _ _ (hS.at_ (by simp)) Try.underlying44 rfl (by rw [sA11]; exact infoFe) (hK _ hS (Ext.refl _))
    · kernel_rfl
    · kernel_rfl
    simp only [put_some, List.setIfInBounds_toArray, List.set_cons_succ, List.set_cons_zero]
    apply sureX_cons (wanted_none rfl)
    · intro w2 hS K hK
      exact wp_load_row 44 _ rfl gA9 rfl _ A9 _ _ (hS.at_ (by simp)) Try.underlying44 rfl (by rw [sA9]; exact infoFe) (hK _ hS (Ext.refl _))
    · kernel_rfl
    · kernel_rfl
    simp only [put_some, List.setIfInBounds_toArray, List.set_cons_succ, List.set_cons_zero]
    refine tailX_two 1 4 (by kernel_rfl) rfl rfl (wanted_none rfl) (wanted_none rfl) ?_ ?_
    · intro v2 hS2 hE2 K hK
      go_wp2_with fail
      refine (squares_fe A11 _ 1 _ (by omega) HA11.out).mono ?_
      rintro e u2 ⟨Q, rfl, hQ, hb3⟩
      rw [pw_sq N 11 1 22 (by decide +kernel)] at hQ
      have HQ := Lib.hid hQ
      clear hQ
      refine hK _ _ (hS2.keep hb3) ?_
      have hk2 := hb3
      clear hb3
      clear hK K
      try simp only [put_some, List.setIfInBounds_toArray, List.set_cons_succ, List.set_cons_zero]
      refine tailX_two 3 4 (by kernel_rfl) rfl rfl (wanted_none rfl) (wanted_none rfl) ?_ ?_
      · intro v3 hS3 hE3 K hK
        go_wp2_with fail
        refine (emul_fe Q A9 _ _ _ HQ.out HA9.out).mono ?_
        rintro e u3 ⟨A5, rfl, hA5, hb5⟩
        rw [pw_mul N 22 9 31 (by decide +kernel)] at hA5
        have sA5 := hA5.size
        have oA5 := Lib.hid hA5.one
        have HA5 := Lib.hid hA5
        clear hA5
        refine hK _ _ (hS3.keep hb5) ?_
        have hk3 := hb5
        clear hb5
        clear hK K
        try simp only [put_some, List.setIfInBounds_toArray, List.set_cons_succ, List.set_cons_zero]
        refine tailX_one 4 (by kernel_rfl) rfl (wanted_none rfl) ?_
        intro v4 hS4 hE4 K hK
        go_wp2_with fail
        refine hK _ _ (hS4.alloc _) ?_
        have hal := hS4
        clear hK K
        try simp only [put_some, List.setIfInBounds_toArray, List.set_cons_succ, List.set_cons_zero]
        refine tailX_one 5 (by kernel_rfl) rfl (wanted_none rfl) ?_
        intro v5 hS5 hE5 K hK
        have hg7 := (hE5 _ _ (heap_alloc_new v4 _))
        refine wp_store_row 44 _ _ rfl v4.heap.size A5 rfl rfl 44 _ hg7 (by rw [sA5]; exact infoFe) (by rw [sA5]; rfl) oA5.out ?_
        refine hK _ _ (hal.storeNew hS5 _) (tailX_nil ?_)
        intro v9 hS9 hE9
        exact ⟨A5, Q, v4.heap.size, rfl, HA5.out, fun p hp => hal.lt hp, hS9.add (hE9 _ _ (setRow_here hg7 A5))⟩
      · intro v3 hS3 hE3 K hK
        go_wp2_with fail
        refine hK _ _ (hS3.alloc _) ?_
        have hal := hS3
        clear hK K
        try simp only [put_some, List.setIfInBounds_toArray, List.set_cons_succ, List.set_cons_zero]
        refine tailX_one 3 (by kernel_rfl) rfl (wanted_none rfl) ?_
        intro v4 hS4 hE4 K hK
        go_wp2_with fail
        refine (emul_fe Q A9 _ _ _ HQ.out HA9.out).mono ?_
        rintro e u4 ⟨A5, rfl, hA5, hb5⟩
        rw [pw_mul N 22 9 31 (by decide +kernel)] at hA5
        have sA5 := hA5.size
        have oA5 := Lib.hid hA5.one
        have HA5 := Lib.hid hA5
        clear hA5
        refine hK _ _ (hS4.keep hb5) ?_
        have hk4 := hb5
        clear hb5
        clear hK K
        try simp only [put_some, List.setIfInBounds_toArray, List.set_cons_succ, List.set_cons_zero]
        refine tailX_one 5 (by kernel_rfl) rfl (wanted_none rfl) ?_
        intro v5 hS5 hE5 K hK
        have hg7 := (hE5 _ _ (block_stay hk4 (hE4 _ _ (heap_alloc_new v3 _))))
        refine wp_store_row 44 _ _ rfl v3.heap.size A5 rfl rfl 44 _ hg7 (by rw [sA5]; exact infoFe) (by rw [sA5]; rfl) oA5.out ?_
        refine hK _ _ (hal.storeNew hS5 _) (tailX_nil ?_)
        intro v9 hS9 hE9
        exact ⟨A5, Q, v3.heap.size, rfl, HA5.out, fun p hp => hal.lt hp, hS9.add (hE9 _ _ (setRow_here hg7 A5))⟩
    · intro v2 hS2 hE2 K hK
      go_wp2_with fail
      refine hK _ _ (hS2.alloc _) ?_
      have hal := hS2
      clear hK K
      try simp only [put_some, List.setIfInBounds_toArray, List.set_cons_succ, List.set_cons_zero]
      refine tailX_one 1 (by kernel_rfl) rfl (wanted_none rfl) ?_
      intro v3 hS3 hE3 K hK
      go_wp2_with fail
      refine (squares_fe A11 _ 1 _ (by omega) HA11.out).mono ?_
      rintro e u3 ⟨Q, rfl, hQ, hb3⟩
      rw [pw_sq N 11 1 22 (by decide +kernel)] at hQ
      have HQ := Lib.hid hQ
      clear hQ
      refine hK _ _ (hS3.keep hb3) ?_
      have hk3 := hb3
      clear hb3
      clear hK K
      try simp only [put_some, List.setIfInBounds_toArray, List.set_cons_succ, List.set_cons_zero]
      refine tailX_one 3 (by kernel_rfl) rfl (wanted_none rfl) ?_
      intro v4 hS4 hE4 K hK
      go_wp2_with fail
      refine (emul_fe Q A9 _ _ _ HQ.out HA9.out).mono ?_
      rintro e u4 ⟨A5, rfl, hA5, hb5⟩
      rw [pw_mul N 22 9 31 (by decide +kernel)] at hA5
      have sA5 := hA5.size
      have oA5 := Lib.hid hA5.one
      have HA5 := Lib.hid hA5
      clear hA5
      refine hK _ _ (hS4.keep hb5) ?_
      have hk4 := hb5
      clear hb5
      clear hK K
      try simp only [put_some, List.setIfInBounds_toArray, List.set_cons_succ, List.set_cons_zero]
      refine tailX_one 5 (by kernel_rfl) rfl (wanted_none rfl) ?_
      intro v5 hS5 hE5 K hK
      have hg7 := (hE5 _ _ (block_stay hk4 (hE4 _ _ (block_stay hk3 (hE3 _ _ (heap_alloc_new v2 _))))))
      refine wp_store_row 44 _ _ rfl v2.heap.size A5 rfl rfl 44 _ hg7 (by rw [sA5]; exact infoFe) (by rw [sA5]; rfl) oA5.out ?_
      refine hK _ _ (hal.storeNew hS5 _) (tailX_nil ?_)
      intro v9 hS9 hE9
      exact ⟨A5, Q, v2.heap.size, rfl, HA5.out, fun p hp => hal.lt hp, hS9.add (hE9 _ _ (setRow_here hg7 A5))⟩
  rintro b w9 ⟨A5, Q, gA5, rfl, hA5, lA5, hst⟩
  have sA5 := hA5.size
  have HA5 := Lib.hid hA5
  have LA5 := Lib.hid lA5
  clear hA5 lA5
  simp only [put_some, List.setIfInBounds_toArray, List.set_cons_succ, List.set_cons_zero]
  go_wp2_with fail
  -- region 5: A10
  refine wp_region_then (fun a b w' => ∃ (A10 Q : Array Value) (gA10 : Nat), b = (((((a.put (some 26) (.agg A5)).put (some 28) (.agg A5)).put (some 27) (.agg Q)).put (some 29) (.agg A10)).put (some 7) (.pointer (some ⟨gA10, 0, none⟩))) ∧ FeA A10 (pw N 1023) ∧ (∀ p ∈ [(gA5, A5), ((w.heap.size + 1 + 1), A11), (gA9, A9), (gA2, A2), (w.heap.size + 1, zero5), (w.heap.size, X)], p.1 < gA10) ∧ St w [(gA10, A10), (gA5, A5), ((w.heap.size + 1 + 1), A11), (gA9, A9), (gA2, A2), (w.heap.size + 1, zero5), (w.heap.size, X)] w') ?_ ?_
  · refine wp_region_free [0, 2] [1, 3, 4, 5] (St w [(gA5, A5), ((w.heap.size + 1 + 1), A11), (gA9, A9), (gA2, A2), (w.heap.size + 1, zero5), (w.heap.size, X)]) (by kernel_rfl) (by kernel_rfl) (fun _ _ _ _ _ h => h.elim) hst.drew ?_
    apply sureX_cons (wanted_none rfl)
    · intro w2 hS K hK
      exact wp_load_row 44 _ rfl gA5 rfl _ A5 _ _ (hS.at_ (by simp)) Try.underlying44 rfl (by rw [sA5]; exact infoFe) (hK _ hS (Ext.refl _))
    · kernel_rfl
    · kernel_rfl
    simp only [put_some, List.setIfInBounds_toArray, List.set_cons_succ, List.set_cons_zero]
    apply sureX_cons (wanted_none rfl)
    · intro w2 hS K hK
      exact wp_load_row 44 _ rfl gA5 rfl _ A5 _ _ (hS.at_ (by simp)) Try.underlying44 rfl (by rw [sA5]; exact infoFe) (hK _ hS (Ext.refl _))
    · kernel_rfl
    · kernel_rfl
    simp only [put_some, List.setIfInBounds_toArray, List.set_cons_succ, List.set_cons_zero]
    refine tailX_two 1 4 (by kernel_rfl) rfl rfl (wanted_none rfl) (wanted_none rfl) ?_ ?_
    · intro v2 hS2 hE2 K hK
      go_wp2_with fail
      refine (squares_fe A5 _ 5 _ (by omega) HA5.out).mono ?_
      rintro e u2 ⟨Q, rfl, hQ, hb3⟩
      rw [pw_sq N 31 5 992 (by decide +kernel)] at hQ
      have HQ := Lib.hid hQ
      clear hQ
      refine hK _ _ (hS2.keep hb3) ?_
      have hk2 := hb3
      clear hb3
      clear hK K
      try simp only [put_some, List.setIfInBounds_toArray, List.set_cons_succ, List.set_cons_zero]
      refine tailX_two 3 4 (by kernel_rfl) rfl rfl (wanted_none rfl) (wanted_none rfl) ?_ ?_
      · intro v3 hS3 hE3 K hK
        go_wp2_with fail
        refine (emul_fe Q A5 _ _ _ HQ.out HA5.out).mono ?_
        rintro e u3 ⟨A10, rfl, hA10, hb5⟩
        rw [pw_mul N 992 31 1023 (by decide +kernel)] at hA10
        have sA10 := hA10.size
        have oA10 := Lib.hid hA10.one
        have HA10 := Lib.hid hA10
        clear hA10
        refine hK _ _ (hS3.keep hb5) ?_
        have hk3 := hb5
        clear hb5
        clear hK K
        try simp only [put_some, List.setIfInBounds_toArray, List.set_cons_succ, List.set_cons_zero]
        refine tailX_one 4 (by kernel_rfl) rfl (wanted_none rfl) ?_
        intro v4 hS4 hE4 K hK
        go_wp2_with fail
        refine hK _ _ (hS4.alloc _) ?_
        have hal := hS4
        clear hK K
        try simp only [put_some, List.setIfInBounds_toArray, List.set_cons_succ, List.set_cons_zero]
        refine tailX_one 5 (by kernel_rfl) rfl (wanted_none rfl) ?_
        intro v5 hS5 hE5 K hK
        have hg7 := (hE5 _ _ (heap_alloc_new v4 _))
        refine wp_store_row 44 _ _ rfl v4.heap.size A10 rfl rfl 44 _ hg7 (by rw [sA10]; exact infoFe) (by rw [sA10]; rfl) oA10.out ?_
        refine hK _ _ (hal.storeNew hS5 _) (tailX_nil ?_)
        intro v9 hS9 hE9
        exact ⟨A10, Q, v4.heap.size, rfl, HA10.out, fun p hp => hal.lt hp, hS9.add (hE9 _ _ (setRow_here hg7 A10))⟩
      · intro v3 hS3 hE3 K hK
        go_wp2_with fail
        refine hK _ _ (hS3.alloc _) ?_
        have hal := hS3
        clear hK K
        try simp only [put_some, List.setIfInBounds_toArray, List.set_cons_succ, List.set_cons_zero]
        refine tailX_one 3 (by kernel_rfl) rfl (wanted_none rfl) ?_
        intro v4 hS4 hE4 K hK
        go_wp2_with fail
        refine (emul_fe Q A5 _ _ _ HQ.out HA5.out).mono ?_
        rintro e u4 ⟨A10, rfl, hA10, hb5⟩
        rw [pw_mul N 992 31 1023 (by decide +kernel)] at hA10
        have sA10 := hA10.size
        have oA10 := Lib.hid hA10.one
        have HA10 := Lib.hid hA10
        clear hA10
        refine hK _ _ (hS4.keep hb5) ?_
        have hk4 := hb5
        clear hb5
        clear hK K
        try simp only [put_some, List.setIfInBounds_toArray, List.set_cons_succ, List.set_cons_zero]
        refine tailX_one 5 (by kernel_rfl) rfl (wanted_none rfl) ?_
        intro v5 hS5 hE5 K hK
        have hg7 := (hE5 _ _ (block_stay hk4 (hE4 _ _ (heap_alloc_new v3 _))))
        refine wp_store_row 44 _ _ rfl v3.heap.size A10 rfl rfl 44 _ hg7 (by rw [sA10]; exact infoFe) (by rw [sA10]; rfl) oA10.out ?_
        refine hK _ _ (hal.storeNew hS5 _) (tailX_nil ?_)
        intro v9 hS9 hE9
        exact ⟨A10, Q, v3.heap.size, rfl, HA10.out, fun p hp => hal.lt hp, hS9.add (hE9 _ _ (setRow_here hg7 A10))⟩
    · intro v2 hS2 hE2 K hK
      go_wp2_with fail
      refine hK _ _ (hS2.alloc _) ?_
      have hal := hS2
      clear hK K
      try simp only [put_some, List.setIfInBounds_toArray, List.set_cons_succ, List.set_cons_zero]
      refine tailX_one 1 (by kernel_rfl) rfl (wanted_none rfl) ?_
      intro v3 hS3 hE3 K hK
      go_wp2_with fail
      refine (squares_fe A5 _ 5 _ (by omega) HA5.out).mono ?_
      rintro e u3 ⟨Q, rfl, hQ, hb3⟩
      rw [pw_sq N 31 5 992 (by decide +kernel)] at hQ
      have HQ := Lib.hid hQ
      clear hQ
      refine hK _ _ (hS3.keep hb3) ?_
      have hk3 := hb3
      clear hb3
      clear hK K
      try simp only [put_some, List.setIfInBounds_toArray, List.set_cons_succ, List.set_cons_zero]
      refine tailX_one 3 (by kernel_rfl) rfl (wanted_none rfl) ?_
      intro v4 hS4 hE4 K hK
      go_wp2_with fail
      refine (emul_fe Q A5 _ _ _ HQ.out HA5.out).mono ?_
      rintro e u4 ⟨A10, rfl, hA10, hb5⟩
      rw [pw_mul N 992 31 1023 (by decide +kernel)] at hA10
      have sA10 := hA10.size
      have oA10 := Lib.hid hA10.one
      have HA10 := Lib.hid hA10
      clear hA10
      refine hK _ _ (hS4.keep hb5) ?_
      have hk4 := hb5
      clear hb5
      clear hK K
      try simp only [put_some, List.setIfInBounds_toArray, List.set_cons_succ, List.set_cons_zero]
      refine tailX_one 5 (by kernel_rfl) rfl (wanted_none rfl) ?_
      intro v5 hS5 hE5 K hK
      have hg7 := (hE5 _ _ (block_stay hk4 (hE4 _ _ (block_stay hk3 (hE3 _ _ (heap_alloc_new v2 _))))))
      refine wp_store_row 44 _ _ rfl v2.heap.size A10 rfl rfl 44 _ hg7 (by rw [sA10]; exact infoFe) (by rw [sA10]; rfl) oA10.out ?_
      refine hK _ _ (hal.storeNew hS5 _) (tailX_nil ?_)
      intro v9 hS9 hE9
      exact ⟨A10, Q, v2.heap.size, rfl, HA10.out, fun p hp => hal.lt hp, hS9.add (hE9 _ _ (setRow_here hg7 A10))⟩
  rintro b w9 ⟨A10, Q, gA10, rfl, hA10, lA10, hst⟩
  have sA10 := hA10.size
  have HA10 := Lib.hid hA10
  have LA10 := Lib.hid lA10
  clear hA10 lA10
  simp only [put_some, List.setIfInBounds_toArray, List.set_cons_succ, List.set_cons_zero]
  go_wp2_with fail
  -- region 6: A20
  refine wp_region_then (fun a b w' => ∃ (A20 Q : Array Value) (gA20 : Nat), b = (((((a.put (some 30) (.agg A10)).put (some 32) (.agg A10)).put (some 31) (.agg Q)).put (some 33) (.agg A20)).put (some 8) (.pointer (some ⟨gA20, 0, none⟩))) ∧ FeA A20 (pw N 1048575) ∧ (∀ p ∈ [(gA10, A10), (gA5, A5), ((w.heap.size + 1 + 1), A11), (gA9, A9), (gA2, A2), (w.heap.size + 1, zero5), (w.heap.size, X)], p.1 < gA20) ∧ St w [(gA20, A20), (gA10, A10), (gA5, A5), ((w.heap.size + 1 + 1), A11), (gA9, A9), (gA2, A2), (w.heap.size + 1, zero5), (w.heap.size, X)] w') ?_ ?_
  · refine wp_region_free [0, 2] [1, 3, 4, 5] (St w [(gA10, A10), (gA5, A5), ((w.heap.size + 1 + 1), A11), (gA9, A9), (gA2, A2), (w.heap.size + 1, zero5), (w.heap.size, X)]) (by kernel_rfl) (by kernel_rfl) (fun _ _ _ _ _ h => h.elim) hst.drew ?_
    apply sureX_cons (wanted_none rfl)
    · intro w2 hS K hK
      exact wp_load_row 44 _ rfl gA10 rfl _ A10 _ _ (hS.at_ (by simp)) Try.underlying44 rfl (by rw [sA10]; exact infoFe) (hK _ hS (Ext.refl _))
    · kernel_rfl
    · kernel_rfl
    simp only [put_some, List.setIfInBounds_toArray, List.set_cons_succ, List.set_cons_zero]
    apply sureX_cons (wanted_none rfl)
    · intro w2 hS K hK
      exact wp_load_row 44 _ rfl gA10 rfl _ A10 _ _ (hS.at_ (by simp)) Try.underlying44 rfl (by rw [sA10]; exact infoFe) (hK _ hS (Ext.refl _))
    · kernel_rfl
    · kernel_rfl
    simp only [put_some, List.setIfInBounds_toArray, List.set_cons_succ, List.set_cons_zero]
    refine tailX_two 1 4 (by kernel_rfl) rfl rfl (wanted_none rfl) (wanted_none rfl) ?_ ?_
    · intro v2 hS2 hE2 K hK
      go_wp2_with fail
      refine (squares_fe A10 _ 10 _ (by omega) HA10.out).mono ?_
      rintro e u2 ⟨Q, rfl, hQ, hb3⟩
      rw [pw_sq N 1023 10 1047552 (by decide +kernel)] at hQ
      have HQ := Lib.hid hQ
      clear hQ
      refine hK _ _ (hS2.keep hb3) ?_
      have hk2 := hb3
      clear hb3
      clear hK K
      try simp only [put_some, List.setIfInBounds_toArray, List.set_cons_succ, List.set_cons_zero]
      refine tailX_two 3 4 (by kernel_rfl) rfl rfl (wanted_none rfl) (wanted_none rfl) ?_ ?_
      · intro v3 hS3 hE3 K hK
        go_wp2_with fail
        refine (emul_fe Q A10 _ _ _ HQ.out HA10.out).mono ?_
        rintro e u3 ⟨A20, rfl, hA20, hb5⟩
        rw [pw_mul N 1047552 1023 1048575 (by decide +kernel)] at hA20
        have sA20 := hA20.size
        have oA20 := Lib.hid hA20.one
        have HA20 := Lib.hid hA20
        clear hA20
        refine hK _ _ (hS3.keep hb5) ?_
        have hk3 := hb5
        clear hb5
        clear hK K
        try simp only [put_some, List.setIfInBounds_toArray, List.set_cons_succ, List.set_cons_zero]
        refine tailX_one 4 (by kernel_rfl) rfl (wanted_none rfl) ?_
        intro v4 hS4 hE4 K hK
        go_wp2_with fail
        refine hK _ _ (hS4.alloc _) ?_
        have hal := hS4
        clear hK K
        try simp only [put_some, List.setIfInBounds_toArray, List.set_cons_succ, List.set_cons_zero]
        refine tailX_one 5 (by kernel_rfl) rfl (wanted_none rfl) ?_
        intro v5 hS5 hE5 K hK
        have hg7 := (hE5 _ _ (heap_alloc_new v4 _))
        refine wp_store_row 44 _ _ rfl v4.heap.size A20 rfl rfl 44 _ hg7 (by rw [sA20]; exact infoFe) (by rw [sA20]; rfl) oA20.out ?_
        refine hK _ _ (hal.storeNew hS5 _) (tailX_nil ?_)
        intro v9 hS9 hE9
        exact ⟨A20, Q, v4.heap.size, rfl, HA20.out, fun p hp => hal.lt hp, hS9.add (hE9 _ _ (setRow_here hg7 A20))⟩
      · intro v3 hS3 hE3 K hK
        go_wp2_with fail
        refine hK _ _ (hS3.alloc _) ?_
        have hal := hS3
        clear hK K
        try simp only [put_some, List.setIfInBounds_toArray, List.set_cons_succ, List.set_cons_zero]
        refine tailX_one 3 (by kernel_rfl) rfl (wanted_none rfl) ?_
        intro v4 hS4 hE4 K hK
        go_wp2_with fail
        refine (emul_fe Q A10 _ _ _ HQ.out HA10.out).mono ?_
        rintro e u4 ⟨A20, rfl, hA20, hb5⟩
        rw [pw_mul N 1047552 1023 1048575 (by decide +kernel)] at hA20
        have sA20 := hA20.size
        have oA20 := Lib.hid hA20.one
        have HA20 := Lib.hid hA20
        clear hA20
        refine hK _ _ (hS4.keep hb5) ?_
        have hk4 := hb5
        clear hb5
        clear hK K
        try simp only [put_some, List.setIfInBounds_toArray, List.set_cons_succ, List.set_cons_zero]
        refine tailX_one 5 (by kernel_rfl) rfl (wanted_none rfl) ?_
        intro v5 hS5 hE5 K hK
        have hg7 := (hE5 _ _ (block_stay hk4 (hE4 _ _ (heap_alloc_new v3 _))))
        refine wp_store_row 44 _ _ rfl v3.heap.size A20 rfl rfl 44 _ hg7 (by rw [sA20]; exact infoFe) (by rw [sA20]; rfl) oA20.out ?_
        refine hK _ _ (hal.storeNew hS5 _) (tailX_nil ?_)
        intro v9 hS9 hE9
        exact ⟨A20, Q, v3.heap.size, rfl, HA20.out, fun p hp => hal.lt hp, hS9.add (hE9 _ _ (setRow_here hg7 A20))⟩
    · intro v2 hS2 hE2 K hK
      go_wp2_with fail
      refine hK _ _ (hS2.alloc _) ?_
      have hal := hS2
      clear hK K
      try simp only [put_some, List.setIfInBounds_toArray, List.set_cons_succ, List.set_cons_zero]
      refine tailX_one 1 (by kernel_rfl) rfl (wanted_none rfl) ?_
      intro v3 hS3 hE3 K hK
      go_wp2_with fail
      refine (squares_fe A10 _ 10 _ (by omega) HA10.out).mono ?_
      rintro e u3 ⟨Q, rfl, hQ, hb3⟩
      rw [pw_sq N 1023 10 1047552 (by decide +kernel)] at hQ
      have HQ := Lib.hid hQ
      clear hQ
      refine hK _ _ (hS3.keep hb3) ?_
      have hk3 := hb3
      clear hb3
      clear hK K
      try simp only [put_some, List.setIfInBounds_toArray, List.set_cons_succ, List.set_cons_zero]
      refine tailX_one 3 (by kernel_rfl) rfl (wanted_none rfl) ?_
      intro v4 hS4 hE4 K hK
      go_wp2_with fail
      refine (emul_fe Q A10 _ _ _ HQ.out HA10.out).mono ?_
      rintro e u4 ⟨A20, rfl, hA20, hb5⟩
      rw [pw_mul N 1047552 1023 1048575 (by decide +kernel)] at hA20
      have sA20 := hA20.size
      have oA20 := Lib.hid hA20.one
      have HA20 := Lib.hid hA20
      clear hA20
      refine hK _ _ (hS4.keep hb5) ?_
      have hk4 := hb5
      clear hb5
      clear hK K
      try simp only [put_some, List.setIfInBounds_toArray, List.set_cons_succ, List.set_cons_zero]
      refine tailX_one 5 (by kernel_rfl) rfl (wanted_none rfl) ?_
      intro v5 hS5 hE5 K hK
      have hg7 := (hE5 _ _ (block_stay hk4 (hE4 _ _ (block_stay hk3 (hE3 _ _ (heap_alloc_new v2 _))))))
      refine wp_store_row 44 _ _ rfl v2.heap.size A20 rfl rfl 44 _ hg7 (by rw [sA20]; exact infoFe) (by rw [sA20]; rfl) oA20.out ?_
      refine hK _ _ (hal.storeNew hS5 _) (tailX_nil ?_)
      intro v9 hS9 hE9
      exact ⟨A20, Q, v2.heap.size, rfl, HA20.out, fun p hp => hal.lt hp, hS9.add (hE9 _ _ (setRow_here hg7 A20))⟩
  rintro b w9 ⟨A20, Q, gA20, rfl, hA20, lA20, hst⟩
  have sA20 := hA20.size
  have HA20 := Lib.hid hA20
  have LA20 := Lib.hid lA20
  clear hA20 lA20
  simp only [put_some, List.setIfInBounds_toArray, List.set_cons_succ, List.set_cons_zero]
  go_wp2_with fail
  -- region 7: A40
  refine wp_region_then (fun a b w' => ∃ (A40 Q : Array Value) (gA40 : Nat), b = (((((a.put (some 34) (.agg A20)).put (some 36) (.agg A20)).put (some 35) (.agg Q)).put (some 37) (.agg A40)).put (some 9) (.pointer (some ⟨gA40, 0, none⟩))) ∧ FeA A40 (pw N 1099511627775) ∧ (∀ p ∈ [(gA20, A20), (gA10, A10), (gA5, A5), ((w.heap.size + 1 + 1), A11), (gA9, A9), (gA2, A2), (w.heap.size + 1, zero5), (w.heap.size, X)], p.1 < gA40) ∧ St w [(gA40, A40), (gA20, A20), (gA10, A10), (gA5, A5), ((w.heap.size + 1 + 1), A11), (gA9, A9), (gA2, A2), (w.heap.size + 1, zero5), (w.heap.size, X)] w') ?_ ?_
  · refine wp_region_free [0, 2] [1, 3, 4, 5] (St w [(gA20, A20), (gA10, A10), (gA5, A5), ((w.heap.size + 1 + 1), A11), (gA9, A9), (gA2, A2), (w.heap.size + 1, zero5), (w.heap.size, X)]) (by kernel_rfl) (by kernel_rfl) (fun _ _ _ _ _ h => h.elim) hst.drew ?_
    apply sureX_cons (wanted_none rfl)
    · intro w2 hS K hK
      exact wp_load_row 44 _ rfl gA20 rfl _ A20 _ _ (hS.at_ (by simp)) Try.underlying44 rfl (by rw [sA20]; exact infoFe) (hK _ hS (Ext.refl _))
    · kernel_rfl
    · kernel_rfl
    simp only [put_some, List.setIfInBounds_toArray, List.set_cons_succ, List.set_cons_zero]
    apply sureX_cons (wanted_none rfl)
    · intro w2 hS K hK
      exact wp_load_row 44 _ rfl gA20 rfl _ A20 _ _ (hS.at_ (by simp)) Try.underlying44 rfl (by rw [sA20]; exact infoFe) (hK _ hS (Ext.refl _))
    · kernel_rfl
    · kernel_rfl
    simp only [put_some, List.setIfInBounds_toArray, List.set_cons_succ, List.set_cons_zero]
    refine tailX_two 1 4 (by kernel_rfl) rfl rfl (wanted_none rfl) (wanted_none rfl) ?_ ?_
    · intro v2 hS2 hE2 K hK
      go_wp2_with fail
      refine (squares_fe A20 _ 20 _ (by omega) HA20.out).mono ?_
      rintro e u2 ⟨Q, rfl, hQ, hb3⟩
      rw [pw_sq N 1048575 20 1099510579200 (by decide +kernel)] at hQ
      have HQ := Lib.hid hQ
      clear hQ
      refine hK _ _ (hS2.keep hb3) ?_
      have hk2 := hb3
      clear hb3
      clear hK K
      try simp only [put_some, List.setIfInBounds_toArray, List.set_cons_succ, List.set_cons_zero]
      refine tailX_two 3 4 (by kernel_rfl) rfl rfl (wanted_none rfl) (wanted_none rfl) ?_ ?_
      · intro v3 hS3 hE3 K hK
        go_wp2_with fail
        refine (emul_fe Q A20 _ _ _ HQ.out HA20.out).mono ?_
        rintro e u3 ⟨A40, rfl, hA40, hb5⟩
        rw [pw_mul N 1099510579200 1048575 1099511627775 (by decide +kernel)] at hA40
        have sA40 := hA40.size
        have oA40 := Lib.hid hA40.one
        have HA40 := Lib.hid hA40
        clear hA40
        refine hK _ _ (hS3.keep hb5) ?_
        have hk3 := hb5
        clear hb5
        clear hK K
        try simp only [put_some, List.setIfInBounds_toArray, List.set_cons_succ, List.set_cons_zero]
        refine tailX_one 4 (by kernel_rfl) rfl (wanted_none rfl) ?_
        intro v4 hS4 hE4 K hK
        go_wp2_with fail
        refine hK _ _ (hS4.alloc _) ?_
        have hal := hS4
        clear hK K
        try simp only [put_some, List.setIfInBounds_toArray, List.set_cons_succ, List.set_cons_zero]
        refine tailX_one 5 (by kernel_rfl) rfl (wanted_none rfl) ?_
        intro v5 hS5 hE5 K hK
        have hg7 := (hE5 _ _ (heap_alloc_new v4 _))
        refine wp_store_row 44 _ _ rfl v4.heap.size A40 rfl rfl 44 _ hg7 (by rw [sA40]; exact infoFe) (by rw [sA40]; rfl) oA40.out ?_
        refine hK _ _ (hal.storeNew hS5 _) (tailX_nil ?_)
        intro v9 hS9 hE9
        exact ⟨A40, Q, v4.heap.size, rfl, HA40.out, fun p hp => hal.lt hp, hS9.add (hE9 _ _ (setRow_here hg7 A40))⟩
      · intro v3 hS3 hE3 K hK
        go_wp2_with fail
        refine hK _ _ (hS3.alloc _) ?_
        have hal := hS3
        clear hK K
        try simp only [put_some, List.setIfInBounds_toArray, List.set_cons_succ, List.set_cons_zero]
        refine tailX_one 3 (by kernel_rfl) rfl (wanted_none rfl) ?_
        intro v4 hS4 hE4 K hK
        go_wp2_with fail
        refine (emul_fe Q A20 _ _ _ HQ.out HA20.out).mono ?_
        rintro e u4 ⟨A40, rfl, hA40, hb5⟩
        rw [pw_mul N 1099510579200 1048575 1099511627775 (by decide +kernel)] at hA40
        have sA40 := hA40.size
        have oA40 := Lib.hid hA40.one
        have HA40 := Lib.hid hA40
        clear hA40
        refine hK _ _ (hS4.keep hb5) ?_
        have hk4 := hb5
        clear hb5
        clear hK K
        try simp only [put_some, List.setIfInBounds_toArray, List.set_cons_succ, List.set_cons_zero]
        refine tailX_one 5 (by kernel_rfl) rfl (wanted_none rfl) ?_
        intro v5 hS5 hE5 K hK
        have hg7 := (hE5 _ _ (block_stay hk4 (hE4 _ _ (heap_alloc_new v3 _))))
        refine wp_store_row 44 _ _ rfl v3.heap.size A40 rfl rfl 44 _ hg7 (by rw [sA40]; exact infoFe) (by rw [sA40]; rfl) oA40.out ?_
        refine hK _ _ (hal.storeNew hS5 _) (tailX_nil ?_)
        intro v9 hS9 hE9
        exact ⟨A40, Q, v3.heap.size, rfl, HA40.out, fun p hp => hal.lt hp, hS9.add (hE9 _ _ (setRow_here hg7 A40))⟩
    · intro v2 hS2 hE2 K hK
      go_wp2_with fail
      refine hK _ _ (hS2.alloc _) ?_
      have hal := hS2
      clear hK K
      try simp only [put_some, List.setIfInBounds_toArray, List.set_cons_succ, List.set_cons_zero]
      refine tailX_one 1 (by kernel_rfl) rfl (wanted_none rfl) ?_
      intro v3 hS3 hE3 K hK
      go_wp2_with fail
      refine (squares_fe A20 _ 20 _ (by omega) HA20.out).mono ?_
      rintro e u3 ⟨Q, rfl, hQ, hb3⟩
      rw [pw_sq N 1048575 20 1099510579200 (by decide +kernel)] at hQ
      have HQ := Lib.hid hQ
      clear hQ
      refine hK _ _ (hS3.keep hb3) ?_
      have hk3 := hb3
      clear hb3
      clear hK K
      try simp only [put_some, List.setIfInBounds_toArray, List.set_cons_succ, List.set_cons_zero]
      refine tailX_one 3 (by kernel_rfl) rfl (wanted_none rfl) ?_
      intro v4 hS4 hE4 K hK
      go_wp2_with fail
      refine (emul_fe Q A20 _ _ _ HQ.out HA20.out).mono ?_
      rintro e u4 ⟨A40, rfl, hA40, hb5⟩
      rw [pw_mul N 1099510579200 1048575 1099511627775 (by decide +kernel)] at hA40
      have sA40 := hA40.size
      have oA40 := Lib.hid hA40.one
      have HA40 := Lib.hid hA40
      clear hA40
      refine hK _ _ (hS4.keep hb5) ?_
      have hk4 := hb5
      clear hb5
      clear hK K
      try simp only [put_some, List.setIfInBounds_toArray, List.set_cons_succ, List.set_cons_zero]
      refine tailX_one 5 (by kernel_rfl) rfl (wanted_none rfl) ?_
      intro v5 hS5 hE5 K hK
      have hg7 := (hE5 _ _ (block_stay hk4 (hE4 _ _ (block_stay hk3 (hE3 _ _ (heap_alloc_new v2 _))))))
      refine wp_store_row 44 _ _ rfl v2.heap.size A40 rfl rfl 44 _ hg7 (by rw [sA40]; exact infoFe) (by rw [sA40]; rfl) oA40.out ?_
      refine hK _ _ (hal.storeNew hS5 _) (tailX_nil ?_)
      intro v9 hS9 hE9
      exact ⟨A40, Q, v2.heap.size, rfl, HA40.out, fun p hp => hal.lt hp, hS9.add (hE9 _ _ (setRow_here hg7 A40))⟩
  rintro b w9 ⟨A40, Q, gA40, rfl, hA40, lA40, hst⟩
  have sA40 := hA40.size
  have HA40 := Lib.hid hA40
  have LA40 := Lib.hid lA40
  clear hA40 lA40
  simp only [put_some, List.setIfInBounds_toArray, List.set_cons_succ, List.set_cons_zero]
  go_wp2_with fail
  -- region 8: A50
  refine wp_region_then (fun a b w' => ∃ (A50 Q : Array Value) (gA50 : Nat), b = (((((a.put (some 38) (.agg A40)).put (some 40) (.agg A10)).put (some 39) (.agg Q)).put (some 41) (.agg A50)).put (some 10) (.pointer (some ⟨gA50, 0, none⟩))) ∧ FeA A50 (pw N 1125899906842623) ∧ (∀ p ∈ [(gA40, A40), (gA20, A20), (gA10, A10), (gA5, A5), ((w.heap.size + 1 + 1), A11), (gA9, A9), (gA2, A2), (w.heap.size + 1, zero5), (w.heap.size, X)], p.1 < gA50) ∧ St w [(gA50, A50), (gA40, A40), (gA20, A20), (gA10, A10), (gA5, A5), ((w.heap.size + 1 + 1), A11), (gA9, A9), (gA2, A2), (w.heap.size + 1, zero5), (w.heap.size, X)] w') ?_ ?_
  · refine wp_region_free [0, 2] [1, 3, 4, 5] (St w [(gA40, A40), (gA20, A20), (gA10, A10), (gA5, A5), ((w.heap.size + 1 + 1), A11), (gA9, A9), (gA2, A2), (w.heap.size + 1, zero5), (w.heap.size, X)]) (by kernel_rfl) (by kernel_rfl) (fun _ _ _ _ _ h => h.elim) hst.drew ?_
    apply sureX_cons (wanted_none rfl)
    · intro w2 hS K hK
      exact wp_load_row 44 _ rfl gA40 rfl _ A40 _ _ (hS.at_ (by simp)) Try.underlying44 rfl (by rw [sA40]; exact infoFe) (hK _ hS (Ext.refl _))
    · kernel_rfl
    · kernel_rfl
    simp only [put_some, List.setIfInBounds_toArray, List.set_cons_succ, List.set_cons_zero]
    apply sureX_cons (wanted_none rfl)
    · intro w2 hS K hK
      exact wp_load_row 44 _ rfl gA10 rfl _ A10 _ _ (hS.at_ (by simp)) Try.underlying44 rfl (by rw [sA10]; exact infoFe) (hK _ hS (Ext.refl _))
    · kernel_rfl
    · kernel_rfl
    simp only [put_some, List.setIfInBounds_toArray, List.set_cons_succ, List.set_cons_zero]
    refine tailX_two 1 4 (by kernel_rfl) rfl rfl (wanted_none rfl) (wanted_none rfl) ?_ ?_
    · intro v2 hS2 hE2 K hK
      go_wp2_with fail
      refine (squares_fe A40 _ 10 _ (by omega) HA40.out).mono ?_
      rintro e u2 ⟨Q, rfl, hQ, hb3⟩
      rw [pw_sq N 1099511627775 10 1125899906841600 (by decide +kernel)] at hQ
      have HQ := Lib.hid hQ
      clear hQ
      refine hK _ _ (hS2.keep hb3) ?_
      have hk2 := hb3
      clear hb3
      clear hK K
      try simp only [put_some, List.setIfInBounds_toArray, List.set_cons_succ, List.set_cons_zero]
      refine tailX_two 3 4 (by kernel_rfl) rfl rfl (wanted_none rfl) (wanted_none rfl) ?_ ?_
      · intro v3 hS3 hE3 K hK
        go_wp2_with fail
        refine (emul_fe Q A10 _ _ _ HQ.out HA10.out).mono ?_
        rintro e u3 ⟨A50, rfl, hA50, hb5⟩
        rw [pw_mul N 1125899906841600 1023 1125899906842623 (by decide +kernel)] at hA50
        have sA50 := hA50.size
        have oA50 := Lib.hid hA50.one
        have HA50 := Lib.hid hA50
        clear hA50
        refine hK _ _ (hS3.keep hb5) ?_
        have hk3 := hb5
        clear hb5
        clear hK K
        try simp only [put_some, List.setIfInBounds_toArray, List.set_cons_succ, List.set_cons_zero]
        refine tailX_one 4 (by kernel_rfl) rfl (wanted_none rfl) ?_
        intro v4 hS4 hE4 K hK
        go_wp2_with fail
        refine hK _ _ (hS4.alloc _) ?_
        have hal := hS4
        clear hK K
        try simp only [put_some, List.setIfInBounds_toArray, List.set_cons_succ, List.set_cons_zero]
        refine tailX_one 5 (by kernel_rfl) rfl (wanted_none rfl) ?_
        intro v5 hS5 hE5 K hK
        have hg7 := (hE5 _ _ (heap_alloc_new v4 _))
        refine wp_store_row 44 _ _ rfl v4.heap.size A50 rfl rfl 44 _ hg7 (by rw [sA50]; exact infoFe) (by rw [sA50]; rfl) oA50.out ?_
        refine hK _ _ (hal.storeNew hS5 _) (tailX_nil ?_)
        intro v9 hS9 hE9
        exact ⟨A50, Q, v4.heap.size, rfl, HA50.out, fun p hp => hal.lt hp, hS9.add (hE9 _ _ (setRow_here hg7 A50))⟩
      · intro v3 hS3 hE3 K hK
        go_wp2_with fail
        refine hK _ _ (hS3.alloc _) ?_
        have hal := hS3
        clear hK K
        try simp only [put_some, List.setIfInBounds_toArray, List.set_cons_succ, List.set_cons_zero]
        refine tailX_one 3 (by kernel_rfl) rfl (wanted_none rfl) ?_
        intro v4 hS4 hE4 K hK
        go_wp2_with fail
        refine (emul_fe Q A10 _ _ _ HQ.out HA10.out).mono ?_
        rintro e u4 ⟨A50, rfl, hA50, hb5⟩
        rw [pw_mul N 1125899906841600 1023 1125899906842623 (by decide +kernel)] at hA50
        have sA50 := hA50.size
        have oA50 := Lib.hid hA50.one
        have HA50 := Lib.hid hA50
        clear hA50
        refine hK _ _ (hS4.keep hb5) ?_
        have hk4 := hb5
        clear hb5
        clear hK K
        try simp only [put_some, List.setIfInBounds_toArray, List.set_cons_succ, List.set_cons_zero]
        refine tailX_one 5 (by kernel_rfl) rfl (wanted_none rfl) ?_
        intro v5 hS5 hE5 K hK
        have hg7 := (hE5 _ _ (block_stay hk4 (hE4 _ _ (heap_alloc_new v3 _))))
        refine wp_store_row 44 _ _ rfl v3.heap.size A50 rfl rfl 44 _ hg7 (by rw [sA50]; exact infoFe) (by rw [sA50]; rfl) oA50.out ?_
        refine hK _ _ (hal.storeNew hS5 _) (tailX_nil ?_)
        intro v9 hS9 hE9
        exact ⟨A50, Q, v3.heap.size, rfl, HA50.out, fun p hp => hal.lt hp, hS9.add (hE9 _ _ (setRow_here hg7 A50))⟩
    · intro v2 hS2 hE2 K hK
      go_wp2_with fail
      refine hK _ _ (hS2.alloc _) ?_
      have hal := hS2
      clear hK K
      try simp only [put_some, List.setIfInBounds_toArray, List.set_cons_succ, List.set_cons_zero]
      refine tailX_one 1 (by kernel_rfl) rfl (wanted_none rfl) ?_
      intro v3 hS3 hE3 K hK
      go_wp2_with fail
      refine (squares_fe A40 _ 10 _ (by omega) HA40.out).mono ?_
      rintro e u3 ⟨Q, rfl, hQ, hb3⟩
      rw [pw_sq N 1099511627775 10 1125899906841600 (by decide +kernel)] at hQ
      have HQ := Lib.hid hQ
      clear hQ
      refine hK _ _ (hS3.keep hb3) ?_
      have hk3 := hb3
      clear hb3
      clear hK K
      try simp only [put_some, List.setIfInBounds_toArray, List.set_cons_succ, List.set_cons_zero]
      refine tailX_one 3 (by kernel_rfl) rfl (wanted_none rfl) ?_
      intro v4 hS4 hE4 K hK
      go_wp2_with fail
      refine (emul_fe Q A10 _ _ _ HQ.out HA10.out).mono ?_
      rintro e u4 ⟨A50, rfl, hA50, hb5⟩
      rw [pw_mul N 1125899906841600 1023 1125899906842623 (by decide +kernel)] at hA50
      have sA50 := hA50.size
      have oA50 := Lib.hid hA50.one
      have HA50 := Lib.hid hA50
      clear hA50
      refine hK _ _ (hS4.keep hb5) ?_
      have hk4 := hb5
      clear hb5
      clear hK K
      try simp only [put_some, List.setIfInBounds_toArray, List.set_cons_succ, List.set_cons_zero]
      refine tailX_one 5 (by kernel_rfl) rfl (wanted_none rfl) ?_
      intro v5 hS5 hE5 K hK
      have hg7 := (hE5 _ _ (block_stay hk4 (hE4 _ _ (block_stay hk3 (hE3 _ _ (heap_alloc_new v2 _))))))
      refine wp_store_row 44 _ _ rfl v2.heap.size A50 rfl rfl 44 _ hg7 (by rw [sA50]; exact infoFe) (by rw [sA50]; rfl) oA50.out ?_
      refine hK _ _ (hal.storeNew hS5 _) (tailX_nil ?_)
      intro v9 hS9 hE9
      exact ⟨A50, Q, v2.heap.size, rfl, HA50.out, fun p hp => hal.lt hp, hS9.add (hE9 _ _ (setRow_here hg7 A50))⟩
  rintro b w9 ⟨A50, Q, gA50, rfl, hA50, lA50, hst⟩
  have sA50 := hA50.size
  have HA50 := Lib.hid hA50
  have LA50 := Lib.hid lA50
  clear hA50 lA50
  simp only [put_some, List.setIfInBounds_toArray, List.set_cons_succ, List.set_cons_zero]
  go_wp2_with fail
  -- region 9: A100
  refine wp_region_then (fun a b w' => ∃ (A100 Q : Array Value) (gA100 : Nat), b = (((((a.put (some 42) (.agg A50)).put (some 44) (.agg A50)).put (some 43) (.agg Q)).put (some 45) (.agg A100)).put (some 11) (.pointer (some ⟨gA100, 0, none⟩))) ∧ FeA A100 (pw N 1267650600228229401496703205375) ∧ (∀ p ∈ [(gA50, A50), (gA40, A40), (gA20, A20), (gA10, A10), (gA5, A5), ((w.heap.size + 1 + 1), A11), (gA9, A9), (gA2, A2), (w.heap.size + 1, zero5), (w.heap.size, X)], p.1 < gA100) ∧ St w [(gA100, A100), (gA50, A50), (gA40, A40), (gA20, A20), (gA10, A10), (gA5, A5), ((w.heap.size + 1 + 1), A11), (gA9, A9), (gA2, A2), (w.heap.size + 1, zero5), (w.heap.size, X)] w') ?_ ?_
  · refine wp_region_free [0, 2] [1, 3, 4, 5] (St w [(gA50, A50), (gA40, A40), (gA20, A20), (gA10, A10), (gA5, A5), ((w.heap.size + 1 + 1), A11), (gA9, A9), (gA2, A2), (w.heap.size + 1, zero5), (w.heap.size, X)]) (by kernel_rfl) (by kernel_rfl) (fun _ _ _ _ _ h => h.elim) hst.drew ?_
    apply sureX_cons (wanted_none rfl)
    · intro w2 hS K hK
      exact wp_load_row 44 _ rfl gA50 rfl _ A50 _ _ (hS.at_ (by simp)) Try.underlying44 rfl (by rw [sA50]; exact infoFe) (hK _ hS (Ext.refl _))
    · kernel_rfl
    · kernel_rfl
    simp only [put_some, List.setIfInBounds_toArray, List.set_cons_succ, List.set_cons_zero]
    apply sureX_cons (wanted_none rfl)
    · intro w2 hS K hK
      exact wp_load_row 44 _ rfl gA50 rfl _ A50 _ _ (hS.at_ (by simp)) Try.underlying44 rfl (by rw [sA50]; exact infoFe) (hK _ hS (Ext.refl _))
    · kernel_rfl
    · kernel_rfl
    simp only [put_some, List.setIfInBounds_toArray, List.set_cons_succ, List.set_cons_zero]
    refine tailX_two 1 4 (by kernel_rfl) rfl rfl (wanted_none rfl) (wanted_none rfl) ?_ ?_
    · intro v2 hS2 hE2 K hK
      go_wp2_with fail
      refine (squares_fe A50 _ 50 _ (by omega) HA50.out).mono ?_
      rintro e u2 ⟨Q, rfl, hQ, hb3⟩
      rw [pw_sq N 1125899906842623 50 1267650600228228275596796362752 (by decide +kernel)] at hQ
      have HQ := Lib.hid hQ
      clear hQ
      refine hK _ _ (hS2.keep hb3) ?_
      have hk2 := hb3
      clear hb3
      clear hK K
      try simp only [put_some, List.setIfInBounds_toArray, List.set_cons_succ, List.set_cons_zero]
      refine tailX_two 3 4 (by kernel_rfl) rfl rfl (wanted_none rfl) (wanted_none rfl) ?_ ?_
      · intro v3 hS3 hE3 K hK
        go_wp2_with fail
        refine (emul_fe Q A50 _ _ _ HQ.out HA50.out).mono ?_
        rintro e u3 ⟨A100, rfl, hA100, hb5⟩
        rw [pw_mul N 1267650600228228275596796362752 1125899906842623 1267650600228229401496703205375 (by decide +kernel)] at hA100
        have sA100 := hA100.size
        have oA100 := Lib.hid hA100.one
        have HA100 := Lib.hid hA100
        clear hA100
        refine hK _ _ (hS3.keep hb5) ?_
        have hk3 := hb5
        clear hb5
        clear hK K
        try simp only [put_some, List.setIfInBounds_toArray, List.set_cons_succ, List.set_cons_zero]
        refine tailX_one 4 (by kernel_rfl) rfl (wanted_none rfl) ?_
        intro v4 hS4 hE4 K hK
        go_wp2_with fail
        refine hK _ _ (hS4.alloc _) ?_
        have hal := hS4
        clear hK K
        try simp only [put_some, List.setIfInBounds_toArray, List.set_cons_succ, List.set_cons_zero]
        refine tailX_one 5 (by kernel_rfl) rfl (wanted_none rfl) ?_
        intro v5 hS5 hE5 K hK
        have hg7 := (hE5 _ _ (heap_alloc_new v4 _))
        refine wp_store_row 44 _ _ rfl v4.heap.size A100 rfl rfl 44 _ hg7 (by rw [sA100]; exact infoFe) (by rw [sA100]; rfl) oA100.out ?_
        refine hK _ _ (hal.storeNew hS5 _) (tailX_nil ?_)
        intro v9 hS9 hE9
        exact ⟨A100, Q, v4.heap.size, rfl, HA100.out, fun p hp => hal.lt hp, hS9.add (hE9 _ _ (setRow_here hg7 A100))⟩
      · intro v3 hS3 hE3 K hK
        go_wp2_with fail
        refine hK _ _ (hS3.alloc _) ?_
        have hal := hS3
        clear hK K
        try simp only [put_some, List.setIfInBounds_toArray, List.set_cons_succ, List.set_cons_zero]
        refine tailX_one 3 (by kernel_rfl) rfl (wanted_none rfl) ?_
        intro v4 hS4 hE4 K hK
        go_wp2_with fail
        refine (emul_fe Q A50 _ _ _ HQ.out HA50.out).mono ?_
        rintro e u4 ⟨A100, rfl, hA100, hb5⟩
        rw [pw_mul N 1267650600228228275596796362752 1125899906842623 1267650600228229401496703205375 (by decide +kernel)] at hA100
        have sA100 := hA100.size
        have oA100 := Lib.hid hA100.one
        have HA100 := Lib.hid hA100
        clear hA100
        refine hK _ _ (hS4.keep hb5) ?_
        have hk4 := hb5
        clear hb5
        clear hK K
        try simp only [put_some, List.setIfInBounds_toArray, List.set_cons_succ, List.set_cons_zero]
        refine tailX_one 5 (by kernel_rfl) rfl (wanted_none rfl) ?_
        intro v5 hS5 hE5 K hK
        have hg7 := (hE5 _ _ (block_stay hk4 (hE4 _ _ (heap_alloc_new v3 _))))
        refine wp_store_row 44 _ _ rfl v3.heap.size A100 rfl rfl 44 _ hg7 (by rw [sA100]; exact infoFe) (by rw [sA100]; rfl) oA100.out ?_
        refine hK _ _ (hal.storeNew hS5 _) (tailX_nil ?_)
        intro v9 hS9 hE9
        exact ⟨A100, Q, v3.heap.size, rfl, HA100.out, fun p hp => hal.lt hp, hS9.add (hE9 _ _ (setRow_here hg7 A100))⟩
    · intro v2 hS2 hE2 K hK
      go_wp2_with fail
      refine hK _ _ (hS2.alloc _) ?_
      have hal := hS2
      clear hK K
      try simp only [put_some, List.setIfInBounds_toArray, List.set_cons_succ, List.set_cons_zero]
      refine tailX_one 1 (by kernel_rfl) rfl (wanted_none rfl) ?_
      intro v3 hS3 hE3 K hK
      go_wp2_with fail
      refine (squares_fe A50 _ 50 _ (by omega) HA50.out).mono ?_
      rintro e u3 ⟨Q, rfl, hQ, hb3⟩
      rw [pw_sq N 1125899906842623 50 1267650600228228275596796362752 (by decide +kernel)] at hQ
      have HQ := Lib.hid hQ
      clear hQ
      refine hK _ _ (hS3.keep hb3) ?_
      have hk3 := hb3
      clear hb3
      clear hK K
      try simp only [put_some, List.setIfInBounds_toArray, List.set_cons_succ, List.set_cons_zero]
      refine tailX_one 3 (by kernel_rfl) rfl (wanted_none rfl) ?_
      intro v4 hS4 hE4 K hK
      go_wp2_with fail
      refine (emul_fe Q A50 _ _ _ HQ.out HA50.out).mono ?_
      rintro e u4 ⟨A100, rfl, hA100, hb5⟩
      rw [pw_mul N 1267650600228228275596796362752 1125899906842623 1267650600228229401496703205375 (by decide +kernel)] at hA100
      have sA100 := hA100.size
      have oA100 := Lib.hid hA100.one
      have HA100 := Lib.hid hA100
      clear hA100
      refine hK _ _ (hS4.keep hb5) ?_
      have hk4 := hb5
      clear hb5
      clear hK K
      try simp only [put_some, List.setIfInBounds_toArray, List.set_cons_succ, List.set_cons_zero]
      refine tailX_one 5 (by kernel_rfl) rfl (wanted_none rfl) ?_
      intro v5 hS5 hE5 K hK
      have hg7 := (hE5 _ _ (block_stay hk4 (hE4 _ _ (block_stay hk3 (hE3 _ _ (heap_alloc_new v2 _))))))
      refine wp_store_row 44 _ _ rfl v2.heap.size A100 rfl rfl 44 _ hg7 (by rw [sA100]; exact infoFe) (by rw [sA100]; rfl) oA100.out ?_
      refine hK _ _ (hal.storeNew hS5 _) (tailX_nil ?_)
      intro v9 hS9 hE9
      exact ⟨A100, Q, v2.heap.size, rfl, HA100.out, fun p hp => hal.lt hp, hS9.add (hE9 _ _ (setRow_here hg7 A100))⟩
  rintro b w9 ⟨A100, Q, gA100, rfl, hA100, lA100, hst⟩
  have sA100 := hA100.size
  have HA100 := Lib.hid hA100
  have LA100 := Lib.hid lA100
  clear hA100 lA100
  simp only [put_some, List.setIfInBounds_toArray, List.set_cons_succ, List.set_cons_zero]
  go_wp2_with fail
  -- region 10: A200
  refine wp_region_then (fun a b w' => ∃ (A200 Q : Array Value) (gA200 : Nat), b = (((((a.put (some 46) (.agg A100)).put (some 48) (.agg A100)).put (some 47) (.agg Q)).put (some 49) (.agg A200)).put (some 12) (.pointer (some ⟨gA200, 0, none⟩))) ∧ FeA A200 (pw N 1606938044258990275541962092341162602522202993782792835301375) ∧ (∀ p ∈ [(gA100, A100), (gA50, A50), (gA40, A40), (gA20, A20), (gA10, A10), (gA5, A5), ((w.heap.size + 1 + 1), A11), (gA9, A9), (gA2, A2), (w.heap.size + 1, zero5), (w.heap.size, X)], p.1 < gA200) ∧ St w [(gA200, A200), (gA100, A100), (gA50, A50), (gA40, A40), (gA20, A20), (gA10, A10), (gA5, A5), ((w.heap.size + 1 + 1), A11), (gA9, A9), (gA2, A2), (w.heap.size + 1, zero5), (w.heap.size, X)] w') ?_ ?_
  · refine wp_region_free [0, 2] [1, 3, 4, 5] (St w [(gA100, A100), (gA50, A50), (gA40, A40), (gA20, A20), (gA10, A10), (gA5, A5), ((w.heap.size + 1 + 1), A11), (gA9, A9), (gA2, A2), (w.heap.size + 1, zero5), (w.heap.size, X)]) (by kernel_rfl) (by kernel_rfl) (fun _ _ _ _ _ h => h.elim) hst.drew ?_
    apply sureX_cons (wanted_none rfl)
    · intro w2 hS K hK
      exact wp_load_row 44 _ rfl gA100 rfl _ A100 _ _ (hS.at_ (by simp)) Try.underlying44 rfl (by rw [sA100]; exact infoFe) (hK _ hS (Ext.refl _))
    · kernel_rfl
    · kernel_rfl
    simp only [put_some, List.setIfInBounds_toArray, List.set_cons_succ, List.set_cons_zero]
    apply sureX_cons (wanted_none rfl)
    · intro w2 hS K hK
      exact wp_load_row 44 _ rfl gA100 rfl _ A100 _ _ (hS.at_ (by simp)) Try.underlying44 rfl (by rw [sA100]; exact infoFe) (hK _ hS (Ext.refl _))
    · kernel_rfl
    · kernel_rfl
    simp only [put_some, List.setIfInBounds_toArray, List.set_cons_succ, List.set_cons_zero]
    refine tailX_two 1 4 (by kernel_rfl) rfl rfl (wanted_none rfl) (wanted_none rfl) ?_ ?_
    · intro v2 hS2 hE2 K hK
      go_wp2_with fail
      refine (squares_fe A100 _ 100 _ (by omega) HA100.out).mono ?_
      rintro e u2 ⟨Q, rfl, hQ, hb3⟩
      rw [pw_sq N 1267650600228229401496703205375 100 1606938044258990275541962092339894951921974764381296132096000 (by decide +kernel)] at hQ
      have HQ := Lib.hid hQ
      clear hQ
      refine hK _ _ (hS2.keep hb3) ?_
      have hk2 := hb3
      clear hb3
      clear hK K
      try simp only [put_some, List.setIfInBounds_toArray, List.set_cons_succ, List.set_cons_zero]
      refine tailX_two 3 4 (by kernel_rfl) rfl rfl (wanted_none rfl) (wanted_none rfl) ?_ ?_
      · intro v3 hS3 hE3 K hK
        go_wp2_with fail
        refine (emul_fe Q A100 _ _ _ HQ.out HA100.out).mono ?_
        rintro e u3 ⟨A200, rfl, hA200, hb5⟩
        rw [pw_mul N 1606938044258990275541962092339894951921974764381296132096000 1267650600228229401496703205375 1606938044258990275541962092341162602522202993782792835301375 (by decide +kernel)] at hA200
        have sA200 := hA200.size
        have oA200 := Lib.hid hA200.one
        have HA200 := Lib.hid hA200
        clear hA200
        refine hK _ _ (hS3.keep hb5) ?_
        have hk3 := hb5
        clear hb5
        clear hK K
        try simp only [put_some, List.setIfInBounds_toArray, List.set_cons_succ, List.set_cons_zero]
        refine tailX_one 4 (by kernel_rfl) rfl (wanted_none rfl) ?_
        intro v4 hS4 hE4 K hK
        go_wp2_with fail
        refine hK _ _ (hS4.alloc _) ?_
        have hal := hS4
        clear hK K
        try simp only [put_some, List.setIfInBounds_toArray, List.set_cons_succ, List.set_cons_zero]
        refine tailX_one 5 (by kernel_rfl) rfl (wanted_none rfl) ?_
        intro v5 hS5 hE5 K hK
        have hg7 := (hE5 _ _ (heap_alloc_new v4 _))
        refine wp_store_row 44 _ _ rfl v4.heap.size A200 rfl rfl 44 _ hg7 (by rw [sA200]; exact infoFe) (by rw [sA200]; rfl) oA200.out ?_
        refine hK _ _ (hal.storeNew hS5 _) (tailX_nil ?_)
        intro v9 hS9 hE9
        exact ⟨A200, Q, v4.heap.size, rfl, HA200.out, fun p hp => hal.lt hp, hS9.add (hE9 _ _ (setRow_here hg7 A200))⟩
      · intro v3 hS3 hE3 K hK
        go_wp2_with fail
        refine hK _ _ (hS3.alloc _) ?_
        have hal := hS3
        clear hK K
        try simp only [put_some, List.setIfInBounds_toArray, List.set_cons_succ, List.set_cons_zero]
        refine tailX_one 3 (by kernel_rfl) rfl (wanted_none rfl) ?_
        intro v4 hS4 hE4 K hK
        go_wp2_with fail
        refine (emul_fe Q A100 _ _ _ HQ.out HA100.out).mono ?_
        rintro e u4 ⟨A200, rfl, hA200, hb5⟩
        rw [pw_mul N 1606938044258990275541962092339894951921974764381296132096000 1267650600228229401496703205375 1606938044258990275541962092341162602522202993782792835301375 (by decide +kernel)] at hA200
        have sA200 := hA200.size
        have oA200 := Lib.hid hA200.one
        have HA200 := Lib.hid hA200
        clear hA200
        refine hK _ _ (hS4.keep hb5) ?_
        have hk4 := hb5
        clear hb5
        clear hK K
        try simp only [put_some, List.setIfInBounds_toArray, List.set_cons_succ, List.set_cons_zero]
        refine tailX_one 5 (by kernel_rfl) rfl (wanted_none rfl) ?_
        intro v5 hS5 hE5 K hK
        have hg7 := (hE5 _ _ (block_stay hk4 (hE4 _ _ (heap_alloc_new v3 _))))
        refine wp_store_row 44 _ _ rfl v3.heap.size A200 rfl rfl 44 _ hg7 (by rw [sA200]; exact infoFe) (by rw [sA200]; rfl) oA200.out ?_
        refine hK _ _ (hal.storeNew hS5 _) (tailX_nil ?_)
        intro v9 hS9 hE9
        exact ⟨A200, Q, v3.heap.size, rfl, HA200.out, fun p hp => hal.lt hp, hS9.add (hE9 _ _ (setRow_here hg7 A200))⟩
    · intro v2 hS2 hE2 K hK
      go_wp2_with fail
      refine hK _ _ (hS2.alloc _) ?_
      have hal := hS2
      clear hK K
      try simp only [put_some, List.setIfInBounds_toArray, List.set_cons_succ, List.set_cons_zero]
      refine tailX_one 1 (by kernel_rfl) rfl (wanted_none rfl) ?_
      intro v3 hS3 hE3 K hK
      go_wp2_with fail
      refine (squares_fe A100 _ 100 _ (by omega) HA100.out).mono ?_
      rintro e u3 ⟨Q, rfl, hQ, hb3⟩
      rw [pw_sq N 1267650600228229401496703205375 100 1606938044258990275541962092339894951921974764381296132096000 (by decide +kernel)] at hQ
      have HQ := Lib.hid hQ
      clear hQ
      refine hK _ _ (hS3.keep hb3) ?_
      have hk3 := hb3
      clear hb3
      clear hK K
      try simp only [put_some, List.setIfInBounds_toArray, List.set_cons_succ, List.set_cons_zero]
      refine tailX_one 3 (by kernel_rfl) rfl (wanted_none rfl) ?_
      intro v4 hS4 hE4 K hK
      go_wp2_with fail
      refine (emul_fe Q A100 _ _ _ HQ.out HA100.out).mono ?_
      rintro e u4 ⟨A200, rfl, hA200, hb5⟩
      rw [pw_mul N 1606938044258990275541962092339894951921974764381296132096000 1267650600228229401496703205375 1606938044258990275541962092341162602522202993782792835301375 (by decide +kernel)] at hA200
      have sA200 := hA200.size
      have oA200 := Lib.hid hA200.one
      have HA200 := Lib.hid hA200
      clear hA200
      refine hK _ _ (hS4.keep hb5) ?_
      have hk4 := hb5
      clear hb5
      clear hK K
      try simp only [put_some, List.setIfInBounds_toArray, List.set_cons_succ, List.set_cons_zero]
      refine tailX_one 5 (by kernel_rfl) rfl (wanted_none rfl) ?_
      intro v5 hS5 hE5 K hK
      have hg7 := (hE5 _ _ (block_stay hk4 (hE4 _ _ (block_stay hk3 (hE3 _ _ (heap_alloc_new v2 _))))))
      refine wp_store_row 44 _ _ rfl v2.heap.size A200 rfl rfl 44 _ hg7 (by rw [sA200]; exact infoFe) (by rw [sA200]; rfl) oA200.out ?_
      refine hK _ _ (hal.storeNew hS5 _) (tailX_nil ?_)
      intro v9 hS9 hE9
      exact ⟨A200, Q, v2.heap.size, rfl, HA200.out, fun p hp => hal.lt hp, hS9.add (hE9 _ _ (setRow_here hg7 A200))⟩
  rintro b w9 ⟨A200, Q, gA200, rfl, hA200, lA200, hst⟩
  have sA200 := hA200.size
  have HA200 := Lib.hid hA200
  have LA200 := Lib.hid lA200
  clear hA200 lA200
  simp only [put_some, List.setIfInBounds_toArray, List.set_cons_succ, List.set_cons_zero]
  go_wp2_with fail
  -- region 11
  have cz := hst.at_ (g := w.heap.size + 1) (cs := zero5) (by simp)
  have hst1 := hst.sub (bm := [(gA200, A200), (gA100, A100), (gA50, A50), (gA40, A40), (gA20, A20), (gA10, A10), (gA5, A5), ((w.heap.size + 1 + 1), A11), (gA9, A9), (gA2, A2), (w.heap.size, X)]) (by simp)
  have hne : ∀ p ∈ [(gA200, A200), (gA100, A100), (gA50, A50), (gA40, A40), (gA20, A20), (gA10, A10), (gA5, A5), ((w.heap.size + 1 + 1), A11), (gA9, A9), (gA2, A2), (w.heap.size, X)], p.1 ≠ w.heap.size + 1 := by
    have hA2 := LA2.out (w.heap.size + 1, zero5) (by simp)
    have hA9 := LA9.out (w.heap.size + 1, zero5) (by simp)
    have hA5 := LA5.out (w.heap.size + 1, zero5) (by simp)
    have hA10 := LA10.out (w.heap.size + 1, zero5) (by simp)
    have hA20 := LA20.out (w.heap.size + 1, zero5) (by simp)
    have hA40 := LA40.out (w.heap.size + 1, zero5) (by simp)
    have hA50 := LA50.out (w.heap.size + 1, zero5) (by simp)
    have hA100 := LA100.out (w.heap.size + 1, zero5) (by simp)
    have hA200 := LA200.out (w.heap.size + 1, zero5) (by simp)
    simp
    omega
  have HNE := Lib.hid hne
  clear hne
  refine wp_region_then (fun a b w' => ∃ AR Q : Array Value, b = (((((a.put (some 50) (.agg A200)).put (some 52) (.agg A50)).put (some 54) (.agg A11)).put (some 51) (.agg Q)).put (some 53) (.agg AR)) ∧ FeA AR (pw N 1809251394333065553493296640760748560207343510400633813116524750123642650623) ∧ St w [(w.heap.size + 1, AR), (gA200, A200), (gA100, A100), (gA50, A50), (gA40, A40), (gA20, A20), (gA10, A10), (gA5, A5), ((w.heap.size + 1 + 1), A11), (gA9, A9), (gA2, A2), (w.heap.size, X)] w') ?_ ?_
  · refine wp_region_free [0, 2, 4] [1, 3, 5, 6] (St w [(gA200, A200), (gA100, A100), (gA50, A50), (gA40, A40), (gA20, A20), (gA10, A10), (gA5, A5), ((w.heap.size + 1 + 1), A11), (gA9, A9), (gA2, A2), (w.heap.size, X)]) (by kernel_rfl) (by kernel_rfl) (fun _ _ _ _ _ h => h.elim) hst1.drew ?_
    apply sureX_cons (wanted_none rfl)
    · intro w2 hS K hK
      exact wp_load_row 44 _ rfl gA200 rfl _ A200 _ _ (hS.at_ (by simp)) Try.underlying44 rfl (by rw [sA200]; exact infoFe) (hK _ hS (Ext.refl _))
    · kernel_rfl
    · kernel_rfl
    simp only [put_some, List.setIfInBounds_toArray, List.set_cons_succ, List.set_cons_zero]
    apply sureX_cons (wanted_none rfl)
    · intro w2 hS K hK
      exact wp_load_row 44 _ rfl gA50 rfl _ A50 _ _ (hS.at_ (by simp)) Try.underlying44 rfl (by rw [sA50]; exact infoFe) (hK _ hS (Ext.refl _))
    · kernel_rfl
    · kernel_rfl
    simp only [put_some, List.setIfInBounds_toArray, List.set_cons_succ, List.set_cons_zero]
    apply sureX_cons (wanted_none rfl)
    · intro w2 hS K hK
      exact wp_load_row 44 _ rfl (w.heap.size + 1 + 1) rfl _ A11 _ _ (hS.at_ (by simp)) Try.underlying44 rfl (by rw [sA11]; exact infoFe) (hK _ hS (Ext.refl _))
    · kernel_rfl
    · kernel_rfl
    simp only [put_some, List.setIfInBounds_toArray, List.set_cons_succ, List.set_cons_zero]
    refine tailX_one 1 (by kernel_rfl) rfl (wanted_none rfl) ?_
    intro v2 hS2 hE2 K hK
    go_wp2_with fail
    refine (squares_fe A200 _ 50 _ (by omega) HA200.out).mono ?_
    rintro e u2 ⟨Q, rfl, hQ, hk2⟩
    rw [pw_sq N 1606938044258990275541962092341162602522202993782792835301375 50 1809251394333065553493296640760748560207343510400633813116523624223735808000 (by decide +kernel)] at hQ
    have HQ := Lib.hid hQ
    clear hQ
    refine hK _ _ (hS2.keep hk2) ?_
    clear hK K
    try simp only [put_some, List.setIfInBounds_toArray, List.set_cons_succ, List.set_cons_zero]
    refine tailX_one 3 (by kernel_rfl) rfl (wanted_none rfl) ?_
    intro v3 hS3 hE3 K hK
    go_wp2_with fail
    refine (emul_fe Q A50 _ _ _ HQ.out HA50.out).mono ?_
    rintro e u3 ⟨AR, rfl, hAR, hk3⟩
    rw [pw_mul N 1809251394333065553493296640760748560207343510400633813116523624223735808000 1125899906842623 1809251394333065553493296640760748560207343510400633813116524750123642650623 (by decide +kernel)] at hAR
    have sAR := hAR.size
    refine hK _ _ (hS3.keep hk3) ?_
    clear hK K
    try simp only [put_some, List.setIfInBounds_toArray, List.set_cons_succ, List.set_cons_zero]
    refine tailX_one 5 (by kernel_rfl) rfl (wanted_none rfl) ?_
    intro v5 hS5 hE5 K hK
    have hg5 := hE5 _ _ (block_stay hk3 (hE3 _ _ (block_stay hk2 (hE2 _ _ cz))))
    refine wp_store_row 44 _ _ rfl (w.heap.size + 1) AR rfl rfl 44 _ hg5 (by rw [sAR]; exact infoFe) (by rw [sAR]; rfl) hAR.one ?_
    refine hK _ _ (hS5.store (by omega) HNE.out _) ?_
    clear hK K
    try simp only [put_some, List.setIfInBounds_toArray, List.set_cons_succ, List.set_cons_zero]
    refine tailX_one 6 (by kernel_rfl) rfl (wanted_none rfl) ?_
    intro v6 hS6 hE6 K hK
    have hg6 := hE6 _ _ (setRow_here hg5 AR)
    have hb6 := hS6.at_ (g := w.heap.size + 1 + 1) (cs := A11) (by simp)
    refine wp_store_row 44 _ _ rfl (w.heap.size + 1 + 1) A11 rfl rfl 44 _ hb6 (by rw [sA11]; exact infoFe) rfl HA11.out.one ?_
    refine hK _ _ (hS6.storeSame (by omega) (by simp)) (tailX_nil ?_)
    intro v9 hS9 hE9
    exact ⟨AR, Q, rfl, hAR, hS9.add (hE9 _ _ ((setRow_other v6 (w.heap.size + 1 + 1) (w.heap.size + 1) A11 (by omega)).trans hg6))⟩
  rintro b w9 ⟨AR, Q, rfl, hAR, hst⟩
  have sAR := hAR.size
  have HAR := Lib.hid hAR
  clear hAR cz hst1
  simp only [put_some, List.setIfInBounds_toArray, List.set_cons_succ, List.set_cons_zero]
  go_wp2_with fail
  refine ret_cell2 rfl (w.heap.size + 1) (w.heap.size + 1 + 1) _ _ AR A11 _ _ _ _ rfl rfl (hst.at_ (by simp)) (hst.at_ (by simp)) Try.underlying44 rfl (by rw [sAR]; exact infoFe) Try.underlying44 rfl (by rw [sA11]; exact infoFe) rfl ?_
  exact ⟨AR, A11, rfl, HAR.out, HA11.out, hst.2⟩
end Go.Proofs.Ytenppmciabdefaa
