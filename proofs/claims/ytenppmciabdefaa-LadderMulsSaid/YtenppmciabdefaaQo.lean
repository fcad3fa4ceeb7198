/- The walk of synodref05.step. No condition. -/
import Derived.Test.YtenppmciabdefaaQn
import Derived.Test.YtenppmciabdefaaQg
namespace Go.Proofs.Ytenppmciabdefaa
open Go Go.RowKit
theorem Kq.new {w w1 : World} {bl : List (Nat × Obj)} (h : Kq w bl w1) {n : Nat} (hn : w1.heap.size = n) (ob : Obj) : Kq w ((n, ob) :: bl) (w1.alloc ob) := by
  subst hn
  exact (h.alloc ob).add (heap_alloc_new w1 ob)
set_option maxRecDepth 100000 in
set_option maxHeartbeats 40000000 in
theorem mstep_num (U X1 Z1 X2 Z2 : List Int) (NU NX1 NZ1 NX2 NZ2 : Int) (w : World) (hU : NumP U NU) (hX1 : NumP X1 NX1) (hZ1 : NumP Z1 NZ1) (hX2 : NumP X2 NX2) (hZ2 : NumP Z2 NZ2) :
    Calls Try.prog 84 #[numV U, .agg (pc X1 Z1), .agg (pc X2 Z2)] w fun e w' => ∃ C D F H6, e = .returned (.tuple #[.agg (pc C D), .agg (pc F H6)]) ∧ NumP C (((NX1 + NZ1) * (NX1 + NZ1)) * ((NX1 - NZ1) * (NX1 - NZ1))) ∧ NumP D (((NX1 + NZ1) * (NX1 + NZ1) - (NX1 - NZ1) * (NX1 - NZ1)) * ((NX1 + NZ1) * (NX1 + NZ1) + 121665 * ((NX1 + NZ1) * (NX1 + NZ1) - (NX1 - NZ1) * (NX1 - NZ1)))) ∧ NumP F (((NX2 - NZ2) * (NX1 + NZ1) + (NX2 + NZ2) * (NX1 - NZ1)) * ((NX2 - NZ2) * (NX1 + NZ1) + (NX2 + NZ2) * (NX1 - NZ1))) ∧ NumP H6 (NU * (((NX2 - NZ2) * (NX1 + NZ1) - (NX2 + NZ2) * (NX1 - NZ1)) * ((NX2 - NZ2) * (NX1 + NZ1) - (NX2 + NZ2) * (NX1 - NZ1)))) ∧ Below w.heap.size w w' := by
  have en : ∀ L, numV L = .agg (arrI L) := fun _ => rfl
  rw [en]
  have sU : (arrI U).size = 16 := by rw [arrI_size, hU.1]
  have lU : (arrI U).toList.length = 16 := by rw [Array.length_toList, sU]
  have HU := Lib.hid hU
  have sX1 : (arrI X1).size = 16 := by rw [arrI_size, hX1.1]
  have lX1 : (arrI X1).toList.length = 16 := by rw [Array.length_toList, sX1]
  have HX1 := Lib.hid hX1
  have sZ1 : (arrI Z1).size = 16 := by rw [arrI_size, hZ1.1]
  have lZ1 : (arrI Z1).toList.length = 16 := by rw [Array.length_toList, sZ1]
  have HZ1 := Lib.hid hZ1
  have sX2 : (arrI X2).size = 16 := by rw [arrI_size, hX2.1]
  have lX2 : (arrI X2).toList.length = 16 := by rw [Array.length_toList, sX2]
  have HX2 := Lib.hid hX2
  have sZ2 : (arrI Z2).size = 16 := by rw [arrI_size, hZ2.1]
  have lZ2 : (arrI Z2).toList.length = 16 := by rw [Array.length_toList, sZ2]
  have HZ2 := Lib.hid hZ2
  clear hU hX1 hZ1 hX2 hZ2
  have hst : Kq w [((w.heap.size + 4), .cells #[.int .i64 0, .int .i64 0, .int .i64 0, .int .i64 0, .int .i64 0, .int .i64 0, .int .i64 0, .int .i64 0, .int .i64 0, .int .i64 0, .int .i64 0, .int .i64 0, .int .i64 0, .int .i64 0, .int .i64 0, .int .i64 0, .int .i64 0, .int .i64 0, .int .i64 0, .int .i64 0, .int .i64 0, .int .i64 0, .int .i64 0, .int .i64 0, .int .i64 0, .int .i64 0, .int .i64 0, .int .i64 0, .int .i64 0, .int .i64 0, .int .i64 0, .int .i64 0] 91 (0, 0)), ((w.heap.size + 3), .cells #[.int .i64 0, .int .i64 0, .int .i64 0, .int .i64 0, .int .i64 0, .int .i64 0, .int .i64 0, .int .i64 0, .int .i64 0, .int .i64 0, .int .i64 0, .int .i64 0, .int .i64 0, .int .i64 0, .int .i64 0, .int .i64 0, .int .i64 0, .int .i64 0, .int .i64 0, .int .i64 0, .int .i64 0, .int .i64 0, .int .i64 0, .int .i64 0, .int .i64 0, .int .i64 0, .int .i64 0, .int .i64 0, .int .i64 0, .int .i64 0, .int .i64 0, .int .i64 0] 91 (0, 0)), ((w.heap.size + 2), .cells (pc X2 Z2) 91 (0, 0)), ((w.heap.size + 1), .cells (pc X1 Z1) 91 (0, 0)), (w.heap.size, .cells (arrI U) 52 (0, 0))] (((((w.alloc (.cells (arrI U) 52)).alloc (.cells (pc X1 Z1) 91)).alloc (.cells (pc X2 Z2) 91)).alloc (.cells #[.int .i64 0, .int .i64 0, .int .i64 0, .int .i64 0, .int .i64 0, .int .i64 0, .int .i64 0, .int .i64 0, .int .i64 0, .int .i64 0, .int .i64 0, .int .i64 0, .int .i64 0, .int .i64 0, .int .i64 0, .int .i64 0, .int .i64 0, .int .i64 0, .int .i64 0, .int .i64 0, .int .i64 0, .int .i64 0, .int .i64 0, .int .i64 0, .int .i64 0, .int .i64 0, .int .i64 0, .int .i64 0, .int .i64 0, .int .i64 0, .int .i64 0, .int .i64 0] 91)).alloc (.cells #[.int .i64 0, .int .i64 0, .int .i64 0, .int .i64 0, .int .i64 0, .int .i64 0, .int .i64 0, .int .i64 0, .int .i64 0, .int .i64 0, .int .i64 0, .int .i64 0, .int .i64 0, .int .i64 0, .int .i64 0, .int .i64 0, .int .i64 0, .int .i64 0, .int .i64 0, .int .i64 0, .int .i64 0, .int .i64 0, .int .i64 0, .int .i64 0, .int .i64 0, .int .i64 0, .int .i64 0, .int .i64 0, .int .i64 0, .int .i64 0, .int .i64 0, .int .i64 0] 91)) := by
    have h0 : Kq w [] w := ⟨by simp, Below.refl _ _⟩
    exact ((((h0.new rfl _).new (by rw [size_at]) _).new (by rw [size_at, size_at]) _).new (by rw [size_at, size_at, size_at]) _).new (by rw [size_at, size_at, size_at, size_at]) _
  have cP := hst.at_ (g := (w.heap.size + 1)) (ob := .cells (pc X1 Z1) 91 (0, 0)) (by simp)
  have c0 := pc_fst HX1.out.1 HZ1.out.1 cP
  have c1 := pc_snd HX1.out.1 HZ1.out.1 cP
  clear cP
  go_enter Try.func84, Try.ntmps84
  go_wp2_with (first | (refine wpList_load_mid rfl 52 (.tmp 18) rfl (w.heap.size + 1) 0 rfl (arrI X1).toList _ c0 Try.underlying52 rfl (by rw [lX1]; exact info_num) ?_) | (refine wpList_load_mid rfl 52 (.tmp 20) rfl (w.heap.size + 1) 16 rfl (arrI Z1).toList _ c1 Try.underlying52 rfl (by rw [lZ1]; exact info_num) ?_) | fail)
  generalize (((((w.alloc (.cells (arrI U) 52)).alloc (.cells (pc X1 Z1) 91)).alloc (.cells (pc X2 Z2) 91)).alloc (.cells #[.int .i64 0, .int .i64 0, .int .i64 0, .int .i64 0, .int .i64 0, .int .i64 0, .int .i64 0, .int .i64 0, .int .i64 0, .int .i64 0, .int .i64 0, .int .i64 0, .int .i64 0, .int .i64 0, .int .i64 0, .int .i64 0, .int .i64 0, .int .i64 0, .int .i64 0, .int .i64 0, .int .i64 0, .int .i64 0, .int .i64 0, .int .i64 0, .int .i64 0, .int .i64 0, .int .i64 0, .int .i64 0, .int .i64 0, .int .i64 0, .int .i64 0, .int .i64 0] 91)).alloc (.cells #[.int .i64 0, .int .i64 0, .int .i64 0, .int .i64 0, .int .i64 0, .int .i64 0, .int .i64 0, .int .i64 0, .int .i64 0, .int .i64 0, .int .i64 0, .int .i64 0, .int .i64 0, .int .i64 0, .int .i64 0, .int .i64 0, .int .i64 0, .int .i64 0, .int .i64 0, .int .i64 0, .int .i64 0, .int .i64 0, .int .i64 0, .int .i64 0, .int .i64 0, .int .i64 0, .int .i64 0, .int .i64 0, .int .i64 0, .int .i64 0, .int .i64 0, .int .i64 0] 91)) = W0 at *
  clear c0 c1
  obtain ⟨z32, hz⟩ : ∃ z : Array Value, z = #[.int .i64 0, .int .i64 0, .int .i64 0, .int .i64 0, .int .i64 0, .int .i64 0, .int .i64 0, .int .i64 0, .int .i64 0, .int .i64 0, .int .i64 0, .int .i64 0, .int .i64 0, .int .i64 0, .int .i64 0, .int .i64 0, .int .i64 0, .int .i64 0, .int .i64 0, .int .i64 0, .int .i64 0, .int .i64 0, .int .i64 0, .int .i64 0, .int .i64 0, .int .i64 0, .int .i64 0, .int .i64 0, .int .i64 0, .int .i64 0, .int .i64 0, .int .i64 0] := ⟨_, rfl⟩
  rw [← hz] at hst
  have s32 : z32.size = 32 := by rw [hz]; rfl
  clear hz
  refine (rplus_num X1 Z1 _ _ _ HX1.out HZ1.out).mono ?_
  rintro e w1 ⟨A, rfl, hA, hk⟩
  have hst := hst.keep hk
  have ltA : w.heap.size + 4 < w1.heap.size := hst.lt (p := (w.heap.size + 4, .cells z32 91 (0, 0))) (by simp)
  have sA : (arrI A).size = 16 := by rw [arrI_size, hA.1]
  have HA := Lib.hid hA
  clear hA
  have ha := heap_alloc_new w1 (.cells #[.int .i64 0, .int .i64 0, .int .i64 0, .int .i64 0, .int .i64 0, .int .i64 0, .int .i64 0, .int .i64 0, .int .i64 0, .int .i64 0, .int .i64 0, .int .i64 0, .int .i64 0, .int .i64 0, .int .i64 0, .int .i64 0] 52)
  have hst := (hst.storeNew (hst.alloc (.cells #[.int .i64 0, .int .i64 0, .int .i64 0, .int .i64 0, .int .i64 0, .int .i64 0, .int .i64 0, .int .i64 0, .int .i64 0, .int .i64 0, .int .i64 0, .int .i64 0, .int .i64 0, .int .i64 0, .int .i64 0, .int .i64 0] 52)) (arrI A)).add (setRow_here ha (arrI A))
  have cP := hst.at_ (g := (w.heap.size + 1)) (ob := .cells (pc X1 Z1) 91 (0, 0)) (by simp)
  have c0 := pc_fst HX1.out.1 HZ1.out.1 cP
  have c1 := pc_snd HX1.out.1 HZ1.out.1 cP
  clear cP
  go_wp2_with (first | (refine wpList_store_row rfl 52 (.tmp 8) (.tmp 22) rfl w1.heap.size (arrI A) rfl rfl 52 _ ha (by rw [sA]; exact info_num) (by rw [sA]; rfl) (arrI_one A) ?_) | (refine wpList_load_mid rfl 52 (.tmp 23) rfl (w.heap.size + 1) 0 rfl (arrI X1).toList _ c0 Try.underlying52 rfl (by rw [lX1]; exact info_num) ?_) | (refine wpList_load_mid rfl 52 (.tmp 25) rfl (w.heap.size + 1) 16 rfl (arrI Z1).toList _ c1 Try.underlying52 rfl (by rw [lZ1]; exact info_num) ?_) | fail)
  generalize (w1.alloc (.cells #[.int .i64 0, .int .i64 0, .int .i64 0, .int .i64 0, .int .i64 0, .int .i64 0, .int .i64 0, .int .i64 0, .int .i64 0, .int .i64 0, .int .i64 0, .int .i64 0, .int .i64 0, .int .i64 0, .int .i64 0, .int .i64 0] 52)).setRow w1.heap.size (arrI A) = v1 at *
  generalize w1.heap.size = gA at *
  try ((repeat rw [put_none]); (try simp only [put_some, List.setIfInBounds_toArray, List.set_cons_succ, List.set_cons_zero]))
  clear hk ha
  clear c0 c1
  refine (rminus_num X1 Z1 _ _ _ HX1.out HZ1.out).mono ?_
  rintro e w2 ⟨B, rfl, hB, hk⟩
  have hst := hst.keep hk
  have ltB : w.heap.size + 4 < w2.heap.size := hst.lt (p := (w.heap.size + 4, .cells z32 91 (0, 0))) (by simp)
  have sB : (arrI B).size = 16 := by rw [arrI_size, hB.1]
  have HB := Lib.hid hB
  clear hB
  have ha := heap_alloc_new w2 (.cells #[.int .i64 0, .int .i64 0, .int .i64 0, .int .i64 0, .int .i64 0, .int .i64 0, .int .i64 0, .int .i64 0, .int .i64 0, .int .i64 0, .int .i64 0, .int .i64 0, .int .i64 0, .int .i64 0, .int .i64 0, .int .i64 0] 52)
  have hst := (hst.storeNew (hst.alloc (.cells #[.int .i64 0, .int .i64 0, .int .i64 0, .int .i64 0, .int .i64 0, .int .i64 0, .int .i64 0, .int .i64 0, .int .i64 0, .int .i64 0, .int .i64 0, .int .i64 0, .int .i64 0, .int .i64 0, .int .i64 0, .int .i64 0] 52)) (arrI B)).add (setRow_here ha (arrI B))
  have cA := hst.at_ (g := gA) (ob := .cells (arrI A) 52 (0, 0)) (by simp)
  go_wp2_with (first | (refine wpList_store_row rfl 52 (.tmp 9) (.tmp 27) rfl w2.heap.size (arrI B) rfl rfl 52 _ ha (by rw [sB]; exact info_num) (by rw [sB]; rfl) (arrI_one B) ?_) | (refine wpList_load_row rfl 52 (.tmp 8) rfl gA rfl _ (arrI A) _ _ cA Try.underlying52 rfl (by rw [sA]; exact info_num) ?_) | fail)
  generalize (w2.alloc (.cells #[.int .i64 0, .int .i64 0, .int .i64 0, .int .i64 0, .int .i64 0, .int .i64 0, .int .i64 0, .int .i64 0, .int .i64 0, .int .i64 0, .int .i64 0, .int .i64 0, .int .i64 0, .int .i64 0, .int .i64 0, .int .i64 0] 52)).setRow w2.heap.size (arrI B) = v2 at *
  generalize w2.heap.size = gB at *
  try ((repeat rw [put_none]); (try simp only [put_some, List.setIfInBounds_toArray, List.set_cons_succ, List.set_cons_zero]))
  clear hk ha
  clear cA
  refine (rtimes_num A A _ _ _ HA.out HA.out).mono ?_
  rintro e w3 ⟨AA, rfl, hAA, hk⟩
  have hst := hst.keep hk
  have ltAA : w.heap.size + 4 < w3.heap.size := hst.lt (p := (w.heap.size + 4, .cells z32 91 (0, 0))) (by simp)
  have sAA : (arrI AA).size = 16 := by rw [arrI_size, hAA.1]
  have HAA := Lib.hid hAA
  clear hAA
  have ha := heap_alloc_new w3 (.cells #[.int .i64 0, .int .i64 0, .int .i64 0, .int .i64 0, .int .i64 0, .int .i64 0, .int .i64 0, .int .i64 0, .int .i64 0, .int .i64 0, .int .i64 0, .int .i64 0, .int .i64 0, .int .i64 0, .int .i64 0, .int .i64 0] 52)
  have hst := (hst.storeNew (hst.alloc (.cells #[.int .i64 0, .int .i64 0, .int .i64 0, .int .i64 0, .int .i64 0, .int .i64 0, .int .i64 0, .int .i64 0, .int .i64 0, .int .i64 0, .int .i64 0, .int .i64 0, .int .i64 0, .int .i64 0, .int .i64 0, .int .i64 0] 52)) (arrI AA)).add (setRow_here ha (arrI AA))
  have cB := hst.at_ (g := gB) (ob := .cells (arrI B) 52 (0, 0)) (by simp)
  go_wp2_with (first | (refine wpList_store_row rfl 52 (.tmp 10) (.tmp 30) rfl w3.heap.size (arrI AA) rfl rfl 52 _ ha (by rw [sAA]; exact info_num) (by rw [sAA]; rfl) (arrI_one AA) ?_) | (refine wpList_load_row rfl 52 (.tmp 9) rfl gB rfl _ (arrI B) _ _ cB Try.underlying52 rfl (by rw [sB]; exact info_num) ?_) | fail)
  generalize (w3.alloc (.cells #[.int .i64 0, .int .i64 0, .int .i64 0, .int .i64 0, .int .i64 0, .int .i64 0, .int .i64 0, .int .i64 0, .int .i64 0, .int .i64 0, .int .i64 0, .int .i64 0, .int .i64 0, .int .i64 0, .int .i64 0, .int .i64 0] 52)).setRow w3.heap.size (arrI AA) = v3 at *
  generalize w3.heap.size = gAA at *
  try ((repeat rw [put_none]); (try simp only [put_some, List.setIfInBounds_toArray, List.set_cons_succ, List.set_cons_zero]))
  clear hk ha
  clear cB
  refine (rtimes_num B B _ _ _ HB.out HB.out).mono ?_
  rintro e w4 ⟨BB, rfl, hBB, hk⟩
  have hst := hst.keep hk
  have ltBB : w.heap.size + 4 < w4.heap.size := hst.lt (p := (w.heap.size + 4, .cells z32 91 (0, 0))) (by simp)
  have sBB : (arrI BB).size = 16 := by rw [arrI_size, hBB.1]
  have HBB := Lib.hid hBB
  clear hBB
  have ha := heap_alloc_new w4 (.cells #[.int .i64 0, .int .i64 0, .int .i64 0, .int .i64 0, .int .i64 0, .int .i64 0, .int .i64 0, .int .i64 0, .int .i64 0, .int .i64 0, .int .i64 0, .int .i64 0, .int .i64 0, .int .i64 0, .int .i64 0, .int .i64 0] 52)
  have hst := (hst.storeNew (hst.alloc (.cells #[.int .i64 0, .int .i64 0, .int .i64 0, .int .i64 0, .int .i64 0, .int .i64 0, .int .i64 0, .int .i64 0, .int .i64 0, .int .i64 0, .int .i64 0, .int .i64 0, .int .i64 0, .int .i64 0, .int .i64 0, .int .i64 0] 52)) (arrI BB)).add (setRow_here ha (arrI BB))
  have cAA := hst.at_ (g := gAA) (ob := .cells (arrI AA) 52 (0, 0)) (by simp)
  have cBB := hst.at_ (g := w4.heap.size) (ob := .cells (arrI BB) 52 (0, 0)) (by simp)
  go_wp2_with (first | (refine wpList_store_row rfl 52 (.tmp 11) (.tmp 33) rfl w4.heap.size (arrI BB) rfl rfl 52 _ ha (by rw [sBB]; exact info_num) (by rw [sBB]; rfl) (arrI_one BB) ?_) | (refine wpList_load_row rfl 52 (.tmp 10) rfl gAA rfl _ (arrI AA) _ _ cAA Try.underlying52 rfl (by rw [sAA]; exact info_num) ?_) | (refine wpList_load_row rfl 52 (.tmp 11) rfl w4.heap.size rfl _ (arrI BB) _ _ cBB Try.underlying52 rfl (by rw [sBB]; exact info_num) ?_) | fail)
  generalize (w4.alloc (.cells #[.int .i64 0, .int .i64 0, .int .i64 0, .int .i64 0, .int .i64 0, .int .i64 0, .int .i64 0, .int .i64 0, .int .i64 0, .int .i64 0, .int .i64 0, .int .i64 0, .int .i64 0, .int .i64 0, .int .i64 0, .int .i64 0] 52)).setRow w4.heap.size (arrI BB) = v4 at *
  generalize w4.heap.size = gBB at *
  try ((repeat rw [put_none]); (try simp only [put_some, List.setIfInBounds_toArray, List.set_cons_succ, List.set_cons_zero]))
  clear hk ha
  clear cAA cBB
  refine (rminus_num AA BB _ _ _ HAA.out HBB.out).mono ?_
  rintro e w5 ⟨E, rfl, hE, hk⟩
  have hst := hst.keep hk
  have ltE : w.heap.size + 4 < w5.heap.size := hst.lt (p := (w.heap.size + 4, .cells z32 91 (0, 0))) (by simp)
  have sE : (arrI E).size = 16 := by rw [arrI_size, hE.1]
  have HE := Lib.hid hE
  clear hE
  have ha := heap_alloc_new w5 (.cells #[.int .i64 0, .int .i64 0, .int .i64 0, .int .i64 0, .int .i64 0, .int .i64 0, .int .i64 0, .int .i64 0, .int .i64 0, .int .i64 0, .int .i64 0, .int .i64 0, .int .i64 0, .int .i64 0, .int .i64 0, .int .i64 0] 52)
  have hst := (hst.storeNew (hst.alloc (.cells #[.int .i64 0, .int .i64 0, .int .i64 0, .int .i64 0, .int .i64 0, .int .i64 0, .int .i64 0, .int .i64 0, .int .i64 0, .int .i64 0, .int .i64 0, .int .i64 0, .int .i64 0, .int .i64 0, .int .i64 0, .int .i64 0] 52)) (arrI E)).add (setRow_here ha (arrI E))
  go_wp2_with (first | (refine wpList_store_row rfl 52 (.tmp 12) (.tmp 36) rfl w5.heap.size (arrI E) rfl rfl 52 _ ha (by rw [sE]; exact info_num) (by rw [sE]; rfl) (arrI_one E) ?_) | fail)
  generalize (w5.alloc (.cells #[.int .i64 0, .int .i64 0, .int .i64 0, .int .i64 0, .int .i64 0, .int .i64 0, .int .i64 0, .int .i64 0, .int .i64 0, .int .i64 0, .int .i64 0, .int .i64 0, .int .i64 0, .int .i64 0, .int .i64 0, .int .i64 0] 52)).setRow w5.heap.size (arrI E) = v5 at *
  generalize w5.heap.size = gE at *
  try ((repeat rw [put_none]); (try simp only [put_some, List.setIfInBounds_toArray, List.set_cons_succ, List.set_cons_zero]))
  clear hk ha
  refine wp_region_then (fun a b' w' => ∃ (DX DA : List Int) (gDA : Nat), b' = ((((((((a.put (some 37) (.pointer (some ⟨(w.heap.size + 2), 0, none⟩))).put (some 38) (.agg (arrI X2))).put (some 39) (.pointer (some ⟨(w.heap.size + 2), 16, none⟩))).put (some 40) (.agg (arrI Z2))).put (some 41) (.agg (arrI DX))).put (some 42) (.agg (arrI A))).put (some 43) (.agg (arrI DA))).put (some 13) (.pointer (some ⟨gDA, 0, none⟩))) ∧ NumP DX (NX2 - NZ2) ∧ NumP DA ((NX2 - NZ2) * (NX1 + NZ1)) ∧ w.heap.size + 4 < gDA ∧ Kq w [(gDA, .cells (arrI DA) 52 (0, 0)), (gE, .cells (arrI E) 52 (0, 0)), (gBB, .cells (arrI BB) 52 (0, 0)), (gAA, .cells (arrI AA) 52 (0, 0)), (gB, .cells (arrI B) 52 (0, 0)), (gA, .cells (arrI A) 52 (0, 0)), ((w.heap.size + 4), .cells z32 91 (0, 0)), ((w.heap.size + 3), .cells z32 91 (0, 0)), ((w.heap.size + 2), .cells (pc X2 Z2) 91 (0, 0)), ((w.heap.size + 1), .cells (pc X1 Z1) 91 (0, 0)), (w.heap.size, .cells (arrI U) 52 (0, 0))] w') ?_ ?_
  · refine wp_region_rem (Kq w [(gE, .cells (arrI E) 52 (0, 0)), (gBB, .cells (arrI BB) 52 (0, 0)), (gAA, .cells (arrI AA) 52 (0, 0)), (gB, .cells (arrI B) 52 (0, 0)), (gA, .cells (arrI A) 52 (0, 0)), ((w.heap.size + 4), .cells z32 91 (0, 0)), ((w.heap.size + 3), .cells z32 91 (0, 0)), ((w.heap.size + 2), .cells (pc X2 Z2) 91 (0, 0)), ((w.heap.size + 1), .cells (pc X1 Z1) 91 (0, 0)), (w.heap.size, .cells (arrI U) 52 (0, 0))]) (by kernel_rfl) (by kernel_rfl) (fun _ _ _ _ _ h => h.elim) hst.drew ?_
    apply rem_sure 0 (by kernel_rfl) rfl (wanted_none rfl)
    · intro w2 hS K hK
      go_wp2_with fail
      exact hK _ hS (Ext.refl _)
    · kernel_rfl
    · kernel_rfl
    try ((repeat rw [put_none]); (try simp only [put_some, List.setIfInBounds_toArray, List.set_cons_succ, List.set_cons_zero]))
    apply rem_sure 1 (by kernel_rfl) rfl (wanted_none rfl)
    · intro w2 hS K hK
      exact wp_load_mid 52 _ rfl (w.heap.size + 2) 0 rfl (arrI X2).toList _ (pc_fst (t := 91) HX2.out.1 HZ2.out.1 (hS.at_ (by simp))) Try.underlying52 rfl (by rw [lX2]; exact info_num) (hK _ hS (Ext.refl _))
    · kernel_rfl
    · kernel_rfl
    try ((repeat rw [put_none]); (try simp only [put_some, List.setIfInBounds_toArray, List.set_cons_succ, List.set_cons_zero]))
    apply rem_sure 2 (by kernel_rfl) rfl (wanted_none rfl)
    · intro w2 hS K hK
      go_wp2_with fail
      exact hK _ hS (Ext.refl _)
    · kernel_rfl
    · kernel_rfl
    try ((repeat rw [put_none]); (try simp only [put_some, List.setIfInBounds_toArray, List.set_cons_succ, List.set_cons_zero]))
    apply rem_sure 3 (by kernel_rfl) rfl (wanted_none rfl)
    · intro w2 hS K hK
      exact wp_load_mid 52 _ rfl (w.heap.size + 2) 16 rfl (arrI Z2).toList _ (pc_snd (t := 91) HX2.out.1 HZ2.out.1 (hS.at_ (by simp))) Try.underlying52 rfl (by rw [lZ2]; exact info_num) (hK _ hS (Ext.refl _))
    · kernel_rfl
    · kernel_rfl
    try ((repeat rw [put_none]); (try simp only [put_some, List.setIfInBounds_toArray, List.set_cons_succ, List.set_cons_zero]))
    apply rem_sure 5 (by kernel_rfl) rfl (wanted_none rfl)
    · intro w2 hS K hK
      exact wp_load_row 52 _ rfl gA rfl 52 (arrI A) (0, 0) _ (hS.at_ (by simp)) Try.underlying52 rfl (by rw [sA]; exact info_num) (hK _ hS (Ext.refl _))
    · kernel_rfl
    · kernel_rfl
    try ((repeat rw [put_none]); (try simp only [put_some, List.setIfInBounds_toArray, List.set_cons_succ, List.set_cons_zero]))
    refine rem_two 4 7 (by kernel_rfl) (step_of rfl (wanted_none rfl) ?_) (step_of rfl (wanted_none rfl) ?_)
    · intro v21 hS21 hE21 K hK
      go_wp2_with fail
      refine (rminus_num X2 Z2 _ _ _ HX2.out HZ2.out).mono ?_
      rintro e u21 ⟨DX, rfl, hDX, hk21⟩
      have sDX : (arrI DX).size = 16 := by rw [arrI_size, hDX.1]
      have HDX := Lib.hid hDX
      clear hDX
      refine hK _ _ (hS21.keep hk21) ?_
      clear hK K
      try ((repeat rw [put_none]); (try simp only [put_some, List.setIfInBounds_toArray, List.set_cons_succ, List.set_cons_zero]))
      refine rem_two 6 7 (by kernel_rfl) (step_of rfl (wanted_none rfl) ?_) (step_of rfl (wanted_none rfl) ?_)
      · intro v22 hS22 hE22 K hK
        go_wp2_with fail
        refine (rtimes_num DX A _ _ _ HDX.out HA.out).mono ?_
        rintro e u22 ⟨DA, rfl, hDA, hk22⟩
        have sDA : (arrI DA).size = 16 := by rw [arrI_size, hDA.1]
        have HDA := Lib.hid hDA
        clear hDA
        refine hK _ _ (hS22.keep hk22) ?_
        clear hK K
        try ((repeat rw [put_none]); (try simp only [put_some, List.setIfInBounds_toArray, List.set_cons_succ, List.set_cons_zero]))
        refine rem_one 7 (by kernel_rfl) (step_of rfl (wanted_none rfl) ?_)
        intro v23 hS23 hE23 K hK
        go_wp2_with fail
        have al_nDA := hS23
        refine hK _ _ (hS23.alloc _) ?_
        clear hK K
        try ((repeat rw [put_none]); (try simp only [put_some, List.setIfInBounds_toArray, List.set_cons_succ, List.set_cons_zero]))
        refine rem_one 8 (by kernel_rfl) (step_of rfl (wanted_none rfl) ?_)
        intro v24 hS24 hE24 K hK
        have hg_nDA := (hE24 _ _ (heap_alloc_new v23 _))
        refine wp_store_row 52 _ _ rfl v23.heap.size (arrI DA) rfl rfl 52 _ hg_nDA (by rw [sDA]; exact info_num) (by rw [sDA]; rfl) (arrI_one DA) ?_
        refine hK _ _ (al_nDA.storeNew hS24 _) ?_
        clear hK K
        try ((repeat rw [put_none]); (try simp only [put_some, List.setIfInBounds_toArray, List.set_cons_succ, List.set_cons_zero]))
        refine rem_nil ?_
        intro v9 hS9 hE9
        exact ⟨DX, DA, v23.heap.size, rfl, HDX.out, HDA.out, al_nDA.lt (p := (w.heap.size + 4, .cells z32 91 (0, 0))) (by simp), (hS9.add (hE9 _ _ (setRow_here hg_nDA (arrI DA))))⟩
      · intro v25 hS25 hE25 K hK
        go_wp2_with fail
        have al_nDA := hS25
        refine hK _ _ (hS25.alloc _) ?_
        clear hK K
        try ((repeat rw [put_none]); (try simp only [put_some, List.setIfInBounds_toArray, List.set_cons_succ, List.set_cons_zero]))
        refine rem_one 6 (by kernel_rfl) (step_of rfl (wanted_none rfl) ?_)
        intro v26 hS26 hE26 K hK
        go_wp2_with fail
        refine (rtimes_num DX A _ _ _ HDX.out HA.out).mono ?_
        rintro e u26 ⟨DA, rfl, hDA, hk26⟩
        have sDA : (arrI DA).size = 16 := by rw [arrI_size, hDA.1]
        have HDA := Lib.hid hDA
        clear hDA
        refine hK _ _ (hS26.keep hk26) ?_
        clear hK K
        try ((repeat rw [put_none]); (try simp only [put_some, List.setIfInBounds_toArray, List.set_cons_succ, List.set_cons_zero]))
        refine rem_one 8 (by kernel_rfl) (step_of rfl (wanted_none rfl) ?_)
        intro v27 hS27 hE27 K hK
        have hg_nDA := (hE27 _ _ (block_stay hk26 (hE26 _ _ (heap_alloc_new v25 _))))
        refine wp_store_row 52 _ _ rfl v25.heap.size (arrI DA) rfl rfl 52 _ hg_nDA (by rw [sDA]; exact info_num) (by rw [sDA]; rfl) (arrI_one DA) ?_
        refine hK _ _ (al_nDA.storeNew hS27 _) ?_
        clear hK K
        try ((repeat rw [put_none]); (try simp only [put_some, List.setIfInBounds_toArray, List.set_cons_succ, List.set_cons_zero]))
        refine rem_nil ?_
        intro v9 hS9 hE9
        exact ⟨DX, DA, v25.heap.size, rfl, HDX.out, HDA.out, al_nDA.lt (p := (w.heap.size + 4, .cells z32 91 (0, 0))) (by simp), (hS9.add (hE9 _ _ (setRow_here hg_nDA (arrI DA))))⟩
    · intro v28 hS28 hE28 K hK
      go_wp2_with fail
      have al_nDA := hS28
      refine hK _ _ (hS28.alloc _) ?_
      clear hK K
      try ((repeat rw [put_none]); (try simp only [put_some, List.setIfInBounds_toArray, List.set_cons_succ, List.set_cons_zero]))
      refine rem_one 4 (by kernel_rfl) (step_of rfl (wanted_none rfl) ?_)
      intro v29 hS29 hE29 K hK
      go_wp2_with fail
      refine (rminus_num X2 Z2 _ _ _ HX2.out HZ2.out).mono ?_
      rintro e u29 ⟨DX, rfl, hDX, hk29⟩
      have sDX : (arrI DX).size = 16 := by rw [arrI_size, hDX.1]
      have HDX := Lib.hid hDX
      clear hDX
      refine hK _ _ (hS29.keep hk29) ?_
      clear hK K
      try ((repeat rw [put_none]); (try simp only [put_some, List.setIfInBounds_toArray, List.set_cons_succ, List.set_cons_zero]))
      refine rem_one 6 (by kernel_rfl) (step_of rfl (wanted_none rfl) ?_)
      intro v30 hS30 hE30 K hK
      go_wp2_with fail
      refine (rtimes_num DX A _ _ _ HDX.out HA.out).mono ?_
      rintro e u30 ⟨DA, rfl, hDA, hk30⟩
      have sDA : (arrI DA).size = 16 := by rw [arrI_size, hDA.1]
      have HDA := Lib.hid hDA
      clear hDA
      refine hK _ _ (hS30.keep hk30) ?_
      clear hK K
      try ((repeat rw [put_none]); (try simp only [put_some, List.setIfInBounds_toArray, List.set_cons_succ, List.set_cons_zero]))
      refine rem_one 8 (by kernel_rfl) (step_of rfl (wanted_none rfl) ?_)
      intro v31 hS31 hE31 K hK
      have hg_nDA := (hE31 _ _ (block_stay hk30 (hE30 _ _ (block_stay hk29 (hE29 _ _ (heap_alloc_new v28 _))))))
      refine wp_store_row 52 _ _ rfl v28.heap.size (arrI DA) rfl rfl 52 _ hg_nDA (by rw [sDA]; exact info_num) (by rw [sDA]; rfl) (arrI_one DA) ?_
      refine hK _ _ (al_nDA.storeNew hS31 _) ?_
      clear hK K
      try ((repeat rw [put_none]); (try simp only [put_some, List.setIfInBounds_toArray, List.set_cons_succ, List.set_cons_zero]))
      refine rem_nil ?_
      intro v9 hS9 hE9
      exact ⟨DX, DA, v28.heap.size, rfl, HDX.out, HDA.out, al_nDA.lt (p := (w.heap.size + 4, .cells z32 91 (0, 0))) (by simp), (hS9.add (hE9 _ _ (setRow_here hg_nDA (arrI DA))))⟩
  rintro b' w' ⟨DX, DA, gDA, rfl, hDX, hDA, lt_gDA, hst⟩
  have sDX : (arrI DX).size = 16 := by rw [arrI_size, hDX.1]
  have HDX := Lib.hid hDX
  clear hDX
  have sDA : (arrI DA).size = 16 := by rw [arrI_size, hDA.1]
  have HDA := Lib.hid hDA
  clear hDA
  try ((repeat rw [put_none]); (try simp only [put_some, List.setIfInBounds_toArray, List.set_cons_succ, List.set_cons_zero]))
  go_wp2_with fail
  refine wp_region_then (fun a b' w' => ∃ (SX CB : List Int) (gCB : Nat), b' = ((((((((a.put (some 44) (.pointer (some ⟨(w.heap.size + 2), 0, none⟩))).put (some 45) (.agg (arrI X2))).put (some 46) (.pointer (some ⟨(w.heap.size + 2), 16, none⟩))).put (some 47) (.agg (arrI Z2))).put (some 48) (.agg (arrI SX))).put (some 49) (.agg (arrI B))).put (some 50) (.agg (arrI CB))).put (some 14) (.pointer (some ⟨gCB, 0, none⟩))) ∧ NumP SX (NX2 + NZ2) ∧ NumP CB ((NX2 + NZ2) * (NX1 - NZ1)) ∧ w.heap.size + 4 < gCB ∧ Kq w [(gCB, .cells (arrI CB) 52 (0, 0)), (gDA, .cells (arrI DA) 52 (0, 0)), (gE, .cells (arrI E) 52 (0, 0)), (gBB, .cells (arrI BB) 52 (0, 0)), (gAA, .cells (arrI AA) 52 (0, 0)), (gB, .cells (arrI B) 52 (0, 0)), (gA, .cells (arrI A) 52 (0, 0)), ((w.heap.size + 4), .cells z32 91 (0, 0)), ((w.heap.size + 3), .cells z32 91 (0, 0)), ((w.heap.size + 2), .cells (pc X2 Z2) 91 (0, 0)), ((w.heap.size + 1), .cells (pc X1 Z1) 91 (0, 0)), (w.heap.size, .cells (arrI U) 52 (0, 0))] w') ?_ ?_
  · refine wp_region_rem (Kq w [(gDA, .cells (arrI DA) 52 (0, 0)), (gE, .cells (arrI E) 52 (0, 0)), (gBB, .cells (arrI BB) 52 (0, 0)), (gAA, .cells (arrI AA) 52 (0, 0)), (gB, .cells (arrI B) 52 (0, 0)), (gA, .cells (arrI A) 52 (0, 0)), ((w.heap.size + 4), .cells z32 91 (0, 0)), ((w.heap.size + 3), .cells z32 91 (0, 0)), ((w.heap.size + 2), .cells (pc X2 Z2) 91 (0, 0)), ((w.heap.size + 1), .cells (pc X1 Z1) 91 (0, 0)), (w.heap.size, .cells (arrI U) 52 (0, 0))]) (by kernel_rfl) (by kernel_rfl) (fun _ _ _ _ _ h => h.elim) hst.drew ?_
    apply rem_sure 0 (by kernel_rfl) rfl (wanted_none rfl)
    · intro w2 hS K hK
      go_wp2_with fail
      exact hK _ hS (Ext.refl _)
    · kernel_rfl
    · kernel_rfl
    try ((repeat rw [put_none]); (try simp only [put_some, List.setIfInBounds_toArray, List.set_cons_succ, List.set_cons_zero]))
    apply rem_sure 1 (by kernel_rfl) rfl (wanted_none rfl)
    · intro w2 hS K hK
      exact wp_load_mid 52 _ rfl (w.heap.size + 2) 0 rfl (arrI X2).toList _ (pc_fst (t := 91) HX2.out.1 HZ2.out.1 (hS.at_ (by simp))) Try.underlying52 rfl (by rw [lX2]; exact info_num) (hK _ hS (Ext.refl _))
    · kernel_rfl
    · kernel_rfl
    try ((repeat rw [put_none]); (try simp only [put_some, List.setIfInBounds_toArray, List.set_cons_succ, List.set_cons_zero]))
    apply rem_sure 2 (by kernel_rfl) rfl (wanted_none rfl)
    · intro w2 hS K hK
      go_wp2_with fail
      exact hK _ hS (Ext.refl _)
    · kernel_rfl
    · kernel_rfl
    try ((repeat rw [put_none]); (try simp only [put_some, List.setIfInBounds_toArray, List.set_cons_succ, List.set_cons_zero]))
    apply rem_sure 3 (by kernel_rfl) rfl (wanted_none rfl)
    · intro w2 hS K hK
      exact wp_load_mid 52 _ rfl (w.heap.size + 2) 16 rfl (arrI Z2).toList _ (pc_snd (t := 91) HX2.out.1 HZ2.out.1 (hS.at_ (by simp))) Try.underlying52 rfl (by rw [lZ2]; exact info_num) (hK _ hS (Ext.refl _))
    · kernel_rfl
    · kernel_rfl
    try ((repeat rw [put_none]); (try simp only [put_some, List.setIfInBounds_toArray, List.set_cons_succ, List.set_cons_zero]))
    apply rem_sure 5 (by kernel_rfl) rfl (wanted_none rfl)
    · intro w2 hS K hK
      exact wp_load_row 52 _ rfl gB rfl 52 (arrI B) (0, 0) _ (hS.at_ (by simp)) Try.underlying52 rfl (by rw [sB]; exact info_num) (hK _ hS (Ext.refl _))
    · kernel_rfl
    · kernel_rfl
    try ((repeat rw [put_none]); (try simp only [put_some, List.setIfInBounds_toArray, List.set_cons_succ, List.set_cons_zero]))
    refine rem_two 4 7 (by kernel_rfl) (step_of rfl (wanted_none rfl) ?_) (step_of rfl (wanted_none rfl) ?_)
    · intro v21 hS21 hE21 K hK
      go_wp2_with fail
      refine (rplus_num X2 Z2 _ _ _ HX2.out HZ2.out).mono ?_
      rintro e u21 ⟨SX, rfl, hSX, hk21⟩
      have sSX : (arrI SX).size = 16 := by rw [arrI_size, hSX.1]
      have HSX := Lib.hid hSX
      clear hSX
      refine hK _ _ (hS21.keep hk21) ?_
      clear hK K
      try ((repeat rw [put_none]); (try simp only [put_some, List.setIfInBounds_toArray, List.set_cons_succ, List.set_cons_zero]))
      refine rem_two 6 7 (by kernel_rfl) (step_of rfl (wanted_none rfl) ?_) (step_of rfl (wanted_none rfl) ?_)
      · intro v22 hS22 hE22 K hK
        go_wp2_with fail
        refine (rtimes_num SX B _ _ _ HSX.out HB.out).mono ?_
        rintro e u22 ⟨CB, rfl, hCB, hk22⟩
        have sCB : (arrI CB).size = 16 := by rw [arrI_size, hCB.1]
        have HCB := Lib.hid hCB
        clear hCB
        refine hK _ _ (hS22.keep hk22) ?_
        clear hK K
        try ((repeat rw [put_none]); (try simp only [put_some, List.setIfInBounds_toArray, List.set_cons_succ, List.set_cons_zero]))
        refine rem_one 7 (by kernel_rfl) (step_of rfl (wanted_none rfl) ?_)
        intro v23 hS23 hE23 K hK
        go_wp2_with fail
        have al_nCB := hS23
        refine hK _ _ (hS23.alloc _) ?_
        clear hK K
        try ((repeat rw [put_none]); (try simp only [put_some, List.setIfInBounds_toArray, List.set_cons_succ, List.set_cons_zero]))
        refine rem_one 8 (by kernel_rfl) (step_of rfl (wanted_none rfl) ?_)
        intro v24 hS24 hE24 K hK
        have hg_nCB := (hE24 _ _ (heap_alloc_new v23 _))
        refine wp_store_row 52 _ _ rfl v23.heap.size (arrI CB) rfl rfl 52 _ hg_nCB (by rw [sCB]; exact info_num) (by rw [sCB]; rfl) (arrI_one CB) ?_
        refine hK _ _ (al_nCB.storeNew hS24 _) ?_
        clear hK K
        try ((repeat rw [put_none]); (try simp only [put_some, List.setIfInBounds_toArray, List.set_cons_succ, List.set_cons_zero]))
        refine rem_nil ?_
        intro v9 hS9 hE9
        exact ⟨SX, CB, v23.heap.size, rfl, HSX.out, HCB.out, al_nCB.lt (p := (w.heap.size + 4, .cells z32 91 (0, 0))) (by simp), (hS9.add (hE9 _ _ (setRow_here hg_nCB (arrI CB))))⟩
      · intro v25 hS25 hE25 K hK
        go_wp2_with fail
        have al_nCB := hS25
        refine hK _ _ (hS25.alloc _) ?_
        clear hK K
        try ((repeat rw [put_none]); (try simp only [put_some, List.setIfInBounds_toArray, List.set_cons_succ, List.set_cons_zero]))
        refine rem_one 6 (by kernel_rfl) (step_of rfl (wanted_none rfl) ?_)
        intro v26 hS26 hE26 K hK
        go_wp2_with fail
        refine (rtimes_num SX B _ _ _ HSX.out HB.out).mono ?_
        rintro e u26 ⟨CB, rfl, hCB, hk26⟩
        have sCB : (arrI CB).size = 16 := by rw [arrI_size, hCB.1]
        have HCB := Lib.hid hCB
        clear hCB
        refine hK _ _ (hS26.keep hk26) ?_
        clear hK K
        try ((repeat rw [put_none]); (try simp only [put_some, List.setIfInBounds_toArray, List.set_cons_succ, List.set_cons_zero]))
        refine rem_one 8 (by kernel_rfl) (step_of rfl (wanted_none rfl) ?_)
        intro v27 hS27 hE27 K hK
        have hg_nCB := (hE27 _ _ (block_stay hk26 (hE26 _ _ (heap_alloc_new v25 _))))
        refine wp_store_row 52 _ _ rfl v25.heap.size (arrI CB) rfl rfl 52 _ hg_nCB (by rw [sCB]; exact info_num) (by rw [sCB]; rfl) (arrI_one CB) ?_
        refine hK _ _ (al_nCB.storeNew hS27 _) ?_
        clear hK K
        try ((repeat rw [put_none]); (try simp only [put_some, List.setIfInBounds_toArray, List.set_cons_succ, List.set_cons_zero]))
        refine rem_nil ?_
        intro v9 hS9 hE9
        exact ⟨SX, CB, v25.heap.size, rfl, HSX.out, HCB.out, al_nCB.lt (p := (w.heap.size + 4, .cells z32 91 (0, 0))) (by simp), (hS9.add (hE9 _ _ (setRow_here hg_nCB (arrI CB))))⟩
    · intro v28 hS28 hE28 K hK
      go_wp2_with fail
      have al_nCB := hS28
      refine hK _ _ (hS28.alloc _) ?_
      clear hK K
      try ((repeat rw [put_none]); (try simp only [put_some, List.setIfInBounds_toArray, List.set_cons_succ, List.set_cons_zero]))
      refine rem_one 4 (by kernel_rfl) (step_of rfl (wanted_none rfl) ?_)
      intro v29 hS29 hE29 K hK
      go_wp2_with fail
      refine (rplus_num X2 Z2 _ _ _ HX2.out HZ2.out).mono ?_
      rintro e u29 ⟨SX, rfl, hSX, hk29⟩
      have sSX : (arrI SX).size = 16 := by rw [arrI_size, hSX.1]
      have HSX := Lib.hid hSX
      clear hSX
      refine hK _ _ (hS29.keep hk29) ?_
      clear hK K
      try ((repeat rw [put_none]); (try simp only [put_some, List.setIfInBounds_toArray, List.set_cons_succ, List.set_cons_zero]))
      refine rem_one 6 (by kernel_rfl) (step_of rfl (wanted_none rfl) ?_)
      intro v30 hS30 hE30 K hK
      go_wp2_with fail
      refine (rtimes_num SX B _ _ _ HSX.out HB.out).mono ?_
      rintro e u30 ⟨CB, rfl, hCB, hk30⟩
      have sCB : (arrI CB).size = 16 := by rw [arrI_size, hCB.1]
      have HCB := Lib.hid hCB
      clear hCB
      refine hK _ _ (hS30.keep hk30) ?_
      clear hK K
      try ((repeat rw [put_none]); (try simp only [put_some, List.setIfInBounds_toArray, List.set_cons_succ, List.set_cons_zero]))
      refine rem_one 8 (by kernel_rfl) (step_of rfl (wanted_none rfl) ?_)
      intro v31 hS31 hE31 K hK
      have hg_nCB := (hE31 _ _ (block_stay hk30 (hE30 _ _ (block_stay hk29 (hE29 _ _ (heap_alloc_new v28 _))))))
      refine wp_store_row 52 _ _ rfl v28.heap.size (arrI CB) rfl rfl 52 _ hg_nCB (by rw [sCB]; exact info_num) (by rw [sCB]; rfl) (arrI_one CB) ?_
      refine hK _ _ (al_nCB.storeNew hS31 _) ?_
      clear hK K
      try ((repeat rw [put_none]); (try simp only [put_some, List.setIfInBounds_toArray, List.set_cons_succ, List.set_cons_zero]))
      refine rem_nil ?_
      intro v9 hS9 hE9
      exact ⟨SX, CB, v28.heap.size, rfl, HSX.out, HCB.out, al_nCB.lt (p := (w.heap.size + 4, .cells z32 91 (0, 0))) (by simp), (hS9.add (hE9 _ _ (setRow_here hg_nCB (arrI CB))))⟩
  rintro b' w' ⟨SX, CB, gCB, rfl, hSX, hCB, lt_gCB, hst⟩
  have sSX : (arrI SX).size = 16 := by rw [arrI_size, hSX.1]
  have HSX := Lib.hid hSX
  clear hSX
  have sCB : (arrI CB).size = 16 := by rw [arrI_size, hCB.1]
  have HCB := Lib.hid hCB
  clear hCB
  try ((repeat rw [put_none]); (try simp only [put_some, List.setIfInBounds_toArray, List.set_cons_succ, List.set_cons_zero]))
  have c0 := hst.at_ (g := gDA) (ob := .cells (arrI DA) 52 (0, 0)) (by simp)
  have c1 := hst.at_ (g := gCB) (ob := .cells (arrI CB) 52 (0, 0)) (by simp)
  go_wp2_with (first | (refine wpList_load_row rfl 52 (.tmp 13) rfl gDA rfl _ (arrI DA) _ _ c0 Try.underlying52 rfl (by rw [sDA]; exact info_num) ?_) | (refine wpList_load_row rfl 52 (.tmp 14) rfl gCB rfl _ (arrI CB) _ _ c1 Try.underlying52 rfl (by rw [sCB]; exact info_num) ?_) | fail)
  clear c0 c1
  refine (rplus_num DA CB _ _ _ HDA.out HCB.out).mono ?_
  rintro e w8 ⟨SS, rfl, hSS, hk⟩
  have hst := hst.keep hk
  have ltSS : w.heap.size + 4 < w8.heap.size := hst.lt (p := (w.heap.size + 4, .cells z32 91 (0, 0))) (by simp)
  have sSS : (arrI SS).size = 16 := by rw [arrI_size, hSS.1]
  have HSS := Lib.hid hSS
  clear hSS
  have ha := heap_alloc_new w8 (.cells #[.int .i64 0, .int .i64 0, .int .i64 0, .int .i64 0, .int .i64 0, .int .i64 0, .int .i64 0, .int .i64 0, .int .i64 0, .int .i64 0, .int .i64 0, .int .i64 0, .int .i64 0, .int .i64 0, .int .i64 0, .int .i64 0] 52)
  have hst := (hst.storeNew (hst.alloc (.cells #[.int .i64 0, .int .i64 0, .int .i64 0, .int .i64 0, .int .i64 0, .int .i64 0, .int .i64 0, .int .i64 0, .int .i64 0, .int .i64 0, .int .i64 0, .int .i64 0, .int .i64 0, .int .i64 0, .int .i64 0, .int .i64 0] 52)) (arrI SS)).add (setRow_here ha (arrI SS))
  have c0 := hst.at_ (g := gDA) (ob := .cells (arrI DA) 52 (0, 0)) (by simp)
  have c1 := hst.at_ (g := gCB) (ob := .cells (arrI CB) 52 (0, 0)) (by simp)
  go_wp2_with (first | (refine wpList_store_row rfl 52 (.tmp 15) (.tmp 53) rfl w8.heap.size (arrI SS) rfl rfl 52 _ ha (by rw [sSS]; exact info_num) (by rw [sSS]; rfl) (arrI_one SS) ?_) | (refine wpList_load_row rfl 52 (.tmp 13) rfl gDA rfl _ (arrI DA) _ _ c0 Try.underlying52 rfl (by rw [sDA]; exact info_num) ?_) | (refine wpList_load_row rfl 52 (.tmp 14) rfl gCB rfl _ (arrI CB) _ _ c1 Try.underlying52 rfl (by rw [sCB]; exact info_num) ?_) | fail)
  generalize (w8.alloc (.cells #[.int .i64 0, .int .i64 0, .int .i64 0, .int .i64 0, .int .i64 0, .int .i64 0, .int .i64 0, .int .i64 0, .int .i64 0, .int .i64 0, .int .i64 0, .int .i64 0, .int .i64 0, .int .i64 0, .int .i64 0, .int .i64 0] 52)).setRow w8.heap.size (arrI SS) = v8 at *
  generalize w8.heap.size = gSS at *
  try ((repeat rw [put_none]); (try simp only [put_some, List.setIfInBounds_toArray, List.set_cons_succ, List.set_cons_zero]))
  clear hk ha
  clear c0 c1
  refine (rminus_num DA CB _ _ _ HDA.out HCB.out).mono ?_
  rintro e w9 ⟨DD, rfl, hDD, hk⟩
  have hst := hst.keep hk
  have ltDD : w.heap.size + 4 < w9.heap.size := hst.lt (p := (w.heap.size + 4, .cells z32 91 (0, 0))) (by simp)
  have sDD : (arrI DD).size = 16 := by rw [arrI_size, hDD.1]
  have HDD := Lib.hid hDD
  clear hDD
  have ha := heap_alloc_new w9 (.cells #[.int .i64 0, .int .i64 0, .int .i64 0, .int .i64 0, .int .i64 0, .int .i64 0, .int .i64 0, .int .i64 0, .int .i64 0, .int .i64 0, .int .i64 0, .int .i64 0, .int .i64 0, .int .i64 0, .int .i64 0, .int .i64 0] 52)
  have hst := (hst.storeNew (hst.alloc (.cells #[.int .i64 0, .int .i64 0, .int .i64 0, .int .i64 0, .int .i64 0, .int .i64 0, .int .i64 0, .int .i64 0, .int .i64 0, .int .i64 0, .int .i64 0, .int .i64 0, .int .i64 0, .int .i64 0, .int .i64 0, .int .i64 0] 52)) (arrI DD)).add (setRow_here ha (arrI DD))
  go_wp2_with (first | (refine wpList_store_row rfl 52 (.tmp 16) (.tmp 56) rfl w9.heap.size (arrI DD) rfl rfl 52 _ ha (by rw [sDD]; exact info_num) (by rw [sDD]; rfl) (arrI_one DD) ?_) | fail)
  generalize (w9.alloc (.cells #[.int .i64 0, .int .i64 0, .int .i64 0, .int .i64 0, .int .i64 0, .int .i64 0, .int .i64 0, .int .i64 0, .int .i64 0, .int .i64 0, .int .i64 0, .int .i64 0, .int .i64 0, .int .i64 0, .int .i64 0, .int .i64 0] 52)).setRow w9.heap.size (arrI DD) = v9 at *
  generalize w9.heap.size = gDD at *
  try ((repeat rw [put_none]); (try simp only [put_some, List.setIfInBounds_toArray, List.set_cons_succ, List.set_cons_zero]))
  clear hk ha
  refine wp_region_then (fun a b' w' => ∃ (C KK KE PP5 D : List Int) (gT : Nat), b' = ((((((((((((a.put (some 57) (.agg (arrI AA))).put (some 58) (.agg (arrI BB))).put (some 59) (.agg (arrI C))).put (some 60) (.agg (arrI E))).put (some 61) (.agg (arrI AA))).put (some 62) (.agg (arrI KK))).put (some 63) (.agg (arrI E))).put (some 64) (.agg (arrI KE))).put (some 65) (.agg (arrI PP5))).put (some 66) (.agg (arrI D))).put (some 67) (.agg (pc C D))).put (some 17) (.pointer (some ⟨gT, 0, none⟩))) ∧ NumP C (((NX1 + NZ1) * (NX1 + NZ1)) * ((NX1 - NZ1) * (NX1 - NZ1))) ∧ NumP KK (121665) ∧ NumP KE (121665 * ((NX1 + NZ1) * (NX1 + NZ1) - (NX1 - NZ1) * (NX1 - NZ1))) ∧ NumP PP5 ((NX1 + NZ1) * (NX1 + NZ1) + 121665 * ((NX1 + NZ1) * (NX1 + NZ1) - (NX1 - NZ1) * (NX1 - NZ1))) ∧ NumP D (((NX1 + NZ1) * (NX1 + NZ1) - (NX1 - NZ1) * (NX1 - NZ1)) * ((NX1 + NZ1) * (NX1 + NZ1) + 121665 * ((NX1 + NZ1) * (NX1 + NZ1) - (NX1 - NZ1) * (NX1 - NZ1)))) ∧ w.heap.size + 4 < gT ∧ Kq w [(gT, .cells (pc C D) 91 (0, 0)), (gDD, .cells (arrI DD) 52 (0, 0)), (gSS, .cells (arrI SS) 52 (0, 0)), (gCB, .cells (arrI CB) 52 (0, 0)), (gDA, .cells (arrI DA) 52 (0, 0)), (gE, .cells (arrI E) 52 (0, 0)), (gBB, .cells (arrI BB) 52 (0, 0)), (gAA, .cells (arrI AA) 52 (0, 0)), (gB, .cells (arrI B) 52 (0, 0)), (gA, .cells (arrI A) 52 (0, 0)), ((w.heap.size + 4), .cells z32 91 (0, 0)), ((w.heap.size + 3), .cells z32 91 (0, 0)), ((w.heap.size + 2), .cells (pc X2 Z2) 91 (0, 0)), ((w.heap.size + 1), .cells (pc X1 Z1) 91 (0, 0)), (w.heap.size, .cells (arrI U) 52 (0, 0))] w') ?_ ?_
  · refine wp_region_rem (Kq w [(gDD, .cells (arrI DD) 52 (0, 0)), (gSS, .cells (arrI SS) 52 (0, 0)), (gCB, .cells (arrI CB) 52 (0, 0)), (gDA, .cells (arrI DA) 52 (0, 0)), (gE, .cells (arrI E) 52 (0, 0)), (gBB, .cells (arrI BB) 52 (0, 0)), (gAA, .cells (arrI AA) 52 (0, 0)), (gB, .cells (arrI B) 52 (0, 0)), (gA, .cells (arrI A) 52 (0, 0)), ((w.heap.size + 4), .cells z32 91 (0, 0)), ((w.heap.size + 3), .cells z32 91 (0, 0)), ((w.heap.size + 2), .cells (pc X2 Z2) 91 (0, 0)), ((w.heap.size + 1), .cells (pc X1 Z1) 91 (0, 0)), (w.heap.size, .cells (arrI U) 52 (0, 0))]) (by kernel_rfl) (by kernel_rfl) (fun _ _ _ _ _ h => h.elim) hst.drew ?_
    apply rem_sure 0 (by kernel_rfl) rfl (wanted_none rfl)
    · intro w2 hS K hK
      exact wp_load_row 52 _ rfl gAA rfl 52 (arrI AA) (0, 0) _ (hS.at_ (by simp)) Try.underlying52 rfl (by rw [sAA]; exact info_num) (hK _ hS (Ext.refl _))
    · kernel_rfl
    · kernel_rfl
    try ((repeat rw [put_none]); (try simp only [put_some, List.setIfInBounds_toArray, List.set_cons_succ, List.set_cons_zero]))
    apply rem_sure 1 (by kernel_rfl) rfl (wanted_none rfl)
    · intro w2 hS K hK
      exact wp_load_row 52 _ rfl gBB rfl 52 (arrI BB) (0, 0) _ (hS.at_ (by simp)) Try.underlying52 rfl (by rw [sBB]; exact info_num) (hK _ hS (Ext.refl _))
    · kernel_rfl
    · kernel_rfl
    try ((repeat rw [put_none]); (try simp only [put_some, List.setIfInBounds_toArray, List.set_cons_succ, List.set_cons_zero]))
    apply rem_sure 3 (by kernel_rfl) rfl (wanted_none rfl)
    · intro w2 hS K hK
      exact wp_load_row 52 _ rfl gE rfl 52 (arrI E) (0, 0) _ (hS.at_ (by simp)) Try.underlying52 rfl (by rw [sE]; exact info_num) (hK _ hS (Ext.refl _))
    · kernel_rfl
    · kernel_rfl
    try ((repeat rw [put_none]); (try simp only [put_some, List.setIfInBounds_toArray, List.set_cons_succ, List.set_cons_zero]))
    apply rem_sure 4 (by kernel_rfl) rfl (wanted_none rfl)
    · intro w2 hS K hK
      exact wp_load_row 52 _ rfl gAA rfl 52 (arrI AA) (0, 0) _ (hS.at_ (by simp)) Try.underlying52 rfl (by rw [sAA]; exact info_num) (hK _ hS (Ext.refl _))
    · kernel_rfl
    · kernel_rfl
    try ((repeat rw [put_none]); (try simp only [put_some, List.setIfInBounds_toArray, List.set_cons_succ, List.set_cons_zero]))
    apply rem_sure 6 (by kernel_rfl) rfl (wanted_none rfl)
    · intro w2 hS K hK
      exact wp_load_row 52 _ rfl gE rfl 52 (arrI E) (0, 0) _ (hS.at_ (by simp)) Try.underlying52 rfl (by rw [sE]; exact info_num) (hK _ hS (Ext.refl _))
    · kernel_rfl
    · kernel_rfl
    try ((repeat rw [put_none]); (try simp only [put_some, List.setIfInBounds_toArray, List.set_cons_succ, List.set_cons_zero]))
    refine rem_two 2 11 (by kernel_rfl) (step_of rfl (wanted_none rfl) ?_) (step_of rfl (wanted_none rfl) ?_)
    · intro v21 hS21 hE21 K hK
      go_wp2_with fail
      refine (rtimes_num AA BB _ _ _ HAA.out HBB.out).mono ?_
      rintro e u21 ⟨C, rfl, hC, hk21⟩
      have sC : (arrI C).size = 16 := by rw [arrI_size, hC.1]
      have HC := Lib.hid hC
      clear hC
      refine hK _ _ (hS21.keep hk21) ?_
      clear hK K
      try ((repeat rw [put_none]); (try simp only [put_some, List.setIfInBounds_toArray, List.set_cons_succ, List.set_cons_zero]))
      refine rem_two 5 11 (by kernel_rfl) (step_of rfl (wanted_none rfl) ?_) (step_of rfl (wanted_none rfl) ?_)
      · intro v22 hS22 hE22 K hK
        go_wp2_with fail
        refine (rsmall_any 121665 _ (by omega) (by omega)).mono ?_
        rintro e u22 ⟨KK, rfl, hKK, hk22⟩
        have sKK : (arrI KK).size = 16 := by rw [arrI_size, hKK.1]
        have HKK := Lib.hid hKK
        clear hKK
        refine hK _ _ (hS22.keep hk22) ?_
        clear hK K
        try ((repeat rw [put_none]); (try simp only [put_some, List.setIfInBounds_toArray, List.set_cons_succ, List.set_cons_zero]))
        refine rem_two 7 11 (by kernel_rfl) (step_of rfl (wanted_none rfl) ?_) (step_of rfl (wanted_none rfl) ?_)
        · intro v23 hS23 hE23 K hK
          go_wp2_with fail
          refine (rtimes_num KK E _ _ _ HKK.out HE.out).mono ?_
          rintro e u23 ⟨KE, rfl, hKE, hk23⟩
          have sKE : (arrI KE).size = 16 := by rw [arrI_size, hKE.1]
          have HKE := Lib.hid hKE
          clear hKE
          refine hK _ _ (hS23.keep hk23) ?_
          clear hK K
          try ((repeat rw [put_none]); (try simp only [put_some, List.setIfInBounds_toArray, List.set_cons_succ, List.set_cons_zero]))
          refine rem_two 8 11 (by kernel_rfl) (step_of rfl (wanted_none rfl) ?_) (step_of rfl (wanted_none rfl) ?_)
          · intro v24 hS24 hE24 K hK
            go_wp2_with fail
            refine (rplus_num AA KE _ _ _ HAA.out HKE.out).mono ?_
            rintro e u24 ⟨PP5, rfl, hPP5, hk24⟩
            have sPP5 : (arrI PP5).size = 16 := by rw [arrI_size, hPP5.1]
            have HPP5 := Lib.hid hPP5
            clear hPP5
            refine hK _ _ (hS24.keep hk24) ?_
            clear hK K
            try ((repeat rw [put_none]); (try simp only [put_some, List.setIfInBounds_toArray, List.set_cons_succ, List.set_cons_zero]))
            refine rem_two 9 11 (by kernel_rfl) (step_of rfl (wanted_none rfl) ?_) (step_of rfl (wanted_none rfl) ?_)
            · intro v25 hS25 hE25 K hK
              go_wp2_with fail
              refine (rtimes_num E PP5 _ _ _ HE.out HPP5.out).mono ?_
              rintro e u25 ⟨D, rfl, hD, hk25⟩
              have sD : (arrI D).size = 16 := by rw [arrI_size, hD.1]
              have HD := Lib.hid hD
              clear hD
              refine hK _ _ (hS25.keep hk25) ?_
              clear hK K
              try ((repeat rw [put_none]); (try simp only [put_some, List.setIfInBounds_toArray, List.set_cons_succ, List.set_cons_zero]))
              apply rem_sure 10 (by kernel_rfl) rfl (wanted_none rfl)
              · intro w2 hS K hK
                exact wp_build_pair _ _ rfl C D rfl rfl HC.out.1 HD.out.1 (hK _ hS (Ext.refl _))
              · kernel_rfl
              · kernel_rfl
              try ((repeat rw [put_none]); (try simp only [put_some, List.setIfInBounds_toArray, List.set_cons_succ, List.set_cons_zero]))
              refine rem_one 11 (by kernel_rfl) (step_of rfl (wanted_none rfl) ?_)
              intro v26 hS26 hE26 K hK
              go_wp2_with fail
              have al_nT := hS26
              refine hK _ _ (hS26.alloc _) ?_
              clear hK K
              try ((repeat rw [put_none]); (try simp only [put_some, List.setIfInBounds_toArray, List.set_cons_succ, List.set_cons_zero]))
              refine rem_one 12 (by kernel_rfl) (step_of rfl (wanted_none rfl) ?_)
              intro v27 hS27 hE27 K hK
              have hg_nT := (hE27 _ _ (heap_alloc_new v26 _))
              refine wp_store_row 91 _ _ rfl v26.heap.size (pc C D) rfl rfl 91 _ hg_nT (by rw [pc_size HC.out.1 HD.out.1]; exact infoQ) (by rw [pc_size HC.out.1 HD.out.1]; rfl) (pc_one C D) ?_
              refine hK _ _ (al_nT.storeNew hS27 _) ?_
              clear hK K
              try ((repeat rw [put_none]); (try simp only [put_some, List.setIfInBounds_toArray, List.set_cons_succ, List.set_cons_zero]))
              refine rem_nil ?_
              intro v9 hS9 hE9
              exact ⟨C, KK, KE, PP5, D, v26.heap.size, rfl, HC.out, HKK.out, HKE.out, HPP5.out, HD.out, al_nT.lt (p := (w.heap.size + 4, .cells z32 91 (0, 0))) (by simp), (hS9.add (hE9 _ _ (setRow_here hg_nT (pc C D))))⟩
            · intro v28 hS28 hE28 K hK
              go_wp2_with fail
              have al_nT := hS28
              refine hK _ _ (hS28.alloc _) ?_
              clear hK K
              try ((repeat rw [put_none]); (try simp only [put_some, List.setIfInBounds_toArray, List.set_cons_succ, List.set_cons_zero]))
              refine rem_one 9 (by kernel_rfl) (step_of rfl (wanted_none rfl) ?_)
              intro v29 hS29 hE29 K hK
              go_wp2_with fail
              refine (rtimes_num E PP5 _ _ _ HE.out HPP5.out).mono ?_
              rintro e u29 ⟨D, rfl, hD, hk29⟩
              have sD : (arrI D).size = 16 := by rw [arrI_size, hD.1]
              have HD := Lib.hid hD
              clear hD
              refine hK _ _ (hS29.keep hk29) ?_
              clear hK K
              try ((repeat rw [put_none]); (try simp only [put_some, List.setIfInBounds_toArray, List.set_cons_succ, List.set_cons_zero]))
              apply rem_sure 10 (by kernel_rfl) rfl (wanted_none rfl)
              · intro w2 hS K hK
                exact wp_build_pair _ _ rfl C D rfl rfl HC.out.1 HD.out.1 (hK _ hS (Ext.refl _))
              · kernel_rfl
              · kernel_rfl
              try ((repeat rw [put_none]); (try simp only [put_some, List.setIfInBounds_toArray, List.set_cons_succ, List.set_cons_zero]))
              refine rem_one 12 (by kernel_rfl) (step_of rfl (wanted_none rfl) ?_)
              intro v30 hS30 hE30 K hK
              have hg_nT := (hE30 _ _ (block_stay hk29 (hE29 _ _ (heap_alloc_new v28 _))))
              refine wp_store_row 91 _ _ rfl v28.heap.size (pc C D) rfl rfl 91 _ hg_nT (by rw [pc_size HC.out.1 HD.out.1]; exact infoQ) (by rw [pc_size HC.out.1 HD.out.1]; rfl) (pc_one C D) ?_
              refine hK _ _ (al_nT.storeNew hS30 _) ?_
              clear hK K
              try ((repeat rw [put_none]); (try simp only [put_some, List.setIfInBounds_toArray, List.set_cons_succ, List.set_cons_zero]))
              refine rem_nil ?_
              intro v9 hS9 hE9
              exact ⟨C, KK, KE, PP5, D, v28.heap.size, rfl, HC.out, HKK.out, HKE.out, HPP5.out, HD.out, al_nT.lt (p := (w.heap.size + 4, .cells z32 91 (0, 0))) (by simp), (hS9.add (hE9 _ _ (setRow_here hg_nT (pc C D))))⟩
          · intro v31 hS31 hE31 K hK
            go_wp2_with fail
            have al_nT := hS31
            refine hK _ _ (hS31.alloc _) ?_
            clear hK K
            try ((repeat rw [put_none]); (try simp only [put_some, List.setIfInBounds_toArray, List.set_cons_succ, List.set_cons_zero]))
            refine rem_one 8 (by kernel_rfl) (step_of rfl (wanted_none rfl) ?_)
            intro v32 hS32 hE32 K hK
            go_wp2_with fail
            refine (rplus_num AA KE _ _ _ HAA.out HKE.out).mono ?_
            rintro e u32 ⟨PP5, rfl, hPP5, hk32⟩
            have sPP5 : (arrI PP5).size = 16 := by rw [arrI_size, hPP5.1]
            have HPP5 := Lib.hid hPP5
            clear hPP5
            refine hK _ _ (hS32.keep hk32) ?_
            clear hK K
            try ((repeat rw [put_none]); (try simp only [put_some, List.setIfInBounds_toArray, List.set_cons_succ, List.set_cons_zero]))
            refine rem_one 9 (by kernel_rfl) (step_of rfl (wanted_none rfl) ?_)
            intro v33 hS33 hE33 K hK
            go_wp2_with fail
            refine (rtimes_num E PP5 _ _ _ HE.out HPP5.out).mono ?_
            rintro e u33 ⟨D, rfl, hD, hk33⟩
            have sD : (arrI D).size = 16 := by rw [arrI_size, hD.1]
            have HD := Lib.hid hD
            clear hD
            refine hK _ _ (hS33.keep hk33) ?_
            clear hK K
            try ((repeat rw [put_none]); (try simp only [put_some, List.setIfInBounds_toArray, List.set_cons_succ, List.set_cons_zero]))
            apply rem_sure 10 (by kernel_rfl) rfl (wanted_none rfl)
            · intro w2 hS K hK
              exact wp_build_pair _ _ rfl C D rfl rfl HC.out.1 HD.out.1 (hK _ hS (Ext.refl _))
            · kernel_rfl
            · kernel_rfl
            try ((repeat rw [put_none]); (try simp only [put_some, List.setIfInBounds_toArray, List.set_cons_succ, List.set_cons_zero]))
            refine rem_one 12 (by kernel_rfl) (step_of rfl (wanted_none rfl) ?_)
            intro v34 hS34 hE34 K hK
            have hg_nT := (hE34 _ _ (block_stay hk33 (hE33 _ _ (block_stay hk32 (hE32 _ _ (heap_alloc_new v31 _))))))
            refine wp_store_row 91 _ _ rfl v31.heap.size (pc C D) rfl rfl 91 _ hg_nT (by rw [pc_size HC.out.1 HD.out.1]; exact infoQ) (by rw [pc_size HC.out.1 HD.out.1]; rfl) (pc_one C D) ?_
            refine hK _ _ (al_nT.storeNew hS34 _) ?_
            clear hK K
            try ((repeat rw [put_none]); (try simp only [put_some, List.setIfInBounds_toArray, List.set_cons_succ, List.set_cons_zero]))
            refine rem_nil ?_
            intro v9 hS9 hE9
            exact ⟨C, KK, KE, PP5, D, v31.heap.size, rfl, HC.out, HKK.out, HKE.out, HPP5.out, HD.out, al_nT.lt (p := (w.heap.size + 4, .cells z32 91 (0, 0))) (by simp), (hS9.add (hE9 _ _ (setRow_here hg_nT (pc C D))))⟩
        · intro v35 hS35 hE35 K hK
          go_wp2_with fail
          have al_nT := hS35
          refine hK _ _ (hS35.alloc _) ?_
          clear hK K
          try ((repeat rw [put_none]); (try simp only [put_some, List.setIfInBounds_toArray, List.set_cons_succ, List.set_cons_zero]))
          refine rem_one 7 (by kernel_rfl) (step_of rfl (wanted_none rfl) ?_)
          intro v36 hS36 hE36 K hK
          go_wp2_with fail
          refine (rtimes_num KK E _ _ _ HKK.out HE.out).mono ?_
          rintro e u36 ⟨KE, rfl, hKE, hk36⟩
          have sKE : (arrI KE).size = 16 := by rw [arrI_size, hKE.1]
          have HKE := Lib.hid hKE
          clear hKE
          refine hK _ _ (hS36.keep hk36) ?_
          clear hK K
          try ((repeat rw [put_none]); (try simp only [put_some, List.setIfInBounds_toArray, List.set_cons_succ, List.set_cons_zero]))
          refine rem_one 8 (by kernel_rfl) (step_of rfl (wanted_none rfl) ?_)
          intro v37 hS37 hE37 K hK
          go_wp2_with fail
          refine (rplus_num AA KE _ _ _ HAA.out HKE.out).mono ?_
          rintro e u37 ⟨PP5, rfl, hPP5, hk37⟩
          have sPP5 : (arrI PP5).size = 16 := by rw [arrI_size, hPP5.1]
          have HPP5 := Lib.hid hPP5
          clear hPP5
          refine hK _ _ (hS37.keep hk37) ?_
          clear hK K
          try ((repeat rw [put_none]); (try simp only [put_some, List.setIfInBounds_toArray, List.set_cons_succ, List.set_cons_zero]))
          refine rem_one 9 (by kernel_rfl) (step_of rfl (wanted_none rfl) ?_)
          intro v38 hS38 hE38 K hK
          go_wp2_with fail
          refine (rtimes_num E PP5 _ _ _ HE.out HPP5.out).mono ?_
          rintro e u38 ⟨D, rfl, hD, hk38⟩
          have sD : (arrI D).size = 16 := by rw [arrI_size, hD.1]
          have HD := Lib.hid hD
          clear hD
          refine hK _ _ (hS38.keep hk38) ?_
          clear hK K
          try ((repeat rw [put_none]); (try simp only [put_some, List.setIfInBounds_toArray, List.set_cons_succ, List.set_cons_zero]))
          apply rem_sure 10 (by kernel_rfl) rfl (wanted_none rfl)
          · intro w2 hS K hK
            exact wp_build_pair _ _ rfl C D rfl rfl HC.out.1 HD.out.1 (hK _ hS (Ext.refl _))
          · kernel_rfl
          · kernel_rfl
          try ((repeat rw [put_none]); (try simp only [put_some, List.setIfInBounds_toArray, List.set_cons_succ, List.set_cons_zero]))
          refine rem_one 12 (by kernel_rfl) (step_of rfl (wanted_none rfl) ?_)
          intro v39 hS39 hE39 K hK
          have hg_nT := (hE39 _ _ (block_stay hk38 (hE38 _ _ (block_stay hk37 (hE37 _ _ (block_stay hk36 (hE36 _ _ (heap_alloc_new v35 _))))))))
          refine wp_store_row 91 _ _ rfl v35.heap.size (pc C D) rfl rfl 91 _ hg_nT (by rw [pc_size HC.out.1 HD.out.1]; exact infoQ) (by rw [pc_size HC.out.1 HD.out.1]; rfl) (pc_one C D) ?_
          refine hK _ _ (al_nT.storeNew hS39 _) ?_
          clear hK K
          try ((repeat rw [put_none]); (try simp only [put_some, List.setIfInBounds_toArray, List.set_cons_succ, List.set_cons_zero]))
          refine rem_nil ?_
          intro v9 hS9 hE9
          exact ⟨C, KK, KE, PP5, D, v35.heap.size, rfl, HC.out, HKK.out, HKE.out, HPP5.out, HD.out, al_nT.lt (p := (w.heap.size + 4, .cells z32 91 (0, 0))) (by simp), (hS9.add (hE9 _ _ (setRow_here hg_nT (pc C D))))⟩
      · intro v40 hS40 hE40 K hK
        go_wp2_with fail
        have al_nT := hS40
        refine hK _ _ (hS40.alloc _) ?_
        clear hK K
        try ((repeat rw [put_none]); (try simp only [put_some, List.setIfInBounds_toArray, List.set_cons_succ, List.set_cons_zero]))
        refine rem_one 5 (by kernel_rfl) (step_of rfl (wanted_none rfl) ?_)
        intro v41 hS41 hE41 K hK
        go_wp2_with fail
        refine (rsmall_any 121665 _ (by omega) (by omega)).mono ?_
        rintro e u41 ⟨KK, rfl, hKK, hk41⟩
        have sKK : (arrI KK).size = 16 := by rw [arrI_size, hKK.1]
        have HKK := Lib.hid hKK
        clear hKK
        refine hK _ _ (hS41.keep hk41) ?_
        clear hK K
        try ((repeat rw [put_none]); (try simp only [put_some, List.setIfInBounds_toArray, List.set_cons_succ, List.set_cons_zero]))
        refine rem_one 7 (by kernel_rfl) (step_of rfl (wanted_none rfl) ?_)
        intro v42 hS42 hE42 K hK
        go_wp2_with fail
        refine (rtimes_num KK E _ _ _ HKK.out HE.out).mono ?_
        rintro e u42 ⟨KE, rfl, hKE, hk42⟩
        have sKE : (arrI KE).size = 16 := by rw [arrI_size, hKE.1]
        have HKE := Lib.hid hKE
        clear hKE
        refine hK _ _ (hS42.keep hk42) ?_
        clear hK K
        try ((repeat rw [put_none]); (try simp only [put_some, List.setIfInBounds_toArray, List.set_cons_succ, List.set_cons_zero]))
        refine rem_one 8 (by kernel_rfl) (step_of rfl (wanted_none rfl) ?_)
        intro v43 hS43 hE43 K hK
        go_wp2_with fail
        refine (rplus_num AA KE _ _ _ HAA.out HKE.out).mono ?_
        rintro e u43 ⟨PP5, rfl, hPP5, hk43⟩
        have sPP5 : (arrI PP5).size = 16 := by rw [arrI_size, hPP5.1]
        have HPP5 := Lib.hid hPP5
        clear hPP5
        refine hK _ _ (hS43.keep hk43) ?_
        clear hK K
        try ((repeat rw [put_none]); (try simp only [put_some, List.setIfInBounds_toArray, List.set_cons_succ, List.set_cons_zero]))
        refine rem_one 9 (by kernel_rfl) (step_of rfl (wanted_none rfl) ?_)
        intro v44 hS44 hE44 K hK
        go_wp2_with fail
        refine (rtimes_num E PP5 _ _ _ HE.out HPP5.out).mono ?_
        rintro e u44 ⟨D, rfl, hD, hk44⟩
        have sD : (arrI D).size = 16 := by rw [arrI_size, hD.1]
        have HD := Lib.hid hD
        clear hD
        refine hK _ _ (hS44.keep hk44) ?_
        clear hK K
        try ((repeat rw [put_none]); (try simp only [put_some, List.setIfInBounds_toArray, List.set_cons_succ, List.set_cons_zero]))
        apply rem_sure 10 (by kernel_rfl) rfl (wanted_none rfl)
        · intro w2 hS K hK
          exact wp_build_pair _ _ rfl C D rfl rfl HC.out.1 HD.out.1 (hK _ hS (Ext.refl _))
        · kernel_rfl
        · kernel_rfl
        try ((repeat rw [put_none]); (try simp only [put_some, List.setIfInBounds_toArray, List.set_cons_succ, List.set_cons_zero]))
        refine rem_one 12 (by kernel_rfl) (step_of rfl (wanted_none rfl) ?_)
        intro v45 hS45 hE45 K hK
        have hg_nT := (hE45 _ _ (block_stay hk44 (hE44 _ _ (block_stay hk43 (hE43 _ _ (block_stay hk42 (hE42 _ _ (block_stay hk41 (hE41 _ _ (heap_alloc_new v40 _))))))))))
        refine wp_store_row 91 _ _ rfl v40.heap.size (pc C D) rfl rfl 91 _ hg_nT (by rw [pc_size HC.out.1 HD.out.1]; exact infoQ) (by rw [pc_size HC.out.1 HD.out.1]; rfl) (pc_one C D) ?_
        refine hK _ _ (al_nT.storeNew hS45 _) ?_
        clear hK K
        try ((repeat rw [put_none]); (try simp only [put_some, List.setIfInBounds_toArray, List.set_cons_succ, List.set_cons_zero]))
        refine rem_nil ?_
        intro v9 hS9 hE9
        exact ⟨C, KK, KE, PP5, D, v40.heap.size, rfl, HC.out, HKK.out, HKE.out, HPP5.out, HD.out, al_nT.lt (p := (w.heap.size + 4, .cells z32 91 (0, 0))) (by simp), (hS9.add (hE9 _ _ (setRow_here hg_nT (pc C D))))⟩
    · intro v46 hS46 hE46 K hK
      go_wp2_with fail
      have al_nT := hS46
      refine hK _ _ (hS46.alloc _) ?_
      clear hK K
      try ((repeat rw [put_none]); (try simp only [put_some, List.setIfInBounds_toArray, List.set_cons_succ, List.set_cons_zero]))
      refine rem_one 2 (by kernel_rfl) (step_of rfl (wanted_none rfl) ?_)
      intro v47 hS47 hE47 K hK
      go_wp2_with fail
      refine (rtimes_num AA BB _ _ _ HAA.out HBB.out).mono ?_
      rintro e u47 ⟨C, rfl, hC, hk47⟩
      have sC : (arrI C).size = 16 := by rw [arrI_size, hC.1]
      have HC := Lib.hid hC
      clear hC
      refine hK _ _ (hS47.keep hk47) ?_
      clear hK K
      try ((repeat rw [put_none]); (try simp only [put_some, List.setIfInBounds_toArray, List.set_cons_succ, List.set_cons_zero]))
      refine rem_one 5 (by kernel_rfl) (step_of rfl (wanted_none rfl) ?_)
      intro v48 hS48 hE48 K hK
      go_wp2_with fail
      refine (rsmall_any 121665 _ (by omega) (by omega)).mono ?_
      rintro e u48 ⟨KK, rfl, hKK, hk48⟩
      have sKK : (arrI KK).size = 16 := by rw [arrI_size, hKK.1]
      have HKK := Lib.hid hKK
      clear hKK
      refine hK _ _ (hS48.keep hk48) ?_
      clear hK K
      try ((repeat rw [put_none]); (try simp only [put_some, List.setIfInBounds_toArray, List.set_cons_succ, List.set_cons_zero]))
      refine rem_one 7 (by kernel_rfl) (step_of rfl (wanted_none rfl) ?_)
      intro v49 hS49 hE49 K hK
      go_wp2_with fail
      refine (rtimes_num KK E _ _ _ HKK.out HE.out).mono ?_
      rintro e u49 ⟨KE, rfl, hKE, hk49⟩
      have sKE : (arrI KE).size = 16 := by rw [arrI_size, hKE.1]
      have HKE := Lib.hid hKE
      clear hKE
      refine hK _ _ (hS49.keep hk49) ?_
      clear hK K
      try ((repeat rw [put_none]); (try simp only [put_some, List.setIfInBounds_toArray, List.set_cons_succ, List.set_cons_zero]))
      refine rem_one 8 (by kernel_rfl) (step_of rfl (wanted_none rfl) ?_)
      intro v50 hS50 hE50 K hK
      go_wp2_with fail
      refine (rplus_num AA KE _ _ _ HAA.out HKE.out).mono ?_
      rintro e u50 ⟨PP5, rfl, hPP5, hk50⟩
      have sPP5 : (arrI PP5).size = 16 := by rw [arrI_size, hPP5.1]
      have HPP5 := Lib.hid hPP5
      clear hPP5
      refine hK _ _ (hS50.keep hk50) ?_
      clear hK K
      try ((repeat rw [put_none]); (try simp only [put_some, List.setIfInBounds_toArray, List.set_cons_succ, List.set_cons_zero]))
      refine rem_one 9 (by kernel_rfl) (step_of rfl (wanted_none rfl) ?_)
      intro v51 hS51 hE51 K hK
      go_wp2_with fail
      refine (rtimes_num E PP5 _ _ _ HE.out HPP5.out).mono ?_
      rintro e u51 ⟨D, rfl, hD, hk51⟩
      have sD : (arrI D).size = 16 := by rw [arrI_size, hD.1]
      have HD := Lib.hid hD
      clear hD
      refine hK _ _ (hS51.keep hk51) ?_
      clear hK K
      try ((repeat rw [put_none]); (try simp only [put_some, List.setIfInBounds_toArray, List.set_cons_succ, List.set_cons_zero]))
      apply rem_sure 10 (by kernel_rfl) rfl (wanted_none rfl)
      · intro w2 hS K hK
        exact wp_build_pair _ _ rfl C D rfl rfl HC.out.1 HD.out.1 (hK _ hS (Ext.refl _))
      · kernel_rfl
      · kernel_rfl
      try ((repeat rw [put_none]); (try simp only [put_some, List.setIfInBounds_toArray, List.set_cons_succ, List.set_cons_zero]))
      refine rem_one 12 (by kernel_rfl) (step_of rfl (wanted_none rfl) ?_)
      intro v52 hS52 hE52 K hK
      have hg_nT := (hE52 _ _ (block_stay hk51 (hE51 _ _ (block_stay hk50 (hE50 _ _ (block_stay hk49 (hE49 _ _ (block_stay hk48 (hE48 _ _ (block_stay hk47 (hE47 _ _ (heap_alloc_new v46 _))))))))))))
      refine wp_store_row 91 _ _ rfl v46.heap.size (pc C D) rfl rfl 91 _ hg_nT (by rw [pc_size HC.out.1 HD.out.1]; exact infoQ) (by rw [pc_size HC.out.1 HD.out.1]; rfl) (pc_one C D) ?_
      refine hK _ _ (al_nT.storeNew hS52 _) ?_
      clear hK K
      try ((repeat rw [put_none]); (try simp only [put_some, List.setIfInBounds_toArray, List.set_cons_succ, List.set_cons_zero]))
      refine rem_nil ?_
      intro v9 hS9 hE9
      exact ⟨C, KK, KE, PP5, D, v46.heap.size, rfl, HC.out, HKK.out, HKE.out, HPP5.out, HD.out, al_nT.lt (p := (w.heap.size + 4, .cells z32 91 (0, 0))) (by simp), (hS9.add (hE9 _ _ (setRow_here hg_nT (pc C D))))⟩
  rintro b' w' ⟨C, KK, KE, PP5, D, gT, rfl, hC, hKK, hKE, hPP5, hD, lt_gT, hst⟩
  have sC : (arrI C).size = 16 := by rw [arrI_size, hC.1]
  have HC := Lib.hid hC
  clear hC
  have sKK : (arrI KK).size = 16 := by rw [arrI_size, hKK.1]
  have HKK := Lib.hid hKK
  clear hKK
  have sKE : (arrI KE).size = 16 := by rw [arrI_size, hKE.1]
  have HKE := Lib.hid hKE
  clear hKE
  have sPP5 : (arrI PP5).size = 16 := by rw [arrI_size, hPP5.1]
  have HPP5 := Lib.hid hPP5
  clear hPP5
  have sD : (arrI D).size = 16 := by rw [arrI_size, hD.1]
  have HD := Lib.hid hD
  clear hD
  try ((repeat rw [put_none]); (try simp only [put_some, List.setIfInBounds_toArray, List.set_cons_succ, List.set_cons_zero]))
  go_wp2_with fail
  have c6 := hst.at_ (g := (w.heap.size + 3)) (ob := .cells z32 91 (0, 0)) (by simp)
  have c7 := hst.at_ (g := (w.heap.size + 4)) (ob := .cells z32 91 (0, 0)) (by simp)
  have hsx := hst.sub (bm := [(gT, .cells (pc C D) 91 (0, 0)), (gDD, .cells (arrI DD) 52 (0, 0)), (gSS, .cells (arrI SS) 52 (0, 0)), (gCB, .cells (arrI CB) 52 (0, 0)), (gDA, .cells (arrI DA) 52 (0, 0)), (gE, .cells (arrI E) 52 (0, 0)), (gBB, .cells (arrI BB) 52 (0, 0)), (gAA, .cells (arrI AA) 52 (0, 0)), (gB, .cells (arrI B) 52 (0, 0)), (gA, .cells (arrI A) 52 (0, 0)), ((w.heap.size + 2), .cells (pc X2 Z2) 91 (0, 0)), ((w.heap.size + 1), .cells (pc X1 Z1) 91 (0, 0)), (w.heap.size, .cells (arrI U) 52 (0, 0))]) (by simp)
  refine wp_region_then (fun a b' w' => ∃ (F G H6 : List Int), b' = ((((((((((a.put (some 68) (.agg (pc C D))).put (some 69) (.agg (arrI SS))).put (some 70) (.agg (arrI SS))).put (some 71) (.agg (arrI F))).put (some 72) (.agg (arrI U))).put (some 73) (.agg (arrI DD))).put (some 74) (.agg (arrI DD))).put (some 75) (.agg (arrI G))).put (some 76) (.agg (arrI H6))).put (some 77) (.agg (pc F H6))) ∧ NumP F (((NX2 - NZ2) * (NX1 + NZ1) + (NX2 + NZ2) * (NX1 - NZ1)) * ((NX2 - NZ2) * (NX1 + NZ1) + (NX2 + NZ2) * (NX1 - NZ1))) ∧ NumP G (((NX2 - NZ2) * (NX1 + NZ1) - (NX2 + NZ2) * (NX1 - NZ1)) * ((NX2 - NZ2) * (NX1 + NZ1) - (NX2 + NZ2) * (NX1 - NZ1))) ∧ NumP H6 (NU * (((NX2 - NZ2) * (NX1 + NZ1) - (NX2 + NZ2) * (NX1 - NZ1)) * ((NX2 - NZ2) * (NX1 + NZ1) - (NX2 + NZ2) * (NX1 - NZ1)))) ∧ w'.heap[(w.heap.size + 3)]? = some (.cells (pc C D) 91 (0, 0)) ∧ w'.heap[(w.heap.size + 4)]? = some (.cells (pc F H6) 91 (0, 0)) ∧ Below w.heap.size w w') ?_ ?_
  · refine wp_region_rem (Kq w [(gT, .cells (pc C D) 91 (0, 0)), (gDD, .cells (arrI DD) 52 (0, 0)), (gSS, .cells (arrI SS) 52 (0, 0)), (gCB, .cells (arrI CB) 52 (0, 0)), (gDA, .cells (arrI DA) 52 (0, 0)), (gE, .cells (arrI E) 52 (0, 0)), (gBB, .cells (arrI BB) 52 (0, 0)), (gAA, .cells (arrI AA) 52 (0, 0)), (gB, .cells (arrI B) 52 (0, 0)), (gA, .cells (arrI A) 52 (0, 0)), ((w.heap.size + 2), .cells (pc X2 Z2) 91 (0, 0)), ((w.heap.size + 1), .cells (pc X1 Z1) 91 (0, 0)), (w.heap.size, .cells (arrI U) 52 (0, 0))]) (by kernel_rfl) (by kernel_rfl) (fun _ _ _ _ _ h => h.elim) hsx.drew ?_
    apply rem_sure 0 (by kernel_rfl) rfl (wanted_none rfl)
    · intro w2 hS K hK
      exact wp_load_row 91 _ rfl gT rfl 91 (pc C D) (0, 0) _ (hS.at_ (by simp)) Try.underlying91 rfl (by rw [pc_size HC.out.1 HD.out.1]; exact infoQ) (hK _ hS (Ext.refl _))
    · kernel_rfl
    · kernel_rfl
    try ((repeat rw [put_none]); (try simp only [put_some, List.setIfInBounds_toArray, List.set_cons_succ, List.set_cons_zero]))
    apply rem_sure 1 (by kernel_rfl) rfl (wanted_none rfl)
    · intro w2 hS K hK
      exact wp_load_row 52 _ rfl gSS rfl 52 (arrI SS) (0, 0) _ (hS.at_ (by simp)) Try.underlying52 rfl (by rw [sSS]; exact info_num) (hK _ hS (Ext.refl _))
    · kernel_rfl
    · kernel_rfl
    try ((repeat rw [put_none]); (try simp only [put_some, List.setIfInBounds_toArray, List.set_cons_succ, List.set_cons_zero]))
    apply rem_sure 2 (by kernel_rfl) rfl (wanted_none rfl)
    · intro w2 hS K hK
      exact wp_load_row 52 _ rfl gSS rfl 52 (arrI SS) (0, 0) _ (hS.at_ (by simp)) Try.underlying52 rfl (by rw [sSS]; exact info_num) (hK _ hS (Ext.refl _))
    · kernel_rfl
    · kernel_rfl
    try ((repeat rw [put_none]); (try simp only [put_some, List.setIfInBounds_toArray, List.set_cons_succ, List.set_cons_zero]))
    apply rem_sure 4 (by kernel_rfl) rfl (wanted_none rfl)
    · intro w2 hS K hK
      exact wp_load_row 52 _ rfl w.heap.size rfl 52 (arrI U) (0, 0) _ (hS.at_ (by simp)) Try.underlying52 rfl (by rw [sU]; exact info_num) (hK _ hS (Ext.refl _))
    · kernel_rfl
    · kernel_rfl
    try ((repeat rw [put_none]); (try simp only [put_some, List.setIfInBounds_toArray, List.set_cons_succ, List.set_cons_zero]))
    apply rem_sure 5 (by kernel_rfl) rfl (wanted_none rfl)
    · intro w2 hS K hK
      exact wp_load_row 52 _ rfl gDD rfl 52 (arrI DD) (0, 0) _ (hS.at_ (by simp)) Try.underlying52 rfl (by rw [sDD]; exact info_num) (hK _ hS (Ext.refl _))
    · kernel_rfl
    · kernel_rfl
    try ((repeat rw [put_none]); (try simp only [put_some, List.setIfInBounds_toArray, List.set_cons_succ, List.set_cons_zero]))
    apply rem_sure 6 (by kernel_rfl) rfl (wanted_none rfl)
    · intro w2 hS K hK
      exact wp_load_row 52 _ rfl gDD rfl 52 (arrI DD) (0, 0) _ (hS.at_ (by simp)) Try.underlying52 rfl (by rw [sDD]; exact info_num) (hK _ hS (Ext.refl _))
    · kernel_rfl
    · kernel_rfl
    try ((repeat rw [put_none]); (try simp only [put_some, List.setIfInBounds_toArray, List.set_cons_succ, List.set_cons_zero]))
    refine rem_one 3 (by kernel_rfl) (step_of rfl (wanted_none rfl) ?_)
    intro v21 hS21 hE21 K hK
    go_wp2_with fail
    refine (rtimes_num SS SS _ _ _ HSS.out HSS.out).mono ?_
    rintro e u21 ⟨F, rfl, hF, hk21⟩
    have sF : (arrI F).size = 16 := by rw [arrI_size, hF.1]
    have HF := Lib.hid hF
    clear hF
    refine hK _ _ (hS21.keep hk21) ?_
    clear hK K
    try ((repeat rw [put_none]); (try simp only [put_some, List.setIfInBounds_toArray, List.set_cons_succ, List.set_cons_zero]))
    refine rem_one 7 (by kernel_rfl) (step_of rfl (wanted_none rfl) ?_)
    intro v22 hS22 hE22 K hK
    go_wp2_with fail
    refine (rtimes_num DD DD _ _ _ HDD.out HDD.out).mono ?_
    rintro e u22 ⟨G, rfl, hG, hk22⟩
    have sG : (arrI G).size = 16 := by rw [arrI_size, hG.1]
    have HG := Lib.hid hG
    clear hG
    refine hK _ _ (hS22.keep hk22) ?_
    clear hK K
    try ((repeat rw [put_none]); (try simp only [put_some, List.setIfInBounds_toArray, List.set_cons_succ, List.set_cons_zero]))
    refine rem_one 8 (by kernel_rfl) (step_of rfl (wanted_none rfl) ?_)
    intro v23 hS23 hE23 K hK
    go_wp2_with fail
    refine (rtimes_num U G _ _ _ HU.out HG.out).mono ?_
    rintro e u23 ⟨H6, rfl, hH6, hk23⟩
    have sH6 : (arrI H6).size = 16 := by rw [arrI_size, hH6.1]
    have HH6 := Lib.hid hH6
    clear hH6
    refine hK _ _ (hS23.keep hk23) ?_
    clear hK K
    try ((repeat rw [put_none]); (try simp only [put_some, List.setIfInBounds_toArray, List.set_cons_succ, List.set_cons_zero]))
    apply rem_sure 9 (by kernel_rfl) rfl (wanted_none rfl)
    · intro w2 hS K hK
      exact wp_build_pair _ _ rfl F H6 rfl rfl HF.out.1 HH6.out.1 (hK _ hS (Ext.refl _))
    · kernel_rfl
    · kernel_rfl
    try ((repeat rw [put_none]); (try simp only [put_some, List.setIfInBounds_toArray, List.set_cons_succ, List.set_cons_zero]))
    refine rem_one 10 (by kernel_rfl) (step_of rfl (wanted_none rfl) ?_)
    intro v24 hS24 hE24 K hK
    have hg_c6 := (hE24 _ _ (block_stay hk23 (hE23 _ _ (block_stay hk22 (hE22 _ _ (block_stay hk21 (hE21 _ _ c6)))))))
    refine wp_store_row 91 _ _ rfl (w.heap.size + 3) (pc C D) rfl rfl 91 _ hg_c6 (by rw [pc_size HC.out.1 HD.out.1]; exact infoQ) (by rw [pc_size HC.out.1 HD.out.1]; exact s32) (pc_one C D) ?_
    refine hK _ _ (hS24.store (by omega) (by simp; omega) _) ?_
    clear hK K
    try ((repeat rw [put_none]); (try simp only [put_some, List.setIfInBounds_toArray, List.set_cons_succ, List.set_cons_zero]))
    refine rem_one 11 (by kernel_rfl) (step_of rfl (wanted_none rfl) ?_)
    intro v25 hS25 hE25 K hK
    have hg_c7 := (hE25 _ _ ((setRow_other _ _ _ (pc C D) (by omega)).trans (hE24 _ _ (block_stay hk23 (hE23 _ _ (block_stay hk22 (hE22 _ _ (block_stay hk21 (hE21 _ _ c7)))))))))
    refine wp_store_row 91 _ _ rfl (w.heap.size + 4) (pc F H6) rfl rfl 91 _ hg_c7 (by rw [pc_size HF.out.1 HH6.out.1]; exact infoQ) (by rw [pc_size HF.out.1 HH6.out.1]; exact s32) (pc_one F H6) ?_
    refine hK _ _ (hS25.store (by omega) (by simp; omega) _) ?_
    clear hK K
    try ((repeat rw [put_none]); (try simp only [put_some, List.setIfInBounds_toArray, List.set_cons_succ, List.set_cons_zero]))
    refine rem_nil ?_
    intro v9 hS9 hE9
    exact ⟨F, G, H6, rfl, HF.out, HG.out, HH6.out, (hE9 _ _ ((setRow_other _ _ _ (pc F H6) (by omega)).trans (hE25 _ _ (setRow_here hg_c6 (pc C D))))), (hE9 _ _ (setRow_here hg_c7 (pc F H6))), hS9.2⟩
  rintro b' w' ⟨F, G, H6, rfl, hF, hG, hH6, e6, e7, hb⟩
  try ((repeat rw [put_none]); (try simp only [put_some, List.setIfInBounds_toArray, List.set_cons_succ, List.set_cons_zero]))
  go_wp2_with fail
  refine ret_cell2 rfl (w.heap.size + 3) (w.heap.size + 4) _ _ (pc C D) (pc F H6) _ _ _ _ rfl rfl e6 e7 Try.underlying91 rfl (by rw [pc_size HC.out.1 HD.out.1]; exact infoQ) Try.underlying91 rfl (by rw [pc_size hF.1 hH6.1]; exact infoQ) rfl ?_
  exact ⟨C, D, F, H6, rfl, HC.out, HD.out, hF, hH6, hb⟩
end Go.Proofs.Ytenppmciabdefaa
