/- The walks of synodref03.Plus, Minus. No condition. -/
import Derived.Test.YtenppmciabdefaaWk
namespace Go.Proofs.Ytenppmciabdefaa
open Go.RowKit
def pz (f : Int → Int → Int) (A B : List Int) (k : Nat) : List Int := (List.range 16).map fun i => if i < k then f (A.getD i 0) (B.getD i 0) else A.getD i 0
theorem pz_length (f : Int → Int → Int) (A B : List Int) (k : Nat) : (pz f A B k).length = 16 := by simp [pz]
theorem pz_zero (f : Int → Int → Int) (A B : List Int) (hA : A.length = 16) : pz f A B 0 = A := by
  apply List.ext_getElem
  · simp [pz, hA]
  · intro i h1 h2
    simp [pz, h2]
theorem pz_at (f : Int → Int → Int) (A B : List Int) (k : Nat) (hk : k < 16) : (pz f A B k).getD k 0 = A.getD k 0 := by
  simp [pz, List.getD_eq_getElem?_getD, hk]
theorem pz_step (f : Int → Int → Int) (A B : List Int) (k : Nat) : (pz f A B k).set k (f (A.getD k 0) (B.getD k 0)) = pz f A B (k + 1) := by
  apply List.ext_getElem
  · simp [pz]
  · intro i h1 h2
    simp only [pz, List.getElem_set, List.getElem_map, List.getElem_range]
    by_cases h : k = i
    · subst h; simp
    · rw [if_neg h]
      by_cases h3 : i < k
      · rw [if_pos h3, if_pos (by omega)]
      · rw [if_neg h3, if_neg (by omega)]
theorem pz_lim (f : Int → Int → Int) (A B : List Int) (m : Int) (h : ∀ j, -m ≤ f (A.getD j 0) (B.getD j 0) ∧ f (A.getD j 0) (B.getD j 0) ≤ m) : ∀ x ∈ pz f A B 16, -m ≤ x ∧ x ≤ m := by
  intro x hx
  simp only [pz, List.mem_map, List.mem_range] at hx
  obtain ⟨i, hi, rfl⟩ := hx
  rw [if_pos hi]
  exact h i
theorem pz_add (A B : List Int) (hA : A.length = 16) (hB : B.length = 16) : valL (pz (· + ·) A B 16) = valL A + valL B := by
  obtain ⟨a0, a1, a2, a3, a4, a5, a6, a7, a8, a9, a10, a11, a12, a13, a14, a15, rfl⟩ := list16 hA
  obtain ⟨b0, b1, b2, b3, b4, b5, b6, b7, b8, b9, b10, b11, b12, b13, b14, b15, rfl⟩ := list16 hB
  have e : pz (· + ·) [a0, a1, a2, a3, a4, a5, a6, a7, a8, a9, a10, a11, a12, a13, a14, a15] [b0, b1, b2, b3, b4, b5, b6, b7, b8, b9, b10, b11, b12, b13, b14, b15] 16 = [a0 + b0, a1 + b1, a2 + b2, a3 + b3, a4 + b4, a5 + b5, a6 + b6, a7 + b7, a8 + b8, a9 + b9, a10 + b10, a11 + b11, a12 + b12, a13 + b13, a14 + b14, a15 + b15] := rfl
  rw [e]
  simp only [valL]
  omega
theorem pz_sub (A B : List Int) (hA : A.length = 16) (hB : B.length = 16) : valL (pz (· - ·) A B 16) = valL A - valL B := by
  obtain ⟨a0, a1, a2, a3, a4, a5, a6, a7, a8, a9, a10, a11, a12, a13, a14, a15, rfl⟩ := list16 hA
  obtain ⟨b0, b1, b2, b3, b4, b5, b6, b7, b8, b9, b10, b11, b12, b13, b14, b15, rfl⟩ := list16 hB
  have e : pz (· - ·) [a0, a1, a2, a3, a4, a5, a6, a7, a8, a9, a10, a11, a12, a13, a14, a15] [b0, b1, b2, b3, b4, b5, b6, b7, b8, b9, b10, b11, b12, b13, b14, b15] 16 = [a0 - b0, a1 - b1, a2 - b2, a3 - b3, a4 - b4, a5 - b5, a6 - b6, a7 - b7, a8 - b8, a9 - b9, a10 - b10, a11 - b11, a12 - b12, a13 - b13, a14 - b14, a15 - b15] := rfl
  rw [e]
  simp only [valL]
  omega
theorem valL_big (L : List Int) (hL : L.length = 16) (h : ∀ x ∈ L, -262144 ≤ x ∧ x ≤ 262144) : -578960446186580977117854925043439539266349923328202820197287920039565648199680 ≤ valL L ∧ valL L ≤ 578960446186580977117854925043439539266349923328202820197287920039565648199680 := by
  obtain ⟨a0, a1, a2, a3, a4, a5, a6, a7, a8, a9, a10, a11, a12, a13, a14, a15, rfl⟩ := list16 hL
  simp only [List.mem_cons, List.not_mem_nil, or_false, forall_eq_or_imp, forall_eq] at h
  simp only [valL]
  omega
/-- One carry of small limbs. -/
theorem carR_once {L M : List Int} {N : Int} (hl : L.length = 16) (hb : ∀ x ∈ L, -262144 ≤ x ∧ x ≤ 262144) (h : CarR L M) (hN : PP ∣ valL L - N) : NumP M N := by
  have hv := valL_big L hl hb
  obtain ⟨q, e, hl', hq, hbb, hx⟩ := carR_in h
  have hq2 : -6 ≤ q ∧ q ≤ 6 := by
    obtain ⟨t, ht⟩ : ∃ t, t = valL M - 38 * q := ⟨_, rfl⟩
    have e2 : valL L = t + 115792089237316195423570985008687907853269984665640564039457584007913129639936 * q := by unfold PP at *; omega
    rw [← ht] at hbb
    clear ht e hN
    omega
  refine ⟨hl', fun x hm => ?_, ?_⟩
  · have := hx x hm
    split at this <;> split at this <;> omega
  · obtain ⟨k, hk⟩ := hN
    exact ⟨k - 2 * q, by rw [e]; grind⟩
theorem three_at1 (w : World) (A B C : Obj) : (((w.alloc A).alloc B).alloc C).heap[w.heap.size + 1]? = some B := by
  rw [heap_at, size_at, size_at, if_neg (by omega), heap_at, size_at, if_pos rfl]
set_option maxRecDepth 100000 in
set_option maxHeartbeats 8000000 in
theorem rplus_any (A B : List Int) (w : World) (hA : A.length = 16) (hB : B.length = 16) (lA : Lim 131072 A) (lB : Lim 131072 B) :
    Calls Try.prog 43 #[numV A, numV B] w fun e w' => ∃ M : List Int, e = .returned (numV M) ∧ NumP M (valL A + valL B) ∧ Below w.heap.size w w' := by
  have en : ∀ L, numV L = .agg (arrI L) := fun _ => rfl
  rw [en, en]
  have sA : (arrI A).size = 16 := by simp [arrI, hA]
  have sB : (arrI B).size = 16 := by simp [arrI, hB]
  go_enter Try.func43, Try.ntmps43
  go_wp2
  obtain ⟨W0, hW0, hz, hb0, q0, q1, q2⟩ := three_new w (.cells (arrI (pz (· + ·) A B 0)) 52) (.cells (arrI B) 52) (.cells #[.int .i64 0, .int .i64 0, .int .i64 0, .int .i64 0, .int .i64 0, .int .i64 0, .int .i64 0, .int .i64 0, .int .i64 0, .int .i64 0, .int .i64 0, .int .i64 0, .int .i64 0, .int .i64 0, .int .i64 0, .int .i64 0] 52)
  have e0 := pz_zero (· + ·) A B hA
  rw [e0] at hW0 q0
  rw [hW0]
  have HZ := Lib.hid hz
  have HA := Lib.hid hA
  have HB := Lib.hid hB
  have E0 := Lib.hid e0
  clear hW0 hz hA hB e0
  go_loopw [5] (fun i wr => ∃ k : Nat, k ≤ 16 ∧ i = .int .i64 k ∧ OneBlk W0 w.heap.size 52 (arrI (pz (· + ·) A B k)) wr) (fun i _ => 16 - (intOf i).toNat)
  case atStart => exact ⟨0, by omega, rfl, by rw [E0.out]; exact OneBlk.start q0⟩
  case round =>
    obtain ⟨k, hk, rfl, hI⟩ := hrel
    by_cases hklt : k < 16
    · have HI := Lib.hid hI
      have d0 : wr.cell? ⟨w.heap.size, k, none⟩ = some (.int .i64 (A.getD k 0)) := (hI.cell k).trans ((arrI_at _ _ (by rw [pz_length]; omega)).trans (by rw [pz_at _ _ _ _ hklt]))
      have f0 := hI.free k
      have d1 : wr.cell? ⟨w.heap.size + 1, k, none⟩ = some (.int .i64 (B.getD k 0)) := (hI.farCell (by omega)).trans ((cell_of_row W0 _ k _ _ _ q1).trans (arrI_at _ _ (by rw [HB.out]; omega)))
      have l1 := lA k
      have l2 := lB k
      have hstep := pz_step (· + ·) A B k
      have HS : Hid (arrI (pz (· + ·) A B (k + 1)) = (arrI (pz (· + ·) A B k)).setIfInBounds k (.int .i64 (A.getD k 0 + B.getD k 0))) := by
        show _ = _
        rw [← hstep, arrI_set]
      generalize A.getD k 0 = tv at *
      generalize B.getD k 0 = uv at *
      clear hstep hI
      go_wp2; go_region; go_wp2
      go_roundw
      case rel => exact ⟨k + 1, by omega, by go_num, by rw [HS.out]; exact (HI.out.setCell k (.int .i64 (tv + uv))).drew⟩
      case measure => simp [intOf]; omega
    · have : k = 16 := by omega
      subst this
      have hF := hI.blk
      have hR := hI.far (i := w.heap.size + 1 + 1) (by omega) q2
      have hbI := hI.below hb0 (Nat.le_refl _)
      have hzI := Lib.hid hI.size
      clear hI
      go_wp2_with (refine wpList_load_row rfl 52 _ rfl w.heap.size rfl _ _ _ _ hF Try.underlying52 rfl (by kernel_rfl) ?_)
      refine (rcarry_any (pz (· + ·) A B 16) _ (pz_length _ _ _ _) (fun x hx => by have := pz_lim _ A B 262144 (fun j => by have := lA j; have := lB j; omega) x hx; omega)).mono ?_
      rintro e w2 ⟨M, rfl, hM, hb2⟩
      have hN : NumP M (valL A + valL B) := carR_once (pz_length _ _ _ _) (fun x hx => pz_lim _ A B 262144 (fun j => by have := lA j; have := lB j; omega) x hx) hM (by rw [pz_add A B HA.out HB.out]; exact ⟨0, by omega⟩)
      have hres : w2.heap[w.heap.size + 1 + 1]? = some (.cells #[.int .i64 0, .int .i64 0, .int .i64 0, .int .i64 0, .int .i64 0, .int .i64 0, .int .i64 0, .int .i64 0, .int .i64 0, .int .i64 0, .int .i64 0, .int .i64 0, .int .i64 0, .int .i64 0, .int .i64 0, .int .i64 0] 52 (0, 0)) := block_stay hb2 hR
      have sM : (arrI M).size = 16 := by rw [arrI_size, hN.1]
      have HN := Lib.hid hN
      clear hM hN hF
      go_wp2_with (refine wpList_store_row rfl 52 (.tmp 4) (.tmp 23) rfl (w.heap.size + 1 + 1) (arrI M) rfl rfl 52 _ hres (by rw [sM]; exact info_num) (by rw [sM]; rfl) (arrI_one M) ?_)
      refine ret_cell rfl (w.heap.size + 1 + 1) _ _ _ _ rfl (setRow_self hres _) Try.underlying52 rfl (by rw [sM]; exact info_num) rfl ?_
      exact ⟨M, rfl, HN.out, below_setRow (hbI.trans (hb2.mono (by have := hzI.out; have := HZ.out; omega))) (by omega) _⟩
set_option maxRecDepth 100000 in
set_option maxHeartbeats 8000000 in
theorem rminus_any (A B : List Int) (w : World) (hA : A.length = 16) (hB : B.length = 16) (lA : Lim 131072 A) (lB : Lim 131072 B) :
    Calls Try.prog 45 #[numV A, numV B] w fun e w' => ∃ M : List Int, e = .returned (numV M) ∧ NumP M (valL A - valL B) ∧ Below w.heap.size w w' := by
  have en : ∀ L, numV L = .agg (arrI L) := fun _ => rfl
  rw [en, en]
  have sA : (arrI A).size = 16 := by simp [arrI, hA]
  have sB : (arrI B).size = 16 := by simp [arrI, hB]
  go_enter Try.func45, Try.ntmps45
  go_wp2
  obtain ⟨W0, hW0, hz, hb0, q0, q1, q2⟩ := three_new w (.cells (arrI (pz (· - ·) A B 0)) 52) (.cells (arrI B) 52) (.cells #[.int .i64 0, .int .i64 0, .int .i64 0, .int .i64 0, .int .i64 0, .int .i64 0, .int .i64 0, .int .i64 0, .int .i64 0, .int .i64 0, .int .i64 0, .int .i64 0, .int .i64 0, .int .i64 0, .int .i64 0, .int .i64 0] 52)
  have e0 := pz_zero (· - ·) A B hA
  rw [e0] at hW0 q0
  rw [hW0]
  have HZ := Lib.hid hz
  have HA := Lib.hid hA
  have HB := Lib.hid hB
  have E0 := Lib.hid e0
  clear hW0 hz hA hB e0
  go_loopw [5] (fun i wr => ∃ k : Nat, k ≤ 16 ∧ i = .int .i64 k ∧ OneBlk W0 w.heap.size 52 (arrI (pz (· - ·) A B k)) wr) (fun i _ => 16 - (intOf i).toNat)
  case atStart => exact ⟨0, by omega, rfl, by rw [E0.out]; exact OneBlk.start q0⟩
  case round =>
    obtain ⟨k, hk, rfl, hI⟩ := hrel
    by_cases hklt : k < 16
    · have HI := Lib.hid hI
      have d0 : wr.cell? ⟨w.heap.size, k, none⟩ = some (.int .i64 (A.getD k 0)) := (hI.cell k).trans ((arrI_at _ _ (by rw [pz_length]; omega)).trans (by rw [pz_at _ _ _ _ hklt]))
      have f0 := hI.free k
      have d1 : wr.cell? ⟨w.heap.size + 1, k, none⟩ = some (.int .i64 (B.getD k 0)) := (hI.farCell (by omega)).trans ((cell_of_row W0 _ k _ _ _ q1).trans (arrI_at _ _ (by rw [HB.out]; omega)))
      have l1 := lA k
      have l2 := lB k
      have hstep := pz_step (· - ·) A B k
      have HS : Hid (arrI (pz (· - ·) A B (k + 1)) = (arrI (pz (· - ·) A B k)).setIfInBounds k (.int .i64 (A.getD k 0 - B.getD k 0))) := by
        show _ = _
        rw [← hstep, arrI_set]
      generalize A.getD k 0 = tv at *
      generalize B.getD k 0 = uv at *
      clear hstep hI
      go_wp2; go_region; go_wp2
      go_roundw
      case rel => exact ⟨k + 1, by omega, by go_num, by rw [HS.out]; exact (HI.out.setCell k (.int .i64 (tv - uv))).drew⟩
      case measure => simp [intOf]; omega
    · have : k = 16 := by omega
      subst this
      have hF := hI.blk
      have hR := hI.far (i := w.heap.size + 1 + 1) (by omega) q2
      have hbI := hI.below hb0 (Nat.le_refl _)
      have hzI := Lib.hid hI.size
      clear hI
      go_wp2_with (refine wpList_load_row rfl 52 _ rfl w.heap.size rfl _ _ _ _ hF Try.underlying52 rfl (by kernel_rfl) ?_)
      refine (rcarry_any (pz (· - ·) A B 16) _ (pz_length _ _ _ _) (fun x hx => by have := pz_lim _ A B 262144 (fun j => by have := lA j; have := lB j; omega) x hx; omega)).mono ?_
      rintro e w2 ⟨M, rfl, hM, hb2⟩
      have hN : NumP M (valL A - valL B) := carR_once (pz_length _ _ _ _) (fun x hx => pz_lim _ A B 262144 (fun j => by have := lA j; have := lB j; omega) x hx) hM (by rw [pz_sub A B HA.out HB.out]; exact ⟨0, by omega⟩)
      have hres : w2.heap[w.heap.size + 1 + 1]? = some (.cells #[.int .i64 0, .int .i64 0, .int .i64 0, .int .i64 0, .int .i64 0, .int .i64 0, .int .i64 0, .int .i64 0, .int .i64 0, .int .i64 0, .int .i64 0, .int .i64 0, .int .i64 0, .int .i64 0, .int .i64 0, .int .i64 0] 52 (0, 0)) := block_stay hb2 hR
      have sM : (arrI M).size = 16 := by rw [arrI_size, hN.1]
      have HN := Lib.hid hN
      clear hM hN hF
      go_wp2_with (refine wpList_store_row rfl 52 (.tmp 4) (.tmp 23) rfl (w.heap.size + 1 + 1) (arrI M) rfl rfl 52 _ hres (by rw [sM]; exact info_num) (by rw [sM]; rfl) (arrI_one M) ?_)
      refine ret_cell rfl (w.heap.size + 1 + 1) _ _ _ _ rfl (setRow_self hres _) Try.underlying52 rfl (by rw [sM]; exact info_num) rfl ?_
      exact ⟨M, rfl, HN.out, below_setRow (hbI.trans (hb2.mono (by have := hzI.out; have := HZ.out; omega))) (by omega) _⟩
end Go.Proofs.Ytenppmciabdefaa
