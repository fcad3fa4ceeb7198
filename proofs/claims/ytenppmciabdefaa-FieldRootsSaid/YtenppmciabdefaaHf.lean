/- The walks of synodref03.Same and fit. No condition. -/
import Derived.Test.YtenppmciabdefaaHe
namespace Go.Proofs.Ytenppmciabdefaa
open Go Go.RowKit
theorem str_same (A B : Int) : ((strOfNums (leB (A % PP))).toList == (strOfNums (leB (B % PP))).toList) = sameB A B := by
  by_cases h : PP ∣ A - B
  · rw [str_yes h, sameB_yes h]
  · rw [str_no h, sameB_no h]
/-- Blocks and slices of bytes that are known. -/
def SN (w : World) (bl : List (Nat × Array Value)) (bs : List (Option Addr × List Int)) (w' : World) : Prop := StN w bl w' ∧ SBy w bs w'
theorem SN.keep {w w1 w2 : World} {bl : List (Nat × Array Value)} {bs : List (Option Addr × List Int)} (h : SN w bl bs w1) (hb : Below w1.heap.size w1 w2) : SN w bl bs w2 := ⟨h.1.keep hb, h.2.keep hb⟩
theorem remSN {P : Program} {ops : Array Oper} {Q : Exit → Act → World → Prop} {w : World} {bl : List (Nat × Array Value)} {bs : List (Option Addr × List Int)} {rem : List Nat} {a : Act} {w0 : World} {p : Option Addr} {l : List Int} (hb : Bs w0 p 32 l)
    (h : Rem P ops Q (SN w bl ((p, l) :: bs)) rem a w0) : Rem P ops Q (SN w bl bs) rem a w0 :=
  rem_to _ (fun _ hS hE => ⟨hS.1, hS.2.add (hb.ext hE)⟩) (fun _ h => ⟨h.1, h.2.tail⟩) (fun _ _ h hE hS => ⟨hS.1, hS.2.add ((h.2.at_ (p := p) (l := l) (by simp)).ext hE)⟩) h
set_option maxRecDepth 100000 in
set_option maxHeartbeats 4000000 in
theorem rsame_num (A B : List Int) (U V : Int) (w : World) (hA : NumP A U) (hB : NumP B V) : Calls Try.prog 97 #[numV A, numV B] w fun e w' => e = .returned (.bool (sameB U V)) ∧ Below w.heap.size w w' := by
  have en : ∀ L, numV L = .agg (arrI L) := fun _ => rfl
  rw [en, en]
  have sA : (arrI A).size = 16 := by rw [arrI_size, hA.1]
  have sB : (arrI B).size = 16 := by rw [arrI_size, hB.1]
  have HA := Lib.hid hA
  have HB := Lib.hid hB
  have hq := str_same U V
  generalize sameB U V = b at *
  obtain ⟨W0, hW0, hz, hb0, q0, q1⟩ := two_new w (.cells (arrI A) 52) (.cells (arrI B) 52)
  have hst0 : StN w [] W0 := ⟨by simp, hb0⟩
  have hst1 := (hst0.add q1).add q0
  have hst : SN w [(w.heap.size, arrI A), (w.heap.size + 1, arrI B)] [] W0.drew := ⟨hst1.drew, ⟨by simp, hb0.drew⟩⟩
  have HW := Lib.hid hW0
  clear hz hb0 q0 q1 hW0 hst0 hst1 hA hB
  go_enter Try.func97, Try.ntmps97
  go_wp2_with fail
  rw [HW.out]
  refine wp_region_rem (SN w [(w.heap.size, arrI A), (w.heap.size + 1, arrI B)] []) (by kernel_rfl) (by kernel_rfl) (fun _ _ d _ _ h => by cases d <;> exact h) hst ?_
  apply rem_sure 0 (by kernel_rfl) rfl (wanted_none rfl)
  · intro w2 hS K hK
    exact wp_load_row 52 _ rfl w.heap.size rfl _ (arrI A) _ _ (hS.1.at_ (by simp)) Try.underlying52 rfl (by rw [sA]; exact info_num) (hK _ hS (Ext.refl _))
  · kernel_rfl
  · kernel_rfl
  try simp only [put_some, List.setIfInBounds_toArray, List.set_cons_succ, List.set_cons_zero]
  apply rem_sure 3 (by kernel_rfl) rfl (wanted_none rfl)
  · intro w2 hS K hK
    exact wp_load_row 52 _ rfl (w.heap.size + 1) rfl _ (arrI B) _ _ (hS.1.at_ (by simp)) Try.underlying52 rfl (by rw [sB]; exact info_num) (hK _ hS (Ext.refl _))
  · kernel_rfl
  · kernel_rfl
  try simp only [put_some, List.setIfInBounds_toArray, List.set_cons_succ, List.set_cons_zero]
  refine rem_one 1 (by kernel_rfl) (step_of rfl (wanted_none rfl) ?_)
  intro v21 hS21 _ K hK
  go_wp2_with fail
  refine (rbytes_num A _ _ HA.out).mono ?_
  rintro e u21 ⟨g21, c21, rfl, _, hB21, hk21⟩
  refine hK _ _ (hS21.keep hk21) ?_
  clear hK K
  try simp only [put_some, List.setIfInBounds_toArray, List.set_cons_succ, List.set_cons_zero]
  refine remSN hB21 ?_
  apply rem_sure 2 (by kernel_rfl) rfl (wanted_none rfl)
  · intro w2 hS K hK
    have cv := conv_at (cap := c21) (hS.2.at_ (p := some ⟨g21, 0, none⟩) (l := leB (U % PP)) (by simp))
    go_wp2_with fail
    exact hK _ hS (Ext.refl _)
  · kernel_rfl
  · kernel_rfl
  try simp only [put_some, List.setIfInBounds_toArray, List.set_cons_succ, List.set_cons_zero]
  refine rem_one 4 (by kernel_rfl) (step_of rfl (wanted_none rfl) ?_)
  intro v22 hS22 _ K hK
  go_wp2_with fail
  refine (rbytes_num B _ _ HB.out).mono ?_
  rintro e u22 ⟨g22, c22, rfl, _, hB22, hk22⟩
  refine hK _ _ (hS22.keep hk22) ?_
  clear hK K
  try simp only [put_some, List.setIfInBounds_toArray, List.set_cons_succ, List.set_cons_zero]
  refine remSN hB22 ?_
  apply rem_sure 5 (by kernel_rfl) rfl (wanted_none rfl)
  · intro w2 hS K hK
    have cv := conv_at (cap := c22) (hS.2.at_ (p := some ⟨g22, 0, none⟩) (l := leB (V % PP)) (by simp))
    go_wp2_with fail
    exact hK _ hS (Ext.refl _)
  · kernel_rfl
  · kernel_rfl
  try simp only [put_some, List.setIfInBounds_toArray, List.set_cons_succ, List.set_cons_zero]
  apply rem_sure 6 (by kernel_rfl) rfl (wanted_none rfl)
  · intro w2 hS K hK
    go_wp2_with fail
    exact hK _ hS (Ext.refl _)
  · kernel_rfl
  · kernel_rfl
  try simp only [put_some, List.setIfInBounds_toArray, List.set_cons_succ, List.set_cons_zero]
  apply rem_sure 7 (by kernel_rfl) rfl (wanted_none rfl)
  · intro w2 hS K hK
    go_wp2_with fail
    exact hK _ hS (Ext.refl _)
  · kernel_rfl
  · kernel_rfl
  try simp only [put_some, List.setIfInBounds_toArray, List.set_cons_succ, List.set_cons_zero]
  refine rem_nil ?_
  intro v9 hS9 hE9
  go_wp2
  go_ret
  exact ⟨rfl, hS9.1.2⟩
/-- A root that is one, or might be. -/
def fitV (U V : Int) : Int := if sameB (U * U) V then U else U * rootM1
theorem fitV_rX (U V : Int) : fitV (peighth (rQ U V)) (rQ U V) = rX U V := rfl
set_option maxRecDepth 100000 in
set_option maxHeartbeats 8000000 in
theorem fit_num (A B : List Int) (U V : Int) (w : World) (hA : NumP A U) (hB : NumP B V) : Calls Try.prog 96 #[numV A, numV B] w (ResN w (fitV U V)) := by
  have en : ∀ L, numV L = .agg (arrI L) := fun _ => rfl
  rw [en, en]
  have sA : (arrI A).size = 16 := by rw [arrI_size, hA.1]
  have sB : (arrI B).size = 16 := by rw [arrI_size, hB.1]
  have HA := Lib.hid hA
  have HB := Lib.hid hB
  obtain ⟨W0, hW0, hz, hb0, q0, q1, q2⟩ := three_new w (.cells (arrI A) 52) (.cells (arrI B) 52) (.cells zero16 52)
  have hst0 : StN w [] W0 := ⟨by simp, hb0⟩
  have hst := (hst0.add q1).add q0
  have cz : W0.heap[w.heap.size + 1 + 1]? = some (.cells zero16 52 (0, 0)) := q2
  have HW : Hid (((w.alloc (.cells (arrI A) 52)).alloc (.cells (arrI B) 52)).alloc (.cells #[.int .i64 0, .int .i64 0, .int .i64 0, .int .i64 0, .int .i64 0, .int .i64 0, .int .i64 0, .int .i64 0, .int .i64 0, .int .i64 0, .int .i64 0, .int .i64 0, .int .i64 0, .int .i64 0, .int .i64 0, .int .i64 0] 52) = W0) := hW0
  have hne : ∀ p ∈ [(w.heap.size, arrI A), (w.heap.size + 1, arrI B)], p.1 ≠ w.heap.size + 1 + 1 := by simp; omega
  have HNE := Lib.hid hne
  clear hz hb0 q0 q1 q2 hW0 hst0 hA hB hne
  go_enter Try.func96, Try.ntmps96
  go_wp2_with fail
  rw [HW.out]
  clear HW
  cases c1 : sameB (U * U) V
  · have hif : fitV U V = U * rootM1 := by unfold fitV; rw [c1]; rfl
    have HIF := Lib.hid hif
    clear hif
    refine wp_region_rem (StN w [(w.heap.size, arrI A), (w.heap.size + 1, arrI B)]) (by kernel_rfl) (by kernel_rfl) (fun _ _ d _ _ h => by cases d <;> exact h) hst.drew ?_
    apply rem_sure 0 (by kernel_rfl) rfl (wanted_none rfl)
    · intro w2 hS K hK
      exact wp_load_row 52 _ rfl w.heap.size rfl _ (arrI A) _ _ (hS.at_ (by simp)) Try.underlying52 rfl (by rw [sA]; exact info_num) (hK _ hS (Ext.refl _))
    · kernel_rfl
    · kernel_rfl
    try simp only [put_some, List.setIfInBounds_toArray, List.set_cons_succ, List.set_cons_zero]
    apply rem_sure 1 (by kernel_rfl) rfl (wanted_none rfl)
    · intro w2 hS K hK
      exact wp_load_row 52 _ rfl w.heap.size rfl _ (arrI A) _ _ (hS.at_ (by simp)) Try.underlying52 rfl (by rw [sA]; exact info_num) (hK _ hS (Ext.refl _))
    · kernel_rfl
    · kernel_rfl
    try simp only [put_some, List.setIfInBounds_toArray, List.set_cons_succ, List.set_cons_zero]
    apply rem_sure 3 (by kernel_rfl) rfl (wanted_none rfl)
    · intro w2 hS K hK
      exact wp_load_row 52 _ rfl (w.heap.size + 1) rfl _ (arrI B) _ _ (hS.at_ (by simp)) Try.underlying52 rfl (by rw [sB]; exact info_num) (hK _ hS (Ext.refl _))
    · kernel_rfl
    · kernel_rfl
    try simp only [put_some, List.setIfInBounds_toArray, List.set_cons_succ, List.set_cons_zero]
    refine rem_one 2 (by kernel_rfl) (step_of rfl (wanted_none rfl) ?_)
    intro v21 hS21 hE21 K hK
    go_wp2_with fail
    refine (rtimes_num A A _ _ _ HA.out HA.out).mono ?_
    rintro e u21 ⟨S, rfl, hS, hk21⟩
    rw [en]
    have sS : (arrI S).size = 16 := by rw [arrI_size, hS.1]
    have HS := Lib.hid hS
    clear hS
    refine hK _ _ (hS21.keep hk21) ?_
    clear hK K
    try simp only [put_some, List.setIfInBounds_toArray, List.set_cons_succ, List.set_cons_zero]
    refine rem_one 4 (by kernel_rfl) (step_of rfl (wanted_none rfl) ?_)
    intro v22 hS22 hE22 K hK
    go_wp2_with fail
    refine (rsame_num S B _ _ _ HS.out HB.out).mono ?_
    rintro e u22 ⟨rfl, hk22⟩
    rw [c1]
    refine hK _ _ (hS22.keep hk22) ?_
    clear hK K
    try simp only [put_some, List.setIfInBounds_toArray, List.set_cons_succ, List.set_cons_zero]
    refine rem_nil ?_
    intro v9 hS9 hE9
    have cz := (hE9 _ _ (block_stay hk22 (hE22 _ _ (block_stay hk21 (hE21 _ _ cz)))))
    have hst := hS9
    clear hS9 hE9
    generalize v9 = w4 at *
    go_wp2_with fail
    refine wp_region_rem (StN w [(w.heap.size, arrI A), (w.heap.size + 1, arrI B)]) (by kernel_rfl) (by kernel_rfl) (fun _ _ d _ _ h => by cases d <;> exact h) hst.drew ?_
    apply rem_sure 0 (by kernel_rfl) rfl (wanted_none rfl)
    · intro w2 hS K hK
      exact wp_load_row 52 _ rfl w.heap.size rfl _ (arrI A) _ _ (hS.at_ (by simp)) Try.underlying52 rfl (by rw [sA]; exact info_num) (hK _ hS (Ext.refl _))
    · kernel_rfl
    · kernel_rfl
    try simp only [put_some, List.setIfInBounds_toArray, List.set_cons_succ, List.set_cons_zero]
    refine rem_one 1 (by kernel_rfl) (step_of rfl (wanted_none rfl) ?_)
    intro v21 hS21 hE21 K hK
    go_wp2_with fail
    refine (rminus1_num _).mono ?_
    rintro e u21 ⟨M, rfl, hM, hk21⟩
    rw [en]
    have sM : (arrI M).size = 16 := by rw [arrI_size, hM.1]
    have HM := Lib.hid hM
    clear hM
    refine hK _ _ (hS21.keep hk21) ?_
    clear hK K
    try simp only [put_some, List.setIfInBounds_toArray, List.set_cons_succ, List.set_cons_zero]
    refine rem_one 2 (by kernel_rfl) (step_of rfl (wanted_none rfl) ?_)
    intro v22 hS22 hE22 K hK
    go_wp2_with fail
    refine (rtimes_num A M _ _ _ HA.out HM.out).mono ?_
    rintro e u22 ⟨R, rfl, hR, hk22⟩
    rw [en]
    have sR : (arrI R).size = 16 := by rw [arrI_size, hR.1]
    have HR := Lib.hid hR
    clear hR
    refine hK _ _ (hS22.keep hk22) ?_
    clear hK K
    try simp only [put_some, List.setIfInBounds_toArray, List.set_cons_succ, List.set_cons_zero]
    refine rem_one 3 (by kernel_rfl) (step_of rfl (wanted_none rfl) ?_)
    intro v23 hS23 hE23 K hK
    have hg_o := (hE23 _ _ (block_stay hk22 (hE22 _ _ (block_stay hk21 (hE21 _ _ cz)))))
    refine wp_store_row 52 _ _ rfl (w.heap.size + 1 + 1) (arrI R) rfl rfl 52 _ hg_o (by rw [sR]; exact info_num) (by first | (rw [sR]; rfl) | (rw [sR]; assumption)) (arrI_one R) ?_
    refine hK _ _ (hS23.store (by omega) HNE.out _) ?_
    clear hK K
    try simp only [put_some, List.setIfInBounds_toArray, List.set_cons_succ, List.set_cons_zero]
    refine rem_nil ?_
    intro v9 hS9 hE9
    have hres := (hE9 _ _ (setRow_here hg_o (arrI R)))
    go_wp2_with fail
    refine ret_cell rfl (w.heap.size + 1 + 1) _ _ _ _ rfl hres Try.underlying52 rfl (by rw [sR]; exact info_num) rfl ?_
    rw [HIF.out]
    exact ⟨R, rfl, HR.out, hS9.2⟩
  · have hif : fitV U V = U := by unfold fitV; rw [c1]; rfl
    have HIF := Lib.hid hif
    clear hif
    refine wp_region_rem (StN w [(w.heap.size, arrI A), (w.heap.size + 1, arrI B)]) (by kernel_rfl) (by kernel_rfl) (fun _ _ d _ _ h => by cases d <;> exact h) hst.drew ?_
    apply rem_sure 0 (by kernel_rfl) rfl (wanted_none rfl)
    · intro w2 hS K hK
      exact wp_load_row 52 _ rfl w.heap.size rfl _ (arrI A) _ _ (hS.at_ (by simp)) Try.underlying52 rfl (by rw [sA]; exact info_num) (hK _ hS (Ext.refl _))
    · kernel_rfl
    · kernel_rfl
    try simp only [put_some, List.setIfInBounds_toArray, List.set_cons_succ, List.set_cons_zero]
    apply rem_sure 1 (by kernel_rfl) rfl (wanted_none rfl)
    · intro w2 hS K hK
      exact wp_load_row 52 _ rfl w.heap.size rfl _ (arrI A) _ _ (hS.at_ (by simp)) Try.underlying52 rfl (by rw [sA]; exact info_num) (hK _ hS (Ext.refl _))
    · kernel_rfl
    · kernel_rfl
    try simp only [put_some, List.setIfInBounds_toArray, List.set_cons_succ, List.set_cons_zero]
    apply rem_sure 3 (by kernel_rfl) rfl (wanted_none rfl)
    · intro w2 hS K hK
      exact wp_load_row 52 _ rfl (w.heap.size + 1) rfl _ (arrI B) _ _ (hS.at_ (by simp)) Try.underlying52 rfl (by rw [sB]; exact info_num) (hK _ hS (Ext.refl _))
    · kernel_rfl
    · kernel_rfl
    try simp only [put_some, List.setIfInBounds_toArray, List.set_cons_succ, List.set_cons_zero]
    refine rem_one 2 (by kernel_rfl) (step_of rfl (wanted_none rfl) ?_)
    intro v21 hS21 hE21 K hK
    go_wp2_with fail
    refine (rtimes_num A A _ _ _ HA.out HA.out).mono ?_
    rintro e u21 ⟨S, rfl, hS, hk21⟩
    rw [en]
    have sS : (arrI S).size = 16 := by rw [arrI_size, hS.1]
    have HS := Lib.hid hS
    clear hS
    refine hK _ _ (hS21.keep hk21) ?_
    clear hK K
    try simp only [put_some, List.setIfInBounds_toArray, List.set_cons_succ, List.set_cons_zero]
    refine rem_one 4 (by kernel_rfl) (step_of rfl (wanted_none rfl) ?_)
    intro v22 hS22 hE22 K hK
    go_wp2_with fail
    refine (rsame_num S B _ _ _ HS.out HB.out).mono ?_
    rintro e u22 ⟨rfl, hk22⟩
    rw [c1]
    refine hK _ _ (hS22.keep hk22) ?_
    clear hK K
    try simp only [put_some, List.setIfInBounds_toArray, List.set_cons_succ, List.set_cons_zero]
    refine rem_nil ?_
    intro v9 hS9 hE9
    have cz := (hE9 _ _ (block_stay hk22 (hE22 _ _ (block_stay hk21 (hE21 _ _ cz)))))
    have hst := hS9
    clear hS9 hE9
    generalize v9 = w4 at *
    have cA := hst.at_ (g := w.heap.size) (cs := arrI A) (by simp)
    have hb9 := hst.2
    go_wp2_with (first | (refine wpList_load_row rfl 52 (.tmp 2) rfl w.heap.size rfl _ _ _ _ cA Try.underlying52 rfl (by rw [sA]; exact info_num) ?_) | (refine wpList_store_row rfl 52 (.tmp 4) (.tmp 10) rfl (w.heap.size + 1 + 1) (arrI A) rfl rfl 52 _ cz (by rw [sA]; exact info_num) (by rw [sA]; rfl) (arrI_one A) ?_))
    refine ret_cell rfl (w.heap.size + 1 + 1) _ _ _ _ rfl (setRow_here cz _) Try.underlying52 rfl (by rw [sA]; exact info_num) rfl ?_
    rw [HIF.out]
    exact ⟨A, rfl, HA.out, below_setRow hb9 (by omega) _⟩
end Go.Proofs.Ytenppmciabdefaa
