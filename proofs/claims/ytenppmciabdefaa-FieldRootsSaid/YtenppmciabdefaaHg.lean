/- The walk of synodref03.Ratio. No condition. -/
import Derived.Test.YtenppmciabdefaaHf
namespace Go.Proofs.Ytenppmciabdefaa
open Go Go.RowKit
/-- What Ratio answers. -/
def ResRN (w : World) (N : Int) (b : Bool) (e : Ending) (w' : World) : Prop := ∃ L, e = .returned (.tuple #[numV L, .bool b]) ∧ NumP L N ∧ Below w.heap.size w w'
theorem StN.storeNew' {w w1 w2 : World} {bl : List (Nat × Array Value)} (h1 : StN w bl w1) (h : StN w bl w2) (cs : Array Value) : StN w bl (w2.setRow w1.heap.size cs) :=
  h.store h1.size (fun _ hp => Nat.ne_of_lt (h1.lt hp)) cs
theorem num_zero16 : NumP [0, 0, 0, 0, 0, 0, 0, 0, 0, 0, 0, 0, 0, 0, 0, 0] 0 := ⟨rfl, by simp, 0, by simp [valL]⟩
set_option maxRecDepth 100000 in
set_option maxHeartbeats 40000000 in
theorem ratio_num (X Y : List Int) (U V : Int) (w : World) (hX : NumP X U) (hY : NumP Y V) : Calls Try.prog 79 #[numV X, numV Y] w (ResRN w (rR U V) (rOk U V)) := by
  have en : ∀ L, numV L = .agg (arrI L) := fun _ => rfl
  rw [en, en]
  have sX : (arrI X).size = 16 := by rw [arrI_size, hX.1]
  have sY : (arrI Y).size = 16 := by rw [arrI_size, hY.1]
  have HX := Lib.hid hX
  have HY := Lib.hid hY
  obtain ⟨W0, hW0, hz, hb0, q0, q1, q2⟩ := three_new w (.cells (arrI X) 52) (.cells (arrI Y) 52) (.cells zero16 52)
  have hst0 : StN w [] W0 := ⟨by simp, hb0⟩
  have hst := (hst0.add q1).add q0
  have cz : W0.heap[w.heap.size + 1 + 1]? = some (.cells zero16 52 (0, 0)) := q2
  have HW : Hid (((w.alloc (.cells (arrI X) 52)).alloc (.cells (arrI Y) 52)).alloc (.cells #[.int .i64 0, .int .i64 0, .int .i64 0, .int .i64 0, .int .i64 0, .int .i64 0, .int .i64 0, .int .i64 0, .int .i64 0, .int .i64 0, .int .i64 0, .int .i64 0, .int .i64 0, .int .i64 0, .int .i64 0, .int .i64 0] 52) = W0) := hW0
  clear hz hb0 q0 q1 q2 hW0 hst0 hX hY
  go_enter Try.func79, Try.ntmps79
  go_wp2_with fail
  rw [HW.out]
  clear HW
  refine wp_region_then (fun a b w' => ∃ (Q I : List Int) (gQ : Nat), b = (((((a.put (some 8) (.agg (arrI X))).put (some 9) (.agg (arrI Y))).put (some 10) (.agg (arrI I))).put (some 11) (.agg (arrI Q))).put (some 6) (.pointer (some ⟨gQ, 0, none⟩))) ∧ NumP Q (rQ U V) ∧ (w.heap.size + 1 + 1 < gQ) ∧ StN w [(gQ, arrI Q), (w.heap.size, arrI X), (w.heap.size + 1, arrI Y)] w' ∧ w'.heap[w.heap.size + 1 + 1]? = some (.cells zero16 52 (0, 0))) ?_ ?_
  · refine wp_region_rem (StN w [(w.heap.size, arrI X), (w.heap.size + 1, arrI Y)]) (by kernel_rfl) (by kernel_rfl) (fun _ _ _ _ _ h => h.elim) hst.drew ?_
    apply rem_sure 0 (by kernel_rfl) rfl (wanted_none rfl)
    · intro w2 hS K hK
      exact wp_load_row 52 _ rfl w.heap.size rfl _ (arrI X) _ _ (hS.at_ (by simp)) Try.underlying52 rfl (by rw [sX]; exact info_num) (hK _ hS (Ext.refl _))
    · kernel_rfl
    · kernel_rfl
    try simp only [put_some, List.setIfInBounds_toArray, List.set_cons_succ, List.set_cons_zero]
    apply rem_sure 1 (by kernel_rfl) rfl (wanted_none rfl)
    · intro w2 hS K hK
      exact wp_load_row 52 _ rfl (w.heap.size + 1) rfl _ (arrI Y) _ _ (hS.at_ (by simp)) Try.underlying52 rfl (by rw [sY]; exact info_num) (hK _ hS (Ext.refl _))
    · kernel_rfl
    · kernel_rfl
    try simp only [put_some, List.setIfInBounds_toArray, List.set_cons_succ, List.set_cons_zero]
    refine rem_two 2 4 (by kernel_rfl) (step_of rfl (wanted_none rfl) ?_) (step_of rfl (wanted_none rfl) ?_)
    · intro v21 hS21 hE21 K hK
      go_wp2_with fail
      refine (rinverse_num Y _ _ HY.out).mono ?_
      rintro e u21 ⟨I, rfl, hI, hk21⟩
      rw [en]
      have sI : (arrI I).size = 16 := by rw [arrI_size, hI.1]
      have HI := Lib.hid hI
      clear hI
      refine hK _ _ (hS21.keep hk21) ?_
      clear hK K
      try simp only [put_some, List.setIfInBounds_toArray, List.set_cons_succ, List.set_cons_zero]
      refine rem_two 3 4 (by kernel_rfl) (step_of rfl (wanted_none rfl) ?_) (step_of rfl (wanted_none rfl) ?_)
      · intro v22 hS22 hE22 K hK
        go_wp2_with fail
        refine (rtimes_num X I _ _ _ HX.out HI.out).mono ?_
        rintro e u22 ⟨Q, rfl, hQ, hk22⟩
        rw [en]
        have sQ : (arrI Q).size = 16 := by rw [arrI_size, hQ.1]
        have HQ := Lib.hid hQ
        clear hQ
        refine hK _ _ (hS22.keep hk22) ?_
        clear hK K
        try simp only [put_some, List.setIfInBounds_toArray, List.set_cons_succ, List.set_cons_zero]
        refine rem_one 4 (by kernel_rfl) (step_of rfl (wanted_none rfl) ?_)
        intro v23 hS23 hE23 K hK
        have hlt_q : w.heap.size + 1 + 1 < v23.heap.size := (Array.getElem?_eq_some_iff.1 (hE23 _ _ (block_stay hk22 (hE22 _ _ (block_stay hk21 (hE21 _ _ cz)))))).1
        go_wp2_with fail
        have al_q := hS23
        refine hK _ _ (hS23.alloc _) ?_
        clear hK K
        try simp only [put_some, List.setIfInBounds_toArray, List.set_cons_succ, List.set_cons_zero]
        refine rem_one 5 (by kernel_rfl) (step_of rfl (wanted_none rfl) ?_)
        intro v24 hS24 hE24 K hK
        have hg_q := (hE24 _ _ (heap_alloc_new v23 _))
        have hz24 := (hE24 _ _ (Ext.alloc v23 _ _ _ (hE23 _ _ (block_stay hk22 (hE22 _ _ (block_stay hk21 (hE21 _ _ cz)))))))
        refine wp_store_row 52 _ _ rfl v23.heap.size (arrI Q) rfl rfl 52 _ hg_q (by rw [sQ]; exact info_num) (by rw [sQ]; rfl) (arrI_one Q) ?_
        refine hK _ _ (al_q.storeNew' hS24 _) ?_
        clear hK K
        try simp only [put_some, List.setIfInBounds_toArray, List.set_cons_succ, List.set_cons_zero]
        refine rem_nil ?_
        intro v9 hS9 hE9
        exact ⟨Q, I, v23.heap.size, rfl, HQ.out, hlt_q, hS9.add (hE9 _ _ (setRow_here hg_q (arrI Q))), (hE9 _ _ ((setRow_other _ _ _ _ (by omega)).trans hz24))⟩
      · intro v25 hS25 hE25 K hK
        have hlt_q : w.heap.size + 1 + 1 < v25.heap.size := (Array.getElem?_eq_some_iff.1 (hE25 _ _ (block_stay hk21 (hE21 _ _ cz)))).1
        go_wp2_with fail
        have al_q := hS25
        refine hK _ _ (hS25.alloc _) ?_
        clear hK K
        try simp only [put_some, List.setIfInBounds_toArray, List.set_cons_succ, List.set_cons_zero]
        refine rem_one 3 (by kernel_rfl) (step_of rfl (wanted_none rfl) ?_)
        intro v26 hS26 hE26 K hK
        go_wp2_with fail
        refine (rtimes_num X I _ _ _ HX.out HI.out).mono ?_
        rintro e u26 ⟨Q, rfl, hQ, hk26⟩
        rw [en]
        have sQ : (arrI Q).size = 16 := by rw [arrI_size, hQ.1]
        have HQ := Lib.hid hQ
        clear hQ
        refine hK _ _ (hS26.keep hk26) ?_
        clear hK K
        try simp only [put_some, List.setIfInBounds_toArray, List.set_cons_succ, List.set_cons_zero]
        refine rem_one 5 (by kernel_rfl) (step_of rfl (wanted_none rfl) ?_)
        intro v27 hS27 hE27 K hK
        have hg_q := (hE27 _ _ (block_stay hk26 (hE26 _ _ (heap_alloc_new v25 _))))
        have hz27 := (hE27 _ _ (block_stay hk26 (hE26 _ _ (Ext.alloc v25 _ _ _ (hE25 _ _ (block_stay hk21 (hE21 _ _ cz)))))))
        refine wp_store_row 52 _ _ rfl v25.heap.size (arrI Q) rfl rfl 52 _ hg_q (by rw [sQ]; exact info_num) (by rw [sQ]; rfl) (arrI_one Q) ?_
        refine hK _ _ (al_q.storeNew' hS27 _) ?_
        clear hK K
        try simp only [put_some, List.setIfInBounds_toArray, List.set_cons_succ, List.set_cons_zero]
        refine rem_nil ?_
        intro v9 hS9 hE9
        exact ⟨Q, I, v25.heap.size, rfl, HQ.out, hlt_q, hS9.add (hE9 _ _ (setRow_here hg_q (arrI Q))), (hE9 _ _ ((setRow_other _ _ _ _ (by omega)).trans hz27))⟩
    · intro v28 hS28 hE28 K hK
      have hlt_q : w.heap.size + 1 + 1 < v28.heap.size := (Array.getElem?_eq_some_iff.1 (hE28 _ _ cz)).1
      go_wp2_with fail
      have al_q := hS28
      refine hK _ _ (hS28.alloc _) ?_
      clear hK K
      try simp only [put_some, List.setIfInBounds_toArray, List.set_cons_succ, List.set_cons_zero]
      refine rem_one 2 (by kernel_rfl) (step_of rfl (wanted_none rfl) ?_)
      intro v29 hS29 hE29 K hK
      go_wp2_with fail
      refine (rinverse_num Y _ _ HY.out).mono ?_
      rintro e u29 ⟨I, rfl, hI, hk29⟩
      rw [en]
      have sI : (arrI I).size = 16 := by rw [arrI_size, hI.1]
      have HI := Lib.hid hI
      clear hI
      refine hK _ _ (hS29.keep hk29) ?_
      clear hK K
      try simp only [put_some, List.setIfInBounds_toArray, List.set_cons_succ, List.set_cons_zero]
      refine rem_one 3 (by kernel_rfl) (step_of rfl (wanted_none rfl) ?_)
      intro v30 hS30 hE30 K hK
      go_wp2_with fail
      refine (rtimes_num X I _ _ _ HX.out HI.out).mono ?_
      rintro e u30 ⟨Q, rfl, hQ, hk30⟩
      rw [en]
      have sQ : (arrI Q).size = 16 := by rw [arrI_size, hQ.1]
      have HQ := Lib.hid hQ
      clear hQ
      refine hK _ _ (hS30.keep hk30) ?_
      clear hK K
      try simp only [put_some, List.setIfInBounds_toArray, List.set_cons_succ, List.set_cons_zero]
      refine rem_one 5 (by kernel_rfl) (step_of rfl (wanted_none rfl) ?_)
      intro v31 hS31 hE31 K hK
      have hg_q := (hE31 _ _ (block_stay hk30 (hE30 _ _ (block_stay hk29 (hE29 _ _ (heap_alloc_new v28 _))))))
      have hz31 := (hE31 _ _ (block_stay hk30 (hE30 _ _ (block_stay hk29 (hE29 _ _ (Ext.alloc v28 _ _ _ (hE28 _ _ cz)))))))
      refine wp_store_row 52 _ _ rfl v28.heap.size (arrI Q) rfl rfl 52 _ hg_q (by rw [sQ]; exact info_num) (by rw [sQ]; rfl) (arrI_one Q) ?_
      refine hK _ _ (al_q.storeNew' hS31 _) ?_
      clear hK K
      try simp only [put_some, List.setIfInBounds_toArray, List.set_cons_succ, List.set_cons_zero]
      refine rem_nil ?_
      intro v9 hS9 hE9
      exact ⟨Q, I, v28.heap.size, rfl, HQ.out, hlt_q, hS9.add (hE9 _ _ (setRow_here hg_q (arrI Q))), (hE9 _ _ ((setRow_other _ _ _ _ (by omega)).trans hz31))⟩
  rintro b w1 ⟨Q, I, gQ, rfl, hQ, hgQ, hst, cz⟩
  have sQ : (arrI Q).size = 16 := by rw [arrI_size, hQ.1]
  have HQ := Lib.hid hQ
  clear hQ
  simp only [put_some, List.setIfInBounds_toArray, List.set_cons_succ, List.set_cons_zero]
  have cQ := hst.at_ (g := gQ) (cs := arrI Q) (by simp)
  go_wp2_with (refine wpList_load_row rfl 52 (.tmp 6) rfl gQ rfl _ _ _ _ cQ Try.underlying52 rfl (by rw [sQ]; exact info_num) ?_)
  refine (rpower_eighth Q _ _ HQ.out).mono ?_
  rintro e w2 ⟨E, rfl, hE, hb⟩
  rw [pexp_eighth] at hE
  rw [en]
  have sE : (arrI E).size = 16 := by rw [arrI_size, hE.1]
  have HE : Hid (NumP E (peighth (rQ U V))) := hE
  have hst := hst.keep hb
  have cz := block_stay hb cz
  clear hE hb cQ
  have hltE : w.heap.size + 1 + 1 < w2.heap.size := (Array.getElem?_eq_some_iff.1 cz).1
  have hltQ := hst.lt (p := (gQ, arrI Q)) (by simp)
  have hltX := hst.lt (p := (w.heap.size, arrI X)) (by simp)
  have cz := (setRow_other (w2.alloc (.cells zero16 52)) w2.heap.size (w.heap.size + 1 + 1) (arrI E) (by omega)).trans (Ext.alloc w2 (.cells zero16 52) _ _ cz)
  have cE := setRow_here (heap_alloc_new w2 (.cells zero16 52)) (arrI E)
  have hst := hst.storeNew' (hst.alloc (.cells zero16 52)) (arrI E)
  have cQ := hst.at_ (g := gQ) (cs := arrI Q) (by simp)
  go_wp2_with (first | (refine wpList_store_row rfl 52 (.tmp 7) (.tmp 13) rfl w2.heap.size (arrI E) rfl rfl 52 _ (heap_alloc_new w2 _) (by rw [sE]; exact info_num) (by rw [sE]; rfl) (arrI_one E) ?_) | (refine wpList_load_row rfl 52 (.tmp 7) rfl w2.heap.size rfl _ (arrI E) _ _ cE Try.underlying52 rfl (by rw [sE]; exact info_num) ?_) | (refine wpList_load_row rfl 52 (.tmp 6) rfl gQ rfl _ (arrI Q) _ _ cQ Try.underlying52 rfl (by rw [sQ]; exact info_num) ?_))
  rw [show (#[.int .i64 0, .int .i64 0, .int .i64 0, .int .i64 0, .int .i64 0, .int .i64 0, .int .i64 0, .int .i64 0, .int .i64 0, .int .i64 0, .int .i64 0, .int .i64 0, .int .i64 0, .int .i64 0, .int .i64 0, .int .i64 0] : Array Value) = zero16 from rfl]
  generalize (w2.alloc (.cells zero16 52)).setRow w2.heap.size (arrI E) = w3 at *
  generalize w2.heap.size = gE at *
  have hne : ∀ p ∈ [(gQ, arrI Q), (w.heap.size, arrI X), (w.heap.size + 1, arrI Y)], p.1 ≠ gE := by simp; omega
  have HNE := Lib.hid hne
  clear hne hltX
  refine (fit_num E Q _ _ _ HE.out HQ.out).mono ?_
  rintro e w4 ⟨P, rfl, hP, hb⟩
  rw [en]
  have sP : (arrI P).size = 16 := by rw [arrI_size, hP.1]
  rw [fitV_rX] at hP
  have HP := Lib.hid hP
  have hst := hst.keep hb
  have cz := block_stay hb cz
  have cE := block_stay hb cE
  clear hP hb cQ
  go_wp2_with (refine wpList_store_row rfl 52 (.tmp 7) (.tmp 16) rfl gE (arrI P) rfl rfl 52 _ cE (by rw [sP]; exact info_num) (by rw [sE, sP]) (arrI_one P) ?_)
  have cz := (setRow_other w4 gE (w.heap.size + 1 + 1) (arrI P) (by omega)).trans cz
  have hstx := hst.store (g := gE) (by omega) HNE.out (arrI P)
  have cP := setRow_here cE (arrI P)
  have hst := hstx.add cP
  generalize w4.setRow gE (arrI P) = w5 at *
  clear cE cP hstx
  try simp only [put_none]
  cases c2 : sameB (rX U V * rX U V) (rQ U V)
  · go_wp2_with fail
    refine wp_region_rem (StN w [(gE, arrI P), (gQ, arrI Q), (w.heap.size, arrI X), (w.heap.size + 1, arrI Y)]) (by kernel_rfl) (by kernel_rfl) (fun _ _ d _ _ h => by cases d <;> exact h) hst.drew ?_
    apply rem_sure 0 (by kernel_rfl) rfl (wanted_none rfl)
    · intro w2 hS K hK
      exact wp_load_row 52 _ rfl gE rfl _ (arrI P) _ _ (hS.at_ (by simp)) Try.underlying52 rfl (by rw [sP]; exact info_num) (hK _ hS (Ext.refl _))
    · kernel_rfl
    · kernel_rfl
    try simp only [put_some, List.setIfInBounds_toArray, List.set_cons_succ, List.set_cons_zero]
    apply rem_sure 1 (by kernel_rfl) rfl (wanted_none rfl)
    · intro w2 hS K hK
      exact wp_load_row 52 _ rfl gE rfl _ (arrI P) _ _ (hS.at_ (by simp)) Try.underlying52 rfl (by rw [sP]; exact info_num) (hK _ hS (Ext.refl _))
    · kernel_rfl
    · kernel_rfl
    try simp only [put_some, List.setIfInBounds_toArray, List.set_cons_succ, List.set_cons_zero]
    apply rem_sure 3 (by kernel_rfl) rfl (wanted_none rfl)
    · intro w2 hS K hK
      exact wp_load_row 52 _ rfl gQ rfl _ (arrI Q) _ _ (hS.at_ (by simp)) Try.underlying52 rfl (by rw [sQ]; exact info_num) (hK _ hS (Ext.refl _))
    · kernel_rfl
    · kernel_rfl
    try simp only [put_some, List.setIfInBounds_toArray, List.set_cons_succ, List.set_cons_zero]
    refine rem_one 2 (by kernel_rfl) (step_of rfl (wanted_none rfl) ?_)
    intro v21 hS21 hE21 K hK
    go_wp2_with fail
    refine (rtimes_num P P _ _ _ HP.out HP.out).mono ?_
    rintro e u21 ⟨S1, rfl, hS1, hk21⟩
    rw [en]
    have sS1 : (arrI S1).size = 16 := by rw [arrI_size, hS1.1]
    have HS1 := Lib.hid hS1
    clear hS1
    refine hK _ _ (hS21.keep hk21) ?_
    clear hK K
    try simp only [put_some, List.setIfInBounds_toArray, List.set_cons_succ, List.set_cons_zero]
    refine rem_one 4 (by kernel_rfl) (step_of rfl (wanted_none rfl) ?_)
    intro v22 hS22 hE22 K hK
    go_wp2_with fail
    refine (rsame_num S1 Q _ _ _ HS1.out HQ.out).mono ?_
    rintro e u22 ⟨rfl, hk22⟩
    rw [c2]
    refine hK _ _ (hS22.keep hk22) ?_
    clear hK K
    try simp only [put_some, List.setIfInBounds_toArray, List.set_cons_succ, List.set_cons_zero]
    apply rem_sure 5 (by kernel_rfl) rfl (wanted_none rfl)
    · intro w2 hS K hK
      go_wp2_with fail
      exact hK _ hS (Ext.refl _)
    · kernel_rfl
    · kernel_rfl
    try simp only [put_some, List.setIfInBounds_toArray, List.set_cons_succ, List.set_cons_zero]
    apply rem_sure 6 (by kernel_rfl) rfl (wanted_none rfl)
    · intro w2 hS K hK
      go_wp2_with fail
      exact hK _ hS (Ext.refl _)
    · kernel_rfl
    · kernel_rfl
    try simp only [put_some, List.setIfInBounds_toArray, List.set_cons_succ, List.set_cons_zero]
    refine rem_skip 7 (by kernel_rfl) rfl (by kernel_rfl) ?_
    try simp only [put_some, List.setIfInBounds_toArray, List.set_cons_succ, List.set_cons_zero]
    refine rem_skip 8 (by kernel_rfl) rfl (by kernel_rfl) ?_
    try simp only [put_some, List.setIfInBounds_toArray, List.set_cons_succ, List.set_cons_zero]
    refine rem_skip 9 (by kernel_rfl) rfl (by kernel_rfl) ?_
    try simp only [put_some, List.setIfInBounds_toArray, List.set_cons_succ, List.set_cons_zero]
    refine rem_skip 10 (by kernel_rfl) rfl (by kernel_rfl) ?_
    try simp only [put_some, List.setIfInBounds_toArray, List.set_cons_succ, List.set_cons_zero]
    refine rem_skip 11 (by kernel_rfl) rfl (by kernel_rfl) ?_
    try simp only [put_some, List.setIfInBounds_toArray, List.set_cons_succ, List.set_cons_zero]
    refine rem_skip 12 (by kernel_rfl) rfl (by kernel_rfl) ?_
    try simp only [put_some, List.setIfInBounds_toArray, List.set_cons_succ, List.set_cons_zero]
    refine rem_skip 13 (by kernel_rfl) rfl (by kernel_rfl) ?_
    try simp only [put_some, List.setIfInBounds_toArray, List.set_cons_succ, List.set_cons_zero]
    refine rem_skip 14 (by kernel_rfl) rfl (by kernel_rfl) ?_
    try simp only [put_some, List.setIfInBounds_toArray, List.set_cons_succ, List.set_cons_zero]
    refine rem_skip 15 (by kernel_rfl) rfl (by kernel_rfl) ?_
    try simp only [put_some, List.setIfInBounds_toArray, List.set_cons_succ, List.set_cons_zero]
    apply rem_sure 16 (by kernel_rfl) rfl (wanted_none rfl)
    · intro w2 hS K hK
      go_wp2_with fail
      exact hK _ hS (Ext.refl _)
    · kernel_rfl
    · kernel_rfl
    try simp only [put_some, List.setIfInBounds_toArray, List.set_cons_succ, List.set_cons_zero]
    refine rem_nil ?_
    intro v9 hS9 hE9
    have cz := (hE9 _ _ (block_stay hk22 (hE22 _ _ (block_stay hk21 (hE21 _ _ cz)))))
    have hst := hS9
    clear hS9 hE9
    generalize v9 = w6 at *
    go_wp2_with fail
    refine (rsmall_any 0 _ (by omega) (by omega)).mono ?_
    rintro e w7 ⟨R, rfl, hR, hb⟩
    rw [en]
    have sR : (arrI R).size = 16 := by rw [arrI_size, hR.1]
    have HR := Lib.hid hR
    have hb9 := (hst.keep hb).2
    have cz := block_stay hb cz
    clear hb hR
    go_wp2_with (refine wpList_store_row rfl 52 (.tmp 4) (.tmp 34) rfl (w.heap.size + 1 + 1) (arrI R) rfl rfl 52 _ cz (by rw [sR]; exact info_num) (by rw [sR]; rfl) (arrI_one R) ?_)
    refine ret_cell_tmp rfl (w.heap.size + 1 + 1) _ (arrI R) _ _ (.bool false) rfl rfl (setRow_here cz _) Try.underlying52 rfl (by rw [sR]; exact info_num) rfl ?_
    have h1 : rOk U V = false := by unfold rOk; simp [c2]
    have h2 : rR U V = 0 := by unfold rR; simp [h1]
    rw [h1, h2]
    exact ⟨R, rfl, HR.out, below_setRow hb9 (by omega) _⟩
  · cases c3 : sameB V 0
    · go_wp2_with fail
      refine wp_region_rem (StN w [(gE, arrI P), (gQ, arrI Q), (w.heap.size, arrI X), (w.heap.size + 1, arrI Y)]) (by kernel_rfl) (by kernel_rfl) (fun _ _ d _ _ h => by cases d <;> exact h) hst.drew ?_
      apply rem_sure 0 (by kernel_rfl) rfl (wanted_none rfl)
      · intro w2 hS K hK
        exact wp_load_row 52 _ rfl gE rfl _ (arrI P) _ _ (hS.at_ (by simp)) Try.underlying52 rfl (by rw [sP]; exact info_num) (hK _ hS (Ext.refl _))
      · kernel_rfl
      · kernel_rfl
      try simp only [put_some, List.setIfInBounds_toArray, List.set_cons_succ, List.set_cons_zero]
      apply rem_sure 1 (by kernel_rfl) rfl (wanted_none rfl)
      · intro w2 hS K hK
        exact wp_load_row 52 _ rfl gE rfl _ (arrI P) _ _ (hS.at_ (by simp)) Try.underlying52 rfl (by rw [sP]; exact info_num) (hK _ hS (Ext.refl _))
      · kernel_rfl
      · kernel_rfl
      try simp only [put_some, List.setIfInBounds_toArray, List.set_cons_succ, List.set_cons_zero]
      apply rem_sure 3 (by kernel_rfl) rfl (wanted_none rfl)
      · intro w2 hS K hK
        exact wp_load_row 52 _ rfl gQ rfl _ (arrI Q) _ _ (hS.at_ (by simp)) Try.underlying52 rfl (by rw [sQ]; exact info_num) (hK _ hS (Ext.refl _))
      · kernel_rfl
      · kernel_rfl
      try simp only [put_some, List.setIfInBounds_toArray, List.set_cons_succ, List.set_cons_zero]
      refine rem_one 2 (by kernel_rfl) (step_of rfl (wanted_none rfl) ?_)
      intro v21 hS21 hE21 K hK
      go_wp2_with fail
      refine (rtimes_num P P _ _ _ HP.out HP.out).mono ?_
      rintro e u21 ⟨S1, rfl, hS1, hk21⟩
      rw [en]
      have sS1 : (arrI S1).size = 16 := by rw [arrI_size, hS1.1]
      have HS1 := Lib.hid hS1
      clear hS1
      refine hK _ _ (hS21.keep hk21) ?_
      clear hK K
      try simp only [put_some, List.setIfInBounds_toArray, List.set_cons_succ, List.set_cons_zero]
      refine rem_one 4 (by kernel_rfl) (step_of rfl (wanted_none rfl) ?_)
      intro v22 hS22 hE22 K hK
      go_wp2_with fail
      refine (rsame_num S1 Q _ _ _ HS1.out HQ.out).mono ?_
      rintro e u22 ⟨rfl, hk22⟩
      rw [c2]
      refine hK _ _ (hS22.keep hk22) ?_
      clear hK K
      try simp only [put_some, List.setIfInBounds_toArray, List.set_cons_succ, List.set_cons_zero]
      apply rem_sure 5 (by kernel_rfl) rfl (wanted_none rfl)
      · intro w2 hS K hK
        go_wp2_with fail
        exact hK _ hS (Ext.refl _)
      · kernel_rfl
      · kernel_rfl
      try simp only [put_some, List.setIfInBounds_toArray, List.set_cons_succ, List.set_cons_zero]
      apply rem_sure 6 (by kernel_rfl) rfl (wanted_none rfl)
      · intro w2 hS K hK
        go_wp2_with fail
        exact hK _ hS (Ext.refl _)
      · kernel_rfl
      · kernel_rfl
      try simp only [put_some, List.setIfInBounds_toArray, List.set_cons_succ, List.set_cons_zero]
      apply rem_sure 7 (by kernel_rfl) rfl (by kernel_rfl)
      · intro w2 hS K hK
        exact wp_load_row 52 _ rfl (w.heap.size + 1) rfl _ (arrI Y) _ _ (hS.at_ (by simp)) Try.underlying52 rfl (by rw [sY]; exact info_num) (hK _ hS (Ext.refl _))
      · kernel_rfl
      · kernel_rfl
      try simp only [put_some, List.setIfInBounds_toArray, List.set_cons_succ, List.set_cons_zero]
      refine rem_one 8 (by kernel_rfl) (step_of rfl (by kernel_rfl) ?_)
      intro v23 hS23 hE23 K hK
      go_wp2_with fail
      refine (rsmall_any 0 _ (by omega) (by omega)).mono ?_
      rintro e u23 ⟨Z1, rfl, hZ1, hk23⟩
      rw [en]
      have sZ1 : (arrI Z1).size = 16 := by rw [arrI_size, hZ1.1]
      have HZ1 := Lib.hid hZ1
      clear hZ1
      refine hK _ _ (hS23.keep hk23) ?_
      clear hK K
      try simp only [put_some, List.setIfInBounds_toArray, List.set_cons_succ, List.set_cons_zero]
      refine rem_one 9 (by kernel_rfl) (step_of rfl (by kernel_rfl) ?_)
      intro v24 hS24 hE24 K hK
      go_wp2_with fail
      refine (rsame_num Y Z1 _ _ _ HY.out HZ1.out).mono ?_
      rintro e u24 ⟨rfl, hk24⟩
      rw [c3]
      refine hK _ _ (hS24.keep hk24) ?_
      clear hK K
      try simp only [put_some, List.setIfInBounds_toArray, List.set_cons_succ, List.set_cons_zero]
      apply rem_sure 10 (by kernel_rfl) rfl (by kernel_rfl)
      · intro w2 hS K hK
        go_wp2_with fail
        exact hK _ hS (Ext.refl _)
      · kernel_rfl
      · kernel_rfl
      try simp only [put_some, List.setIfInBounds_toArray, List.set_cons_succ, List.set_cons_zero]
      refine rem_skip 11 (by kernel_rfl) rfl (by kernel_rfl) ?_
      try simp only [put_some, List.setIfInBounds_toArray, List.set_cons_succ, List.set_cons_zero]
      refine rem_skip 12 (by kernel_rfl) rfl (by kernel_rfl) ?_
      try simp only [put_some, List.setIfInBounds_toArray, List.set_cons_succ, List.set_cons_zero]
      refine rem_skip 13 (by kernel_rfl) rfl (by kernel_rfl) ?_
      try simp only [put_some, List.setIfInBounds_toArray, List.set_cons_succ, List.set_cons_zero]
      refine rem_skip 14 (by kernel_rfl) rfl (by kernel_rfl) ?_
      try simp only [put_some, List.setIfInBounds_toArray, List.set_cons_succ, List.set_cons_zero]
      apply rem_sure 15 (by kernel_rfl) rfl (by kernel_rfl)
      · intro w2 hS K hK
        go_wp2_with fail
        exact hK _ hS (Ext.refl _)
      · kernel_rfl
      · kernel_rfl
      try simp only [put_some, List.setIfInBounds_toArray, List.set_cons_succ, List.set_cons_zero]
      apply rem_sure 16 (by kernel_rfl) rfl (wanted_none rfl)
      · intro w2 hS K hK
        go_wp2_with fail
        exact hK _ hS (Ext.refl _)
      · kernel_rfl
      · kernel_rfl
      try simp only [put_some, List.setIfInBounds_toArray, List.set_cons_succ, List.set_cons_zero]
      refine rem_nil ?_
      intro v9 hS9 hE9
      have cz := (hE9 _ _ (block_stay hk24 (hE24 _ _ (block_stay hk23 (hE23 _ _ (block_stay hk22 (hE22 _ _ (block_stay hk21 (hE21 _ _ cz)))))))))
      have hst := hS9
      clear hS9 hE9
      generalize v9 = w6 at *
      have cP := hst.at_ (g := gE) (cs := arrI P) (by simp)
      go_wp2_with (refine wpList_load_row rfl 52 (.tmp 7) rfl gE rfl _ _ _ _ cP Try.underlying52 rfl (by rw [sP]; exact info_num) ?_)
      refine (rbytes_num P _ _ HP.out).mono ?_
      rintro e w7 ⟨bb, cb, rfl, hcb, hbB, hb5⟩
      have hst := hst.keep hb5
      have cz := block_stay hb5 cz
      have cP := block_stay hb5 cP
      have cc : w7.cell? ⟨bb, 0, none⟩ = some (.int .u8 (rX U V % PP % 256)) := hbB.cell 0 (by omega)
      have h1 : rOk U V = true := by unfold rOk; simp [c2, c3]
      have H1 := Lib.hid h1
      obtain ⟨y, hy⟩ : ∃ y, y = rX U V % PP % 256 := ⟨_, rfl⟩
      have hy0 : 0 ≤ y ∧ y < 256 := by omega
      have hy2 : y % 2 = rX U V % PP % 2 := by omega
      rw [← hy] at cc
      obtain ⟨hya, hyb⟩ := hy0
      have HY2 := Lib.hid hy2
      clear hb5 hbB h1 hy hy2
      by_cases par : rX U V % PP % 2 = 1
      · have h2 : rR U V = 0 - rX U V := by unfold rR; rw [if_pos H1.out, if_pos par]
        have H2 := Lib.hid h2
        have hp : (y % 2 == 1) = true := by rw [HY2.out]; simpa using par
        clear h2 par
        go_wp2_with fail
        have hst1 := hst.sub (bm := [(gQ, arrI Q), (w.heap.size, arrI X), (w.heap.size + 1, arrI Y)]) (by simp)
        refine wp_region_rem (StN w [(gQ, arrI Q), (w.heap.size, arrI X), (w.heap.size + 1, arrI Y)]) (by kernel_rfl) (by kernel_rfl) (fun _ _ d _ _ h => by cases d <;> exact h) hst1.drew ?_
        refine rem_two 0 1 (by kernel_rfl) (step_of rfl (wanted_none rfl) ?_) (step_of rfl (wanted_none rfl) ?_)
        · intro v21 hS21 hE21 K hK
          go_wp2_with fail
          refine (rsmall_any 0 _ (by omega) (by omega)).mono ?_
          rintro e u21 ⟨Z0, rfl, hZ0, hk21⟩
          rw [en]
          have sZ0 : (arrI Z0).size = 16 := by rw [arrI_size, hZ0.1]
          have HZ0 := Lib.hid hZ0
          clear hZ0
          refine hK _ _ (hS21.keep hk21) ?_
          clear hK K
          try simp only [put_some, List.setIfInBounds_toArray, List.set_cons_succ, List.set_cons_zero]
          refine rem_one 1 (by kernel_rfl) (step_of rfl (wanted_none rfl) ?_)
          intro v22 hS22 hE22 K hK
          refine wp_load_row 52 _ rfl gE rfl _ (arrI P) _ _ (hE22 _ _ (block_stay hk21 (hE21 _ _ cP))) Try.underlying52 rfl (by rw [sP]; exact info_num) ?_
          refine hK _ _ (hS22) ?_
          clear hK K
          try simp only [put_some, List.setIfInBounds_toArray, List.set_cons_succ, List.set_cons_zero]
          refine rem_one 2 (by kernel_rfl) (step_of rfl (wanted_none rfl) ?_)
          intro v23 hS23 hE23 K hK
          go_wp2_with fail
          refine (rminus_num Z0 P _ _ _ HZ0.out HP.out).mono ?_
          rintro e u23 ⟨R, rfl, hR, hk23⟩
          rw [en]
          have sR : (arrI R).size = 16 := by rw [arrI_size, hR.1]
          have HR := Lib.hid hR
          clear hR
          refine hK _ _ (hS23.keep hk23) ?_
          clear hK K
          try simp only [put_some, List.setIfInBounds_toArray, List.set_cons_succ, List.set_cons_zero]
          refine rem_one 3 (by kernel_rfl) (step_of rfl (wanted_none rfl) ?_)
          intro v24 hS24 hE24 K hK
          have hg_o := (hE24 _ _ (block_stay hk23 (hE23 _ _ (hE22 _ _ (block_stay hk21 (hE21 _ _ cP))))))
          have hz_o := (hE24 _ _ (block_stay hk23 (hE23 _ _ (hE22 _ _ (block_stay hk21 (hE21 _ _ cz))))))
          refine wp_store_row 52 _ _ rfl gE (arrI R) rfl rfl 52 _ hg_o (by rw [sR]; exact info_num) (by rw [sP, sR]) (arrI_one R) ?_
          refine hK _ _ (hS24.store (by omega) HNE.out _) ?_
          clear hK K
          try simp only [put_some, List.setIfInBounds_toArray, List.set_cons_succ, List.set_cons_zero]
          refine rem_nil ?_
          intro v9 hS9 hE9
          have cR := (hE9 _ _ (setRow_here hg_o (arrI R)))
          have cz := (hE9 _ _ ((setRow_other _ _ _ _ (by omega)).trans hz_o))
          go_wp2_with (first | (refine wpList_load_row rfl 52 (.tmp 7) rfl gE rfl _ _ _ _ cR Try.underlying52 rfl (by rw [sR]; exact info_num) ?_) | (refine wpList_store_row rfl 52 (.tmp 4) (.tmp 44) rfl (w.heap.size + 1 + 1) (arrI R) rfl rfl 52 _ cz (by rw [sR]; exact info_num) (by rw [sR]; rfl) (arrI_one R) ?_))
          refine ret_cell_tmp rfl (w.heap.size + 1 + 1) _ (arrI R) _ _ (.bool true) rfl rfl (setRow_here cz _) Try.underlying52 rfl (by rw [sR]; exact info_num) rfl ?_
          rw [H1.out, H2.out]
          exact ⟨R, rfl, HR.out, below_setRow hS9.2 (by omega) _⟩
        · intro v25 hS25 hE25 K hK
          refine wp_load_row 52 _ rfl gE rfl _ (arrI P) _ _ (hE25 _ _ cP) Try.underlying52 rfl (by rw [sP]; exact info_num) ?_
          refine hK _ _ (hS25) ?_
          clear hK K
          try simp only [put_some, List.setIfInBounds_toArray, List.set_cons_succ, List.set_cons_zero]
          refine rem_one 0 (by kernel_rfl) (step_of rfl (wanted_none rfl) ?_)
          intro v26 hS26 hE26 K hK
          go_wp2_with fail
          refine (rsmall_any 0 _ (by omega) (by omega)).mono ?_
          rintro e u26 ⟨Z0, rfl, hZ0, hk26⟩
          rw [en]
          have sZ0 : (arrI Z0).size = 16 := by rw [arrI_size, hZ0.1]
          have HZ0 := Lib.hid hZ0
          clear hZ0
          refine hK _ _ (hS26.keep hk26) ?_
          clear hK K
          try simp only [put_some, List.setIfInBounds_toArray, List.set_cons_succ, List.set_cons_zero]
          refine rem_one 2 (by kernel_rfl) (step_of rfl (wanted_none rfl) ?_)
          intro v27 hS27 hE27 K hK
          go_wp2_with fail
          refine (rminus_num Z0 P _ _ _ HZ0.out HP.out).mono ?_
          rintro e u27 ⟨R, rfl, hR, hk27⟩
          rw [en]
          have sR : (arrI R).size = 16 := by rw [arrI_size, hR.1]
          have HR := Lib.hid hR
          clear hR
          refine hK _ _ (hS27.keep hk27) ?_
          clear hK K
          try simp only [put_some, List.setIfInBounds_toArray, List.set_cons_succ, List.set_cons_zero]
          refine rem_one 3 (by kernel_rfl) (step_of rfl (wanted_none rfl) ?_)
          intro v28 hS28 hE28 K hK
          have hg_o := (hE28 _ _ (block_stay hk27 (hE27 _ _ (block_stay hk26 (hE26 _ _ (hE25 _ _ cP))))))
          have hz_o := (hE28 _ _ (block_stay hk27 (hE27 _ _ (block_stay hk26 (hE26 _ _ (hE25 _ _ cz))))))
          refine wp_store_row 52 _ _ rfl gE (arrI R) rfl rfl 52 _ hg_o (by rw [sR]; exact info_num) (by rw [sP, sR]) (arrI_one R) ?_
          refine hK _ _ (hS28.store (by omega) HNE.out _) ?_
          clear hK K
          try simp only [put_some, List.setIfInBounds_toArray, List.set_cons_succ, List.set_cons_zero]
          refine rem_nil ?_
          intro v9 hS9 hE9
          have cR := (hE9 _ _ (setRow_here hg_o (arrI R)))
          have cz := (hE9 _ _ ((setRow_other _ _ _ _ (by omega)).trans hz_o))
          go_wp2_with (first | (refine wpList_load_row rfl 52 (.tmp 7) rfl gE rfl _ _ _ _ cR Try.underlying52 rfl (by rw [sR]; exact info_num) ?_) | (refine wpList_store_row rfl 52 (.tmp 4) (.tmp 44) rfl (w.heap.size + 1 + 1) (arrI R) rfl rfl 52 _ cz (by rw [sR]; exact info_num) (by rw [sR]; rfl) (arrI_one R) ?_))
          refine ret_cell_tmp rfl (w.heap.size + 1 + 1) _ (arrI R) _ _ (.bool true) rfl rfl (setRow_here cz _) Try.underlying52 rfl (by rw [sR]; exact info_num) rfl ?_
          rw [H1.out, H2.out]
          exact ⟨R, rfl, HR.out, below_setRow hS9.2 (by omega) _⟩
      · have h2 : rR U V = rX U V := by unfold rR; rw [if_pos H1.out, if_neg par]
        have H2 := Lib.hid h2
        have hp : (y % 2 == 1) = false := by rw [HY2.out]; simpa using par
        have hb9 := hst.2
        clear h2 par
        go_wp2_with (first | (refine wpList_load_row rfl 52 (.tmp 7) rfl gE rfl _ _ _ _ cP Try.underlying52 rfl (by rw [sP]; exact info_num) ?_) | (refine wpList_store_row rfl 52 (.tmp 4) (.tmp 44) rfl (w.heap.size + 1 + 1) (arrI P) rfl rfl 52 _ cz (by rw [sP]; exact info_num) (by rw [sP]; rfl) (arrI_one P) ?_))
        refine ret_cell_tmp rfl (w.heap.size + 1 + 1) _ (arrI P) _ _ (.bool true) rfl rfl (setRow_here cz _) Try.underlying52 rfl (by rw [sP]; exact info_num) rfl ?_
        rw [H1.out, H2.out]
        exact ⟨P, rfl, HP.out, below_setRow hb9 (by omega) _⟩
    · cases c4 : sameB U 0
      · go_wp2_with fail
        refine wp_region_rem (StN w [(gE, arrI P), (gQ, arrI Q), (w.heap.size, arrI X), (w.heap.size + 1, arrI Y)]) (by kernel_rfl) (by kernel_rfl) (fun _ _ d _ _ h => by cases d <;> exact h) hst.drew ?_
        apply rem_sure 0 (by kernel_rfl) rfl (wanted_none rfl)
        · intro w2 hS K hK
          exact wp_load_row 52 _ rfl gE rfl _ (arrI P) _ _ (hS.at_ (by simp)) Try.underlying52 rfl (by rw [sP]; exact info_num) (hK _ hS (Ext.refl _))
        · kernel_rfl
        · kernel_rfl
        try simp only [put_some, List.setIfInBounds_toArray, List.set_cons_succ, List.set_cons_zero]
        apply rem_sure 1 (by kernel_rfl) rfl (wanted_none rfl)
        · intro w2 hS K hK
          exact wp_load_row 52 _ rfl gE rfl _ (arrI P) _ _ (hS.at_ (by simp)) Try.underlying52 rfl (by rw [sP]; exact info_num) (hK _ hS (Ext.refl _))
        · kernel_rfl
        · kernel_rfl
        try simp only [put_some, List.setIfInBounds_toArray, List.set_cons_succ, List.set_cons_zero]
        apply rem_sure 3 (by kernel_rfl) rfl (wanted_none rfl)
        · intro w2 hS K hK
          exact wp_load_row 52 _ rfl gQ rfl _ (arrI Q) _ _ (hS.at_ (by simp)) Try.underlying52 rfl (by rw [sQ]; exact info_num) (hK _ hS (Ext.refl _))
        · kernel_rfl
        · kernel_rfl
        try simp only [put_some, List.setIfInBounds_toArray, List.set_cons_succ, List.set_cons_zero]
        refine rem_one 2 (by kernel_rfl) (step_of rfl (wanted_none rfl) ?_)
        intro v21 hS21 hE21 K hK
        go_wp2_with fail
        refine (rtimes_num P P _ _ _ HP.out HP.out).mono ?_
        rintro e u21 ⟨S1, rfl, hS1, hk21⟩
        rw [en]
        have sS1 : (arrI S1).size = 16 := by rw [arrI_size, hS1.1]
        have HS1 := Lib.hid hS1
        clear hS1
        refine hK _ _ (hS21.keep hk21) ?_
        clear hK K
        try simp only [put_some, List.setIfInBounds_toArray, List.set_cons_succ, List.set_cons_zero]
        refine rem_one 4 (by kernel_rfl) (step_of rfl (wanted_none rfl) ?_)
        intro v22 hS22 hE22 K hK
        go_wp2_with fail
        refine (rsame_num S1 Q _ _ _ HS1.out HQ.out).mono ?_
        rintro e u22 ⟨rfl, hk22⟩
        rw [c2]
        refine hK _ _ (hS22.keep hk22) ?_
        clear hK K
        try simp only [put_some, List.setIfInBounds_toArray, List.set_cons_succ, List.set_cons_zero]
        apply rem_sure 5 (by kernel_rfl) rfl (wanted_none rfl)
        · intro w2 hS K hK
          go_wp2_with fail
          exact hK _ hS (Ext.refl _)
        · kernel_rfl
        · kernel_rfl
        try simp only [put_some, List.setIfInBounds_toArray, List.set_cons_succ, List.set_cons_zero]
        apply rem_sure 6 (by kernel_rfl) rfl (wanted_none rfl)
        · intro w2 hS K hK
          go_wp2_with fail
          exact hK _ hS (Ext.refl _)
        · kernel_rfl
        · kernel_rfl
        try simp only [put_some, List.setIfInBounds_toArray, List.set_cons_succ, List.set_cons_zero]
        apply rem_sure 7 (by kernel_rfl) rfl (by kernel_rfl)
        · intro w2 hS K hK
          exact wp_load_row 52 _ rfl (w.heap.size + 1) rfl _ (arrI Y) _ _ (hS.at_ (by simp)) Try.underlying52 rfl (by rw [sY]; exact info_num) (hK _ hS (Ext.refl _))
        · kernel_rfl
        · kernel_rfl
        try simp only [put_some, List.setIfInBounds_toArray, List.set_cons_succ, List.set_cons_zero]
        refine rem_one 8 (by kernel_rfl) (step_of rfl (by kernel_rfl) ?_)
        intro v23 hS23 hE23 K hK
        go_wp2_with fail
        refine (rsmall_any 0 _ (by omega) (by omega)).mono ?_
        rintro e u23 ⟨Z1, rfl, hZ1, hk23⟩
        rw [en]
        have sZ1 : (arrI Z1).size = 16 := by rw [arrI_size, hZ1.1]
        have HZ1 := Lib.hid hZ1
        clear hZ1
        refine hK _ _ (hS23.keep hk23) ?_
        clear hK K
        try simp only [put_some, List.setIfInBounds_toArray, List.set_cons_succ, List.set_cons_zero]
        refine rem_one 9 (by kernel_rfl) (step_of rfl (by kernel_rfl) ?_)
        intro v24 hS24 hE24 K hK
        go_wp2_with fail
        refine (rsame_num Y Z1 _ _ _ HY.out HZ1.out).mono ?_
        rintro e u24 ⟨rfl, hk24⟩
        rw [c3]
        refine hK _ _ (hS24.keep hk24) ?_
        clear hK K
        try simp only [put_some, List.setIfInBounds_toArray, List.set_cons_succ, List.set_cons_zero]
        apply rem_sure 10 (by kernel_rfl) rfl (by kernel_rfl)
        · intro w2 hS K hK
          go_wp2_with fail
          exact hK _ hS (Ext.refl _)
        · kernel_rfl
        · kernel_rfl
        try simp only [put_some, List.setIfInBounds_toArray, List.set_cons_succ, List.set_cons_zero]
        apply rem_sure 11 (by kernel_rfl) rfl (by kernel_rfl)
        · intro w2 hS K hK
          exact wp_load_row 52 _ rfl w.heap.size rfl _ (arrI X) _ _ (hS.at_ (by simp)) Try.underlying52 rfl (by rw [sX]; exact info_num) (hK _ hS (Ext.refl _))
        · kernel_rfl
        · kernel_rfl
        try simp only [put_some, List.setIfInBounds_toArray, List.set_cons_succ, List.set_cons_zero]
        refine rem_one 12 (by kernel_rfl) (step_of rfl (by kernel_rfl) ?_)
        intro v25 hS25 hE25 K hK
        go_wp2_with fail
        refine (rsmall_any 0 _ (by omega) (by omega)).mono ?_
        rintro e u25 ⟨Z2, rfl, hZ2, hk25⟩
        rw [en]
        have sZ2 : (arrI Z2).size = 16 := by rw [arrI_size, hZ2.1]
        have HZ2 := Lib.hid hZ2
        clear hZ2
        refine hK _ _ (hS25.keep hk25) ?_
        clear hK K
        try simp only [put_some, List.setIfInBounds_toArray, List.set_cons_succ, List.set_cons_zero]
        refine rem_one 13 (by kernel_rfl) (step_of rfl (by kernel_rfl) ?_)
        intro v26 hS26 hE26 K hK
        go_wp2_with fail
        refine (rsame_num X Z2 _ _ _ HX.out HZ2.out).mono ?_
        rintro e u26 ⟨rfl, hk26⟩
        rw [c4]
        refine hK _ _ (hS26.keep hk26) ?_
        clear hK K
        try simp only [put_some, List.setIfInBounds_toArray, List.set_cons_succ, List.set_cons_zero]
        apply rem_sure 14 (by kernel_rfl) rfl (by kernel_rfl)
        · intro w2 hS K hK
          go_wp2_with fail
          exact hK _ hS (Ext.refl _)
        · kernel_rfl
        · kernel_rfl
        try simp only [put_some, List.setIfInBounds_toArray, List.set_cons_succ, List.set_cons_zero]
        apply rem_sure 15 (by kernel_rfl) rfl (by kernel_rfl)
        · intro w2 hS K hK
          go_wp2_with fail
          exact hK _ hS (Ext.refl _)
        · kernel_rfl
        · kernel_rfl
        try simp only [put_some, List.setIfInBounds_toArray, List.set_cons_succ, List.set_cons_zero]
        apply rem_sure 16 (by kernel_rfl) rfl (wanted_none rfl)
        · intro w2 hS K hK
          go_wp2_with fail
          exact hK _ hS (Ext.refl _)
        · kernel_rfl
        · kernel_rfl
        try simp only [put_some, List.setIfInBounds_toArray, List.set_cons_succ, List.set_cons_zero]
        refine rem_nil ?_
        intro v9 hS9 hE9
        have cz := (hE9 _ _ (block_stay hk26 (hE26 _ _ (block_stay hk25 (hE25 _ _ (block_stay hk24 (hE24 _ _ (block_stay hk23 (hE23 _ _ (block_stay hk22 (hE22 _ _ (block_stay hk21 (hE21 _ _ cz)))))))))))))
        have hst := hS9
        clear hS9 hE9
        generalize v9 = w6 at *
        go_wp2_with fail
        refine (rsmall_any 0 _ (by omega) (by omega)).mono ?_
        rintro e w7 ⟨R, rfl, hR, hb⟩
        rw [en]
        have sR : (arrI R).size = 16 := by rw [arrI_size, hR.1]
        have HR := Lib.hid hR
        have hb9 := (hst.keep hb).2
        have cz := block_stay hb cz
        clear hb hR
        go_wp2_with (refine wpList_store_row rfl 52 (.tmp 4) (.tmp 34) rfl (w.heap.size + 1 + 1) (arrI R) rfl rfl 52 _ cz (by rw [sR]; exact info_num) (by rw [sR]; rfl) (arrI_one R) ?_)
        refine ret_cell_tmp rfl (w.heap.size + 1 + 1) _ (arrI R) _ _ (.bool false) rfl rfl (setRow_here cz _) Try.underlying52 rfl (by rw [sR]; exact info_num) rfl ?_
        have h1 : rOk U V = false := by unfold rOk; simp [c2, c3, c4]
        have h2 : rR U V = 0 := by unfold rR; simp [h1]
        rw [h1, h2]
        exact ⟨R, rfl, HR.out, below_setRow hb9 (by omega) _⟩
      · go_wp2_with fail
        refine wp_region_rem (StN w [(gE, arrI P), (gQ, arrI Q), (w.heap.size, arrI X), (w.heap.size + 1, arrI Y)]) (by kernel_rfl) (by kernel_rfl) (fun _ _ d _ _ h => by cases d <;> exact h) hst.drew ?_
        apply rem_sure 0 (by kernel_rfl) rfl (wanted_none rfl)
        · intro w2 hS K hK
          exact wp_load_row 52 _ rfl gE rfl _ (arrI P) _ _ (hS.at_ (by simp)) Try.underlying52 rfl (by rw [sP]; exact info_num) (hK _ hS (Ext.refl _))
        · kernel_rfl
        · kernel_rfl
        try simp only [put_some, List.setIfInBounds_toArray, List.set_cons_succ, List.set_cons_zero]
        apply rem_sure 1 (by kernel_rfl) rfl (wanted_none rfl)
        · intro w2 hS K hK
          exact wp_load_row 52 _ rfl gE rfl _ (arrI P) _ _ (hS.at_ (by simp)) Try.underlying52 rfl (by rw [sP]; exact info_num) (hK _ hS (Ext.refl _))
        · kernel_rfl
        · kernel_rfl
        try simp only [put_some, List.setIfInBounds_toArray, List.set_cons_succ, List.set_cons_zero]
        apply rem_sure 3 (by kernel_rfl) rfl (wanted_none rfl)
        · intro w2 hS K hK
          exact wp_load_row 52 _ rfl gQ rfl _ (arrI Q) _ _ (hS.at_ (by simp)) Try.underlying52 rfl (by rw [sQ]; exact info_num) (hK _ hS (Ext.refl _))
        · kernel_rfl
        · kernel_rfl
        try simp only [put_some, List.setIfInBounds_toArray, List.set_cons_succ, List.set_cons_zero]
        refine rem_one 2 (by kernel_rfl) (step_of rfl (wanted_none rfl) ?_)
        intro v21 hS21 hE21 K hK
        go_wp2_with fail
        refine (rtimes_num P P _ _ _ HP.out HP.out).mono ?_
        rintro e u21 ⟨S1, rfl, hS1, hk21⟩
        rw [en]
        have sS1 : (arrI S1).size = 16 := by rw [arrI_size, hS1.1]
        have HS1 := Lib.hid hS1
        clear hS1
        refine hK _ _ (hS21.keep hk21) ?_
        clear hK K
        try simp only [put_some, List.setIfInBounds_toArray, List.set_cons_succ, List.set_cons_zero]
        refine rem_one 4 (by kernel_rfl) (step_of rfl (wanted_none rfl) ?_)
        intro v22 hS22 hE22 K hK
        go_wp2_with fail
        refine (rsame_num S1 Q _ _ _ HS1.out HQ.out).mono ?_
        rintro e u22 ⟨rfl, hk22⟩
        rw [c2]
        refine hK _ _ (hS22.keep hk22) ?_
        clear hK K
        try simp only [put_some, List.setIfInBounds_toArray, List.set_cons_succ, List.set_cons_zero]
        apply rem_sure 5 (by kernel_rfl) rfl (wanted_none rfl)
        · intro w2 hS K hK
          go_wp2_with fail
          exact hK _ hS (Ext.refl _)
        · kernel_rfl
        · kernel_rfl
        try simp only [put_some, List.setIfInBounds_toArray, List.set_cons_succ, List.set_cons_zero]
        apply rem_sure 6 (by kernel_rfl) rfl (wanted_none rfl)
        · intro w2 hS K hK
          go_wp2_with fail
          exact hK _ hS (Ext.refl _)
        · kernel_rfl
        · kernel_rfl
        try simp only [put_some, List.setIfInBounds_toArray, List.set_cons_succ, List.set_cons_zero]
        apply rem_sure 7 (by kernel_rfl) rfl (by kernel_rfl)
        · intro w2 hS K hK
          exact wp_load_row 52 _ rfl (w.heap.size + 1) rfl _ (arrI Y) _ _ (hS.at_ (by simp)) Try.underlying52 rfl (by rw [sY]; exact info_num) (hK _ hS (Ext.refl _))
        · kernel_rfl
        · kernel_rfl
        try simp only [put_some, List.setIfInBounds_toArray, List.set_cons_succ, List.set_cons_zero]
        refine rem_one 8 (by kernel_rfl) (step_of rfl (by kernel_rfl) ?_)
        intro v23 hS23 hE23 K hK
        go_wp2_with fail
        refine (rsmall_any 0 _ (by omega) (by omega)).mono ?_
        rintro e u23 ⟨Z1, rfl, hZ1, hk23⟩
        rw [en]
        have sZ1 : (arrI Z1).size = 16 := by rw [arrI_size, hZ1.1]
        have HZ1 := Lib.hid hZ1
        clear hZ1
        refine hK _ _ (hS23.keep hk23) ?_
        clear hK K
        try simp only [put_some, List.setIfInBounds_toArray, List.set_cons_succ, List.set_cons_zero]
        refine rem_one 9 (by kernel_rfl) (step_of rfl (by kernel_rfl) ?_)
        intro v24 hS24 hE24 K hK
        go_wp2_with fail
        refine (rsame_num Y Z1 _ _ _ HY.out HZ1.out).mono ?_
        rintro e u24 ⟨rfl, hk24⟩
        rw [c3]
        refine hK _ _ (hS24.keep hk24) ?_
        clear hK K
        try simp only [put_some, List.setIfInBounds_toArray, List.set_cons_succ, List.set_cons_zero]
        apply rem_sure 10 (by kernel_rfl) rfl (by kernel_rfl)
        · intro w2 hS K hK
          go_wp2_with fail
          exact hK _ hS (Ext.refl _)
        · kernel_rfl
        · kernel_rfl
        try simp only [put_some, List.setIfInBounds_toArray, List.set_cons_succ, List.set_cons_zero]
        apply rem_sure 11 (by kernel_rfl) rfl (by kernel_rfl)
        · intro w2 hS K hK
          exact wp_load_row 52 _ rfl w.heap.size rfl _ (arrI X) _ _ (hS.at_ (by simp)) Try.underlying52 rfl (by rw [sX]; exact info_num) (hK _ hS (Ext.refl _))
        · kernel_rfl
        · kernel_rfl
        try simp only [put_some, List.setIfInBounds_toArray, List.set_cons_succ, List.set_cons_zero]
        refine rem_one 12 (by kernel_rfl) (step_of rfl (by kernel_rfl) ?_)
        intro v25 hS25 hE25 K hK
        go_wp2_with fail
        refine (rsmall_any 0 _ (by omega) (by omega)).mono ?_
        rintro e u25 ⟨Z2, rfl, hZ2, hk25⟩
        rw [en]
        have sZ2 : (arrI Z2).size = 16 := by rw [arrI_size, hZ2.1]
        have HZ2 := Lib.hid hZ2
        clear hZ2
        refine hK _ _ (hS25.keep hk25) ?_
        clear hK K
        try simp only [put_some, List.setIfInBounds_toArray, List.set_cons_succ, List.set_cons_zero]
        refine rem_one 13 (by kernel_rfl) (step_of rfl (by kernel_rfl) ?_)
        intro v26 hS26 hE26 K hK
        go_wp2_with fail
        refine (rsame_num X Z2 _ _ _ HX.out HZ2.out).mono ?_
        rintro e u26 ⟨rfl, hk26⟩
        rw [c4]
        refine hK _ _ (hS26.keep hk26) ?_
        clear hK K
        try simp only [put_some, List.setIfInBounds_toArray, List.set_cons_succ, List.set_cons_zero]
        apply rem_sure 14 (by kernel_rfl) rfl (by kernel_rfl)
        · intro w2 hS K hK
          go_wp2_with fail
          exact hK _ hS (Ext.refl _)
        · kernel_rfl
        · kernel_rfl
        try simp only [put_some, List.setIfInBounds_toArray, List.set_cons_succ, List.set_cons_zero]
        apply rem_sure 15 (by kernel_rfl) rfl (by kernel_rfl)
        · intro w2 hS K hK
          go_wp2_with fail
          exact hK _ hS (Ext.refl _)
        · kernel_rfl
        · kernel_rfl
        try simp only [put_some, List.setIfInBounds_toArray, List.set_cons_succ, List.set_cons_zero]
        apply rem_sure 16 (by kernel_rfl) rfl (wanted_none rfl)
        · intro w2 hS K hK
          go_wp2_with fail
          exact hK _ hS (Ext.refl _)
        · kernel_rfl
        · kernel_rfl
        try simp only [put_some, List.setIfInBounds_toArray, List.set_cons_succ, List.set_cons_zero]
        refine rem_nil ?_
        intro v9 hS9 hE9
        have cz := (hE9 _ _ (block_stay hk26 (hE26 _ _ (block_stay hk25 (hE25 _ _ (block_stay hk24 (hE24 _ _ (block_stay hk23 (hE23 _ _ (block_stay hk22 (hE22 _ _ (block_stay hk21 (hE21 _ _ cz)))))))))))))
        have hst := hS9
        clear hS9 hE9
        generalize v9 = w6 at *
        have cP := hst.at_ (g := gE) (cs := arrI P) (by simp)
        go_wp2_with (refine wpList_load_row rfl 52 (.tmp 7) rfl gE rfl _ _ _ _ cP Try.underlying52 rfl (by rw [sP]; exact info_num) ?_)
        refine (rbytes_num P _ _ HP.out).mono ?_
        rintro e w7 ⟨bb, cb, rfl, hcb, hbB, hb5⟩
        have hst := hst.keep hb5
        have cz := block_stay hb5 cz
        have cP := block_stay hb5 cP
        have cc : w7.cell? ⟨bb, 0, none⟩ = some (.int .u8 (rX U V % PP % 256)) := hbB.cell 0 (by omega)
        have h1 : rOk U V = true := by unfold rOk; simp [c2, c3, c4]
        have H1 := Lib.hid h1
        obtain ⟨y, hy⟩ : ∃ y, y = rX U V % PP % 256 := ⟨_, rfl⟩
        have hy0 : 0 ≤ y ∧ y < 256 := by omega
        have hy2 : y % 2 = rX U V % PP % 2 := by omega
        rw [← hy] at cc
        obtain ⟨hya, hyb⟩ := hy0
        have HY2 := Lib.hid hy2
        clear hb5 hbB h1 hy hy2
        by_cases par : rX U V % PP % 2 = 1
        · have h2 : rR U V = 0 - rX U V := by unfold rR; rw [if_pos H1.out, if_pos par]
          have H2 := Lib.hid h2
          have hp : (y % 2 == 1) = true := by rw [HY2.out]; simpa using par
          clear h2 par
          go_wp2_with fail
          have hst1 := hst.sub (bm := [(gQ, arrI Q), (w.heap.size, arrI X), (w.heap.size + 1, arrI Y)]) (by simp)
          refine wp_region_rem (StN w [(gQ, arrI Q), (w.heap.size, arrI X), (w.heap.size + 1, arrI Y)]) (by kernel_rfl) (by kernel_rfl) (fun _ _ d _ _ h => by cases d <;> exact h) hst1.drew ?_
          refine rem_two 0 1 (by kernel_rfl) (step_of rfl (wanted_none rfl) ?_) (step_of rfl (wanted_none rfl) ?_)
          · intro v21 hS21 hE21 K hK
            go_wp2_with fail
            refine (rsmall_any 0 _ (by omega) (by omega)).mono ?_
            rintro e u21 ⟨Z0, rfl, hZ0, hk21⟩
            rw [en]
            have sZ0 : (arrI Z0).size = 16 := by rw [arrI_size, hZ0.1]
            have HZ0 := Lib.hid hZ0
            clear hZ0
            refine hK _ _ (hS21.keep hk21) ?_
            clear hK K
            try simp only [put_some, List.setIfInBounds_toArray, List.set_cons_succ, List.set_cons_zero]
            refine rem_one 1 (by kernel_rfl) (step_of rfl (wanted_none rfl) ?_)
            intro v22 hS22 hE22 K hK
            refine wp_load_row 52 _ rfl gE rfl _ (arrI P) _ _ (hE22 _ _ (block_stay hk21 (hE21 _ _ cP))) Try.underlying52 rfl (by rw [sP]; exact info_num) ?_
            refine hK _ _ (hS22) ?_
            clear hK K
            try simp only [put_some, List.setIfInBounds_toArray, List.set_cons_succ, List.set_cons_zero]
            refine rem_one 2 (by kernel_rfl) (step_of rfl (wanted_none rfl) ?_)
            intro v23 hS23 hE23 K hK
            go_wp2_with fail
            refine (rminus_num Z0 P _ _ _ HZ0.out HP.out).mono ?_
            rintro e u23 ⟨R, rfl, hR, hk23⟩
            rw [en]
            have sR : (arrI R).size = 16 := by rw [arrI_size, hR.1]
            have HR := Lib.hid hR
            clear hR
            refine hK _ _ (hS23.keep hk23) ?_
            clear hK K
            try simp only [put_some, List.setIfInBounds_toArray, List.set_cons_succ, List.set_cons_zero]
            refine rem_one 3 (by kernel_rfl) (step_of rfl (wanted_none rfl) ?_)
            intro v24 hS24 hE24 K hK
            have hg_o := (hE24 _ _ (block_stay hk23 (hE23 _ _ (hE22 _ _ (block_stay hk21 (hE21 _ _ cP))))))
            have hz_o := (hE24 _ _ (block_stay hk23 (hE23 _ _ (hE22 _ _ (block_stay hk21 (hE21 _ _ cz))))))
            refine wp_store_row 52 _ _ rfl gE (arrI R) rfl rfl 52 _ hg_o (by rw [sR]; exact info_num) (by rw [sP, sR]) (arrI_one R) ?_
            refine hK _ _ (hS24.store (by omega) HNE.out _) ?_
            clear hK K
            try simp only [put_some, List.setIfInBounds_toArray, List.set_cons_succ, List.set_cons_zero]
            refine rem_nil ?_
            intro v9 hS9 hE9
            have cR := (hE9 _ _ (setRow_here hg_o (arrI R)))
            have cz := (hE9 _ _ ((setRow_other _ _ _ _ (by omega)).trans hz_o))
            go_wp2_with (first | (refine wpList_load_row rfl 52 (.tmp 7) rfl gE rfl _ _ _ _ cR Try.underlying52 rfl (by rw [sR]; exact info_num) ?_) | (refine wpList_store_row rfl 52 (.tmp 4) (.tmp 44) rfl (w.heap.size + 1 + 1) (arrI R) rfl rfl 52 _ cz (by rw [sR]; exact info_num) (by rw [sR]; rfl) (arrI_one R) ?_))
            refine ret_cell_tmp rfl (w.heap.size + 1 + 1) _ (arrI R) _ _ (.bool true) rfl rfl (setRow_here cz _) Try.underlying52 rfl (by rw [sR]; exact info_num) rfl ?_
            rw [H1.out, H2.out]
            exact ⟨R, rfl, HR.out, below_setRow hS9.2 (by omega) _⟩
          · intro v25 hS25 hE25 K hK
            refine wp_load_row 52 _ rfl gE rfl _ (arrI P) _ _ (hE25 _ _ cP) Try.underlying52 rfl (by rw [sP]; exact info_num) ?_
            refine hK _ _ (hS25) ?_
            clear hK K
            try simp only [put_some, List.setIfInBounds_toArray, List.set_cons_succ, List.set_cons_zero]
            refine rem_one 0 (by kernel_rfl) (step_of rfl (wanted_none rfl) ?_)
            intro v26 hS26 hE26 K hK
            go_wp2_with fail
            refine (rsmall_any 0 _ (by omega) (by omega)).mono ?_
            rintro e u26 ⟨Z0, rfl, hZ0, hk26⟩
            rw [en]
            have sZ0 : (arrI Z0).size = 16 := by rw [arrI_size, hZ0.1]
            have HZ0 := Lib.hid hZ0
            clear hZ0
            refine hK _ _ (hS26.keep hk26) ?_
            clear hK K
            try simp only [put_some, List.setIfInBounds_toArray, List.set_cons_succ, List.set_cons_zero]
            refine rem_one 2 (by kernel_rfl) (step_of rfl (wanted_none rfl) ?_)
            intro v27 hS27 hE27 K hK
            go_wp2_with fail
            refine (rminus_num Z0 P _ _ _ HZ0.out HP.out).mono ?_
            rintro e u27 ⟨R, rfl, hR, hk27⟩
            rw [en]
            have sR : (arrI R).size = 16 := by rw [arrI_size, hR.1]
            have HR := Lib.hid hR
            clear hR
            refine hK _ _ (hS27.keep hk27) ?_
            clear hK K
            try simp only [put_some, List.setIfInBounds_toArray, List.set_cons_succ, List.set_cons_zero]
            refine rem_one 3 (by kernel_rfl) (step_of rfl (wanted_none rfl) ?_)
            intro v28 hS28 hE28 K hK
            have hg_o := (hE28 _ _ (block_stay hk27 (hE27 _ _ (block_stay hk26 (hE26 _ _ (hE25 _ _ cP))))))
            have hz_o := (hE28 _ _ (block_stay hk27 (hE27 _ _ (block_stay hk26 (hE26 _ _ (hE25 _ _ cz))))))
            refine wp_store_row 52 _ _ rfl gE (arrI R) rfl rfl 52 _ hg_o (by rw [sR]; exact info_num) (by rw [sP, sR]) (arrI_one R) ?_
            refine hK _ _ (hS28.store (by omega) HNE.out _) ?_
            clear hK K
            try simp only [put_some, List.setIfInBounds_toArray, List.set_cons_succ, List.set_cons_zero]
            refine rem_nil ?_
            intro v9 hS9 hE9
            have cR := (hE9 _ _ (setRow_here hg_o (arrI R)))
            have cz := (hE9 _ _ ((setRow_other _ _ _ _ (by omega)).trans hz_o))
            go_wp2_with (first | (refine wpList_load_row rfl 52 (.tmp 7) rfl gE rfl _ _ _ _ cR Try.underlying52 rfl (by rw [sR]; exact info_num) ?_) | (refine wpList_store_row rfl 52 (.tmp 4) (.tmp 44) rfl (w.heap.size + 1 + 1) (arrI R) rfl rfl 52 _ cz (by rw [sR]; exact info_num) (by rw [sR]; rfl) (arrI_one R) ?_))
            refine ret_cell_tmp rfl (w.heap.size + 1 + 1) _ (arrI R) _ _ (.bool true) rfl rfl (setRow_here cz _) Try.underlying52 rfl (by rw [sR]; exact info_num) rfl ?_
            rw [H1.out, H2.out]
            exact ⟨R, rfl, HR.out, below_setRow hS9.2 (by omega) _⟩
        · have h2 : rR U V = rX U V := by unfold rR; rw [if_pos H1.out, if_neg par]
          have H2 := Lib.hid h2
          have hp : (y % 2 == 1) = false := by rw [HY2.out]; simpa using par
          have hb9 := hst.2
          clear h2 par
          go_wp2_with (first | (refine wpList_load_row rfl 52 (.tmp 7) rfl gE rfl _ _ _ _ cP Try.underlying52 rfl (by rw [sP]; exact info_num) ?_) | (refine wpList_store_row rfl 52 (.tmp 4) (.tmp 44) rfl (w.heap.size + 1 + 1) (arrI P) rfl rfl 52 _ cz (by rw [sP]; exact info_num) (by rw [sP]; rfl) (arrI_one P) ?_))
          refine ret_cell_tmp rfl (w.heap.size + 1 + 1) _ (arrI P) _ _ (.bool true) rfl rfl (setRow_here cz _) Try.underlying52 rfl (by rw [sP]; exact info_num) rfl ?_
          rw [H1.out, H2.out]
          exact ⟨P, rfl, HP.out, below_setRow hb9 (by omega) _⟩
end Go.Proofs.Ytenppmciabdefaa
