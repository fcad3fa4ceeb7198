/- The walk of field.root. No condition. -/
import Derived.Test.YtenppmciabdefaaHd
namespace Go.Proofs.Ytenppmciabdefaa
open Go Go.RowKit
/-- The quotient; what its root would be; whether it is one; the even one. -/
def rQ (U V : Int) : Int := U * pinv V
def rX (U V : Int) : Int := if sameB (peighth (rQ U V) * peighth (rQ U V)) (rQ U V) then peighth (rQ U V) else peighth (rQ U V) * rootM1
def rOk (U V : Int) : Bool := sameB (rX U V * rX U V) (rQ U V) && !(sameB V 0 && !sameB U 0)
def rR (U V : Int) : Int := if rOk U V then (if rX U V % PP % 2 = 1 then 0 - rX U V else rX U V) else 0
theorem results_cell_tmp {P : Program} {fn : Func} {p q : Tmp} {ty : TypeId} (h : fn.results = #[.cell p ty, .tmp q]) (tmps : Array Value) (w : World) (g : Nat) (t : TypeId) (cs : Array Value) (fr : Nat × Nat) (d : TypeDesc) (v : Value)
    (hp : tmps.getD p undef = .pointer (some ⟨g, 0, none⟩)) (hq : tmps.getD q undef = v) (hg : w.heap[g]? = some (.cells cs t fr))
    (hu : P.underlying ty = some d) (hd : (match d with | .struct _ | .array _ _ => true | _ => false) = true) (hi : (P.info? ty).map (·.size) = some cs.size) :
    (results fn tmps).run P w = .ok (.tuple #[.agg cs, v]) w := by
  have hp' : tmps[p]?.getD undef = .pointer (some ⟨g, 0, none⟩) := by simpa using hp
  have hq' : tmps[q]?.getD undef = v := by simpa using hq
  simp [results, h, hp', hq', asAddr, run_loadVar_row w g t ty cs fr d hg hu hd hi]
theorem ret_cell_tmp {P : Program} {fn : Func} {R : Ending → World → Prop} {a : Act} {w : World} {p q : Tmp} {ty : TypeId} (h : fn.results = #[.cell p ty, .tmp q]) (g : Nat) (t : TypeId) (cs : Array Value) (fr : Nat × Nat) (d : TypeDesc) (v : Value)
    (hp : a.tmps.getD p undef = .pointer (some ⟨g, 0, none⟩)) (hq : a.tmps.getD q undef = v) (hg : w.heap[g]? = some (.cells cs t fr))
    (hu : P.underlying ty = some d) (hd : (match d with | .struct _ | .array _ _ => true | _ => false) = true) (hi : (P.info? ty).map (·.size) = some cs.size)
    (hdf : a.defers = []) (hR : R (.returned (.tuple #[.agg cs, v])) w) : bodyPost P fn R .ret a w :=
  bodyPost_ret (results_cell_tmp h a.tmps w g t cs fr d v hp hq hg hu hd hi) hdf hR
theorem and_u8_one (x : Int) (h : 0 ≤ x ∧ x < 256) : bits .and .u8 x 1 = x % 2 := by
  have key : ∀ n : Fin 256, bits .and .u8 (n.val : Int) 1 = (n.val : Int) % 2 := by decide +kernel
  obtain ⟨k, rfl⟩ := Int.eq_ofNat_of_zero_le h.1
  exact key ⟨k, by omega⟩
/-- What root answers. -/
def ResR (w : World) (N : Int) (b : Bool) (e : Ending) (w' : World) : Prop := ∃ cs, e = .returned (.tuple #[.agg cs, .bool b]) ∧ FeA cs N ∧ Below w.heap.size w w'
set_option maxRecDepth 100000 in
set_option maxHeartbeats 40000000 in
theorem root_fe (X Y : Array Value) (U V : Int) (w : World) (hX : FeA X U) (hY : FeA Y V) : Calls Try.prog 78 #[.agg X, .agg Y] w (ResR w (rR U V) (rOk U V)) := by
  have sX := hX.size
  have sY := hY.size
  have HX := Lib.hid hX
  have HY := Lib.hid hY
  obtain ⟨W0, hW0, hz, hb0, q0, q1, q2⟩ := three_new w (.cells X 44) (.cells Y 44) (.cells zero5 44)
  have hst0 : St w [] W0 := ⟨by simp, hb0⟩
  have hst := (hst0.add q1).add q0
  have cz : W0.heap[w.heap.size + 1 + 1]? = some (.cells zero5 44 (0, 0)) := q2
  have HZ := Lib.hid hz
  have HW : Hid (((w.alloc (.cells X 44)).alloc (.cells Y 44)).alloc (.cells #[.int .u64 0, .int .u64 0, .int .u64 0, .int .u64 0, .int .u64 0] 44) = W0) := hW0
  clear hz hb0 q0 q1 q2 hW0 hst0 hX hY
  go_enter Try.func78, Try.ntmps78
  go_wp2_with fail
  rw [HW.out]
  clear HW
  -- region 1: q
  refine wp_region_then (fun a b w' => ∃ (Q I : Array Value) (gQ : Nat), b = (((((a.put (some 8) (.agg X)).put (some 9) (.agg Y)).put (some 10) (.agg I)).put (some 11) (.agg Q)).put (some 6) (.pointer (some ⟨gQ, 0, none⟩))) ∧ FeA Q (rQ U V) ∧ (w.heap.size + 1 + 1 < gQ) ∧ St w [(gQ, Q), (w.heap.size, X), (w.heap.size + 1, Y)] w' ∧ w'.heap[w.heap.size + 1 + 1]? = some (.cells zero5 44 (0, 0))) ?_ ?_
  · refine wp_region_rem (St w [(w.heap.size, X), (w.heap.size + 1, Y)]) (by kernel_rfl) (by kernel_rfl) (fun _ _ _ _ _ h => h.elim) hst.drew ?_
    apply rem_sure 0 (by kernel_rfl) rfl (wanted_none rfl)
    · intro w2 hS K hK
      exact wp_load_row 44 _ rfl w.heap.size rfl _ X _ _ (hS.at_ (by simp)) Try.underlying44 rfl (by rw [sX]; exact infoFe) (hK _ hS (Ext.refl _))
    · kernel_rfl
    · kernel_rfl
    try simp only [put_some, List.setIfInBounds_toArray, List.set_cons_succ, List.set_cons_zero]
    apply rem_sure 1 (by kernel_rfl) rfl (wanted_none rfl)
    · intro w2 hS K hK
      exact wp_load_row 44 _ rfl (w.heap.size + 1) rfl _ Y _ _ (hS.at_ (by simp)) Try.underlying44 rfl (by rw [sY]; exact infoFe) (hK _ hS (Ext.refl _))
    · kernel_rfl
    · kernel_rfl
    try simp only [put_some, List.setIfInBounds_toArray, List.set_cons_succ, List.set_cons_zero]
    refine rem_two 2 4 (by kernel_rfl) (step_of rfl (wanted_none rfl) ?_) (step_of rfl (wanted_none rfl) ?_)
    · intro v21 hS21 hE21 K hK
      go_wp2_with fail
      refine (inv_fe Y _ _ HY.out).mono ?_
      rintro e u21 ⟨I, rfl, hI, hk21⟩
      have sI := hI.size
      have oI := Lib.hid hI.one
      have HI := Lib.hid hI
      clear hI
      refine hK _ _ (hS21.keep hk21) ?_
      clear hK K
      try simp only [put_some, List.setIfInBounds_toArray, List.set_cons_succ, List.set_cons_zero]
      refine rem_two 3 4 (by kernel_rfl) (step_of rfl (wanted_none rfl) ?_) (step_of rfl (wanted_none rfl) ?_)
      · intro v22 hS22 hE22 K hK
        go_wp2_with fail
        refine (emul_fe X I _ _ _ HX.out HI.out).mono ?_
        rintro e u22 ⟨Q, rfl, hQ, hk22⟩
        have sQ := hQ.size
        have oQ := Lib.hid hQ.one
        have HQ := Lib.hid hQ
        clear hQ
        refine hK _ _ (hS22.keep hk22) ?_
        clear hK K
        try simp only [put_some, List.setIfInBounds_toArray, List.set_cons_succ, List.set_cons_zero]
        refine rem_one 4 (by kernel_rfl) (step_of rfl (wanted_none rfl) ?_)
        intro v23 hS23 hE23 K hK
        have hlt_q : w.heap.size + 1 + 1 < v23.heap.size := (Array.getElem?_eq_some_iff.1 (hE23 _ _ (block_stay hk22 (hE22 _ _ (block_stay hk21 (hE21 _ _ cz)))))).1
        go_wp2_with fail
        have al_q := hS23
        refine hK _ _ (hS23.alloc _) ?_
        clear hK K
        try simp only [put_some, List.setIfInBounds_toArray, List.set_cons_succ, List.set_cons_zero]
        refine rem_one 5 (by kernel_rfl) (step_of rfl (wanted_none rfl) ?_)
        intro v24 hS24 hE24 K hK
        have hg_q := (hE24 _ _ (heap_alloc_new v23 _))
        have hz24 := (hE24 _ _ (Ext.alloc v23 _ _ _ (hE23 _ _ (block_stay hk22 (hE22 _ _ (block_stay hk21 (hE21 _ _ cz)))))))
        refine wp_store_row 44 _ _ rfl v23.heap.size Q rfl rfl 44 _ hg_q (by rw [sQ]; exact infoFe) (by rw [sQ]; rfl) oQ.out ?_
        refine hK _ _ (al_q.storeNew hS24 _) ?_
        clear hK K
        try simp only [put_some, List.setIfInBounds_toArray, List.set_cons_succ, List.set_cons_zero]
        refine rem_nil ?_
        intro v9 hS9 hE9
        exact ⟨Q, I, v23.heap.size, rfl, HQ.out, hlt_q, hS9.add (hE9 _ _ (setRow_here hg_q Q)), (hE9 _ _ ((setRow_other _ _ _ _ (by omega)).trans hz24))⟩
      · intro v25 hS25 hE25 K hK
        have hlt_q : w.heap.size + 1 + 1 < v25.heap.size := (Array.getElem?_eq_some_iff.1 (hE25 _ _ (block_stay hk21 (hE21 _ _ cz)))).1
        go_wp2_with fail
        have al_q := hS25
        refine hK _ _ (hS25.alloc _) ?_
        clear hK K
        try simp only [put_some, List.setIfInBounds_toArray, List.set_cons_succ, List.set_cons_zero]
        refine rem_one 3 (by kernel_rfl) (step_of rfl (wanted_none rfl) ?_)
        intro v26 hS26 hE26 K hK
        go_wp2_with fail
        refine (emul_fe X I _ _ _ HX.out HI.out).mono ?_
        rintro e u26 ⟨Q, rfl, hQ, hk26⟩
        have sQ := hQ.size
        have oQ := Lib.hid hQ.one
        have HQ := Lib.hid hQ
        clear hQ
        refine hK _ _ (hS26.keep hk26) ?_
        clear hK K
        try simp only [put_some, List.setIfInBounds_toArray, List.set_cons_succ, List.set_cons_zero]
        refine rem_one 5 (by kernel_rfl) (step_of rfl (wanted_none rfl) ?_)
        intro v27 hS27 hE27 K hK
        have hg_q := (hE27 _ _ (block_stay hk26 (hE26 _ _ (heap_alloc_new v25 _))))
        have hz27 := (hE27 _ _ (block_stay hk26 (hE26 _ _ (Ext.alloc v25 _ _ _ (hE25 _ _ (block_stay hk21 (hE21 _ _ cz)))))))
        refine wp_store_row 44 _ _ rfl v25.heap.size Q rfl rfl 44 _ hg_q (by rw [sQ]; exact infoFe) (by rw [sQ]; rfl) oQ.out ?_
        refine hK _ _ (al_q.storeNew hS27 _) ?_
        clear hK K
        try simp only [put_some, List.setIfInBounds_toArray, List.set_cons_succ, List.set_cons_zero]
        refine rem_nil ?_
        intro v9 hS9 hE9
        exact ⟨Q, I, v25.heap.size, rfl, HQ.out, hlt_q, hS9.add (hE9 _ _ (setRow_here hg_q Q)), (hE9 _ _ ((setRow_other _ _ _ _ (by omega)).trans hz27))⟩
    · intro v28 hS28 hE28 K hK
      have hlt_q : w.heap.size + 1 + 1 < v28.heap.size := (Array.getElem?_eq_some_iff.1 (hE28 _ _ cz)).1
      go_wp2_with fail
      have al_q := hS28
      refine hK _ _ (hS28.alloc _) ?_
      clear hK K
      try simp only [put_some, List.setIfInBounds_toArray, List.set_cons_succ, List.set_cons_zero]
      refine rem_one 2 (by kernel_rfl) (step_of rfl (wanted_none rfl) ?_)
      intro v29 hS29 hE29 K hK
      go_wp2_with fail
      refine (inv_fe Y _ _ HY.out).mono ?_
      rintro e u29 ⟨I, rfl, hI, hk29⟩
      have sI := hI.size
      have oI := Lib.hid hI.one
      have HI := Lib.hid hI
      clear hI
      refine hK _ _ (hS29.keep hk29) ?_
      clear hK K
      try simp only [put_some, List.setIfInBounds_toArray, List.set_cons_succ, List.set_cons_zero]
      refine rem_one 3 (by kernel_rfl) (step_of rfl (wanted_none rfl) ?_)
      intro v30 hS30 hE30 K hK
      go_wp2_with fail
      refine (emul_fe X I _ _ _ HX.out HI.out).mono ?_
      rintro e u30 ⟨Q, rfl, hQ, hk30⟩
      have sQ := hQ.size
      have oQ := Lib.hid hQ.one
      have HQ := Lib.hid hQ
      clear hQ
      refine hK _ _ (hS30.keep hk30) ?_
      clear hK K
      try simp only [put_some, List.setIfInBounds_toArray, List.set_cons_succ, List.set_cons_zero]
      refine rem_one 5 (by kernel_rfl) (step_of rfl (wanted_none rfl) ?_)
      intro v31 hS31 hE31 K hK
      have hg_q := (hE31 _ _ (block_stay hk30 (hE30 _ _ (block_stay hk29 (hE29 _ _ (heap_alloc_new v28 _))))))
      have hz31 := (hE31 _ _ (block_stay hk30 (hE30 _ _ (block_stay hk29 (hE29 _ _ (Ext.alloc v28 _ _ _ (hE28 _ _ cz)))))))
      refine wp_store_row 44 _ _ rfl v28.heap.size Q rfl rfl 44 _ hg_q (by rw [sQ]; exact infoFe) (by rw [sQ]; rfl) oQ.out ?_
      refine hK _ _ (al_q.storeNew hS31 _) ?_
      clear hK K
      try simp only [put_some, List.setIfInBounds_toArray, List.set_cons_succ, List.set_cons_zero]
      refine rem_nil ?_
      intro v9 hS9 hE9
      exact ⟨Q, I, v28.heap.size, rfl, HQ.out, hlt_q, hS9.add (hE9 _ _ (setRow_here hg_q Q)), (hE9 _ _ ((setRow_other _ _ _ _ (by omega)).trans hz31))⟩
  rintro b w1 ⟨Q, I, gQ, rfl, hQ, hgQ, hst, cz⟩
  have sQ := hQ.size
  have HQ := Lib.hid hQ
  clear hQ
  simp only [put_some, List.setIfInBounds_toArray, List.set_cons_succ, List.set_cons_zero]
  -- region 2: x
  have cQ := hst.at_ (g := gQ) (cs := Q) (by simp)
  go_wp2_with (refine wpList_load_row rfl 44 (.tmp 6) rfl gQ rfl _ _ _ _ cQ Try.underlying44 rfl (by rw [sQ]; exact infoFe) ?_)
  refine (eighth_fe Q _ _ HQ.out).mono ?_
  rintro e w2 ⟨E, rfl, hE, hb⟩
  have sE := hE.size
  have oE' := Lib.hid hE.one
  have HE := Lib.hid hE
  have hst := hst.keep hb
  have cz := block_stay hb cz
  clear hE hb cQ
  have hltE : w.heap.size + 1 + 1 < w2.heap.size := (Array.getElem?_eq_some_iff.1 cz).1
  have hltQ := hst.lt (p := (gQ, Q)) (by simp)
  have hltX := hst.lt (p := (w.heap.size, X)) (by simp)
  go_wp2_with (refine wpList_store_row rfl 44 _ _ rfl w2.heap.size E rfl rfl 44 _ (heap_alloc_new w2 _) (by rw [sE]; exact infoFe) (by rw [sE]; rfl) oE'.out ?_)
  have cz := (setRow_other (w2.alloc (.cells zero5 44)) w2.heap.size (w.heap.size + 1 + 1) E (by omega)).trans (Ext.alloc w2 (.cells zero5 44) _ _ cz)
  have cE := setRow_here (heap_alloc_new w2 (.cells zero5 44)) E
  have hst := hst.storeNew (hst.alloc (.cells zero5 44)) E
  rw [show (#[.int .u64 0, .int .u64 0, .int .u64 0, .int .u64 0, .int .u64 0] : Array Value) = zero5 from rfl]
  generalize (w2.alloc (.cells zero5 44)).setRow w2.heap.size E = w3 at *
  generalize w2.heap.size = gE at *
  simp only [put_none]
  have hne : ∀ p ∈ [(gQ, Q), (w.heap.size, X), (w.heap.size + 1, Y)], p.1 ≠ gE := by simp; omega
  have hne2 : ∀ p ∈ [(gE, E), (gQ, Q), (w.heap.size, X), (w.heap.size + 1, Y)], p.1 ≠ w.heap.size + 1 + 1 := by simp; omega
  have HNE := Lib.hid hne
  clear hne hne2 hltX hltQ
  have hst := hst.add cE
  clear cE
  cases c1 : sameB (peighth (rQ U V) * peighth (rQ U V)) (rQ U V)
  · go_wp2_with fail
    refine wp_region_rem (St w [(gE, E), (gQ, Q), (w.heap.size, X), (w.heap.size + 1, Y)]) (by kernel_rfl) (by kernel_rfl) (fun _ _ d _ _ h => by cases d <;> exact h) hst.drew ?_
    apply rem_sure 0 (by kernel_rfl) rfl (wanted_none rfl)
    · intro w2 hS K hK
      exact wp_load_row 44 _ rfl gE rfl _ E _ _ (hS.at_ (by simp)) Try.underlying44 rfl (by rw [sE]; exact infoFe) (hK _ hS (Ext.refl _))
    · kernel_rfl
    · kernel_rfl
    try simp only [put_some, List.setIfInBounds_toArray, List.set_cons_succ, List.set_cons_zero]
    apply rem_sure 1 (by kernel_rfl) rfl (wanted_none rfl)
    · intro w2 hS K hK
      exact wp_load_row 44 _ rfl gE rfl _ E _ _ (hS.at_ (by simp)) Try.underlying44 rfl (by rw [sE]; exact infoFe) (hK _ hS (Ext.refl _))
    · kernel_rfl
    · kernel_rfl
    try simp only [put_some, List.setIfInBounds_toArray, List.set_cons_succ, List.set_cons_zero]
    apply rem_sure 3 (by kernel_rfl) rfl (wanted_none rfl)
    · intro w2 hS K hK
      exact wp_load_row 44 _ rfl gQ rfl _ Q _ _ (hS.at_ (by simp)) Try.underlying44 rfl (by rw [sQ]; exact infoFe) (hK _ hS (Ext.refl _))
    · kernel_rfl
    · kernel_rfl
    try simp only [put_some, List.setIfInBounds_toArray, List.set_cons_succ, List.set_cons_zero]
    refine rem_one 2 (by kernel_rfl) (step_of rfl (wanted_none rfl) ?_)
    intro v21 hS21 hE21 K hK
    go_wp2_with fail
    refine (emul_fe E E _ _ _ HE.out HE.out).mono ?_
    rintro e u21 ⟨S, rfl, hS, hk21⟩
    have sS := hS.size
    have oS := Lib.hid hS.one
    have HS := Lib.hid hS
    clear hS
    refine hK _ _ (hS21.keep hk21) ?_
    clear hK K
    try simp only [put_some, List.setIfInBounds_toArray, List.set_cons_succ, List.set_cons_zero]
    refine rem_one 4 (by kernel_rfl) (step_of rfl (wanted_none rfl) ?_)
    intro v22 hS22 hE22 K hK
    go_wp2_with fail
    refine (same_fe S Q _ _ _ HS.out HQ.out).mono ?_
    rintro e u22 ⟨rfl, hk22⟩
    rw [c1]
    refine hK _ _ (hS22.keep hk22) ?_
    clear hK K
    try simp only [put_some, List.setIfInBounds_toArray, List.set_cons_succ, List.set_cons_zero]
    apply rem_sure 5 (by kernel_rfl) rfl (wanted_none rfl)
    · intro w2 hS K hK
      go_wp2_with fail
      exact hK _ hS (Ext.refl _)
    · kernel_rfl
    · kernel_rfl
    try simp only [put_some, List.setIfInBounds_toArray, List.set_cons_succ, List.set_cons_zero]
    refine rem_nil ?_
    intro v9 hS9 hE9
    have cz := (hE9 _ _ (block_stay hk22 (hE22 _ _ (block_stay hk21 (hE21 _ _ cz)))))
    have hst := hS9
    clear hS9 hE9
    generalize v9 = w4 at *
    have hx : rX U V = peighth (rQ U V) * rootM1 := by unfold rX; rw [c1]; rfl
    have hst1 := hst.sub (bm := [(gQ, Q), (w.heap.size, X), (w.heap.size + 1, Y)]) (by simp)
    have cE := hst.at_ (g := gE) (cs := E) (by simp)
    go_wp2_with fail
    refine wp_region_then (fun a b w' => ∃ (P M : Array Value), b = (((a.put (some 20) (.agg E)).put (some 21) (.agg M)).put (some 22) (.agg P)) ∧ FeA P (rX U V) ∧ St w [(gQ, Q), (w.heap.size, X), (w.heap.size + 1, Y)] w' ∧ w'.heap[gE]? = some (.cells P 44 (0, 0)) ∧ w'.heap[w.heap.size + 1 + 1]? = some (.cells zero5 44 (0, 0))) ?_ ?_
    · refine wp_region_rem (St w [(gQ, Q), (w.heap.size, X), (w.heap.size + 1, Y)]) (by kernel_rfl) (by kernel_rfl) (fun _ _ _ _ _ h => h.elim) hst1.drew ?_
      refine rem_two 0 1 (by kernel_rfl) (step_of rfl (wanted_none rfl) ?_) (step_of rfl (wanted_none rfl) ?_)
      · intro v21 hS21 hE21 K hK
        refine wp_load_row 44 _ rfl gE rfl _ E _ _ (hE21 _ _ cE) Try.underlying44 rfl (by rw [sE]; exact infoFe) ?_
        refine hK _ _ (hS21) ?_
        clear hK K
        try simp only [put_some, List.setIfInBounds_toArray, List.set_cons_succ, List.set_cons_zero]
        refine rem_one 1 (by kernel_rfl) (step_of rfl (wanted_none rfl) ?_)
        intro v22 hS22 hE22 K hK
        go_wp2_with fail
        refine (minus1_fe _).mono ?_
        rintro e u22 ⟨M, rfl, hM, hk22⟩
        have sM := hM.size
        have oM := Lib.hid hM.one
        have HM := Lib.hid hM
        clear hM
        refine hK _ _ (hS22.keep hk22) ?_
        clear hK K
        try simp only [put_some, List.setIfInBounds_toArray, List.set_cons_succ, List.set_cons_zero]
        refine rem_one 2 (by kernel_rfl) (step_of rfl (wanted_none rfl) ?_)
        intro v23 hS23 hE23 K hK
        go_wp2_with fail
        refine (emul_fe E M _ _ _ HE.out HM.out).mono ?_
        rintro e u23 ⟨P, rfl, hP, hk23⟩
        rw [← hx] at hP
        have sP := hP.size
        have oP := Lib.hid hP.one
        have HP := Lib.hid hP
        clear hP
        refine hK _ _ (hS23.keep hk23) ?_
        clear hK K
        try simp only [put_some, List.setIfInBounds_toArray, List.set_cons_succ, List.set_cons_zero]
        refine rem_one 3 (by kernel_rfl) (step_of rfl (wanted_none rfl) ?_)
        intro v24 hS24 hE24 K hK
        have hg_o := (hE24 _ _ (block_stay hk23 (hE23 _ _ (block_stay hk22 (hE22 _ _ (hE21 _ _ cE))))))
        have hz_o := (hE24 _ _ (block_stay hk23 (hE23 _ _ (block_stay hk22 (hE22 _ _ (hE21 _ _ cz))))))
        refine wp_store_row 44 _ _ rfl gE P rfl rfl 44 _ hg_o (by rw [sP]; exact infoFe) (by rw [sE, sP]) oP.out ?_
        refine hK _ _ (hS24.store (by omega) HNE.out _) ?_
        clear hK K
        try simp only [put_some, List.setIfInBounds_toArray, List.set_cons_succ, List.set_cons_zero]
        refine rem_nil ?_
        intro v9 hS9 hE9
        exact ⟨P, M, rfl, HP.out, hS9, (hE9 _ _ (setRow_here hg_o P)), (hE9 _ _ ((setRow_other _ _ _ _ (by omega)).trans hz_o))⟩
      · intro v25 hS25 hE25 K hK
        go_wp2_with fail
        refine (minus1_fe _).mono ?_
        rintro e u25 ⟨M, rfl, hM, hk25⟩
        have sM := hM.size
        have oM := Lib.hid hM.one
        have HM := Lib.hid hM
        clear hM
        refine hK _ _ (hS25.keep hk25) ?_
        clear hK K
        try simp only [put_some, List.setIfInBounds_toArray, List.set_cons_succ, List.set_cons_zero]
        refine rem_one 0 (by kernel_rfl) (step_of rfl (wanted_none rfl) ?_)
        intro v26 hS26 hE26 K hK
        refine wp_load_row 44 _ rfl gE rfl _ E _ _ (hE26 _ _ (block_stay hk25 (hE25 _ _ cE))) Try.underlying44 rfl (by rw [sE]; exact infoFe) ?_
        refine hK _ _ (hS26) ?_
        clear hK K
        try simp only [put_some, List.setIfInBounds_toArray, List.set_cons_succ, List.set_cons_zero]
        refine rem_one 2 (by kernel_rfl) (step_of rfl (wanted_none rfl) ?_)
        intro v27 hS27 hE27 K hK
        go_wp2_with fail
        refine (emul_fe E M _ _ _ HE.out HM.out).mono ?_
        rintro e u27 ⟨P, rfl, hP, hk27⟩
        rw [← hx] at hP
        have sP := hP.size
        have oP := Lib.hid hP.one
        have HP := Lib.hid hP
        clear hP
        refine hK _ _ (hS27.keep hk27) ?_
        clear hK K
        try simp only [put_some, List.setIfInBounds_toArray, List.set_cons_succ, List.set_cons_zero]
        refine rem_one 3 (by kernel_rfl) (step_of rfl (wanted_none rfl) ?_)
        intro v28 hS28 hE28 K hK
        have hg_o := (hE28 _ _ (block_stay hk27 (hE27 _ _ (hE26 _ _ (block_stay hk25 (hE25 _ _ cE))))))
        have hz_o := (hE28 _ _ (block_stay hk27 (hE27 _ _ (hE26 _ _ (block_stay hk25 (hE25 _ _ cz))))))
        refine wp_store_row 44 _ _ rfl gE P rfl rfl 44 _ hg_o (by rw [sP]; exact infoFe) (by rw [sE, sP]) oP.out ?_
        refine hK _ _ (hS28.store (by omega) HNE.out _) ?_
        clear hK K
        try simp only [put_some, List.setIfInBounds_toArray, List.set_cons_succ, List.set_cons_zero]
        refine rem_nil ?_
        intro v9 hS9 hE9
        exact ⟨P, M, rfl, HP.out, hS9, (hE9 _ _ (setRow_here hg_o P)), (hE9 _ _ ((setRow_other _ _ _ _ (by omega)).trans hz_o))⟩
    rintro b w5 ⟨P, M, rfl, hP, hst, cP, cz⟩
    have sP := hP.size
    have oP := Lib.hid hP.one
    have HP := Lib.hid hP
    have hst := hst.add cP
    have HXX := Lib.hid hx
    clear hP hst1 cE cP hx c1
    simp only [put_some, List.setIfInBounds_toArray, List.set_cons_succ, List.set_cons_zero]
    cases c2 : sameB (rX U V * rX U V) (rQ U V)
    · go_wp2_with fail
      refine wp_region_rem (St w [(gE, P), (gQ, Q), (w.heap.size, X), (w.heap.size + 1, Y)]) (by kernel_rfl) (by kernel_rfl) (fun _ _ d _ _ h => by cases d <;> exact h) hst.drew ?_
      apply rem_sure 0 (by kernel_rfl) rfl (wanted_none rfl)
      · intro w2 hS K hK
        exact wp_load_row 44 _ rfl gE rfl _ P _ _ (hS.at_ (by simp)) Try.underlying44 rfl (by rw [sP]; exact infoFe) (hK _ hS (Ext.refl _))
      · kernel_rfl
      · kernel_rfl
      try simp only [put_some, List.setIfInBounds_toArray, List.set_cons_succ, List.set_cons_zero]
      apply rem_sure 1 (by kernel_rfl) rfl (wanted_none rfl)
      · intro w2 hS K hK
        exact wp_load_row 44 _ rfl gE rfl _ P _ _ (hS.at_ (by simp)) Try.underlying44 rfl (by rw [sP]; exact infoFe) (hK _ hS (Ext.refl _))
      · kernel_rfl
      · kernel_rfl
      try simp only [put_some, List.setIfInBounds_toArray, List.set_cons_succ, List.set_cons_zero]
      apply rem_sure 3 (by kernel_rfl) rfl (wanted_none rfl)
      · intro w2 hS K hK
        exact wp_load_row 44 _ rfl gQ rfl _ Q _ _ (hS.at_ (by simp)) Try.underlying44 rfl (by rw [sQ]; exact infoFe) (hK _ hS (Ext.refl _))
      · kernel_rfl
      · kernel_rfl
      try simp only [put_some, List.setIfInBounds_toArray, List.set_cons_succ, List.set_cons_zero]
      refine rem_one 2 (by kernel_rfl) (step_of rfl (wanted_none rfl) ?_)
      intro v21 hS21 hE21 K hK
      go_wp2_with fail
      refine (emul_fe P P _ _ _ HP.out HP.out).mono ?_
      rintro e u21 ⟨S1, rfl, hS1, hk21⟩
      have sS1 := hS1.size
      have oS1 := Lib.hid hS1.one
      have HS1 := Lib.hid hS1
      clear hS1
      refine hK _ _ (hS21.keep hk21) ?_
      clear hK K
      try simp only [put_some, List.setIfInBounds_toArray, List.set_cons_succ, List.set_cons_zero]
      refine rem_one 4 (by kernel_rfl) (step_of rfl (wanted_none rfl) ?_)
      intro v22 hS22 hE22 K hK
      go_wp2_with fail
      refine (same_fe S1 Q _ _ _ HS1.out HQ.out).mono ?_
      rintro e u22 ⟨rfl, hk22⟩
      rw [c2]
      refine hK _ _ (hS22.keep hk22) ?_
      clear hK K
      try simp only [put_some, List.setIfInBounds_toArray, List.set_cons_succ, List.set_cons_zero]
      apply rem_sure 5 (by kernel_rfl) rfl (wanted_none rfl)
      · intro w2 hS K hK
        go_wp2_with fail
        exact hK _ hS (Ext.refl _)
      · kernel_rfl
      · kernel_rfl
      try simp only [put_some, List.setIfInBounds_toArray, List.set_cons_succ, List.set_cons_zero]
      apply rem_sure 6 (by kernel_rfl) rfl (wanted_none rfl)
      · intro w2 hS K hK
        go_wp2_with fail
        exact hK _ hS (Ext.refl _)
      · kernel_rfl
      · kernel_rfl
      try simp only [put_some, List.setIfInBounds_toArray, List.set_cons_succ, List.set_cons_zero]
      refine rem_skip 7 (by kernel_rfl) rfl (by kernel_rfl) ?_
      try simp only [put_some, List.setIfInBounds_toArray, List.set_cons_succ, List.set_cons_zero]
      refine rem_skip 8 (by kernel_rfl) rfl (by kernel_rfl) ?_
      try simp only [put_some, List.setIfInBounds_toArray, List.set_cons_succ, List.set_cons_zero]
      refine rem_skip 9 (by kernel_rfl) rfl (by kernel_rfl) ?_
      try simp only [put_some, List.setIfInBounds_toArray, List.set_cons_succ, List.set_cons_zero]
      refine rem_skip 10 (by kernel_rfl) rfl (by kernel_rfl) ?_
      try simp only [put_some, List.setIfInBounds_toArray, List.set_cons_succ, List.set_cons_zero]
      refine rem_skip 11 (by kernel_rfl) rfl (by kernel_rfl) ?_
      try simp only [put_some, List.setIfInBounds_toArray, List.set_cons_succ, List.set_cons_zero]
      refine rem_skip 12 (by kernel_rfl) rfl (by kernel_rfl) ?_
      try simp only [put_some, List.setIfInBounds_toArray, List.set_cons_succ, List.set_cons_zero]
      refine rem_skip 13 (by kernel_rfl) rfl (by kernel_rfl) ?_
      try simp only [put_some, List.setIfInBounds_toArray, List.set_cons_succ, List.set_cons_zero]
      apply rem_sure 14 (by kernel_rfl) rfl (wanted_none rfl)
      · intro w2 hS K hK
        go_wp2_with fail
        exact hK _ hS (Ext.refl _)
      · kernel_rfl
      · kernel_rfl
      try simp only [put_some, List.setIfInBounds_toArray, List.set_cons_succ, List.set_cons_zero]
      refine rem_nil ?_
      intro v9 hS9 hE9
      have cz := (hE9 _ _ (block_stay hk22 (hE22 _ _ (block_stay hk21 (hE21 _ _ cz)))))
      have hst := hS9
      clear hS9 hE9
      generalize v9 = w4 at *
      have hb9 := hst.2
      go_wp2_with (refine wpList_store_row rfl 44 (.tmp 4) (.tmp 38) rfl (w.heap.size + 1 + 1) zero5 rfl rfl 44 _ cz infoFe rfl fe_zero.one ?_)
      refine ret_cell_tmp rfl (w.heap.size + 1 + 1) _ zero5 _ _ (.bool false) rfl rfl (setRow_here cz _) Try.underlying44 rfl infoFe rfl ?_
      have h1 : rOk U V = false := by unfold rOk; simp [c2]
      have h2 : rR U V = 0 := by unfold rR; simp [h1]
      rw [h1, h2]
      exact ⟨zero5, rfl, fe_zero, below_setRow hb9 (by omega) _⟩
    · cases c3 : sameB V 0
      · go_wp2_with fail
        refine wp_region_rem (St w [(gE, P), (gQ, Q), (w.heap.size, X), (w.heap.size + 1, Y)]) (by kernel_rfl) (by kernel_rfl) (fun _ _ d _ _ h => by cases d <;> exact h) hst.drew ?_
        apply rem_sure 0 (by kernel_rfl) rfl (wanted_none rfl)
        · intro w2 hS K hK
          exact wp_load_row 44 _ rfl gE rfl _ P _ _ (hS.at_ (by simp)) Try.underlying44 rfl (by rw [sP]; exact infoFe) (hK _ hS (Ext.refl _))
        · kernel_rfl
        · kernel_rfl
        try simp only [put_some, List.setIfInBounds_toArray, List.set_cons_succ, List.set_cons_zero]
        apply rem_sure 1 (by kernel_rfl) rfl (wanted_none rfl)
        · intro w2 hS K hK
          exact wp_load_row 44 _ rfl gE rfl _ P _ _ (hS.at_ (by simp)) Try.underlying44 rfl (by rw [sP]; exact infoFe) (hK _ hS (Ext.refl _))
        · kernel_rfl
        · kernel_rfl
        try simp only [put_some, List.setIfInBounds_toArray, List.set_cons_succ, List.set_cons_zero]
        apply rem_sure 3 (by kernel_rfl) rfl (wanted_none rfl)
        · intro w2 hS K hK
          exact wp_load_row 44 _ rfl gQ rfl _ Q _ _ (hS.at_ (by simp)) Try.underlying44 rfl (by rw [sQ]; exact infoFe) (hK _ hS (Ext.refl _))
        · kernel_rfl
        · kernel_rfl
        try simp only [put_some, List.setIfInBounds_toArray, List.set_cons_succ, List.set_cons_zero]
        refine rem_one 2 (by kernel_rfl) (step_of rfl (wanted_none rfl) ?_)
        intro v21 hS21 hE21 K hK
        go_wp2_with fail
        refine (emul_fe P P _ _ _ HP.out HP.out).mono ?_
        rintro e u21 ⟨S1, rfl, hS1, hk21⟩
        have sS1 := hS1.size
        have oS1 := Lib.hid hS1.one
        have HS1 := Lib.hid hS1
        clear hS1
        refine hK _ _ (hS21.keep hk21) ?_
        clear hK K
        try simp only [put_some, List.setIfInBounds_toArray, List.set_cons_succ, List.set_cons_zero]
        refine rem_one 4 (by kernel_rfl) (step_of rfl (wanted_none rfl) ?_)
        intro v22 hS22 hE22 K hK
        go_wp2_with fail
        refine (same_fe S1 Q _ _ _ HS1.out HQ.out).mono ?_
        rintro e u22 ⟨rfl, hk22⟩
        rw [c2]
        refine hK _ _ (hS22.keep hk22) ?_
        clear hK K
        try simp only [put_some, List.setIfInBounds_toArray, List.set_cons_succ, List.set_cons_zero]
        apply rem_sure 5 (by kernel_rfl) rfl (wanted_none rfl)
        · intro w2 hS K hK
          go_wp2_with fail
          exact hK _ hS (Ext.refl _)
        · kernel_rfl
        · kernel_rfl
        try simp only [put_some, List.setIfInBounds_toArray, List.set_cons_succ, List.set_cons_zero]
        apply rem_sure 6 (by kernel_rfl) rfl (wanted_none rfl)
        · intro w2 hS K hK
          go_wp2_with fail
          exact hK _ hS (Ext.refl _)
        · kernel_rfl
        · kernel_rfl
        try simp only [put_some, List.setIfInBounds_toArray, List.set_cons_succ, List.set_cons_zero]
        apply rem_sure 7 (by kernel_rfl) rfl (by kernel_rfl)
        · intro w2 hS K hK
          exact wp_load_row 44 _ rfl (w.heap.size + 1) rfl _ Y _ _ (hS.at_ (by simp)) Try.underlying44 rfl (by rw [sY]; exact infoFe) (hK _ hS (Ext.refl _))
        · kernel_rfl
        · kernel_rfl
        try simp only [put_some, List.setIfInBounds_toArray, List.set_cons_succ, List.set_cons_zero]
        refine rem_one 8 (by kernel_rfl) (step_of rfl (by kernel_rfl) ?_)
        intro v23 hS23 hE23 K hK
        go_wp2_with fail
        refine (zero_fe Y _ _ HY.out).mono ?_
        rintro e u23 ⟨rfl, hk23⟩
        rw [c3]
        refine hK _ _ (hS23.keep hk23) ?_
        clear hK K
        try simp only [put_some, List.setIfInBounds_toArray, List.set_cons_succ, List.set_cons_zero]
        apply rem_sure 9 (by kernel_rfl) rfl (by kernel_rfl)
        · intro w2 hS K hK
          go_wp2_with fail
          exact hK _ hS (Ext.refl _)
        · kernel_rfl
        · kernel_rfl
        try simp only [put_some, List.setIfInBounds_toArray, List.set_cons_succ, List.set_cons_zero]
        refine rem_skip 10 (by kernel_rfl) rfl (by kernel_rfl) ?_
        try simp only [put_some, List.setIfInBounds_toArray, List.set_cons_succ, List.set_cons_zero]
        refine rem_skip 11 (by kernel_rfl) rfl (by kernel_rfl) ?_
        try simp only [put_some, List.setIfInBounds_toArray, List.set_cons_succ, List.set_cons_zero]
        refine rem_skip 12 (by kernel_rfl) rfl (by kernel_rfl) ?_
        try simp only [put_some, List.setIfInBounds_toArray, List.set_cons_succ, List.set_cons_zero]
        apply rem_sure 13 (by kernel_rfl) rfl (by kernel_rfl)
        · intro w2 hS K hK
          go_wp2_with fail
          exact hK _ hS (Ext.refl _)
        · kernel_rfl
        · kernel_rfl
        try simp only [put_some, List.setIfInBounds_toArray, List.set_cons_succ, List.set_cons_zero]
        apply rem_sure 14 (by kernel_rfl) rfl (wanted_none rfl)
        · intro w2 hS K hK
          go_wp2_with fail
          exact hK _ hS (Ext.refl _)
        · kernel_rfl
        · kernel_rfl
        try simp only [put_some, List.setIfInBounds_toArray, List.set_cons_succ, List.set_cons_zero]
        refine rem_nil ?_
        intro v9 hS9 hE9
        have cz := (hE9 _ _ (block_stay hk23 (hE23 _ _ (block_stay hk22 (hE22 _ _ (block_stay hk21 (hE21 _ _ cz)))))))
        have hst := hS9
        clear hS9 hE9
        generalize v9 = w4 at *
        have cP := hst.at_ (g := gE) (cs := P) (by simp)
        go_wp2_with (refine wpList_load_row rfl 44 (.tmp 7) rfl gE rfl _ _ _ _ cP Try.underlying44 rfl (by rw [sP]; exact infoFe) ?_)
        refine (eput_fe P _ _ HP.out).mono ?_
        rintro e w5 ⟨bb, rfl, _, hbB, hb5⟩
        have hst := hst.keep hb5
        have cz := block_stay hb5 cz
        have cP := block_stay hb5 cP
        have cc : w5.cell? ⟨bb, 0, none⟩ = some (.int .u8 (rX U V % PP % 256)) := (cell_of_row w5 bb 0 _ _ _ hbB).trans rfl
        have hand : bits .and .u8 (rX U V % PP % 256) 1 = rX U V % PP % 2 := by rw [and_u8_one _ (by omega)]; omega
        have h1 : rOk U V = true := by unfold rOk; simp [c2, c3]
        have H1 := Lib.hid h1
        clear hb5 hbB h1
        by_cases par : rX U V % PP % 2 = 1
        · have h2 : rR U V = 0 - rX U V := by unfold rR; rw [if_pos H1.out, if_pos par]
          have H2 := Lib.hid h2
          have hp : ((rX U V % PP % 2) == 1) = true := by simpa using par
          clear h2 par
          go_wp2_with (refine wpList_load_row rfl 44 (.tmp 7) rfl gE rfl _ _ _ _ cP Try.underlying44 rfl (by rw [sP]; exact infoFe) ?_)
          refine (esub_fe zero5 P 0 _ _ fe_zero HP.out).mono ?_
          rintro e w6 ⟨R, rfl, hR, hb6⟩
          have sR := hR.size
          have oR := Lib.hid hR.one
          have HR := Lib.hid hR
          have hst := hst.keep hb6
          have cz := block_stay hb6 cz
          have cP := block_stay hb6 cP
          have cR := setRow_here cP R
          have cz2 := (setRow_other w6 gE (w.heap.size + 1 + 1) R (by omega)).trans cz
          have hb9 := below_setRow hst.2 (show w.heap.size ≤ gE by omega) R
          clear hR hb6
          go_wp2_with (first | (refine wpList_store_row rfl 44 (.tmp 7) (.tmp 47) rfl gE R rfl rfl 44 _ cP (by rw [sR]; exact infoFe) (by rw [sP, sR]) oR.out ?_) | (refine wpList_load_row rfl 44 (.tmp 7) rfl gE rfl _ _ _ _ cR Try.underlying44 rfl (by rw [sR]; exact infoFe) ?_) | (refine wpList_store_row rfl 44 (.tmp 4) (.tmp 48) rfl (w.heap.size + 1 + 1) R rfl rfl 44 _ cz2 (by rw [sR]; exact infoFe) (by rw [sR]; rfl) oR.out ?_))
          refine ret_cell_tmp rfl (w.heap.size + 1 + 1) _ R _ _ (.bool true) rfl rfl (setRow_here cz2 _) Try.underlying44 rfl (by rw [sR]; exact infoFe) rfl ?_
          rw [H1.out, H2.out]
          exact ⟨R, rfl, HR.out, below_setRow hb9 (by omega) _⟩
        · have h2 : rR U V = rX U V := by unfold rR; rw [if_pos H1.out, if_neg par]
          have H2 := Lib.hid h2
          have hp : ((rX U V % PP % 2) == 1) = false := by simpa using par
          have hb9 := hst.2
          clear h2 par
          go_wp2_with (first | (refine wpList_load_row rfl 44 (.tmp 7) rfl gE rfl _ _ _ _ cP Try.underlying44 rfl (by rw [sP]; exact infoFe) ?_) | (refine wpList_store_row rfl 44 (.tmp 4) (.tmp 48) rfl (w.heap.size + 1 + 1) P rfl rfl 44 _ cz (by rw [sP]; exact infoFe) (by rw [sP]; rfl) oP.out ?_))
          refine ret_cell_tmp rfl (w.heap.size + 1 + 1) _ P _ _ (.bool true) rfl rfl (setRow_here cz _) Try.underlying44 rfl (by rw [sP]; exact infoFe) rfl ?_
          rw [H1.out, H2.out]
          exact ⟨P, rfl, HP.out, below_setRow hb9 (by omega) _⟩
      · cases c4 : sameB U 0
        · go_wp2_with fail
          refine wp_region_rem (St w [(gE, P), (gQ, Q), (w.heap.size, X), (w.heap.size + 1, Y)]) (by kernel_rfl) (by kernel_rfl) (fun _ _ d _ _ h => by cases d <;> exact h) hst.drew ?_
          apply rem_sure 0 (by kernel_rfl) rfl (wanted_none rfl)
          · intro w2 hS K hK
            exact wp_load_row 44 _ rfl gE rfl _ P _ _ (hS.at_ (by simp)) Try.underlying44 rfl (by rw [sP]; exact infoFe) (hK _ hS (Ext.refl _))
          · kernel_rfl
          · kernel_rfl
          try simp only [put_some, List.setIfInBounds_toArray, List.set_cons_succ, List.set_cons_zero]
          apply rem_sure 1 (by kernel_rfl) rfl (wanted_none rfl)
          · intro w2 hS K hK
            exact wp_load_row 44 _ rfl gE rfl _ P _ _ (hS.at_ (by simp)) Try.underlying44 rfl (by rw [sP]; exact infoFe) (hK _ hS (Ext.refl _))
          · kernel_rfl
          · kernel_rfl
          try simp only [put_some, List.setIfInBounds_toArray, List.set_cons_succ, List.set_cons_zero]
          apply rem_sure 3 (by kernel_rfl) rfl (wanted_none rfl)
          · intro w2 hS K hK
            exact wp_load_row 44 _ rfl gQ rfl _ Q _ _ (hS.at_ (by simp)) Try.underlying44 rfl (by rw [sQ]; exact infoFe) (hK _ hS (Ext.refl _))
          · kernel_rfl
          · kernel_rfl
          try simp only [put_some, List.setIfInBounds_toArray, List.set_cons_succ, List.set_cons_zero]
          refine rem_one 2 (by kernel_rfl) (step_of rfl (wanted_none rfl) ?_)
          intro v21 hS21 hE21 K hK
          go_wp2_with fail
          refine (emul_fe P P _ _ _ HP.out HP.out).mono ?_
          rintro e u21 ⟨S1, rfl, hS1, hk21⟩
          have sS1 := hS1.size
          have oS1 := Lib.hid hS1.one
          have HS1 := Lib.hid hS1
          clear hS1
          refine hK _ _ (hS21.keep hk21) ?_
          clear hK K
          try simp only [put_some, List.setIfInBounds_toArray, List.set_cons_succ, List.set_cons_zero]
          refine rem_one 4 (by kernel_rfl) (step_of rfl (wanted_none rfl) ?_)
          intro v22 hS22 hE22 K hK
          go_wp2_with fail
          refine (same_fe S1 Q _ _ _ HS1.out HQ.out).mono ?_
          rintro e u22 ⟨rfl, hk22⟩
          rw [c2]
          refine hK _ _ (hS22.keep hk22) ?_
          clear hK K
          try simp only [put_some, List.setIfInBounds_toArray, List.set_cons_succ, List.set_cons_zero]
          apply rem_sure 5 (by kernel_rfl) rfl (wanted_none rfl)
          · intro w2 hS K hK
            go_wp2_with fail
            exact hK _ hS (Ext.refl _)
          · kernel_rfl
          · kernel_rfl
          try simp only [put_some, List.setIfInBounds_toArray, List.set_cons_succ, List.set_cons_zero]
          apply rem_sure 6 (by kernel_rfl) rfl (wanted_none rfl)
          · intro w2 hS K hK
            go_wp2_with fail
            exact hK _ hS (Ext.refl _)
          · kernel_rfl
          · kernel_rfl
          try simp only [put_some, List.setIfInBounds_toArray, List.set_cons_succ, List.set_cons_zero]
          apply rem_sure 7 (by kernel_rfl) rfl (by kernel_rfl)
          · intro w2 hS K hK
            exact wp_load_row 44 _ rfl (w.heap.size + 1) rfl _ Y _ _ (hS.at_ (by simp)) Try.underlying44 rfl (by rw [sY]; exact infoFe) (hK _ hS (Ext.refl _))
          · kernel_rfl
          · kernel_rfl
          try simp only [put_some, List.setIfInBounds_toArray, List.set_cons_succ, List.set_cons_zero]
          refine rem_one 8 (by kernel_rfl) (step_of rfl (by kernel_rfl) ?_)
          intro v23 hS23 hE23 K hK
          go_wp2_with fail
          refine (zero_fe Y _ _ HY.out).mono ?_
          rintro e u23 ⟨rfl, hk23⟩
          rw [c3]
          refine hK _ _ (hS23.keep hk23) ?_
          clear hK K
          try simp only [put_some, List.setIfInBounds_toArray, List.set_cons_succ, List.set_cons_zero]
          apply rem_sure 9 (by kernel_rfl) rfl (by kernel_rfl)
          · intro w2 hS K hK
            go_wp2_with fail
            exact hK _ hS (Ext.refl _)
          · kernel_rfl
          · kernel_rfl
          try simp only [put_some, List.setIfInBounds_toArray, List.set_cons_succ, List.set_cons_zero]
          apply rem_sure 10 (by kernel_rfl) rfl (by kernel_rfl)
          · intro w2 hS K hK
            exact wp_load_row 44 _ rfl w.heap.size rfl _ X _ _ (hS.at_ (by simp)) Try.underlying44 rfl (by rw [sX]; exact infoFe) (hK _ hS (Ext.refl _))
          · kernel_rfl
          · kernel_rfl
          try simp only [put_some, List.setIfInBounds_toArray, List.set_cons_succ, List.set_cons_zero]
          refine rem_one 11 (by kernel_rfl) (step_of rfl (by kernel_rfl) ?_)
          intro v24 hS24 hE24 K hK
          go_wp2_with fail
          refine (zero_fe X _ _ HX.out).mono ?_
          rintro e u24 ⟨rfl, hk24⟩
          rw [c4]
          refine hK _ _ (hS24.keep hk24) ?_
          clear hK K
          try simp only [put_some, List.setIfInBounds_toArray, List.set_cons_succ, List.set_cons_zero]
          apply rem_sure 12 (by kernel_rfl) rfl (by kernel_rfl)
          · intro w2 hS K hK
            go_wp2_with fail
            exact hK _ hS (Ext.refl _)
          · kernel_rfl
          · kernel_rfl
          try simp only [put_some, List.setIfInBounds_toArray, List.set_cons_succ, List.set_cons_zero]
          apply rem_sure 13 (by kernel_rfl) rfl (by kernel_rfl)
          · intro w2 hS K hK
            go_wp2_with fail
            exact hK _ hS (Ext.refl _)
          · kernel_rfl
          · kernel_rfl
          try simp only [put_some, List.setIfInBounds_toArray, List.set_cons_succ, List.set_cons_zero]
          apply rem_sure 14 (by kernel_rfl) rfl (wanted_none rfl)
          · intro w2 hS K hK
            go_wp2_with fail
            exact hK _ hS (Ext.refl _)
          · kernel_rfl
          · kernel_rfl
          try simp only [put_some, List.setIfInBounds_toArray, List.set_cons_succ, List.set_cons_zero]
          refine rem_nil ?_
          intro v9 hS9 hE9
          have cz := (hE9 _ _ (block_stay hk24 (hE24 _ _ (block_stay hk23 (hE23 _ _ (block_stay hk22 (hE22 _ _ (block_stay hk21 (hE21 _ _ cz)))))))))
          have hst := hS9
          clear hS9 hE9
          generalize v9 = w4 at *
          have hb9 := hst.2
          go_wp2_with (refine wpList_store_row rfl 44 (.tmp 4) (.tmp 38) rfl (w.heap.size + 1 + 1) zero5 rfl rfl 44 _ cz infoFe rfl fe_zero.one ?_)
          refine ret_cell_tmp rfl (w.heap.size + 1 + 1) _ zero5 _ _ (.bool false) rfl rfl (setRow_here cz _) Try.underlying44 rfl infoFe rfl ?_
          have h1 : rOk U V = false := by unfold rOk; simp [c2, c3, c4]
          have h2 : rR U V = 0 := by unfold rR; simp [h1]
          rw [h1, h2]
          exact ⟨zero5, rfl, fe_zero, below_setRow hb9 (by omega) _⟩
        · go_wp2_with fail
          refine wp_region_rem (St w [(gE, P), (gQ, Q), (w.heap.size, X), (w.heap.size + 1, Y)]) (by kernel_rfl) (by kernel_rfl) (fun _ _ d _ _ h => by cases d <;> exact h) hst.drew ?_
          apply rem_sure 0 (by kernel_rfl) rfl (wanted_none rfl)
          · intro w2 hS K hK
            exact wp_load_row 44 _ rfl gE rfl _ P _ _ (hS.at_ (by simp)) Try.underlying44 rfl (by rw [sP]; exact infoFe) (hK _ hS (Ext.refl _))
          · kernel_rfl
          · kernel_rfl
          try simp only [put_some, List.setIfInBounds_toArray, List.set_cons_succ, List.set_cons_zero]
          apply rem_sure 1 (by kernel_rfl) rfl (wanted_none rfl)
          · intro w2 hS K hK
            exact wp_load_row 44 _ rfl gE rfl _ P _ _ (hS.at_ (by simp)) Try.underlying44 rfl (by rw [sP]; exact infoFe) (hK _ hS (Ext.refl _))
          · kernel_rfl
          · kernel_rfl
          try simp only [put_some, List.setIfInBounds_toArray, List.set_cons_succ, List.set_cons_zero]
          apply rem_sure 3 (by kernel_rfl) rfl (wanted_none rfl)
          · intro w2 hS K hK
            exact wp_load_row 44 _ rfl gQ rfl _ Q _ _ (hS.at_ (by simp)) Try.underlying44 rfl (by rw [sQ]; exact infoFe) (hK _ hS (Ext.refl _))
          · kernel_rfl
          · kernel_rfl
          try simp only [put_some, List.setIfInBounds_toArray, List.set_cons_succ, List.set_cons_zero]
          refine rem_one 2 (by kernel_rfl) (step_of rfl (wanted_none rfl) ?_)
          intro v21 hS21 hE21 K hK
          go_wp2_with fail
          refine (emul_fe P P _ _ _ HP.out HP.out).mono ?_
          rintro e u21 ⟨S1, rfl, hS1, hk21⟩
          have sS1 := hS1.size
          have oS1 := Lib.hid hS1.one
          have HS1 := Lib.hid hS1
          clear hS1
          refine hK _ _ (hS21.keep hk21) ?_
          clear hK K
          try simp only [put_some, List.setIfInBounds_toArray, List.set_cons_succ, List.set_cons_zero]
          refine rem_one 4 (by kernel_rfl) (step_of rfl (wanted_none rfl) ?_)
          intro v22 hS22 hE22 K hK
          go_wp2_with fail
          refine (same_fe S1 Q _ _ _ HS1.out HQ.out).mono ?_
          rintro e u22 ⟨rfl, hk22⟩
          rw [c2]
          refine hK _ _ (hS22.keep hk22) ?_
          clear hK K
          try simp only [put_some, List.setIfInBounds_toArray, List.set_cons_succ, List.set_cons_zero]
          apply rem_sure 5 (by kernel_rfl) rfl (wanted_none rfl)
          · intro w2 hS K hK
            go_wp2_with fail
            exact hK _ hS (Ext.refl _)
          · kernel_rfl
          · kernel_rfl
          try simp only [put_some, List.setIfInBounds_toArray, List.set_cons_succ, List.set_cons_zero]
          apply rem_sure 6 (by kernel_rfl) rfl (wanted_none rfl)
          · intro w2 hS K hK
            go_wp2_with fail
            exact hK _ hS (Ext.refl _)
          · kernel_rfl
          · kernel_rfl
          try simp only [put_some, List.setIfInBounds_toArray, List.set_cons_succ, List.set_cons_zero]
          apply rem_sure 7 (by kernel_rfl) rfl (by kernel_rfl)
          · intro w2 hS K hK
            exact wp_load_row 44 _ rfl (w.heap.size + 1) rfl _ Y _ _ (hS.at_ (by simp)) Try.underlying44 rfl (by rw [sY]; exact infoFe) (hK _ hS (Ext.refl _))
          · kernel_rfl
          · kernel_rfl
          try simp only [put_some, List.setIfInBounds_toArray, List.set_cons_succ, List.set_cons_zero]
          refine rem_one 8 (by kernel_rfl) (step_of rfl (by kernel_rfl) ?_)
          intro v23 hS23 hE23 K hK
          go_wp2_with fail
          refine (zero_fe Y _ _ HY.out).mono ?_
          rintro e u23 ⟨rfl, hk23⟩
          rw [c3]
          refine hK _ _ (hS23.keep hk23) ?_
          clear hK K
          try simp only [put_some, List.setIfInBounds_toArray, List.set_cons_succ, List.set_cons_zero]
          apply rem_sure 9 (by kernel_rfl) rfl (by kernel_rfl)
          · intro w2 hS K hK
            go_wp2_with fail
            exact hK _ hS (Ext.refl _)
          · kernel_rfl
          · kernel_rfl
          try simp only [put_some, List.setIfInBounds_toArray, List.set_cons_succ, List.set_cons_zero]
          apply rem_sure 10 (by kernel_rfl) rfl (by kernel_rfl)
          · intro w2 hS K hK
            exact wp_load_row 44 _ rfl w.heap.size rfl _ X _ _ (hS.at_ (by simp)) Try.underlying44 rfl (by rw [sX]; exact infoFe) (hK _ hS (Ext.refl _))
          · kernel_rfl
          · kernel_rfl
          try simp only [put_some, List.setIfInBounds_toArray, List.set_cons_succ, List.set_cons_zero]
          refine rem_one 11 (by kernel_rfl) (step_of rfl (by kernel_rfl) ?_)
          intro v24 hS24 hE24 K hK
          go_wp2_with fail
          refine (zero_fe X _ _ HX.out).mono ?_
          rintro e u24 ⟨rfl, hk24⟩
          rw [c4]
          refine hK _ _ (hS24.keep hk24) ?_
          clear hK K
          try simp only [put_some, List.setIfInBounds_toArray, List.set_cons_succ, List.set_cons_zero]
          apply rem_sure 12 (by kernel_rfl) rfl (by kernel_rfl)
          · intro w2 hS K hK
            go_wp2_with fail
            exact hK _ hS (Ext.refl _)
          · kernel_rfl
          · kernel_rfl
          try simp only [put_some, List.setIfInBounds_toArray, List.set_cons_succ, List.set_cons_zero]
          apply rem_sure 13 (by kernel_rfl) rfl (by kernel_rfl)
          · intro w2 hS K hK
            go_wp2_with fail
            exact hK _ hS (Ext.refl _)
          · kernel_rfl
          · kernel_rfl
          try simp only [put_some, List.setIfInBounds_toArray, List.set_cons_succ, List.set_cons_zero]
          apply rem_sure 14 (by kernel_rfl) rfl (wanted_none rfl)
          · intro w2 hS K hK
            go_wp2_with fail
            exact hK _ hS (Ext.refl _)
          · kernel_rfl
          · kernel_rfl
          try simp only [put_some, List.setIfInBounds_toArray, List.set_cons_succ, List.set_cons_zero]
          refine rem_nil ?_
          intro v9 hS9 hE9
          have cz := (hE9 _ _ (block_stay hk24 (hE24 _ _ (block_stay hk23 (hE23 _ _ (block_stay hk22 (hE22 _ _ (block_stay hk21 (hE21 _ _ cz)))))))))
          have hst := hS9
          clear hS9 hE9
          generalize v9 = w4 at *
          have cP := hst.at_ (g := gE) (cs := P) (by simp)
          go_wp2_with (refine wpList_load_row rfl 44 (.tmp 7) rfl gE rfl _ _ _ _ cP Try.underlying44 rfl (by rw [sP]; exact infoFe) ?_)
          refine (eput_fe P _ _ HP.out).mono ?_
          rintro e w5 ⟨bb, rfl, _, hbB, hb5⟩
          have hst := hst.keep hb5
          have cz := block_stay hb5 cz
          have cP := block_stay hb5 cP
          have cc : w5.cell? ⟨bb, 0, none⟩ = some (.int .u8 (rX U V % PP % 256)) := (cell_of_row w5 bb 0 _ _ _ hbB).trans rfl
          have hand : bits .and .u8 (rX U V % PP % 256) 1 = rX U V % PP % 2 := by rw [and_u8_one _ (by omega)]; omega
          have h1 : rOk U V = true := by unfold rOk; simp [c2, c3, c4]
          have H1 := Lib.hid h1
          clear hb5 hbB h1
          by_cases par : rX U V % PP % 2 = 1
          · have h2 : rR U V = 0 - rX U V := by unfold rR; rw [if_pos H1.out, if_pos par]
            have H2 := Lib.hid h2
            have hp : ((rX U V % PP % 2) == 1) = true := by simpa using par
            clear h2 par
            go_wp2_with (refine wpList_load_row rfl 44 (.tmp 7) rfl gE rfl _ _ _ _ cP Try.underlying44 rfl (by rw [sP]; exact infoFe) ?_)
            refine (esub_fe zero5 P 0 _ _ fe_zero HP.out).mono ?_
            rintro e w6 ⟨R, rfl, hR, hb6⟩
            have sR := hR.size
            have oR := Lib.hid hR.one
            have HR := Lib.hid hR
            have hst := hst.keep hb6
            have cz := block_stay hb6 cz
            have cP := block_stay hb6 cP
            have cR := setRow_here cP R
            have cz2 := (setRow_other w6 gE (w.heap.size + 1 + 1) R (by omega)).trans cz
            have hb9 := below_setRow hst.2 (show w.heap.size ≤ gE by omega) R
            clear hR hb6
            go_wp2_with (first | (refine wpList_store_row rfl 44 (.tmp 7) (.tmp 47) rfl gE R rfl rfl 44 _ cP (by rw [sR]; exact infoFe) (by rw [sP, sR]) oR.out ?_) | (refine wpList_load_row rfl 44 (.tmp 7) rfl gE rfl _ _ _ _ cR Try.underlying44 rfl (by rw [sR]; exact infoFe) ?_) | (refine wpList_store_row rfl 44 (.tmp 4) (.tmp 48) rfl (w.heap.size + 1 + 1) R rfl rfl 44 _ cz2 (by rw [sR]; exact infoFe) (by rw [sR]; rfl) oR.out ?_))
            refine ret_cell_tmp rfl (w.heap.size + 1 + 1) _ R _ _ (.bool true) rfl rfl (setRow_here cz2 _) Try.underlying44 rfl (by rw [sR]; exact infoFe) rfl ?_
            rw [H1.out, H2.out]
            exact ⟨R, rfl, HR.out, below_setRow hb9 (by omega) _⟩
          · have h2 : rR U V = rX U V := by unfold rR; rw [if_pos H1.out, if_neg par]
            have H2 := Lib.hid h2
            have hp : ((rX U V % PP % 2) == 1) = false := by simpa using par
            have hb9 := hst.2
            clear h2 par
            go_wp2_with (first | (refine wpList_load_row rfl 44 (.tmp 7) rfl gE rfl _ _ _ _ cP Try.underlying44 rfl (by rw [sP]; exact infoFe) ?_) | (refine wpList_store_row rfl 44 (.tmp 4) (.tmp 48) rfl (w.heap.size + 1 + 1) P rfl rfl 44 _ cz (by rw [sP]; exact infoFe) (by rw [sP]; rfl) oP.out ?_))
            refine ret_cell_tmp rfl (w.heap.size + 1 + 1) _ P _ _ (.bool true) rfl rfl (setRow_here cz _) Try.underlying44 rfl (by rw [sP]; exact infoFe) rfl ?_
            rw [H1.out, H2.out]
            exact ⟨P, rfl, HP.out, below_setRow hb9 (by omega) _⟩
  · go_wp2_with fail
    refine wp_region_rem (St w [(gE, E), (gQ, Q), (w.heap.size, X), (w.heap.size + 1, Y)]) (by kernel_rfl) (by kernel_rfl) (fun _ _ d _ _ h => by cases d <;> exact h) hst.drew ?_
    apply rem_sure 0 (by kernel_rfl) rfl (wanted_none rfl)
    · intro w2 hS K hK
      exact wp_load_row 44 _ rfl gE rfl _ E _ _ (hS.at_ (by simp)) Try.underlying44 rfl (by rw [sE]; exact infoFe) (hK _ hS (Ext.refl _))
    · kernel_rfl
    · kernel_rfl
    try simp only [put_some, List.setIfInBounds_toArray, List.set_cons_succ, List.set_cons_zero]
    apply rem_sure 1 (by kernel_rfl) rfl (wanted_none rfl)
    · intro w2 hS K hK
      exact wp_load_row 44 _ rfl gE rfl _ E _ _ (hS.at_ (by simp)) Try.underlying44 rfl (by rw [sE]; exact infoFe) (hK _ hS (Ext.refl _))
    · kernel_rfl
    · kernel_rfl
    try simp only [put_some, List.setIfInBounds_toArray, List.set_cons_succ, List.set_cons_zero]
    apply rem_sure 3 (by kernel_rfl) rfl (wanted_none rfl)
    · intro w2 hS K hK
      exact wp_load_row 44 _ rfl gQ rfl _ Q _ _ (hS.at_ (by simp)) Try.underlying44 rfl (by rw [sQ]; exact infoFe) (hK _ hS (Ext.refl _))
    · kernel_rfl
    · kernel_rfl
    try simp only [put_some, List.setIfInBounds_toArray, List.set_cons_succ, List.set_cons_zero]
    refine rem_one 2 (by kernel_rfl) (step_of rfl (wanted_none rfl) ?_)
    intro v21 hS21 hE21 K hK
    go_wp2_with fail
    refine (emul_fe E E _ _ _ HE.out HE.out).mono ?_
    rintro e u21 ⟨S, rfl, hS, hk21⟩
    have sS := hS.size
    have oS := Lib.hid hS.one
    have HS := Lib.hid hS
    clear hS
    refine hK _ _ (hS21.keep hk21) ?_
    clear hK K
    try simp only [put_some, List.setIfInBounds_toArray, List.set_cons_succ, List.set_cons_zero]
    refine rem_one 4 (by kernel_rfl) (step_of rfl (wanted_none rfl) ?_)
    intro v22 hS22 hE22 K hK
    go_wp2_with fail
    refine (same_fe S Q _ _ _ HS.out HQ.out).mono ?_
    rintro e u22 ⟨rfl, hk22⟩
    rw [c1]
    refine hK _ _ (hS22.keep hk22) ?_
    clear hK K
    try simp only [put_some, List.setIfInBounds_toArray, List.set_cons_succ, List.set_cons_zero]
    apply rem_sure 5 (by kernel_rfl) rfl (wanted_none rfl)
    · intro w2 hS K hK
      go_wp2_with fail
      exact hK _ hS (Ext.refl _)
    · kernel_rfl
    · kernel_rfl
    try simp only [put_some, List.setIfInBounds_toArray, List.set_cons_succ, List.set_cons_zero]
    refine rem_nil ?_
    intro v9 hS9 hE9
    have cz := (hE9 _ _ (block_stay hk22 (hE22 _ _ (block_stay hk21 (hE21 _ _ cz)))))
    have hst := hS9
    clear hS9 hE9
    generalize v9 = w4 at *
    have hx : rX U V = peighth (rQ U V) := by unfold rX; rw [c1]; rfl
    obtain ⟨P, rfl⟩ : ∃ P, P = E := ⟨_, rfl⟩
    have HP : Hid (FeA P (rX U V)) := by show FeA P (rX U V); rw [hx]; exact HE.out
    have sP := HP.out.size
    have oP := Lib.hid HP.out.one
    have HXX := Lib.hid hx
    clear hx c1
    cases c2 : sameB (rX U V * rX U V) (rQ U V)
    · go_wp2_with fail
      refine wp_region_rem (St w [(gE, P), (gQ, Q), (w.heap.size, X), (w.heap.size + 1, Y)]) (by kernel_rfl) (by kernel_rfl) (fun _ _ d _ _ h => by cases d <;> exact h) hst.drew ?_
      apply rem_sure 0 (by kernel_rfl) rfl (wanted_none rfl)
      · intro w2 hS K hK
        exact wp_load_row 44 _ rfl gE rfl _ P _ _ (hS.at_ (by simp)) Try.underlying44 rfl (by rw [sP]; exact infoFe) (hK _ hS (Ext.refl _))
      · kernel_rfl
      · kernel_rfl
      try simp only [put_some, List.setIfInBounds_toArray, List.set_cons_succ, List.set_cons_zero]
      apply rem_sure 1 (by kernel_rfl) rfl (wanted_none rfl)
      · intro w2 hS K hK
        exact wp_load_row 44 _ rfl gE rfl _ P _ _ (hS.at_ (by simp)) Try.underlying44 rfl (by rw [sP]; exact infoFe) (hK _ hS (Ext.refl _))
      · kernel_rfl
      · kernel_rfl
      try simp only [put_some, List.setIfInBounds_toArray, List.set_cons_succ, List.set_cons_zero]
      apply rem_sure 3 (by kernel_rfl) rfl (wanted_none rfl)
      · intro w2 hS K hK
        exact wp_load_row 44 _ rfl gQ rfl _ Q _ _ (hS.at_ (by simp)) Try.underlying44 rfl (by rw [sQ]; exact infoFe) (hK _ hS (Ext.refl _))
      · kernel_rfl
      · kernel_rfl
      try simp only [put_some, List.setIfInBounds_toArray, List.set_cons_succ, List.set_cons_zero]
      refine rem_one 2 (by kernel_rfl) (step_of rfl (wanted_none rfl) ?_)
      intro v21 hS21 hE21 K hK
      go_wp2_with fail
      refine (emul_fe P P _ _ _ HP.out HP.out).mono ?_
      rintro e u21 ⟨S1, rfl, hS1, hk21⟩
      have sS1 := hS1.size
      have oS1 := Lib.hid hS1.one
      have HS1 := Lib.hid hS1
      clear hS1
      refine hK _ _ (hS21.keep hk21) ?_
      clear hK K
      try simp only [put_some, List.setIfInBounds_toArray, List.set_cons_succ, List.set_cons_zero]
      refine rem_one 4 (by kernel_rfl) (step_of rfl (wanted_none rfl) ?_)
      intro v22 hS22 hE22 K hK
      go_wp2_with fail
      refine (same_fe S1 Q _ _ _ HS1.out HQ.out).mono ?_
      rintro e u22 ⟨rfl, hk22⟩
      rw [c2]
      refine hK _ _ (hS22.keep hk22) ?_
      clear hK K
      try simp only [put_some, List.setIfInBounds_toArray, List.set_cons_succ, List.set_cons_zero]
      apply rem_sure 5 (by kernel_rfl) rfl (wanted_none rfl)
      · intro w2 hS K hK
        go_wp2_with fail
        exact hK _ hS (Ext.refl _)
      · kernel_rfl
      · kernel_rfl
      try simp only [put_some, List.setIfInBounds_toArray, List.set_cons_succ, List.set_cons_zero]
      apply rem_sure 6 (by kernel_rfl) rfl (wanted_none rfl)
      · intro w2 hS K hK
        go_wp2_with fail
        exact hK _ hS (Ext.refl _)
      · kernel_rfl
      · kernel_rfl
      try simp only [put_some, List.setIfInBounds_toArray, List.set_cons_succ, List.set_cons_zero]
      refine rem_skip 7 (by kernel_rfl) rfl (by kernel_rfl) ?_
      try simp only [put_some, List.setIfInBounds_toArray, List.set_cons_succ, List.set_cons_zero]
      refine rem_skip 8 (by kernel_rfl) rfl (by kernel_rfl) ?_
      try simp only [put_some, List.setIfInBounds_toArray, List.set_cons_succ, List.set_cons_zero]
      refine rem_skip 9 (by kernel_rfl) rfl (by kernel_rfl) ?_
      try simp only [put_some, List.setIfInBounds_toArray, List.set_cons_succ, List.set_cons_zero]
      refine rem_skip 10 (by kernel_rfl) rfl (by kernel_rfl) ?_
      try simp only [put_some, List.setIfInBounds_toArray, List.set_cons_succ, List.set_cons_zero]
      refine rem_skip 11 (by kernel_rfl) rfl (by kernel_rfl) ?_
      try simp only [put_some, List.setIfInBounds_toArray, List.set_cons_succ, List.set_cons_zero]
      refine rem_skip 12 (by kernel_rfl) rfl (by kernel_rfl) ?_
      try simp only [put_some, List.setIfInBounds_toArray, List.set_cons_succ, List.set_cons_zero]
      refine rem_skip 13 (by kernel_rfl) rfl (by kernel_rfl) ?_
      try simp only [put_some, List.setIfInBounds_toArray, List.set_cons_succ, List.set_cons_zero]
      apply rem_sure 14 (by kernel_rfl) rfl (wanted_none rfl)
      · intro w2 hS K hK
        go_wp2_with fail
        exact hK _ hS (Ext.refl _)
      · kernel_rfl
      · kernel_rfl
      try simp only [put_some, List.setIfInBounds_toArray, List.set_cons_succ, List.set_cons_zero]
      refine rem_nil ?_
      intro v9 hS9 hE9
      have cz := (hE9 _ _ (block_stay hk22 (hE22 _ _ (block_stay hk21 (hE21 _ _ cz)))))
      have hst := hS9
      clear hS9 hE9
      generalize v9 = w4 at *
      have hb9 := hst.2
      go_wp2_with (refine wpList_store_row rfl 44 (.tmp 4) (.tmp 38) rfl (w.heap.size + 1 + 1) zero5 rfl rfl 44 _ cz infoFe rfl fe_zero.one ?_)
      refine ret_cell_tmp rfl (w.heap.size + 1 + 1) _ zero5 _ _ (.bool false) rfl rfl (setRow_here cz _) Try.underlying44 rfl infoFe rfl ?_
      have h1 : rOk U V = false := by unfold rOk; simp [c2]
      have h2 : rR U V = 0 := by unfold rR; simp [h1]
      rw [h1, h2]
      exact ⟨zero5, rfl, fe_zero, below_setRow hb9 (by omega) _⟩
    · cases c3 : sameB V 0
      · go_wp2_with fail
        refine wp_region_rem (St w [(gE, P), (gQ, Q), (w.heap.size, X), (w.heap.size + 1, Y)]) (by kernel_rfl) (by kernel_rfl) (fun _ _ d _ _ h => by cases d <;> exact h) hst.drew ?_
        apply rem_sure 0 (by kernel_rfl) rfl (wanted_none rfl)
        · intro w2 hS K hK
          exact wp_load_row 44 _ rfl gE rfl _ P _ _ (hS.at_ (by simp)) Try.underlying44 rfl (by rw [sP]; exact infoFe) (hK _ hS (Ext.refl _))
        · kernel_rfl
        · kernel_rfl
        try simp only [put_some, List.setIfInBounds_toArray, List.set_cons_succ, List.set_cons_zero]
        apply rem_sure 1 (by kernel_rfl) rfl (wanted_none rfl)
        · intro w2 hS K hK
          exact wp_load_row 44 _ rfl gE rfl _ P _ _ (hS.at_ (by simp)) Try.underlying44 rfl (by rw [sP]; exact infoFe) (hK _ hS (Ext.refl _))
        · kernel_rfl
        · kernel_rfl
        try simp only [put_some, List.setIfInBounds_toArray, List.set_cons_succ, List.set_cons_zero]
        apply rem_sure 3 (by kernel_rfl) rfl (wanted_none rfl)
        · intro w2 hS K hK
          exact wp_load_row 44 _ rfl gQ rfl _ Q _ _ (hS.at_ (by simp)) Try.underlying44 rfl (by rw [sQ]; exact infoFe) (hK _ hS (Ext.refl _))
        · kernel_rfl
        · kernel_rfl
        try simp only [put_some, List.setIfInBounds_toArray, List.set_cons_succ, List.set_cons_zero]
        refine rem_one 2 (by kernel_rfl) (step_of rfl (wanted_none rfl) ?_)
        intro v21 hS21 hE21 K hK
        go_wp2_with fail
        refine (emul_fe P P _ _ _ HP.out HP.out).mono ?_
        rintro e u21 ⟨S1, rfl, hS1, hk21⟩
        have sS1 := hS1.size
        have oS1 := Lib.hid hS1.one
        have HS1 := Lib.hid hS1
        clear hS1
        refine hK _ _ (hS21.keep hk21) ?_
        clear hK K
        try simp only [put_some, List.setIfInBounds_toArray, List.set_cons_succ, List.set_cons_zero]
        refine rem_one 4 (by kernel_rfl) (step_of rfl (wanted_none rfl) ?_)
        intro v22 hS22 hE22 K hK
        go_wp2_with fail
        refine (same_fe S1 Q _ _ _ HS1.out HQ.out).mono ?_
        rintro e u22 ⟨rfl, hk22⟩
        rw [c2]
        refine hK _ _ (hS22.keep hk22) ?_
        clear hK K
        try simp only [put_some, List.setIfInBounds_toArray, List.set_cons_succ, List.set_cons_zero]
        apply rem_sure 5 (by kernel_rfl) rfl (wanted_none rfl)
        · intro w2 hS K hK
          go_wp2_with fail
          exact hK _ hS (Ext.refl _)
        · kernel_rfl
        · kernel_rfl
        try simp only [put_some, List.setIfInBounds_toArray, List.set_cons_succ, List.set_cons_zero]
        apply rem_sure 6 (by kernel_rfl) rfl (wanted_none rfl)
        · intro w2 hS K hK
          go_wp2_with fail
          exact hK _ hS (Ext.refl _)
        · kernel_rfl
        · kernel_rfl
        try simp only [put_some, List.setIfInBounds_toArray, List.set_cons_succ, List.set_cons_zero]
        apply rem_sure 7 (by kernel_rfl) rfl (by kernel_rfl)
        · intro w2 hS K hK
          exact wp_load_row 44 _ rfl (w.heap.size + 1) rfl _ Y _ _ (hS.at_ (by simp)) Try.underlying44 rfl (by rw [sY]; exact infoFe) (hK _ hS (Ext.refl _))
        · kernel_rfl
        · kernel_rfl
        try simp only [put_some, List.setIfInBounds_toArray, List.set_cons_succ, List.set_cons_zero]
        refine rem_one 8 (by kernel_rfl) (step_of rfl (by kernel_rfl) ?_)
        intro v23 hS23 hE23 K hK
        go_wp2_with fail
        refine (zero_fe Y _ _ HY.out).mono ?_
        rintro e u23 ⟨rfl, hk23⟩
        rw [c3]
        refine hK _ _ (hS23.keep hk23) ?_
        clear hK K
        try simp only [put_some, List.setIfInBounds_toArray, List.set_cons_succ, List.set_cons_zero]
        apply rem_sure 9 (by kernel_rfl) rfl (by kernel_rfl)
        · intro w2 hS K hK
          go_wp2_with fail
          exact hK _ hS (Ext.refl _)
        · kernel_rfl
        · kernel_rfl
        try simp only [put_some, List.setIfInBounds_toArray, List.set_cons_succ, List.set_cons_zero]
        refine rem_skip 10 (by kernel_rfl) rfl (by kernel_rfl) ?_
        try simp only [put_some, List.setIfInBounds_toArray, List.set_cons_succ, List.set_cons_zero]
        refine rem_skip 11 (by kernel_rfl) rfl (by kernel_rfl) ?_
        try simp only [put_some, List.setIfInBounds_toArray, List.set_cons_succ, List.set_cons_zero]
        refine rem_skip 12 (by kernel_rfl) rfl (by kernel_rfl) ?_
        try simp only [put_some, List.setIfInBounds_toArray, List.set_cons_succ, List.set_cons_zero]
        apply rem_sure 13 (by kernel_rfl) rfl (by kernel_rfl)
        · intro w2 hS K hK
          go_wp2_with fail
          exact hK _ hS (Ext.refl _)
        · kernel_rfl
        · kernel_rfl
        try simp only [put_some, List.setIfInBounds_toArray, List.set_cons_succ, List.set_cons_zero]
        apply rem_sure 14 (by kernel_rfl) rfl (wanted_none rfl)
        · intro w2 hS K hK
          go_wp2_with fail
          exact hK _ hS (Ext.refl _)
        · kernel_rfl
        · kernel_rfl
        try simp only [put_some, List.setIfInBounds_toArray, List.set_cons_succ, List.set_cons_zero]
        refine rem_nil ?_
        intro v9 hS9 hE9
        have cz := (hE9 _ _ (block_stay hk23 (hE23 _ _ (block_stay hk22 (hE22 _ _ (block_stay hk21 (hE21 _ _ cz)))))))
        have hst := hS9
        clear hS9 hE9
        generalize v9 = w4 at *
        have cP := hst.at_ (g := gE) (cs := P) (by simp)
        go_wp2_with (refine wpList_load_row rfl 44 (.tmp 7) rfl gE rfl _ _ _ _ cP Try.underlying44 rfl (by rw [sP]; exact infoFe) ?_)
        refine (eput_fe P _ _ HP.out).mono ?_
        rintro e w5 ⟨bb, rfl, _, hbB, hb5⟩
        have hst := hst.keep hb5
        have cz := block_stay hb5 cz
        have cP := block_stay hb5 cP
        have cc : w5.cell? ⟨bb, 0, none⟩ = some (.int .u8 (rX U V % PP % 256)) := (cell_of_row w5 bb 0 _ _ _ hbB).trans rfl
        have hand : bits .and .u8 (rX U V % PP % 256) 1 = rX U V % PP % 2 := by rw [and_u8_one _ (by omega)]; omega
        have h1 : rOk U V = true := by unfold rOk; simp [c2, c3]
        have H1 := Lib.hid h1
        clear hb5 hbB h1
        by_cases par : rX U V % PP % 2 = 1
        · have h2 : rR U V = 0 - rX U V := by unfold rR; rw [if_pos H1.out, if_pos par]
          have H2 := Lib.hid h2
          have hp : ((rX U V % PP % 2) == 1) = true := by simpa using par
          clear h2 par
          go_wp2_with (refine wpList_load_row rfl 44 (.tmp 7) rfl gE rfl _ _ _ _ cP Try.underlying44 rfl (by rw [sP]; exact infoFe) ?_)
          refine (esub_fe zero5 P 0 _ _ fe_zero HP.out).mono ?_
          rintro e w6 ⟨R, rfl, hR, hb6⟩
          have sR := hR.size
          have oR := Lib.hid hR.one
          have HR := Lib.hid hR
          have hst := hst.keep hb6
          have cz := block_stay hb6 cz
          have cP := block_stay hb6 cP
          have cR := setRow_here cP R
          have cz2 := (setRow_other w6 gE (w.heap.size + 1 + 1) R (by omega)).trans cz
          have hb9 := below_setRow hst.2 (show w.heap.size ≤ gE by omega) R
          clear hR hb6
          go_wp2_with (first | (refine wpList_store_row rfl 44 (.tmp 7) (.tmp 47) rfl gE R rfl rfl 44 _ cP (by rw [sR]; exact infoFe) (by rw [sP, sR]) oR.out ?_) | (refine wpList_load_row rfl 44 (.tmp 7) rfl gE rfl _ _ _ _ cR Try.underlying44 rfl (by rw [sR]; exact infoFe) ?_) | (refine wpList_store_row rfl 44 (.tmp 4) (.tmp 48) rfl (w.heap.size + 1 + 1) R rfl rfl 44 _ cz2 (by rw [sR]; exact infoFe) (by rw [sR]; rfl) oR.out ?_))
          refine ret_cell_tmp rfl (w.heap.size + 1 + 1) _ R _ _ (.bool true) rfl rfl (setRow_here cz2 _) Try.underlying44 rfl (by rw [sR]; exact infoFe) rfl ?_
          rw [H1.out, H2.out]
          exact ⟨R, rfl, HR.out, below_setRow hb9 (by omega) _⟩
        · have h2 : rR U V = rX U V := by unfold rR; rw [if_pos H1.out, if_neg par]
          have H2 := Lib.hid h2
          have hp : ((rX U V % PP % 2) == 1) = false := by simpa using par
          have hb9 := hst.2
          clear h2 par
          go_wp2_with (first | (refine wpList_load_row rfl 44 (.tmp 7) rfl gE rfl _ _ _ _ cP Try.underlying44 rfl (by rw [sP]; exact infoFe) ?_) | (refine wpList_store_row rfl 44 (.tmp 4) (.tmp 48) rfl (w.heap.size + 1 + 1) P rfl rfl 44 _ cz (by rw [sP]; exact infoFe) (by rw [sP]; rfl) oP.out ?_))
          refine ret_cell_tmp rfl (w.heap.size + 1 + 1) _ P _ _ (.bool true) rfl rfl (setRow_here cz _) Try.underlying44 rfl (by rw [sP]; exact infoFe) rfl ?_
          rw [H1.out, H2.out]
          exact ⟨P, rfl, HP.out, below_setRow hb9 (by omega) _⟩
      · cases c4 : sameB U 0
        · go_wp2_with fail
          refine wp_region_rem (St w [(gE, P), (gQ, Q), (w.heap.size, X), (w.heap.size + 1, Y)]) (by kernel_rfl) (by kernel_rfl) (fun _ _ d _ _ h => by cases d <;> exact h) hst.drew ?_
          apply rem_sure 0 (by kernel_rfl) rfl (wanted_none rfl)
          · intro w2 hS K hK
            exact wp_load_row 44 _ rfl gE rfl _ P _ _ (hS.at_ (by simp)) Try.underlying44 rfl (by rw [sP]; exact infoFe) (hK _ hS (Ext.refl _))
          · kernel_rfl
          · kernel_rfl
          try simp only [put_some, List.setIfInBounds_toArray, List.set_cons_succ, List.set_cons_zero]
          apply rem_sure 1 (by kernel_rfl) rfl (wanted_none rfl)
          · intro w2 hS K hK
            exact wp_load_row 44 _ rfl gE rfl _ P _ _ (hS.at_ (by simp)) Try.underlying44 rfl (by rw [sP]; exact infoFe) (hK _ hS (Ext.refl _))
          · kernel_rfl
          · kernel_rfl
          try simp only [put_some, List.setIfInBounds_toArray, List.set_cons_succ, List.set_cons_zero]
          apply rem_sure 3 (by kernel_rfl) rfl (wanted_none rfl)
          · intro w2 hS K hK
            exact wp_load_row 44 _ rfl gQ rfl _ Q _ _ (hS.at_ (by simp)) Try.underlying44 rfl (by rw [sQ]; exact infoFe) (hK _ hS (Ext.refl _))
          · kernel_rfl
          · kernel_rfl
          try simp only [put_some, List.setIfInBounds_toArray, List.set_cons_succ, List.set_cons_zero]
          refine rem_one 2 (by kernel_rfl) (step_of rfl (wanted_none rfl) ?_)
          intro v21 hS21 hE21 K hK
          go_wp2_with fail
          refine (emul_fe P P _ _ _ HP.out HP.out).mono ?_
          rintro e u21 ⟨S1, rfl, hS1, hk21⟩
          have sS1 := hS1.size
          have oS1 := Lib.hid hS1.one
          have HS1 := Lib.hid hS1
          clear hS1
          refine hK _ _ (hS21.keep hk21) ?_
          clear hK K
          try simp only [put_some, List.setIfInBounds_toArray, List.set_cons_succ, List.set_cons_zero]
          refine rem_one 4 (by kernel_rfl) (step_of rfl (wanted_none rfl) ?_)
          intro v22 hS22 hE22 K hK
          go_wp2_with fail
          refine (same_fe S1 Q _ _ _ HS1.out HQ.out).mono ?_
          rintro e u22 ⟨rfl, hk22⟩
          rw [c2]
          refine hK _ _ (hS22.keep hk22) ?_
          clear hK K
          try simp only [put_some, List.setIfInBounds_toArray, List.set_cons_succ, List.set_cons_zero]
          apply rem_sure 5 (by kernel_rfl) rfl (wanted_none rfl)
          · intro w2 hS K hK
            go_wp2_with fail
            exact hK _ hS (Ext.refl _)
          · kernel_rfl
          · kernel_rfl
          try simp only [put_some, List.setIfInBounds_toArray, List.set_cons_succ, List.set_cons_zero]
          apply rem_sure 6 (by kernel_rfl) rfl (wanted_none rfl)
          · intro w2 hS K hK
            go_wp2_with fail
            exact hK _ hS (Ext.refl _)
          · kernel_rfl
          · kernel_rfl
          try simp only [put_some, List.setIfInBounds_toArray, List.set_cons_succ, List.set_cons_zero]
          apply rem_sure 7 (by kernel_rfl) rfl (by kernel_rfl)
          · intro w2 hS K hK
            exact wp_load_row 44 _ rfl (w.heap.size + 1) rfl _ Y _ _ (hS.at_ (by simp)) Try.underlying44 rfl (by rw [sY]; exact infoFe) (hK _ hS (Ext.refl _))
          · kernel_rfl
          · kernel_rfl
          try simp only [put_some, List.setIfInBounds_toArray, List.set_cons_succ, List.set_cons_zero]
          refine rem_one 8 (by kernel_rfl) (step_of rfl (by kernel_rfl) ?_)
          intro v23 hS23 hE23 K hK
          go_wp2_with fail
          refine (zero_fe Y _ _ HY.out).mono ?_
          rintro e u23 ⟨rfl, hk23⟩
          rw [c3]
          refine hK _ _ (hS23.keep hk23) ?_
          clear hK K
          try simp only [put_some, List.setIfInBounds_toArray, List.set_cons_succ, List.set_cons_zero]
          apply rem_sure 9 (by kernel_rfl) rfl (by kernel_rfl)
          · intro w2 hS K hK
            go_wp2_with fail
            exact hK _ hS (Ext.refl _)
          · kernel_rfl
          · kernel_rfl
          try simp only [put_some, List.setIfInBounds_toArray, List.set_cons_succ, List.set_cons_zero]
          apply rem_sure 10 (by kernel_rfl) rfl (by kernel_rfl)
          · intro w2 hS K hK
            exact wp_load_row 44 _ rfl w.heap.size rfl _ X _ _ (hS.at_ (by simp)) Try.underlying44 rfl (by rw [sX]; exact infoFe) (hK _ hS (Ext.refl _))
          · kernel_rfl
          · kernel_rfl
          try simp only [put_some, List.setIfInBounds_toArray, List.set_cons_succ, List.set_cons_zero]
          refine rem_one 11 (by kernel_rfl) (step_of rfl (by kernel_rfl) ?_)
          intro v24 hS24 hE24 K hK
          go_wp2_with fail
          refine (zero_fe X _ _ HX.out).mono ?_
          rintro e u24 ⟨rfl, hk24⟩
          rw [c4]
          refine hK _ _ (hS24.keep hk24) ?_
          clear hK K
          try simp only [put_some, List.setIfInBounds_toArray, List.set_cons_succ, List.set_cons_zero]
          apply rem_sure 12 (by kernel_rfl) rfl (by kernel_rfl)
          · intro w2 hS K hK
            go_wp2_with fail
            exact hK _ hS (Ext.refl _)
          · kernel_rfl
          · kernel_rfl
          try simp only [put_some, List.setIfInBounds_toArray, List.set_cons_succ, List.set_cons_zero]
          apply rem_sure 13 (by kernel_rfl) rfl (by kernel_rfl)
          · intro w2 hS K hK
            go_wp2_with fail
            exact hK _ hS (Ext.refl _)
          · kernel_rfl
          · kernel_rfl
          try simp only [put_some, List.setIfInBounds_toArray, List.set_cons_succ, List.set_cons_zero]
          apply rem_sure 14 (by kernel_rfl) rfl (wanted_none rfl)
          · intro w2 hS K hK
            go_wp2_with fail
            exact hK _ hS (Ext.refl _)
          · kernel_rfl
          · kernel_rfl
          try simp only [put_some, List.setIfInBounds_toArray, List.set_cons_succ, List.set_cons_zero]
          refine rem_nil ?_
          intro v9 hS9 hE9
          have cz := (hE9 _ _ (block_stay hk24 (hE24 _ _ (block_stay hk23 (hE23 _ _ (block_stay hk22 (hE22 _ _ (block_stay hk21 (hE21 _ _ cz)))))))))
          have hst := hS9
          clear hS9 hE9
          generalize v9 = w4 at *
          have hb9 := hst.2
          go_wp2_with (refine wpList_store_row rfl 44 (.tmp 4) (.tmp 38) rfl (w.heap.size + 1 + 1) zero5 rfl rfl 44 _ cz infoFe rfl fe_zero.one ?_)
          refine ret_cell_tmp rfl (w.heap.size + 1 + 1) _ zero5 _ _ (.bool false) rfl rfl (setRow_here cz _) Try.underlying44 rfl infoFe rfl ?_
          have h1 : rOk U V = false := by unfold rOk; simp [c2, c3, c4]
          have h2 : rR U V = 0 := by unfold rR; simp [h1]
          rw [h1, h2]
          exact ⟨zero5, rfl, fe_zero, below_setRow hb9 (by omega) _⟩
        · go_wp2_with fail
          refine wp_region_rem (St w [(gE, P), (gQ, Q), (w.heap.size, X), (w.heap.size + 1, Y)]) (by kernel_rfl) (by kernel_rfl) (fun _ _ d _ _ h => by cases d <;> exact h) hst.drew ?_
          apply rem_sure 0 (by kernel_rfl) rfl (wanted_none rfl)
          · intro w2 hS K hK
            exact wp_load_row 44 _ rfl gE rfl _ P _ _ (hS.at_ (by simp)) Try.underlying44 rfl (by rw [sP]; exact infoFe) (hK _ hS (Ext.refl _))
          · kernel_rfl
          · kernel_rfl
          try simp only [put_some, List.setIfInBounds_toArray, List.set_cons_succ, List.set_cons_zero]
          apply rem_sure 1 (by kernel_rfl) rfl (wanted_none rfl)
          · intro w2 hS K hK
            exact wp_load_row 44 _ rfl gE rfl _ P _ _ (hS.at_ (by simp)) Try.underlying44 rfl (by rw [sP]; exact infoFe) (hK _ hS (Ext.refl _))
          · kernel_rfl
          · kernel_rfl
          try simp only [put_some, List.setIfInBounds_toArray, List.set_cons_succ, List.set_cons_zero]
          apply rem_sure 3 (by kernel_rfl) rfl (wanted_none rfl)
          · intro w2 hS K hK
            exact wp_load_row 44 _ rfl gQ rfl _ Q _ _ (hS.at_ (by simp)) Try.underlying44 rfl (by rw [sQ]; exact infoFe) (hK _ hS (Ext.refl _))
          · kernel_rfl
          · kernel_rfl
          try simp only [put_some, List.setIfInBounds_toArray, List.set_cons_succ, List.set_cons_zero]
          refine rem_one 2 (by kernel_rfl) (step_of rfl (wanted_none rfl) ?_)
          intro v21 hS21 hE21 K hK
          go_wp2_with fail
          refine (emul_fe P P _ _ _ HP.out HP.out).mono ?_
          rintro e u21 ⟨S1, rfl, hS1, hk21⟩
          have sS1 := hS1.size
          have oS1 := Lib.hid hS1.one
          have HS1 := Lib.hid hS1
          clear hS1
          refine hK _ _ (hS21.keep hk21) ?_
          clear hK K
          try simp only [put_some, List.setIfInBounds_toArray, List.set_cons_succ, List.set_cons_zero]
          refine rem_one 4 (by kernel_rfl) (step_of rfl (wanted_none rfl) ?_)
          intro v22 hS22 hE22 K hK
          go_wp2_with fail
          refine (same_fe S1 Q _ _ _ HS1.out HQ.out).mono ?_
          rintro e u22 ⟨rfl, hk22⟩
          rw [c2]
          refine hK _ _ (hS22.keep hk22) ?_
          clear hK K
          try simp only [put_some, List.setIfInBounds_toArray, List.set_cons_succ, List.set_cons_zero]
          apply rem_sure 5 (by kernel_rfl) rfl (wanted_none rfl)
          · intro w2 hS K hK
            go_wp2_with fail
            exact hK _ hS (Ext.refl _)
          · kernel_rfl
          · kernel_rfl
          try simp only [put_some, List.setIfInBounds_toArray, List.set_cons_succ, List.set_cons_zero]
          apply rem_sure 6 (by kernel_rfl) rfl (wanted_none rfl)
          · intro w2 hS K hK
            go_wp2_with fail
            exact hK _ hS (Ext.refl _)
          · kernel_rfl
          · kernel_rfl
          try simp only [put_some, List.setIfInBounds_toArray, List.set_cons_succ, List.set_cons_zero]
          apply rem_sure 7 (by kernel_rfl) rfl (by kernel_rfl)
          · intro w2 hS K hK
            exact wp_load_row 44 _ rfl (w.heap.size + 1) rfl _ Y _ _ (hS.at_ (by simp)) Try.underlying44 rfl (by rw [sY]; exact infoFe) (hK _ hS (Ext.refl _))
          · kernel_rfl
          · kernel_rfl
          try simp only [put_some, List.setIfInBounds_toArray, List.set_cons_succ, List.set_cons_zero]
          refine rem_one 8 (by kernel_rfl) (step_of rfl (by kernel_rfl) ?_)
          intro v23 hS23 hE23 K hK
          go_wp2_with fail
          refine (zero_fe Y _ _ HY.out).mono ?_
          rintro e u23 ⟨rfl, hk23⟩
          rw [c3]
          refine hK _ _ (hS23.keep hk23) ?_
          clear hK K
          try simp only [put_some, List.setIfInBounds_toArray, List.set_cons_succ, List.set_cons_zero]
          apply rem_sure 9 (by kernel_rfl) rfl (by kernel_rfl)
          · intro w2 hS K hK
            go_wp2_with fail
            exact hK _ hS (Ext.refl _)
          · kernel_rfl
          · kernel_rfl
          try simp only [put_some, List.setIfInBounds_toArray, List.set_cons_succ, List.set_cons_zero]
          apply rem_sure 10 (by kernel_rfl) rfl (by kernel_rfl)
          · intro w2 hS K hK
            exact wp_load_row 44 _ rfl w.heap.size rfl _ X _ _ (hS.at_ (by simp)) Try.underlying44 rfl (by rw [sX]; exact infoFe) (hK _ hS (Ext.refl _))
          · kernel_rfl
          · kernel_rfl
          try simp only [put_some, List.setIfInBounds_toArray, List.set_cons_succ, List.set_cons_zero]
          refine rem_one 11 (by kernel_rfl) (step_of rfl (by kernel_rfl) ?_)
          intro v24 hS24 hE24 K hK
          go_wp2_with fail
          refine (zero_fe X _ _ HX.out).mono ?_
          rintro e u24 ⟨rfl, hk24⟩
          rw [c4]
          refine hK _ _ (hS24.keep hk24) ?_
          clear hK K
          try simp only [put_some, List.setIfInBounds_toArray, List.set_cons_succ, List.set_cons_zero]
          apply rem_sure 12 (by kernel_rfl) rfl (by kernel_rfl)
          · intro w2 hS K hK
            go_wp2_with fail
            exact hK _ hS (Ext.refl _)
          · kernel_rfl
          · kernel_rfl
          try simp only [put_some, List.setIfInBounds_toArray, List.set_cons_succ, List.set_cons_zero]
          apply rem_sure 13 (by kernel_rfl) rfl (by kernel_rfl)
          · intro w2 hS K hK
            go_wp2_with fail
            exact hK _ hS (Ext.refl _)
          · kernel_rfl
          · kernel_rfl
          try simp only [put_some, List.setIfInBounds_toArray, List.set_cons_succ, List.set_cons_zero]
          apply rem_sure 14 (by kernel_rfl) rfl (wanted_none rfl)
          · intro w2 hS K hK
            go_wp2_with fail
            exact hK _ hS (Ext.refl _)
          · kernel_rfl
          · kernel_rfl
          try simp only [put_some, List.setIfInBounds_toArray, List.set_cons_succ, List.set_cons_zero]
          refine rem_nil ?_
          intro v9 hS9 hE9
          have cz := (hE9 _ _ (block_stay hk24 (hE24 _ _ (block_stay hk23 (hE23 _ _ (block_stay hk22 (hE22 _ _ (block_stay hk21 (hE21 _ _ cz)))))))))
          have hst := hS9
          clear hS9 hE9
          generalize v9 = w4 at *
          have cP := hst.at_ (g := gE) (cs := P) (by simp)
          go_wp2_with (refine wpList_load_row rfl 44 (.tmp 7) rfl gE rfl _ _ _ _ cP Try.underlying44 rfl (by rw [sP]; exact infoFe) ?_)
          refine (eput_fe P _ _ HP.out).mono ?_
          rintro e w5 ⟨bb, rfl, _, hbB, hb5⟩
          have hst := hst.keep hb5
          have cz := block_stay hb5 cz
          have cP := block_stay hb5 cP
          have cc : w5.cell? ⟨bb, 0, none⟩ = some (.int .u8 (rX U V % PP % 256)) := (cell_of_row w5 bb 0 _ _ _ hbB).trans rfl
          have hand : bits .and .u8 (rX U V % PP % 256) 1 = rX U V % PP % 2 := by rw [and_u8_one _ (by omega)]; omega
          have h1 : rOk U V = true := by unfold rOk; simp [c2, c3, c4]
          have H1 := Lib.hid h1
          clear hb5 hbB h1
          by_cases par : rX U V % PP % 2 = 1
          · have h2 : rR U V = 0 - rX U V := by unfold rR; rw [if_pos H1.out, if_pos par]
            have H2 := Lib.hid h2
            have hp : ((rX U V % PP % 2) == 1) = true := by simpa using par
            clear h2 par
            go_wp2_with (refine wpList_load_row rfl 44 (.tmp 7) rfl gE rfl _ _ _ _ cP Try.underlying44 rfl (by rw [sP]; exact infoFe) ?_)
            refine (esub_fe zero5 P 0 _ _ fe_zero HP.out).mono ?_
            rintro e w6 ⟨R, rfl, hR, hb6⟩
            have sR := hR.size
            have oR := Lib.hid hR.one
            have HR := Lib.hid hR
            have hst := hst.keep hb6
            have cz := block_stay hb6 cz
            have cP := block_stay hb6 cP
            have cR := setRow_here cP R
            have cz2 := (setRow_other w6 gE (w.heap.size + 1 + 1) R (by omega)).trans cz
            have hb9 := below_setRow hst.2 (show w.heap.size ≤ gE by omega) R
            clear hR hb6
            go_wp2_with (first | (refine wpList_store_row rfl 44 (.tmp 7) (.tmp 47) rfl gE R rfl rfl 44 _ cP (by rw [sR]; exact infoFe) (by rw [sP, sR]) oR.out ?_) | (refine wpList_load_row rfl 44 (.tmp 7) rfl gE rfl _ _ _ _ cR Try.underlying44 rfl (by rw [sR]; exact infoFe) ?_) | (refine wpList_store_row rfl 44 (.tmp 4) (.tmp 48) rfl (w.heap.size + 1 + 1) R rfl rfl 44 _ cz2 (by rw [sR]; exact infoFe) (by rw [sR]; rfl) oR.out ?_))
            refine ret_cell_tmp rfl (w.heap.size + 1 + 1) _ R _ _ (.bool true) rfl rfl (setRow_here cz2 _) Try.underlying44 rfl (by rw [sR]; exact infoFe) rfl ?_
            rw [H1.out, H2.out]
            exact ⟨R, rfl, HR.out, below_setRow hb9 (by omega) _⟩
          · have h2 : rR U V = rX U V := by unfold rR; rw [if_pos H1.out, if_neg par]
            have H2 := Lib.hid h2
            have hp : ((rX U V % PP % 2) == 1) = false := by simpa using par
            have hb9 := hst.2
            clear h2 par
            go_wp2_with (first | (refine wpList_load_row rfl 44 (.tmp 7) rfl gE rfl _ _ _ _ cP Try.underlying44 rfl (by rw [sP]; exact infoFe) ?_) | (refine wpList_store_row rfl 44 (.tmp 4) (.tmp 48) rfl (w.heap.size + 1 + 1) P rfl rfl 44 _ cz (by rw [sP]; exact infoFe) (by rw [sP]; rfl) oP.out ?_))
            refine ret_cell_tmp rfl (w.heap.size + 1 + 1) _ P _ _ (.bool true) rfl rfl (setRow_here cz _) Try.underlying44 rfl (by rw [sP]; exact infoFe) rfl ?_
            rw [H1.out, H2.out]
            exact ⟨P, rfl, HP.out, below_setRow hb9 (by omega) _⟩
end Go.Proofs.Ytenppmciabdefaa
