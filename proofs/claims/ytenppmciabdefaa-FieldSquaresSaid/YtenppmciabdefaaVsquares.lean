/- The walks of field.Root and FieldSquares. No condition. -/
import Derived.Test.YtenppmciabdefaaIa
namespace Go.Proofs.Ytenppmciabdefaa
open Go Go.RowKit
/-- The results: bytes L, whether there is a root, and the error E. -/
def ResB3 (w : World) (L : List Int) (b : Bool) (E : Int) (e : Ending) (w' : World) : Prop :=
  ∃ p n c, e = .returned (.tuple #[.slice p n c, .bool b, .int .i64 E]) ∧ n ≤ c ∧ Bs w' p n L ∧ Below w.heap.size w w'
set_option maxRecDepth 100000 in
set_option maxHeartbeats 4000000 in
theorem gRoot_any (pa pb : Option Addr) (na ca nb cb : Nat) (la lb : List Int) (w : World) (ha : Bs w pa na la) (hb : Bs w pb nb lb) (hca : na ≤ ca) (hcb : nb ≤ cb) :
    Calls Try.prog 51 #[.slice pa na ca, .slice pb nb cb] w (ResB3 w (oL (both la lb) (rR (valB la) (valB lb))) (both la lb && rOk (valB la) (valB lb)) (oE (both la lb))) := by
  by_cases h : na = 32 ∧ nb = 32
  · rw [both_yes ⟨ha.1.trans h.1, hb.1.trans h.2⟩]
    obtain ⟨rfl, rfl⟩ := h
    go_enter Try.func51, Try.ntmps51
    go_wp2_with fail
    refine (eget_fe _ _ la _ hca ha).mono ?_
    rintro e w1 ⟨A, rfl, hA, hb1⟩
    have hb := hb.keep hb1
    go_wp2_with fail
    refine (eget_fe _ _ lb _ hcb hb).mono ?_
    rintro e w2 ⟨B, rfl, hB, hb2⟩
    go_wp2_with fail
    refine (root_fe A B _ _ _ hA hB).mono ?_
    rintro e w3 ⟨C, rfl, hC, hb3⟩
    have h13 := Below.join (Below.join hb1 hb2) hb3
    have sC := hC.size
    have oC := Lib.hid hC.one
    have HC := Lib.hid hC
    have d0 := heap_alloc_new w3 (.cells zero5 44)
    have c0 := setRow_here d0 C
    have hb4 := below_setRow (h13.alloc h13.size (.cells zero5 44)) h13.size C
    generalize rOk (valB la) (valB lb) = b at *
    clear hA hB hC hb1 hb2 hb3 h13
    go_wp2_with (first | (refine wpList_store_row rfl 44 _ _ rfl w3.heap.size C rfl rfl 44 _ d0 (by rw [sC]; exact infoFe) (by rw [sC]; rfl) oC.out ?_) | (refine wpList_load_row rfl 44 (.tmp 7) rfl w3.heap.size rfl _ C _ _ c0 Try.underlying44 rfl (by rw [sC]; exact infoFe) ?_))
    refine (eput_fe C _ _ HC.out).mono ?_
    rintro e w5 ⟨g, rfl, _, hR, hb5⟩
    go_wp2
    go_ret3
    exact ⟨_, _, _, rfl, Nat.le_refl _, Bs.leB hR, Below.join hb4 hb5⟩
  · rw [both_no (by rw [ha.1, hb.1]; exact h)]
    by_cases h1 : na = 32
    · subst h1
      have h2 : ((nb : Int) != 32) = true := by rw [bne_iff_ne]; omega
      clear h ha hb
      go_enter Try.func51, Try.ntmps51
      go_wp2
      go_ret3
      exact ⟨_, _, _, rfl, Nat.le_refl _, Bs.empty _ _, Below.refl _ _⟩
    · have h2 : ((na : Int) != 32) = true := by rw [bne_iff_ne]; omega
      clear h h1 ha hb
      go_enter Try.func51, Try.ntmps51
      go_wp2
      go_ret3
      exact ⟨_, _, _, rfl, Nat.le_refl _, Bs.empty _ _, Below.refl _ _⟩
theorem ResB3.can {w w' : World} {N : Int} {b : Bool} {e : Ending} (h : ResB3 w (oL true N) (true && b) (oE true) e w') : ∃ p c, e = .returned (.tuple #[.slice p 32 c, .bool b, .int .i64 0]) ∧ 32 ≤ c ∧ Bs w' p 32 (leB (N % PP)) ∧ Below w.heap.size w w' := by
  obtain ⟨p, n, c, rfl, hc, hB, hb⟩ := h
  have hn : n = 32 := hB.1.symm.trans rfl
  subst hn
  exact ⟨p, c, by simp [oE_yes], hc, hB, hb⟩
theorem str_sameB (A B : Int) : ((strOfNums (leB (A % PP))).toList == (strOfNums (leB (B % PP))).toList) = sameB A B := by
  by_cases h : PP ∣ A - B
  · rw [str_yes h, sameB_yes h]
  · rw [str_no h, sameB_no h]
theorem Bs.first {w : World} {p : Option Addr} {l : List Int} (h : Bs w p 32 l) : ∃ B off, p = some ⟨B, off, none⟩ := by
  obtain ⟨B, off, e, _⟩ := h.2.2 (by omega)
  exact ⟨B, off, e⟩
set_option maxRecDepth 100000 in
set_option maxHeartbeats 40000000 in
theorem fieldSquares_walk (a0 : Option Addr) (n0 c0 : Nat) (l0 : List Int) (a1 : Option Addr) (n1 c1 : Nat) (l1 : List Int) (w : World) (b0 : Bs w a0 n0 l0) (_e0 : n0 ≤ c0) (_g0 : c0 ≤ 140737488351232) (b1 : Bs w a1 n1 l1) (_e1 : n1 ≤ c1) (_g1 : c1 ≤ 140737488351232) :
    Calls Try.prog 11 #[.slice a0 n0 c0, .slice a1 n1 c1] w fun e w' => e = .returned (.bool true) ∧ Below w.heap.size w w' := by
  go_enter Try.func11, Try.ntmps11
  go_wp2_with fail
  refine (fit_any a0 n0 c0 l0 _ b0).mono ?_
  rintro e w1 ⟨g0, rfl, hA, hb⟩
  have b1 := b1.keep hb
  go_wp2_with fail
  refine (fit_any a1 n1 c1 l1 _ b1).mono ?_
  rintro e w1 ⟨g1, rfl, hB, hb1⟩
  have hst0 : SBy w [] w1 := ⟨by simp, Below.join hb hb1⟩
  have hst := (hst0.add hB).add (hA.keep hb1)
  clear b0 b1 hb1 hb hA hB hst0
  generalize fitL l0 = la at *
  generalize fitL l1 = lb at *
  have VA := Vm.self la
  have VB := Vm.self lb
  have hAl := (hst.at_ (p := some ⟨g0, 0, none⟩) (l := la) (by simp)).1
  have hBl := (hst.at_ (p := some ⟨g1, 0, none⟩) (l := lb) (by simp)).1
  go_wp2_with fail
  refine (gRoot_any _ _ 32 32 32 32 la lb _ (hst.at_ (by simp)) (hst.at_ (by simp)) (by omega) (by omega)).mono ?_
  rw [both_yes ⟨hAl, hBl⟩]
  intro e w3 h
  obtain ⟨px, cx, rfl, hcx, hX, hb1⟩ := h.can
  obtain ⟨Bx, ox, rfl⟩ := hX.first
  have hst := (hst.keep hb1).add hX
  clear h hb1 hX hAl hBl
  generalize valB la = A at *
  generalize valB lb = B at *
  have hroot := rR_root A B
  have heven := rR_even A B
  generalize rR A B = X at *
  go_wp2_with (go_at_call 20; refine (num_any _ _).mono ?_; rintro e w' ⟨rfl, rfl⟩)
  refine (knows_any _).mono ?_
  rintro e w4 ⟨rfl, hb1⟩
  have hst := hst.keep hb1
  have HR := Lib.hid hroot
  have HE := Lib.hid heven
  clear hb1 hroot heven
  cases c1 : rOk A B
  · go_wp2_with fail
    refine wp_region_rem (SBy w [((some ⟨Bx, ox, none⟩), (leB (X % PP))), ((some ⟨g0, 0, none⟩), la), ((some ⟨g1, 0, none⟩), lb)]) (by kernel_rfl) (by kernel_rfl) (fun _ _ d _ _ h => by cases d <;> exact h) hst.drew ?_
    apply rem_sure 0 (by kernel_rfl) rfl (wanted_none rfl)
    · intro w2 hS K hK
      go_wp2_with fail
      exact hK _ hS (Ext.refl _)
    · kernel_rfl
    · kernel_rfl
    apply rem_sure 1 (by kernel_rfl) rfl (wanted_none rfl)
    · intro w2 hS K hK
      go_wp2_with fail
      exact hK _ hS (Ext.refl _)
    · kernel_rfl
    · kernel_rfl
    refine rem_skip 2 (by kernel_rfl) rfl (by kernel_rfl) ?_
    try simp only [put_some, List.setIfInBounds_toArray, List.set_cons_succ, List.set_cons_zero]
    refine rem_skip 3 (by kernel_rfl) rfl (by kernel_rfl) ?_
    try simp only [put_some, List.setIfInBounds_toArray, List.set_cons_succ, List.set_cons_zero]
    refine rem_skip 4 (by kernel_rfl) rfl (by kernel_rfl) ?_
    try simp only [put_some, List.setIfInBounds_toArray, List.set_cons_succ, List.set_cons_zero]
    refine rem_skip 5 (by kernel_rfl) rfl (by kernel_rfl) ?_
    try simp only [put_some, List.setIfInBounds_toArray, List.set_cons_succ, List.set_cons_zero]
    refine rem_skip 6 (by kernel_rfl) rfl (by kernel_rfl) ?_
    try simp only [put_some, List.setIfInBounds_toArray, List.set_cons_succ, List.set_cons_zero]
    refine rem_skip 7 (by kernel_rfl) rfl (by kernel_rfl) ?_
    try simp only [put_some, List.setIfInBounds_toArray, List.set_cons_succ, List.set_cons_zero]
    refine rem_skip 8 (by kernel_rfl) rfl (by kernel_rfl) ?_
    try simp only [put_some, List.setIfInBounds_toArray, List.set_cons_succ, List.set_cons_zero]
    refine rem_skip 9 (by kernel_rfl) rfl (by kernel_rfl) ?_
    try simp only [put_some, List.setIfInBounds_toArray, List.set_cons_succ, List.set_cons_zero]
    refine rem_skip 10 (by kernel_rfl) rfl (by kernel_rfl) ?_
    try simp only [put_some, List.setIfInBounds_toArray, List.set_cons_succ, List.set_cons_zero]
    refine rem_skip 11 (by kernel_rfl) rfl (by kernel_rfl) ?_
    try simp only [put_some, List.setIfInBounds_toArray, List.set_cons_succ, List.set_cons_zero]
    refine rem_skip 12 (by kernel_rfl) rfl (by kernel_rfl) ?_
    try simp only [put_some, List.setIfInBounds_toArray, List.set_cons_succ, List.set_cons_zero]
    refine rem_skip 13 (by kernel_rfl) rfl (by kernel_rfl) ?_
    try simp only [put_some, List.setIfInBounds_toArray, List.set_cons_succ, List.set_cons_zero]
    refine rem_skip 14 (by kernel_rfl) rfl (by kernel_rfl) ?_
    try simp only [put_some, List.setIfInBounds_toArray, List.set_cons_succ, List.set_cons_zero]
    refine rem_skip 15 (by kernel_rfl) rfl (by kernel_rfl) ?_
    try simp only [put_some, List.setIfInBounds_toArray, List.set_cons_succ, List.set_cons_zero]
    refine rem_skip 16 (by kernel_rfl) rfl (by kernel_rfl) ?_
    try simp only [put_some, List.setIfInBounds_toArray, List.set_cons_succ, List.set_cons_zero]
    refine rem_skip 17 (by kernel_rfl) rfl (by kernel_rfl) ?_
    try simp only [put_some, List.setIfInBounds_toArray, List.set_cons_succ, List.set_cons_zero]
    refine rem_skip 18 (by kernel_rfl) rfl (by kernel_rfl) ?_
    try simp only [put_some, List.setIfInBounds_toArray, List.set_cons_succ, List.set_cons_zero]
    refine rem_skip 19 (by kernel_rfl) rfl (by kernel_rfl) ?_
    try simp only [put_some, List.setIfInBounds_toArray, List.set_cons_succ, List.set_cons_zero]
    apply rem_sure 20 (by kernel_rfl) rfl (wanted_none rfl)
    · intro w2 hS K hK
      go_wp2_with fail
      exact hK _ hS (Ext.refl _)
    · kernel_rfl
    · kernel_rfl
    refine rem_nil ?_
    intro v9 hS9 hE9
    have hst : SBy w [((some ⟨Bx, ox, none⟩), (leB (X % PP))), ((some ⟨g0, 0, none⟩), la), ((some ⟨g1, 0, none⟩), lb)] v9 := hS9.sub (by simp)
    clear hS9 hE9
    generalize v9 = w5 at *
    clear c1
    go_wp2_with fail
    refine (mul3_can _ _ _ _ la la A A _ (hst.at_ (p := some ⟨g0, 0, none⟩) (l := la) (by simp)) (hst.at_ (p := some ⟨g0, 0, none⟩) (l := la) (by simp)) (Nat.le_refl 32) (Nat.le_refl 32) VA VA).mono ?_
    rintro e w6 ⟨pq, cq, rfl, hcq, hQ, hb1⟩
    have hst := (hst.keep hb1).add hQ
    clear hb1 hQ
    go_wp2_with fail
    refine (small_any 1 _).mono ?_
    rintro e w7 ⟨rfl, hu⟩
    have hb1 : Below w6.heap.size w6 w7 := by rw [← hu]; exact (Below.refl _ _).alloc (Nat.le_refl _) _
    have hZ : Bs w7 (some ⟨w6.heap.size, 0, none⟩) 32 (leB (1 % PP)) := by rw [← hu, small_can1]; exact bs_sm (by omega) (heap_alloc_new w6 _)
    have hst := (hst.keep hb1).add hZ
    generalize w6.heap.size = gz at *
    clear hu hb1 hZ
    go_wp2_with fail
    refine (gRoot_any _ _ 32 cq 32 32 (leB ((A * A) % PP)) (leB (1 % PP)) _ (hst.at_ (by simp)) (hst.at_ (by simp)) hcq (by omega)).mono ?_
    rw [both_yes ⟨rfl, rfl⟩, valB_mod, valB_mod, show (1 : Int) % PP = 1 by decide]
    intro e w8 h
    have hcg : Cg ((A * A) % PP) (A * A) := by
      have := Int.emod_add_mul_ediv (A * A) PP
      exact ⟨-(A * A / PP), by grind⟩
    rw [rOk_square A _ hcg] at h
    obtain ⟨py, cy, rfl, hcy, hY, hb1⟩ := h.can
    have hsq := rR_square A _ hcg
    have hst := (hst.keep hb1).add hY
    clear h hb1 hY hcg
    generalize rR (A * A % PP) 1 = Y at *
    have HSQ := Lib.hid hsq
    clear hsq
    go_wp2_with fail
    refine wp_region_rem (SBy w [(py, (leB (Y % PP))), ((some ⟨gz, 0, none⟩), (leB (1 % PP))), (pq, (leB ((A * A) % PP))), ((some ⟨Bx, ox, none⟩), (leB (X % PP))), ((some ⟨g0, 0, none⟩), la), ((some ⟨g1, 0, none⟩), lb)]) (by kernel_rfl) (by kernel_rfl) (fun _ _ d _ _ h => by cases d <;> exact h) hst.drew ?_
    apply rem_sure 0 (by kernel_rfl) rfl (wanted_none rfl)
    · intro w2 hS K hK
      go_wp2_with fail
      exact hK _ hS (Ext.refl _)
    · kernel_rfl
    · kernel_rfl
    refine rem_one 1 (by kernel_rfl) (step_of rfl (wanted_none rfl) ?_)
    intro v21 hS21 hE21 K hK
    go_wp2_with fail
    refine (num_any _ _).mono ?_
    rintro e u21 ⟨rfl, rfl⟩
    refine hK _ _ hS21 ?_
    clear hK K
    try simp only [put_some, List.setIfInBounds_toArray, List.set_cons_succ, List.set_cons_zero]
    apply rem_sure 2 (by kernel_rfl) rfl (wanted_none rfl)
    · intro w2 hS K hK
      go_wp2_with fail
      exact hK _ hS (Ext.refl _)
    · kernel_rfl
    · kernel_rfl
    apply rem_sure 3 (by kernel_rfl) rfl (wanted_none rfl)
    · intro w2 hS K hK
      go_wp2_with fail
      exact hK _ hS (Ext.refl _)
    · kernel_rfl
    · kernel_rfl
    apply rem_sure 4 (by kernel_rfl) rfl (by kernel_rfl)
    · intro w2 hS K hK
      go_wp2_with fail
      exact hK _ hS (Ext.refl _)
    · kernel_rfl
    · kernel_rfl
    apply rem_sure 5 (by kernel_rfl) rfl (by kernel_rfl)
    · intro w2 hS K hK
      go_wp2_with fail
      exact hK _ hS (Ext.refl _)
    · kernel_rfl
    · kernel_rfl
    apply rem_sure 6 (by kernel_rfl) rfl (wanted_none rfl)
    · intro w2 hS K hK
      go_wp2_with fail
      exact hK _ hS (Ext.refl _)
    · kernel_rfl
    · kernel_rfl
    apply rem_sure 7 (by kernel_rfl) rfl (wanted_none rfl)
    · intro w2 hS K hK
      go_wp2_with fail
      exact hK _ hS (Ext.refl _)
    · kernel_rfl
    · kernel_rfl
    apply rem_sure 8 (by kernel_rfl) rfl (by kernel_rfl)
    · intro w2 hS K hK
      go_wp2_with fail
      exact hK _ hS (Ext.refl _)
    · kernel_rfl
    · kernel_rfl
    apply rem_sure 9 (by kernel_rfl) rfl (by kernel_rfl)
    · intro w2 hS K hK
      go_wp2_with fail
      exact hK _ hS (Ext.refl _)
    · kernel_rfl
    · kernel_rfl
    apply rem_sure 12 (by kernel_rfl) rfl (by kernel_rfl)
    · intro w2 hS K hK
      go_wp2_with fail
      exact hK _ hS (Ext.refl _)
    · kernel_rfl
    · kernel_rfl
    apply rem_sure 13 (by kernel_rfl) rfl (by kernel_rfl)
    · intro w2 hS K hK
      go_wp2_with fail
      exact hK _ hS (Ext.refl _)
    · kernel_rfl
    · kernel_rfl
    refine rem_one 10 (by kernel_rfl) (step_of rfl (by kernel_rfl) ?_)
    intro v22 hS22 hE22 K hK
    go_wp2_with fail
    refine (mul3_can _ _ _ _ (leB (Y % PP)) (leB (Y % PP)) Y Y _ (hS22.at_ (by simp)) (hS22.at_ (by simp)) hcy hcy (Vm.can Y) (Vm.can Y)).mono ?_
    rintro e u22 ⟨p22, c22, rfl, hc22, hB22, hk22⟩
    rw [mod_of (show PP ∣ Y * Y - A * A from HSQ.out)] at hB22
    refine hK _ _ (hS22.keep hk22) ?_
    clear hK K
    try simp only [put_some, List.setIfInBounds_toArray, List.set_cons_succ, List.set_cons_zero]
    refine rem_add (p := p22) (l := (leB ((A * A) % PP))) hB22 ?_
    apply rem_sure 11 (by kernel_rfl) rfl (by kernel_rfl)
    · intro w2 hS K hK
      have cv := conv_at (cap := c22) (hS.at_ (p := p22) (l := (leB ((A * A) % PP))) (by simp))
      go_wp2_with fail
      exact hK _ hS (Ext.refl _)
    · kernel_rfl
    · kernel_rfl
    refine rem_one 14 (by kernel_rfl) (step_of rfl (by kernel_rfl) ?_)
    intro v23 hS23 hE23 K hK
    go_wp2_with fail
    refine (mul3_can _ _ _ _ la la A A _ (hS23.at_ (by simp)) (hS23.at_ (by simp)) (Nat.le_refl 32) (Nat.le_refl 32) VA VA).mono ?_
    rintro e u23 ⟨p23, c23, rfl, hc23, hB23, hk23⟩
    refine hK _ _ (hS23.keep hk23) ?_
    clear hK K
    try simp only [put_some, List.setIfInBounds_toArray, List.set_cons_succ, List.set_cons_zero]
    refine rem_add (p := p23) (l := (leB ((A * A) % PP))) hB23 ?_
    apply rem_sure 15 (by kernel_rfl) rfl (by kernel_rfl)
    · intro w2 hS K hK
      have cv := conv_at (cap := c23) (hS.at_ (p := p23) (l := (leB ((A * A) % PP))) (by simp))
      go_wp2_with fail
      exact hK _ hS (Ext.refl _)
    · kernel_rfl
    · kernel_rfl
    apply rem_sure 16 (by kernel_rfl) rfl (by kernel_rfl)
    · intro w2 hS K hK
      go_wp2_with fail
      exact hK _ hS (Ext.refl _)
    · kernel_rfl
    · kernel_rfl
    apply rem_sure 17 (by kernel_rfl) rfl (wanted_none rfl)
    · intro w2 hS K hK
      go_wp2_with fail
      exact hK _ hS (Ext.refl _)
    · kernel_rfl
    · kernel_rfl
    refine rem_nil ?_
    intro v9 hS9 hE9
    have hst : SBy w [((some ⟨Bx, ox, none⟩), (leB (X % PP))), ((some ⟨g0, 0, none⟩), la), ((some ⟨g1, 0, none⟩), lb)] v9 := hS9.sub (by simp)
    clear hS9 hE9
    generalize v9 = w5 at *
    go_wp2_with fail
    have hss : ((strOfNums (leB ((A - B) % PP))).toList == (strOfNums (leB 0)).toList) = sameB A B := by
      have h1 := str_sameB (A - B) 0
      rw [Int.zero_emod] at h1
      rw [h1]
      cases h2 : sameB A B with
      | true => exact sameB_yes (by rw [Int.sub_zero]; exact sameB_iff.1 h2)
      | false => exact sameB_no (fun hd => by rw [Int.sub_zero] at hd; rw [sameB_yes hd] at h2; cases h2)
    have hst2 := str_sameB A B
    generalize sameB A B = b at *
    refine wp_region_rem (SBy w [((some ⟨Bx, ox, none⟩), (leB (X % PP))), ((some ⟨g0, 0, none⟩), la), ((some ⟨g1, 0, none⟩), lb)]) (by kernel_rfl) (by kernel_rfl) (fun _ _ d _ _ h => by cases d <;> exact h) hst.drew ?_
    apply rem_sure 0 (by kernel_rfl) rfl (wanted_none rfl)
    · intro w2 hS K hK
      go_wp2_with fail
      exact hK _ hS (Ext.refl _)
    · kernel_rfl
    · kernel_rfl
    apply rem_sure 1 (by kernel_rfl) rfl (wanted_none rfl)
    · intro w2 hS K hK
      go_wp2_with fail
      exact hK _ hS (Ext.refl _)
    · kernel_rfl
    · kernel_rfl
    refine rem_one 2 (by kernel_rfl) (step_of rfl (wanted_none rfl) ?_)
    intro v21 hS21 hE21 K hK
    go_wp2_with fail
    refine (sub3_can _ _ _ _ la lb A B _ (hS21.at_ (by simp)) (hS21.at_ (by simp)) (Nat.le_refl 32) (Nat.le_refl 32) VA VB).mono ?_
    rintro e u21 ⟨p21, c21, rfl, hc21, hB21, hk21⟩
    refine hK _ _ (hS21.keep hk21) ?_
    clear hK K
    try simp only [put_some, List.setIfInBounds_toArray, List.set_cons_succ, List.set_cons_zero]
    refine rem_add (p := p21) (l := (leB ((A - B) % PP))) hB21 ?_
    apply rem_sure 3 (by kernel_rfl) rfl (wanted_none rfl)
    · intro w2 hS K hK
      have cv := conv_at (cap := c21) (hS.at_ (p := p21) (l := (leB ((A - B) % PP))) (by simp))
      go_wp2_with fail
      exact hK _ hS (Ext.refl _)
    · kernel_rfl
    · kernel_rfl
    refine rem_one 4 (by kernel_rfl) (step_of rfl (wanted_none rfl) ?_)
    intro v22 hS22 hE22 K hK
    go_wp2_with fail
    refine (small_any 0 _).mono ?_
    rintro e u22 ⟨rfl, hu22⟩
    have hk22 : Below v22.heap.size v22 u22 := by rw [← hu22]; exact (Below.refl _ _).alloc (Nat.le_refl _) _
    have hB22 : Bs u22 (some ⟨v22.heap.size, 0, none⟩) 32 (leB (0 % PP)) := by rw [← hu22, small_can0]; exact bs_sm (by omega) (heap_alloc_new v22 _)
    refine hK _ _ (hS22.keep hk22) ?_
    clear hK K hu22
    try simp only [put_some, List.setIfInBounds_toArray, List.set_cons_succ, List.set_cons_zero]
    refine rem_add (p := (some ⟨v22.heap.size, 0, none⟩)) (l := (leB (0 % PP))) hB22 ?_
    apply rem_sure 5 (by kernel_rfl) rfl (wanted_none rfl)
    · intro w2 hS K hK
      have cv := conv_at (cap := 32) (hS.at_ (p := (some ⟨v22.heap.size, 0, none⟩)) (l := (leB (0 % PP))) (by simp))
      go_wp2_with fail
      exact hK _ hS (Ext.refl _)
    · kernel_rfl
    · kernel_rfl
    apply rem_sure 6 (by kernel_rfl) rfl (wanted_none rfl)
    · intro w2 hS K hK
      go_wp2_with fail
      exact hK _ hS (Ext.refl _)
    · kernel_rfl
    · kernel_rfl
    apply rem_sure 7 (by kernel_rfl) rfl (wanted_none rfl)
    · intro w2 hS K hK
      go_wp2_with fail
      exact hK _ hS (Ext.refl _)
    · kernel_rfl
    · kernel_rfl
    refine rem_nil ?_
    intro v9 hS9 hE9
    have hst : SBy w [((some ⟨Bx, ox, none⟩), (leB (X % PP))), ((some ⟨g0, 0, none⟩), la), ((some ⟨g1, 0, none⟩), lb)] v9 := hS9.sub (by simp)
    clear hS9 hE9
    generalize v9 = w5 at *
    go_wp2_with fail
    refine wp_region_rem (SBy w [((some ⟨Bx, ox, none⟩), (leB (X % PP))), ((some ⟨g0, 0, none⟩), la), ((some ⟨g1, 0, none⟩), lb)]) (by kernel_rfl) (by kernel_rfl) (fun _ _ d _ _ h => by cases d <;> exact h) hst.drew ?_
    apply rem_sure 0 (by kernel_rfl) rfl (wanted_none rfl)
    · intro w2 hS K hK
      go_wp2_with fail
      exact hK _ hS (Ext.refl _)
    · kernel_rfl
    · kernel_rfl
    apply rem_sure 1 (by kernel_rfl) rfl (wanted_none rfl)
    · intro w2 hS K hK
      go_wp2_with fail
      exact hK _ hS (Ext.refl _)
    · kernel_rfl
    · kernel_rfl
    apply rem_sure 5 (by kernel_rfl) rfl (wanted_none rfl)
    · intro w2 hS K hK
      go_wp2_with fail
      exact hK _ hS (Ext.refl _)
    · kernel_rfl
    · kernel_rfl
    refine rem_one 2 (by kernel_rfl) (step_of rfl (wanted_none rfl) ?_)
    intro v21 hS21 hE21 K hK
    go_wp2_with fail
    refine (small_any 0 _).mono ?_
    rintro e u21 ⟨rfl, hu21⟩
    have hk21 : Below v21.heap.size v21 u21 := by rw [← hu21]; exact (Below.refl _ _).alloc (Nat.le_refl _) _
    have hB21 : Bs u21 (some ⟨v21.heap.size, 0, none⟩) 32 (leB (0 % PP)) := by rw [← hu21, small_can0]; exact bs_sm (by omega) (heap_alloc_new v21 _)
    refine hK _ _ (hS21.keep hk21) ?_
    clear hK K hu21
    try simp only [put_some, List.setIfInBounds_toArray, List.set_cons_succ, List.set_cons_zero]
    refine rem_add (p := (some ⟨v21.heap.size, 0, none⟩)) (l := (leB (0 % PP))) hB21 ?_
    refine rem_one 3 (by kernel_rfl) (step_of rfl (wanted_none rfl) ?_)
    intro v22 hS22 hE22 K hK
    go_wp2_with fail
    refine (add3_can _ _ _ _ la (leB (0 % PP)) A 0 _ (hS22.at_ (by simp)) (hS22.at_ (by simp)) (Nat.le_refl 32) (Nat.le_refl 32) VA (Vm.can 0)).mono ?_
    rintro e u22 ⟨p22, c22, rfl, hc22, hB22, hk22⟩
    rw [show A + 0 = A from by grind] at hB22
    refine hK _ _ (hS22.keep hk22) ?_
    clear hK K
    try simp only [put_some, List.setIfInBounds_toArray, List.set_cons_succ, List.set_cons_zero]
    refine rem_add (p := p22) (l := (leB ((A) % PP))) hB22 ?_
    apply rem_sure 4 (by kernel_rfl) rfl (wanted_none rfl)
    · intro w2 hS K hK
      have cv := conv_at (cap := c22) (hS.at_ (p := p22) (l := (leB ((A) % PP))) (by simp))
      go_wp2_with fail
      exact hK _ hS (Ext.refl _)
    · kernel_rfl
    · kernel_rfl
    refine rem_one 6 (by kernel_rfl) (step_of rfl (wanted_none rfl) ?_)
    intro v23 hS23 hE23 K hK
    go_wp2_with fail
    refine (small_any 0 _).mono ?_
    rintro e u23 ⟨rfl, hu23⟩
    have hk23 : Below v23.heap.size v23 u23 := by rw [← hu23]; exact (Below.refl _ _).alloc (Nat.le_refl _) _
    have hB23 : Bs u23 (some ⟨v23.heap.size, 0, none⟩) 32 (leB (0 % PP)) := by rw [← hu23, small_can0]; exact bs_sm (by omega) (heap_alloc_new v23 _)
    refine hK _ _ (hS23.keep hk23) ?_
    clear hK K hu23
    try simp only [put_some, List.setIfInBounds_toArray, List.set_cons_succ, List.set_cons_zero]
    refine rem_add (p := (some ⟨v23.heap.size, 0, none⟩)) (l := (leB (0 % PP))) hB23 ?_
    refine rem_one 7 (by kernel_rfl) (step_of rfl (wanted_none rfl) ?_)
    intro v24 hS24 hE24 K hK
    go_wp2_with fail
    refine (add3_can _ _ _ _ lb (leB (0 % PP)) B 0 _ (hS24.at_ (by simp)) (hS24.at_ (by simp)) (Nat.le_refl 32) (Nat.le_refl 32) VB (Vm.can 0)).mono ?_
    rintro e u24 ⟨p24, c24, rfl, hc24, hB24, hk24⟩
    rw [show B + 0 = B from by grind] at hB24
    refine hK _ _ (hS24.keep hk24) ?_
    clear hK K
    try simp only [put_some, List.setIfInBounds_toArray, List.set_cons_succ, List.set_cons_zero]
    refine rem_add (p := p24) (l := (leB ((B) % PP))) hB24 ?_
    apply rem_sure 8 (by kernel_rfl) rfl (wanted_none rfl)
    · intro w2 hS K hK
      have cv := conv_at (cap := c24) (hS.at_ (p := p24) (l := (leB ((B) % PP))) (by simp))
      go_wp2_with fail
      exact hK _ hS (Ext.refl _)
    · kernel_rfl
    · kernel_rfl
    apply rem_sure 9 (by kernel_rfl) rfl (wanted_none rfl)
    · intro w2 hS K hK
      go_wp2_with fail
      exact hK _ hS (Ext.refl _)
    · kernel_rfl
    · kernel_rfl
    apply rem_sure 10 (by kernel_rfl) rfl (wanted_none rfl)
    · intro w2 hS K hK
      go_wp2_with fail
      exact hK _ hS (Ext.refl _)
    · kernel_rfl
    · kernel_rfl
    apply rem_sure 11 (by kernel_rfl) rfl (wanted_none rfl)
    · intro w2 hS K hK
      go_wp2_with fail
      exact hK _ hS (Ext.refl _)
    · kernel_rfl
    · kernel_rfl
    refine rem_nil ?_
    intro v9 hS9 hE9
    go_wp2
    go_ret
    exact ⟨by simp, hS9.2⟩
  · have hrt := HR.out c1
    have HRT := Lib.hid hrt
    clear hrt c1
    obtain ⟨y, hd0⟩ : ∃ y, (leB (X % PP)).getD 0 0 = y := ⟨_, rfl⟩
    have hy0 : 0 ≤ y ∧ y < 256 := by have : y = X % PP % 256 := hd0.symm; omega
    have hy2 : y % 2 = 0 := by have h1 : y = X % PP % 256 := hd0.symm; have h2 := HE.out; omega
    have hp : (y % 2 != 0) = false := by rw [hy2]; rfl
    obtain ⟨hya, hyb⟩ := hy0
    have HD := Lib.hid hd0
    clear hy2
    go_wp2_with fail
    refine wp_region_rem (SBy w [((some ⟨Bx, ox, none⟩), (leB (X % PP))), ((some ⟨g0, 0, none⟩), la), ((some ⟨g1, 0, none⟩), lb)]) (by kernel_rfl) (by kernel_rfl) (fun _ _ d _ _ h => by cases d <;> exact h) hst.drew ?_
    apply rem_sure 0 (by kernel_rfl) rfl (wanted_none rfl)
    · intro w2 hS K hK
      go_wp2_with fail
      exact hK _ hS (Ext.refl _)
    · kernel_rfl
    · kernel_rfl
    apply rem_sure 1 (by kernel_rfl) rfl (wanted_none rfl)
    · intro w2 hS K hK
      go_wp2_with fail
      exact hK _ hS (Ext.refl _)
    · kernel_rfl
    · kernel_rfl
    apply rem_sure 2 (by kernel_rfl) rfl (by kernel_rfl)
    · intro w2 hS K hK
      go_wp2_with fail
      exact hK _ hS (Ext.refl _)
    · kernel_rfl
    · kernel_rfl
    apply rem_sure 3 (by kernel_rfl) rfl (by kernel_rfl)
    · intro w2 hS K hK
      go_wp2_with fail
      exact hK _ hS (Ext.refl _)
    · kernel_rfl
    · kernel_rfl
    apply rem_sure 5 (by kernel_rfl) rfl (by kernel_rfl)
    · intro w2 hS K hK
      go_wp2_with fail
      exact hK _ hS (Ext.refl _)
    · kernel_rfl
    · kernel_rfl
    apply rem_sure 8 (by kernel_rfl) rfl (by kernel_rfl)
    · intro w2 hS K hK
      go_wp2_with fail
      exact hK _ hS (Ext.refl _)
    · kernel_rfl
    · kernel_rfl
    refine rem_one 4 (by kernel_rfl) (step_of rfl (by kernel_rfl) ?_)
    intro v21 hS21 hE21 K hK
    go_wp2_with fail
    refine (mul3_can _ _ _ _ (leB (X % PP)) (leB (X % PP)) X X _ (hS21.at_ (by simp)) (hS21.at_ (by simp)) hcx hcx (Vm.can X) (Vm.can X)).mono ?_
    rintro e u21 ⟨p21, c21, rfl, hc21, hB21, hk21⟩
    refine hK _ _ (hS21.keep hk21) ?_
    clear hK K
    try simp only [put_some, List.setIfInBounds_toArray, List.set_cons_succ, List.set_cons_zero]
    refine rem_add (p := p21) (l := (leB ((X * X) % PP))) hB21 ?_
    refine rem_one 6 (by kernel_rfl) (step_of rfl (by kernel_rfl) ?_)
    intro v22 hS22 hE22 K hK
    go_wp2_with fail
    refine (mul3_can _ _ _ _ (leB ((X * X) % PP)) lb (X * X) B _ (hS22.at_ (by simp)) (hS22.at_ (by simp)) hc21 (Nat.le_refl 32) (Vm.can (X * X)) VB).mono ?_
    rintro e u22 ⟨p22, c22, rfl, hc22, hB22, hk22⟩
    rw [mod_of (show PP ∣ (X * X) * B - A from HRT.out)] at hB22
    refine hK _ _ (hS22.keep hk22) ?_
    clear hK K
    try simp only [put_some, List.setIfInBounds_toArray, List.set_cons_succ, List.set_cons_zero]
    refine rem_add (p := p22) (l := (leB ((A) % PP))) hB22 ?_
    apply rem_sure 7 (by kernel_rfl) rfl (by kernel_rfl)
    · intro w2 hS K hK
      have cv := conv_at (cap := c22) (hS.at_ (p := p22) (l := (leB ((A) % PP))) (by simp))
      go_wp2_with fail
      exact hK _ hS (Ext.refl _)
    · kernel_rfl
    · kernel_rfl
    refine rem_one 9 (by kernel_rfl) (step_of rfl (by kernel_rfl) ?_)
    intro v23 hS23 hE23 K hK
    go_wp2_with fail
    refine (small_any 0 _).mono ?_
    rintro e u23 ⟨rfl, hu23⟩
    have hk23 : Below v23.heap.size v23 u23 := by rw [← hu23]; exact (Below.refl _ _).alloc (Nat.le_refl _) _
    have hB23 : Bs u23 (some ⟨v23.heap.size, 0, none⟩) 32 (leB (0 % PP)) := by rw [← hu23, small_can0]; exact bs_sm (by omega) (heap_alloc_new v23 _)
    refine hK _ _ (hS23.keep hk23) ?_
    clear hK K hu23
    try simp only [put_some, List.setIfInBounds_toArray, List.set_cons_succ, List.set_cons_zero]
    refine rem_add (p := (some ⟨v23.heap.size, 0, none⟩)) (l := (leB (0 % PP))) hB23 ?_
    refine rem_one 10 (by kernel_rfl) (step_of rfl (by kernel_rfl) ?_)
    intro v24 hS24 hE24 K hK
    go_wp2_with fail
    refine (add3_can _ _ _ _ la (leB (0 % PP)) A 0 _ (hS24.at_ (by simp)) (hS24.at_ (by simp)) (Nat.le_refl 32) (Nat.le_refl 32) VA (Vm.can 0)).mono ?_
    rintro e u24 ⟨p24, c24, rfl, hc24, hB24, hk24⟩
    rw [show A + 0 = A from by grind] at hB24
    refine hK _ _ (hS24.keep hk24) ?_
    clear hK K
    try simp only [put_some, List.setIfInBounds_toArray, List.set_cons_succ, List.set_cons_zero]
    refine rem_add (p := p24) (l := (leB ((A) % PP))) hB24 ?_
    apply rem_sure 11 (by kernel_rfl) rfl (by kernel_rfl)
    · intro w2 hS K hK
      have cv := conv_at (cap := c24) (hS.at_ (p := p24) (l := (leB ((A) % PP))) (by simp))
      go_wp2_with fail
      exact hK _ hS (Ext.refl _)
    · kernel_rfl
    · kernel_rfl
    apply rem_sure 12 (by kernel_rfl) rfl (by kernel_rfl)
    · intro w2 hS K hK
      go_wp2_with fail
      exact hK _ hS (Ext.refl _)
    · kernel_rfl
    · kernel_rfl
    apply rem_sure 13 (by kernel_rfl) rfl (by kernel_rfl)
    · intro w2 hS K hK
      go_wp2_with fail
      exact hK _ hS (Ext.refl _)
    · kernel_rfl
    · kernel_rfl
    apply rem_sure 14 (by kernel_rfl) rfl (by kernel_rfl)
    · intro w2 hS K hK
      go_wp2_with fail
      exact hK _ hS (Ext.refl _)
    · kernel_rfl
    · kernel_rfl
    apply rem_sure 15 (by kernel_rfl) rfl (by kernel_rfl)
    · intro w2 hS K hK
      go_wp2_with fail
      exact hK _ hS (Ext.refl _)
    · kernel_rfl
    · kernel_rfl
    apply rem_sure 16 (by kernel_rfl) rfl (by kernel_rfl)
    · intro w2 hS K hK
      have cc := (hS.at_ (p := (some ⟨Bx, ox, none⟩)) (l := (leB (X % PP))) (by simp)).cell 0 (by omega)
      rw [Nat.add_zero, hd0] at cc
      go_wp2_with fail
      exact hK _ hS (Ext.refl _)
    · kernel_rfl
    · kernel_rfl
    apply rem_sure 17 (by kernel_rfl) rfl (by kernel_rfl)
    · intro w2 hS K hK
      go_wp2_with fail
      exact hK _ hS (Ext.refl _)
    · kernel_rfl
    · kernel_rfl
    apply rem_sure 18 (by kernel_rfl) rfl (by kernel_rfl)
    · intro w2 hS K hK
      go_wp2_with fail
      exact hK _ hS (Ext.refl _)
    · kernel_rfl
    · kernel_rfl
    apply rem_sure 19 (by kernel_rfl) rfl (by kernel_rfl)
    · intro w2 hS K hK
      go_wp2_with fail
      exact hK _ hS (Ext.refl _)
    · kernel_rfl
    · kernel_rfl
    apply rem_sure 20 (by kernel_rfl) rfl (wanted_none rfl)
    · intro w2 hS K hK
      go_wp2_with fail
      exact hK _ hS (Ext.refl _)
    · kernel_rfl
    · kernel_rfl
    refine rem_nil ?_
    intro v9 hS9 hE9
    have hst : SBy w [((some ⟨Bx, ox, none⟩), (leB (X % PP))), ((some ⟨g0, 0, none⟩), la), ((some ⟨g1, 0, none⟩), lb)] v9 := hS9.sub (by simp)
    clear hS9 hE9
    generalize v9 = w5 at *
    clear hp hya hyb hd0
    go_wp2_with fail
    refine (mul3_can _ _ _ _ la la A A _ (hst.at_ (p := some ⟨g0, 0, none⟩) (l := la) (by simp)) (hst.at_ (p := some ⟨g0, 0, none⟩) (l := la) (by simp)) (Nat.le_refl 32) (Nat.le_refl 32) VA VA).mono ?_
    rintro e w6 ⟨pq, cq, rfl, hcq, hQ, hb1⟩
    have hst := (hst.keep hb1).add hQ
    clear hb1 hQ
    go_wp2_with fail
    refine (small_any 1 _).mono ?_
    rintro e w7 ⟨rfl, hu⟩
    have hb1 : Below w6.heap.size w6 w7 := by rw [← hu]; exact (Below.refl _ _).alloc (Nat.le_refl _) _
    have hZ : Bs w7 (some ⟨w6.heap.size, 0, none⟩) 32 (leB (1 % PP)) := by rw [← hu, small_can1]; exact bs_sm (by omega) (heap_alloc_new w6 _)
    have hst := (hst.keep hb1).add hZ
    generalize w6.heap.size = gz at *
    clear hu hb1 hZ
    go_wp2_with fail
    refine (gRoot_any _ _ 32 cq 32 32 (leB ((A * A) % PP)) (leB (1 % PP)) _ (hst.at_ (by simp)) (hst.at_ (by simp)) hcq (by omega)).mono ?_
    rw [both_yes ⟨rfl, rfl⟩, valB_mod, valB_mod, show (1 : Int) % PP = 1 by decide]
    intro e w8 h
    have hcg : Cg ((A * A) % PP) (A * A) := by
      have := Int.emod_add_mul_ediv (A * A) PP
      exact ⟨-(A * A / PP), by grind⟩
    rw [rOk_square A _ hcg] at h
    obtain ⟨py, cy, rfl, hcy, hY, hb1⟩ := h.can
    have hsq := rR_square A _ hcg
    have hst := (hst.keep hb1).add hY
    clear h hb1 hY hcg
    generalize rR (A * A % PP) 1 = Y at *
    have HSQ := Lib.hid hsq
    clear hsq
    go_wp2_with fail
    refine wp_region_rem (SBy w [(py, (leB (Y % PP))), ((some ⟨gz, 0, none⟩), (leB (1 % PP))), (pq, (leB ((A * A) % PP))), ((some ⟨Bx, ox, none⟩), (leB (X % PP))), ((some ⟨g0, 0, none⟩), la), ((some ⟨g1, 0, none⟩), lb)]) (by kernel_rfl) (by kernel_rfl) (fun _ _ d _ _ h => by cases d <;> exact h) hst.drew ?_
    apply rem_sure 0 (by kernel_rfl) rfl (wanted_none rfl)
    · intro w2 hS K hK
      go_wp2_with fail
      exact hK _ hS (Ext.refl _)
    · kernel_rfl
    · kernel_rfl
    refine rem_one 1 (by kernel_rfl) (step_of rfl (wanted_none rfl) ?_)
    intro v21 hS21 hE21 K hK
    go_wp2_with fail
    refine (num_any _ _).mono ?_
    rintro e u21 ⟨rfl, rfl⟩
    refine hK _ _ hS21 ?_
    clear hK K
    try simp only [put_some, List.setIfInBounds_toArray, List.set_cons_succ, List.set_cons_zero]
    apply rem_sure 2 (by kernel_rfl) rfl (wanted_none rfl)
    · intro w2 hS K hK
      go_wp2_with fail
      exact hK _ hS (Ext.refl _)
    · kernel_rfl
    · kernel_rfl
    apply rem_sure 3 (by kernel_rfl) rfl (wanted_none rfl)
    · intro w2 hS K hK
      go_wp2_with fail
      exact hK _ hS (Ext.refl _)
    · kernel_rfl
    · kernel_rfl
    apply rem_sure 4 (by kernel_rfl) rfl (by kernel_rfl)
    · intro w2 hS K hK
      go_wp2_with fail
      exact hK _ hS (Ext.refl _)
    · kernel_rfl
    · kernel_rfl
    apply rem_sure 5 (by kernel_rfl) rfl (by kernel_rfl)
    · intro w2 hS K hK
      go_wp2_with fail
      exact hK _ hS (Ext.refl _)
    · kernel_rfl
    · kernel_rfl
    apply rem_sure 6 (by kernel_rfl) rfl (wanted_none rfl)
    · intro w2 hS K hK
      go_wp2_with fail
      exact hK _ hS (Ext.refl _)
    · kernel_rfl
    · kernel_rfl
    apply rem_sure 7 (by kernel_rfl) rfl (wanted_none rfl)
    · intro w2 hS K hK
      go_wp2_with fail
      exact hK _ hS (Ext.refl _)
    · kernel_rfl
    · kernel_rfl
    apply rem_sure 8 (by kernel_rfl) rfl (by kernel_rfl)
    · intro w2 hS K hK
      go_wp2_with fail
      exact hK _ hS (Ext.refl _)
    · kernel_rfl
    · kernel_rfl
    apply rem_sure 9 (by kernel_rfl) rfl (by kernel_rfl)
    · intro w2 hS K hK
      go_wp2_with fail
      exact hK _ hS (Ext.refl _)
    · kernel_rfl
    · kernel_rfl
    apply rem_sure 12 (by kernel_rfl) rfl (by kernel_rfl)
    · intro w2 hS K hK
      go_wp2_with fail
      exact hK _ hS (Ext.refl _)
    · kernel_rfl
    · kernel_rfl
    apply rem_sure 13 (by kernel_rfl) rfl (by kernel_rfl)
    · intro w2 hS K hK
      go_wp2_with fail
      exact hK _ hS (Ext.refl _)
    · kernel_rfl
    · kernel_rfl
    refine rem_one 10 (by kernel_rfl) (step_of rfl (by kernel_rfl) ?_)
    intro v22 hS22 hE22 K hK
    go_wp2_with fail
    refine (mul3_can _ _ _ _ (leB (Y % PP)) (leB (Y % PP)) Y Y _ (hS22.at_ (by simp)) (hS22.at_ (by simp)) hcy hcy (Vm.can Y) (Vm.can Y)).mono ?_
    rintro e u22 ⟨p22, c22, rfl, hc22, hB22, hk22⟩
    rw [mod_of (show PP ∣ Y * Y - A * A from HSQ.out)] at hB22
    refine hK _ _ (hS22.keep hk22) ?_
    clear hK K
    try simp only [put_some, List.setIfInBounds_toArray, List.set_cons_succ, List.set_cons_zero]
    refine rem_add (p := p22) (l := (leB ((A * A) % PP))) hB22 ?_
    apply rem_sure 11 (by kernel_rfl) rfl (by kernel_rfl)
    · intro w2 hS K hK
      have cv := conv_at (cap := c22) (hS.at_ (p := p22) (l := (leB ((A * A) % PP))) (by simp))
      go_wp2_with fail
      exact hK _ hS (Ext.refl _)
    · kernel_rfl
    · kernel_rfl
    refine rem_one 14 (by kernel_rfl) (step_of rfl (by kernel_rfl) ?_)
    intro v23 hS23 hE23 K hK
    go_wp2_with fail
    refine (mul3_can _ _ _ _ la la A A _ (hS23.at_ (by simp)) (hS23.at_ (by simp)) (Nat.le_refl 32) (Nat.le_refl 32) VA VA).mono ?_
    rintro e u23 ⟨p23, c23, rfl, hc23, hB23, hk23⟩
    refine hK _ _ (hS23.keep hk23) ?_
    clear hK K
    try simp only [put_some, List.setIfInBounds_toArray, List.set_cons_succ, List.set_cons_zero]
    refine rem_add (p := p23) (l := (leB ((A * A) % PP))) hB23 ?_
    apply rem_sure 15 (by kernel_rfl) rfl (by kernel_rfl)
    · intro w2 hS K hK
      have cv := conv_at (cap := c23) (hS.at_ (p := p23) (l := (leB ((A * A) % PP))) (by simp))
      go_wp2_with fail
      exact hK _ hS (Ext.refl _)
    · kernel_rfl
    · kernel_rfl
    apply rem_sure 16 (by kernel_rfl) rfl (by kernel_rfl)
    · intro w2 hS K hK
      go_wp2_with fail
      exact hK _ hS (Ext.refl _)
    · kernel_rfl
    · kernel_rfl
    apply rem_sure 17 (by kernel_rfl) rfl (wanted_none rfl)
    · intro w2 hS K hK
      go_wp2_with fail
      exact hK _ hS (Ext.refl _)
    · kernel_rfl
    · kernel_rfl
    refine rem_nil ?_
    intro v9 hS9 hE9
    have hst : SBy w [((some ⟨Bx, ox, none⟩), (leB (X % PP))), ((some ⟨g0, 0, none⟩), la), ((some ⟨g1, 0, none⟩), lb)] v9 := hS9.sub (by simp)
    clear hS9 hE9
    generalize v9 = w5 at *
    go_wp2_with fail
    have hss : ((strOfNums (leB ((A - B) % PP))).toList == (strOfNums (leB 0)).toList) = sameB A B := by
      have h1 := str_sameB (A - B) 0
      rw [Int.zero_emod] at h1
      rw [h1]
      cases h2 : sameB A B with
      | true => exact sameB_yes (by rw [Int.sub_zero]; exact sameB_iff.1 h2)
      | false => exact sameB_no (fun hd => by rw [Int.sub_zero] at hd; rw [sameB_yes hd] at h2; cases h2)
    have hst2 := str_sameB A B
    generalize sameB A B = b at *
    refine wp_region_rem (SBy w [((some ⟨Bx, ox, none⟩), (leB (X % PP))), ((some ⟨g0, 0, none⟩), la), ((some ⟨g1, 0, none⟩), lb)]) (by kernel_rfl) (by kernel_rfl) (fun _ _ d _ _ h => by cases d <;> exact h) hst.drew ?_
    apply rem_sure 0 (by kernel_rfl) rfl (wanted_none rfl)
    · intro w2 hS K hK
      go_wp2_with fail
      exact hK _ hS (Ext.refl _)
    · kernel_rfl
    · kernel_rfl
    apply rem_sure 1 (by kernel_rfl) rfl (wanted_none rfl)
    · intro w2 hS K hK
      go_wp2_with fail
      exact hK _ hS (Ext.refl _)
    · kernel_rfl
    · kernel_rfl
    refine rem_one 2 (by kernel_rfl) (step_of rfl (wanted_none rfl) ?_)
    intro v21 hS21 hE21 K hK
    go_wp2_with fail
    refine (sub3_can _ _ _ _ la lb A B _ (hS21.at_ (by simp)) (hS21.at_ (by simp)) (Nat.le_refl 32) (Nat.le_refl 32) VA VB).mono ?_
    rintro e u21 ⟨p21, c21, rfl, hc21, hB21, hk21⟩
    refine hK _ _ (hS21.keep hk21) ?_
    clear hK K
    try simp only [put_some, List.setIfInBounds_toArray, List.set_cons_succ, List.set_cons_zero]
    refine rem_add (p := p21) (l := (leB ((A - B) % PP))) hB21 ?_
    apply rem_sure 3 (by kernel_rfl) rfl (wanted_none rfl)
    · intro w2 hS K hK
      have cv := conv_at (cap := c21) (hS.at_ (p := p21) (l := (leB ((A - B) % PP))) (by simp))
      go_wp2_with fail
      exact hK _ hS (Ext.refl _)
    · kernel_rfl
    · kernel_rfl
    refine rem_one 4 (by kernel_rfl) (step_of rfl (wanted_none rfl) ?_)
    intro v22 hS22 hE22 K hK
    go_wp2_with fail
    refine (small_any 0 _).mono ?_
    rintro e u22 ⟨rfl, hu22⟩
    have hk22 : Below v22.heap.size v22 u22 := by rw [← hu22]; exact (Below.refl _ _).alloc (Nat.le_refl _) _
    have hB22 : Bs u22 (some ⟨v22.heap.size, 0, none⟩) 32 (leB (0 % PP)) := by rw [← hu22, small_can0]; exact bs_sm (by omega) (heap_alloc_new v22 _)
    refine hK _ _ (hS22.keep hk22) ?_
    clear hK K hu22
    try simp only [put_some, List.setIfInBounds_toArray, List.set_cons_succ, List.set_cons_zero]
    refine rem_add (p := (some ⟨v22.heap.size, 0, none⟩)) (l := (leB (0 % PP))) hB22 ?_
    apply rem_sure 5 (by kernel_rfl) rfl (wanted_none rfl)
    · intro w2 hS K hK
      have cv := conv_at (cap := 32) (hS.at_ (p := (some ⟨v22.heap.size, 0, none⟩)) (l := (leB (0 % PP))) (by simp))
      go_wp2_with fail
      exact hK _ hS (Ext.refl _)
    · kernel_rfl
    · kernel_rfl
    apply rem_sure 6 (by kernel_rfl) rfl (wanted_none rfl)
    · intro w2 hS K hK
      go_wp2_with fail
      exact hK _ hS (Ext.refl _)
    · kernel_rfl
    · kernel_rfl
    apply rem_sure 7 (by kernel_rfl) rfl (wanted_none rfl)
    · intro w2 hS K hK
      go_wp2_with fail
      exact hK _ hS (Ext.refl _)
    · kernel_rfl
    · kernel_rfl
    refine rem_nil ?_
    intro v9 hS9 hE9
    have hst : SBy w [((some ⟨Bx, ox, none⟩), (leB (X % PP))), ((some ⟨g0, 0, none⟩), la), ((some ⟨g1, 0, none⟩), lb)] v9 := hS9.sub (by simp)
    clear hS9 hE9
    generalize v9 = w5 at *
    go_wp2_with fail
    refine wp_region_rem (SBy w [((some ⟨Bx, ox, none⟩), (leB (X % PP))), ((some ⟨g0, 0, none⟩), la), ((some ⟨g1, 0, none⟩), lb)]) (by kernel_rfl) (by kernel_rfl) (fun _ _ d _ _ h => by cases d <;> exact h) hst.drew ?_
    apply rem_sure 0 (by kernel_rfl) rfl (wanted_none rfl)
    · intro w2 hS K hK
      go_wp2_with fail
      exact hK _ hS (Ext.refl _)
    · kernel_rfl
    · kernel_rfl
    apply rem_sure 1 (by kernel_rfl) rfl (wanted_none rfl)
    · intro w2 hS K hK
      go_wp2_with fail
      exact hK _ hS (Ext.refl _)
    · kernel_rfl
    · kernel_rfl
    apply rem_sure 5 (by kernel_rfl) rfl (wanted_none rfl)
    · intro w2 hS K hK
      go_wp2_with fail
      exact hK _ hS (Ext.refl _)
    · kernel_rfl
    · kernel_rfl
    refine rem_one 2 (by kernel_rfl) (step_of rfl (wanted_none rfl) ?_)
    intro v21 hS21 hE21 K hK
    go_wp2_with fail
    refine (small_any 0 _).mono ?_
    rintro e u21 ⟨rfl, hu21⟩
    have hk21 : Below v21.heap.size v21 u21 := by rw [← hu21]; exact (Below.refl _ _).alloc (Nat.le_refl _) _
    have hB21 : Bs u21 (some ⟨v21.heap.size, 0, none⟩) 32 (leB (0 % PP)) := by rw [← hu21, small_can0]; exact bs_sm (by omega) (heap_alloc_new v21 _)
    refine hK _ _ (hS21.keep hk21) ?_
    clear hK K hu21
    try simp only [put_some, List.setIfInBounds_toArray, List.set_cons_succ, List.set_cons_zero]
    refine rem_add (p := (some ⟨v21.heap.size, 0, none⟩)) (l := (leB (0 % PP))) hB21 ?_
    refine rem_one 3 (by kernel_rfl) (step_of rfl (wanted_none rfl) ?_)
    intro v22 hS22 hE22 K hK
    go_wp2_with fail
    refine (add3_can _ _ _ _ la (leB (0 % PP)) A 0 _ (hS22.at_ (by simp)) (hS22.at_ (by simp)) (Nat.le_refl 32) (Nat.le_refl 32) VA (Vm.can 0)).mono ?_
    rintro e u22 ⟨p22, c22, rfl, hc22, hB22, hk22⟩
    rw [show A + 0 = A from by grind] at hB22
    refine hK _ _ (hS22.keep hk22) ?_
    clear hK K
    try simp only [put_some, List.setIfInBounds_toArray, List.set_cons_succ, List.set_cons_zero]
    refine rem_add (p := p22) (l := (leB ((A) % PP))) hB22 ?_
    apply rem_sure 4 (by kernel_rfl) rfl (wanted_none rfl)
    · intro w2 hS K hK
      have cv := conv_at (cap := c22) (hS.at_ (p := p22) (l := (leB ((A) % PP))) (by simp))
      go_wp2_with fail
      exact hK _ hS (Ext.refl _)
    · kernel_rfl
    · kernel_rfl
    refine rem_one 6 (by kernel_rfl) (step_of rfl (wanted_none rfl) ?_)
    intro v23 hS23 hE23 K hK
    go_wp2_with fail
    refine (small_any 0 _).mono ?_
    rintro e u23 ⟨rfl, hu23⟩
    have hk23 : Below v23.heap.size v23 u23 := by rw [← hu23]; exact (Below.refl _ _).alloc (Nat.le_refl _) _
    have hB23 : Bs u23 (some ⟨v23.heap.size, 0, none⟩) 32 (leB (0 % PP)) := by rw [← hu23, small_can0]; exact bs_sm (by omega) (heap_alloc_new v23 _)
    refine hK _ _ (hS23.keep hk23) ?_
    clear hK K hu23
    try simp only [put_some, List.setIfInBounds_toArray, List.set_cons_succ, List.set_cons_zero]
    refine rem_add (p := (some ⟨v23.heap.size, 0, none⟩)) (l := (leB (0 % PP))) hB23 ?_
    refine rem_one 7 (by kernel_rfl) (step_of rfl (wanted_none rfl) ?_)
    intro v24 hS24 hE24 K hK
    go_wp2_with fail
    refine (add3_can _ _ _ _ lb (leB (0 % PP)) B 0 _ (hS24.at_ (by simp)) (hS24.at_ (by simp)) (Nat.le_refl 32) (Nat.le_refl 32) VB (Vm.can 0)).mono ?_
    rintro e u24 ⟨p24, c24, rfl, hc24, hB24, hk24⟩
    rw [show B + 0 = B from by grind] at hB24
    refine hK _ _ (hS24.keep hk24) ?_
    clear hK K
    try simp only [put_some, List.setIfInBounds_toArray, List.set_cons_succ, List.set_cons_zero]
    refine rem_add (p := p24) (l := (leB ((B) % PP))) hB24 ?_
    apply rem_sure 8 (by kernel_rfl) rfl (wanted_none rfl)
    · intro w2 hS K hK
      have cv := conv_at (cap := c24) (hS.at_ (p := p24) (l := (leB ((B) % PP))) (by simp))
      go_wp2_with fail
      exact hK _ hS (Ext.refl _)
    · kernel_rfl
    · kernel_rfl
    apply rem_sure 9 (by kernel_rfl) rfl (wanted_none rfl)
    · intro w2 hS K hK
      go_wp2_with fail
      exact hK _ hS (Ext.refl _)
    · kernel_rfl
    · kernel_rfl
    apply rem_sure 10 (by kernel_rfl) rfl (wanted_none rfl)
    · intro w2 hS K hK
      go_wp2_with fail
      exact hK _ hS (Ext.refl _)
    · kernel_rfl
    · kernel_rfl
    apply rem_sure 11 (by kernel_rfl) rfl (wanted_none rfl)
    · intro w2 hS K hK
      go_wp2_with fail
      exact hK _ hS (Ext.refl _)
    · kernel_rfl
    · kernel_rfl
    refine rem_nil ?_
    intro v9 hS9 hE9
    go_wp2
    go_ret
    exact ⟨by simp, hS9.2⟩
end Go.Proofs.Ytenppmciabdefaa
