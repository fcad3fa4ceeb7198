/- The walk of synodref05.Mul. ladder.Mul, Public and Shared at bytes of any length. synodref05.Mul, Nine, Public and Shared at bytes of any length. The walk of LadderMuls. No condition. -/
import Derived.Test.YtenppmciabdefaaQo
import Derived.Test.YtenppmciabdefaaQm
import Derived.Test.YtenppmciabdefaaWp
namespace Go.Proofs.Ytenppmciabdefaa
open Go Go.RowKit
theorem mk_at (W : World) {n : Nat} (h : W.heap.size = n) : (W.alloc (.cells #[] 5)).ownsRow n 5 1 (.slice (some ⟨n, 0, none⟩) 0 0) 0 [] := by
  subst h
  exact World.ownsRow_made W #[] 0 (Nat.le_refl _) (by unfold maxLen; omega) rfl
theorem mk_le (W : World) {n : Nat} (h : W.heap.size = n) : n ≤ (W.alloc (.cells #[] 5)).heap.size := by
  subst h
  simp
theorem mk_below (W : World) {n : Nat} (h : W.heap.size = n) {w' : World} (hg : (W.alloc (.cells #[] 5)).grownBy w' (some n)) : Below n W w' := by
  subst h
  exact ((Below.refl W.heap.size W).alloc (Nat.le_refl _) (.cells #[] 5)).grown hg (by simp) (fun k hk => by simp at hk; omega)
theorem Bs.setRow {w : World} {g off n g' : Nat} {l : List Int} (h : Bs w (some ⟨g, off, none⟩) n l) (hne : g ≠ g') (cs : Array Value) : Bs (w.setRow g' cs) (some ⟨g, off, none⟩) n l :=
  ⟨h.1, h.2.1, fun hn => by
    obtain ⟨B, o, he, hc⟩ := h.2.2 hn
    cases he
    exact ⟨_, _, rfl, fun i hi => by rw [Kt.cell_setRow (by exact hne)]; exact hc i hi⟩⟩
/-- What holds between two rounds. -/
def LadQ (w : World) (gk g9 g10 g11 : Nat) (u : Int) (X kl : List Int) (pre : List Bool) (W : World) : Prop :=
  ∃ A B C D, (NumP A (ladF u pre).1 ∧ NumP B (ladF u pre).2.1 ∧ NumP C (ladF u pre).2.2.1 ∧ NumP D (ladF u pre).2.2.2) ∧
    Kq w [(g9, .cells (arrI X) 52 (0, 0)), (g10, .cells (pc A B) 91 (0, 0)), (g11, .cells (pc C D) 91 (0, 0))] W ∧ Bs W (some ⟨gk, 0, none⟩) 32 kl
/-- Both pairs are written anew. -/
theorem ladQ_next {w W : World} {gk g9 g10 g11 : Nat} {u : Int} {X kl A B C D A' B' C' D' : List Int} {pre : List Bool} (hg : gk < g9 ∧ g9 < g10 ∧ g10 < g11 ∧ w.heap.size ≤ g9)
    (h : Kq w [(g9, .cells (arrI X) 52 (0, 0)), (g10, .cells (pc A B) 91 (0, 0)), (g11, .cells (pc C D) 91 (0, 0))] W) (hb : Bs W (some ⟨gk, 0, none⟩) 32 kl)
    (h0 : NumP A' (ladF u pre).1) (h1 : NumP B' (ladF u pre).2.1) (h2 : NumP C' (ladF u pre).2.2.1) (h3 : NumP D' (ladF u pre).2.2.2) {W' : World}
    (hW : W' = (W.setRow g10 (pc A' B')).setRow g11 (pc C' D') ∨ W' = (W.setRow g11 (pc C' D')).setRow g10 (pc A' B')) : LadQ w gk g9 g10 g11 u X kl pre W' := by
  have c9 := h.at_ (g := g9) (ob := .cells (arrI X) 52 (0, 0)) (by simp)
  have c10 := h.at_ (g := g10) (ob := .cells (pc A B) 91 (0, 0)) (by simp)
  have c11 := h.at_ (g := g11) (ob := .cells (pc C D) 91 (0, 0)) (by simp)
  refine ⟨A', B', C', D', ⟨h0, h1, h2, h3⟩, ?_, ?_⟩
  · rcases hW with rfl | rfl
    · refine ⟨fun p hp => ?_, below_setRow (below_setRow h.2 (by omega) _) (by omega) _⟩
      simp only [List.mem_cons, List.not_mem_nil, or_false] at hp
      rcases hp with rfl | rfl | rfl
      · rw [setRow_other _ _ _ _ (by show g9 ≠ g11; omega), setRow_other _ _ _ _ (by show g9 ≠ g10; omega)]; exact c9
      · rw [setRow_other _ _ _ _ (by show g10 ≠ g11; omega)]; exact setRow_here c10 _
      · exact setRow_here ((setRow_other _ _ _ _ (by omega)).trans c11) _
    · refine ⟨fun p hp => ?_, below_setRow (below_setRow h.2 (by omega) _) (by omega) _⟩
      simp only [List.mem_cons, List.not_mem_nil, or_false] at hp
      rcases hp with rfl | rfl | rfl
      · rw [setRow_other _ _ _ _ (by show g9 ≠ g10; omega), setRow_other _ _ _ _ (by show g9 ≠ g11; omega)]; exact c9
      · exact setRow_here ((setRow_other _ _ _ _ (by omega)).trans c10) _
      · rw [setRow_other _ _ _ _ (by show g11 ≠ g10; omega)]; exact setRow_here c11 _
  · rcases hW with rfl | rfl
    · exact (hb.setRow (by omega) _).setRow (by omega) _
    · exact (hb.setRow (by omega) _).setRow (by omega) _
set_option maxRecDepth 100000 in
set_option maxHeartbeats 40000000 in
theorem mmul_yes (pk pu : Option Addr) (ck cu : Nat) (lk lu : List Int) (w : World) (hk : Bs w pk 32 lk) (hu : Bs w pu 32 lu) :
    Calls Try.prog 58 #[.slice pk 32 ck, .slice pu 32 cu] w fun e w' => ∃ b c, e = .returned (.tuple #[.slice (some ⟨b, 0, none⟩) 32 c, .int .i64 0]) ∧ 32 ≤ c ∧ Bs w' (some ⟨b, 0, none⟩) 32 (leB (mulN lk lu % PP)) ∧ Below w.heap.size w w' := by
  have en : ∀ L, numV L = .agg (arrI L) := fun _ => rfl
  obtain ⟨i0, hi0, hz0, hz1, hz2⟩ := info_parts infoB
  have h1 := and_u8_1
  have hkin := Lib.hid hk.2.1
  have HLU := Lib.hid hu.1
  have HUI := Lib.hid hu.2.1
  have evz := (u8_fact _ (byte_at hu.2.1 31)).2.2.2.2
  have hcl := Lib.hid (show lu.set 31 (lu.getD 31 0 % 128) = uTop lu from rfl)
  go_enter Try.func58, Try.ntmps58
  go_wp2_with fail
  refine (mclamp_yes pk ck lk _ hk).mono ?_
  rintro e w1 ⟨gk, c1, rfl, hc1, _, hgk, hgklt, hK, hb1⟩
  have hu1 := hu.keep hb1
  go_wp2_with (at_builtin; first | (refine wpList_append_bs _ rfl (.tmp 25) (.tmp 26) 22 rfl w1.heap.size 5 i0 (.int .u8 0) 1 Try.underlying22 hi0 hz0 hz1 hz2 rfl _ 0 [] rfl (mk_at w1 rfl) pu 32 cu lu rfl (hu1.keep ((Below.refl _ _).alloc (Nat.le_refl _) _)) (by unfold maxLen; omega) (by omega) (mk_le _ rfl) ?_; intro v1 w2 hown hg1 hat1; have hb2 := mk_below w1 rfl hg1; rw [Nat.zero_add, List.nil_append] at hown; obtain ⟨gu, cu2, rfl, hcu1, hcu2, hguu, hgult⟩ := own_slice hown (by omega); clear hg1 hat1 hcu1 hcu2 hguu hgult; have q31 := own_cell hown HLU.out 31 (by omega); have f31 := hown.frozenAt 31; obtain ⟨hown2, hb3⟩ := own_set hown hb2 hb2.size 31 (lu.getD 31 0 % 128); have hU0 := Lib.hid (Bs.of_ownG hown2 (uTop_in HUI.out)); have HK2 := Lib.hid (hK.keep hb3); have HB2 := Lib.hid (Below.join hb1 hb3); clear hown hown2 hb2 hb3 hu1 hk hu hK hb1; generalize lu.getD 31 0 = c31 at *))
  generalize w2.setCell ⟨gu, 31, none⟩ (.int .u8 (c31 % 128)) = w3 at *
  have hU := hU0.out
  rw [hcl.out] at hU
  have hst : Kq w [] w3 := ⟨by simp, HB2.out⟩
  have hK := HK2.out
  have hkw : gk < w3.heap.size := World.block_lt_of_cell? w3 _ (hK.cell 0 (by omega))
  clear hU0 HK2 HB2 q31 f31 evz hcl
  refine (rfrom_num _ cu2 (uTop lu) _ hU).mono ?_
  rintro e w4 ⟨X, rfl, hX, hb4⟩
  have hst := hst.keep hb4
  have hK := hK.keep hb4
  have hk4 : gk < w4.heap.size := by have := hb4.size; omega
  have hw4 : w.heap.size ≤ w4.heap.size := hst.size
  clear hU hb4 hkw
  have sX : (arrI X).size = 16 := by rw [arrI_size, hX.1]
  have HX := Lib.hid hX
  clear hX
  have ha := heap_alloc_new w4 (.cells #[.int .i64 0, .int .i64 0, .int .i64 0, .int .i64 0, .int .i64 0, .int .i64 0, .int .i64 0, .int .i64 0, .int .i64 0, .int .i64 0, .int .i64 0, .int .i64 0, .int .i64 0, .int .i64 0, .int .i64 0, .int .i64 0] 52)
  have hst := (hst.storeNew (hst.alloc (.cells #[.int .i64 0, .int .i64 0, .int .i64 0, .int .i64 0, .int .i64 0, .int .i64 0, .int .i64 0, .int .i64 0, .int .i64 0, .int .i64 0, .int .i64 0, .int .i64 0, .int .i64 0, .int .i64 0, .int .i64 0, .int .i64 0] 52)) (arrI X)).add (setRow_here ha (arrI X))
  have hK := (hK.keep ((Below.refl _ _).alloc (Nat.le_refl _) (.cells #[.int .i64 0, .int .i64 0, .int .i64 0, .int .i64 0, .int .i64 0, .int .i64 0, .int .i64 0, .int .i64 0, .int .i64 0, .int .i64 0, .int .i64 0, .int .i64 0, .int .i64 0, .int .i64 0, .int .i64 0, .int .i64 0] 52))).setRow (Nat.ne_of_lt hk4) (arrI X)
  have hs5 : w4.heap.size < ((w4.alloc (.cells #[.int .i64 0, .int .i64 0, .int .i64 0, .int .i64 0, .int .i64 0, .int .i64 0, .int .i64 0, .int .i64 0, .int .i64 0, .int .i64 0, .int .i64 0, .int .i64 0, .int .i64 0, .int .i64 0, .int .i64 0, .int .i64 0] 52)).setRow w4.heap.size (arrI X)).heap.size := hst.lt (p := (w4.heap.size, .cells (arrI X) 52 (0, 0))) (by simp)
  go_wp2_with (first | (refine wpList_store_row rfl 52 (.tmp 9) (.tmp 35) rfl w4.heap.size (arrI X) rfl rfl 52 _ ha (by rw [sX]; exact info_num) (by rw [sX]; rfl) (arrI_one X) ?_) | fail)
  generalize (w4.alloc (.cells #[.int .i64 0, .int .i64 0, .int .i64 0, .int .i64 0, .int .i64 0, .int .i64 0, .int .i64 0, .int .i64 0, .int .i64 0, .int .i64 0, .int .i64 0, .int .i64 0, .int .i64 0, .int .i64 0, .int .i64 0, .int .i64 0] 52)).setRow w4.heap.size (arrI X) = w5 at *
  generalize w4.heap.size = g9 at *
  try ((repeat rw [put_none]); (try simp only [put_some, List.setIfInBounds_toArray, List.set_cons_succ, List.set_cons_zero]))
  clear ha
  refine (rsmall_any 1 _ (by omega) (by omega)).mono ?_
  rintro e w6 ⟨O, rfl, hO, hb6⟩
  have hst := hst.keep hb6
  have hK := hK.keep hb6
  have hs6 : g9 < w6.heap.size := by have := hb6.size; omega
  clear hb6 hs5
  have sO : (arrI O).size = 16 := by rw [arrI_size, hO.1]
  have HO := Lib.hid hO
  clear hO
  go_wp2_with fail
  refine (rsmall_any 0 _ (by omega) (by omega)).mono ?_
  rintro e w7 ⟨Z, rfl, hZ, hb7⟩
  have hst := hst.keep hb7
  have hK := hK.keep hb7
  have hs7 : g9 < w7.heap.size := by have := hb7.size; omega
  have hk7 : gk < w7.heap.size := by omega
  clear hb7 hs6
  have sZ : (arrI Z).size = 16 := by rw [arrI_size, hZ.1]
  have HZ := Lib.hid hZ
  clear hZ
  have ha := heap_alloc_new w7 (.cells #[.int .i64 0, .int .i64 0, .int .i64 0, .int .i64 0, .int .i64 0, .int .i64 0, .int .i64 0, .int .i64 0, .int .i64 0, .int .i64 0, .int .i64 0, .int .i64 0, .int .i64 0, .int .i64 0, .int .i64 0, .int .i64 0, .int .i64 0, .int .i64 0, .int .i64 0, .int .i64 0, .int .i64 0, .int .i64 0, .int .i64 0, .int .i64 0, .int .i64 0, .int .i64 0, .int .i64 0, .int .i64 0, .int .i64 0, .int .i64 0, .int .i64 0, .int .i64 0] 91)
  have hst := (hst.storeNew (hst.alloc (.cells #[.int .i64 0, .int .i64 0, .int .i64 0, .int .i64 0, .int .i64 0, .int .i64 0, .int .i64 0, .int .i64 0, .int .i64 0, .int .i64 0, .int .i64 0, .int .i64 0, .int .i64 0, .int .i64 0, .int .i64 0, .int .i64 0, .int .i64 0, .int .i64 0, .int .i64 0, .int .i64 0, .int .i64 0, .int .i64 0, .int .i64 0, .int .i64 0, .int .i64 0, .int .i64 0, .int .i64 0, .int .i64 0, .int .i64 0, .int .i64 0, .int .i64 0, .int .i64 0] 91)) (pc O Z)).add (setRow_here ha (pc O Z))
  have hK := (hK.keep ((Below.refl _ _).alloc (Nat.le_refl _) (.cells #[.int .i64 0, .int .i64 0, .int .i64 0, .int .i64 0, .int .i64 0, .int .i64 0, .int .i64 0, .int .i64 0, .int .i64 0, .int .i64 0, .int .i64 0, .int .i64 0, .int .i64 0, .int .i64 0, .int .i64 0, .int .i64 0, .int .i64 0, .int .i64 0, .int .i64 0, .int .i64 0, .int .i64 0, .int .i64 0, .int .i64 0, .int .i64 0, .int .i64 0, .int .i64 0, .int .i64 0, .int .i64 0, .int .i64 0, .int .i64 0, .int .i64 0, .int .i64 0] 91))).setRow (Nat.ne_of_lt hk7) (pc O Z)
  have hs8 : w7.heap.size < ((w7.alloc (.cells #[.int .i64 0, .int .i64 0, .int .i64 0, .int .i64 0, .int .i64 0, .int .i64 0, .int .i64 0, .int .i64 0, .int .i64 0, .int .i64 0, .int .i64 0, .int .i64 0, .int .i64 0, .int .i64 0, .int .i64 0, .int .i64 0, .int .i64 0, .int .i64 0, .int .i64 0, .int .i64 0, .int .i64 0, .int .i64 0, .int .i64 0, .int .i64 0, .int .i64 0, .int .i64 0, .int .i64 0, .int .i64 0, .int .i64 0, .int .i64 0, .int .i64 0, .int .i64 0] 91)).setRow w7.heap.size (pc O Z)).heap.size := hst.lt (p := (w7.heap.size, .cells (pc O Z) 91 (0, 0))) (by simp)
  go_wp2_with (first | (refine wpList_build_pair rfl (.tmp 36) (.tmp 37) rfl O Z rfl rfl HO.out.1 HZ.out.1 ?_) | (refine wpList_store_row rfl 91 (.tmp 10) (.tmp 38) rfl w7.heap.size (pc O Z) rfl rfl 91 _ ha (by rw [pc_size HO.out.1 HZ.out.1]; exact infoQ) (by rw [pc_size HO.out.1 HZ.out.1]; rfl) (pc_one O Z) ?_) | fail)
  generalize (w7.alloc (.cells #[.int .i64 0, .int .i64 0, .int .i64 0, .int .i64 0, .int .i64 0, .int .i64 0, .int .i64 0, .int .i64 0, .int .i64 0, .int .i64 0, .int .i64 0, .int .i64 0, .int .i64 0, .int .i64 0, .int .i64 0, .int .i64 0, .int .i64 0, .int .i64 0, .int .i64 0, .int .i64 0, .int .i64 0, .int .i64 0, .int .i64 0, .int .i64 0, .int .i64 0, .int .i64 0, .int .i64 0, .int .i64 0, .int .i64 0, .int .i64 0, .int .i64 0, .int .i64 0] 91)).setRow w7.heap.size (pc O Z) = w8 at *
  generalize w7.heap.size = g10 at *
  try ((repeat rw [put_none]); (try simp only [put_some, List.setIfInBounds_toArray, List.set_cons_succ, List.set_cons_zero]))
  clear ha
  refine wp_region_then (fun a b' w' => ∃ (O2 : List Int) (g11 : Nat), b' = ((((a.put (some 39) (.agg (arrI X))).put (some 40) (.agg (arrI O2))).put (some 41) (.agg (pc X O2))).put (some 11) (.pointer (some ⟨g11, 0, none⟩))) ∧ NumP O2 1 ∧ g10 < g11 ∧ Kq w [(g11, .cells (pc X O2) 91 (0, 0)), (g10, .cells (pc O Z) 91 (0, 0)), (g9, .cells (arrI X) 52 (0, 0))] w' ∧ Below w8.heap.size w8 w') ?_ ?_
  · have hst8 : Kq w8 [(g10, .cells (pc O Z) 91 (0, 0)), (g9, .cells (arrI X) 52 (0, 0))] w8 := ⟨hst.1, Below.refl _ _⟩
    refine wp_region_rem (Kq w8 [(g10, .cells (pc O Z) 91 (0, 0)), (g9, .cells (arrI X) 52 (0, 0))]) (by kernel_rfl) (by kernel_rfl) (fun _ _ _ _ _ h => h.elim) hst8.drew ?_
    apply rem_sure 0 (by kernel_rfl) rfl (wanted_none rfl)
    · intro w2 hS K hK
      exact wp_load_row 52 _ rfl g9 rfl 52 (arrI X) (0, 0) _ (hS.at_ (by simp)) Try.underlying52 rfl (by rw [sX]; exact info_num) (hK _ hS (Ext.refl _))
    · kernel_rfl
    · kernel_rfl
    try ((repeat rw [put_none]); (try simp only [put_some, List.setIfInBounds_toArray, List.set_cons_succ, List.set_cons_zero]))
    refine rem_two 1 3 (by kernel_rfl) (step_of rfl (wanted_none rfl) ?_) (step_of rfl (wanted_none rfl) ?_)
    · intro v21 hS21 hE21 K hK
      go_wp2_with fail
      refine (rsmall_any 1 _ (by omega) (by omega)).mono ?_
      rintro e u21 ⟨O2, rfl, hO2, hk21⟩
      have sO2 : (arrI O2).size = 16 := by rw [arrI_size, hO2.1]
      have HO2 := Lib.hid hO2
      clear hO2
      refine hK _ _ (hS21.keep hk21) ?_
      clear hK K
      try ((repeat rw [put_none]); (try simp only [put_some, List.setIfInBounds_toArray, List.set_cons_succ, List.set_cons_zero]))
      apply rem_sure 2 (by kernel_rfl) rfl (wanted_none rfl)
      · intro w2 hS K hK
        exact wp_build_pair _ _ rfl X O2 rfl rfl HX.out.1 HO2.out.1 (hK _ hS (Ext.refl _))
      · kernel_rfl
      · kernel_rfl
      try ((repeat rw [put_none]); (try simp only [put_some, List.setIfInBounds_toArray, List.set_cons_succ, List.set_cons_zero]))
      refine rem_one 3 (by kernel_rfl) (step_of rfl (wanted_none rfl) ?_)
      intro v22 hS22 hE22 K hK
      go_wp2_with fail
      have al_nq := hS22
      refine hK _ _ (hS22.alloc _) ?_
      clear hK K
      try ((repeat rw [put_none]); (try simp only [put_some, List.setIfInBounds_toArray, List.set_cons_succ, List.set_cons_zero]))
      refine rem_one 4 (by kernel_rfl) (step_of rfl (wanted_none rfl) ?_)
      intro v23 hS23 hE23 K hK
      have hg_nq := (hE23 _ _ (heap_alloc_new v22 _))
      refine wp_store_row 91 _ _ rfl v22.heap.size (pc X O2) rfl rfl 91 _ hg_nq (by rw [pc_size HX.out.1 HO2.out.1]; exact infoQ) (by rw [pc_size HX.out.1 HO2.out.1]; rfl) (pc_one X O2) ?_
      refine hK _ _ (al_nq.storeNew hS23 _) ?_
      clear hK K
      try ((repeat rw [put_none]); (try simp only [put_some, List.setIfInBounds_toArray, List.set_cons_succ, List.set_cons_zero]))
      refine rem_nil ?_
      intro v9 hS9 hE9
      exact ⟨O2, v22.heap.size, rfl, HO2.out, al_nq.lt (p := (g10, .cells (pc O Z) 91 (0, 0))) (by simp), ⟨(hS9.add (hE9 _ _ (setRow_here hg_nq (pc X O2)))).1, Below.join hst.2 hS9.2⟩, hS9.2⟩
    · intro v24 hS24 hE24 K hK
      go_wp2_with fail
      have al_nq := hS24
      refine hK _ _ (hS24.alloc _) ?_
      clear hK K
      try ((repeat rw [put_none]); (try simp only [put_some, List.setIfInBounds_toArray, List.set_cons_succ, List.set_cons_zero]))
      refine rem_one 1 (by kernel_rfl) (step_of rfl (wanted_none rfl) ?_)
      intro v25 hS25 hE25 K hK
      go_wp2_with fail
      refine (rsmall_any 1 _ (by omega) (by omega)).mono ?_
      rintro e u25 ⟨O2, rfl, hO2, hk25⟩
      have sO2 : (arrI O2).size = 16 := by rw [arrI_size, hO2.1]
      have HO2 := Lib.hid hO2
      clear hO2
      refine hK _ _ (hS25.keep hk25) ?_
      clear hK K
      try ((repeat rw [put_none]); (try simp only [put_some, List.setIfInBounds_toArray, List.set_cons_succ, List.set_cons_zero]))
      apply rem_sure 2 (by kernel_rfl) rfl (wanted_none rfl)
      · intro w2 hS K hK
        exact wp_build_pair _ _ rfl X O2 rfl rfl HX.out.1 HO2.out.1 (hK _ hS (Ext.refl _))
      · kernel_rfl
      · kernel_rfl
      try ((repeat rw [put_none]); (try simp only [put_some, List.setIfInBounds_toArray, List.set_cons_succ, List.set_cons_zero]))
      refine rem_one 4 (by kernel_rfl) (step_of rfl (wanted_none rfl) ?_)
      intro v26 hS26 hE26 K hK
      have hg_nq := (hE26 _ _ (block_stay hk25 (hE25 _ _ (heap_alloc_new v24 _))))
      refine wp_store_row 91 _ _ rfl v24.heap.size (pc X O2) rfl rfl 91 _ hg_nq (by rw [pc_size HX.out.1 HO2.out.1]; exact infoQ) (by rw [pc_size HX.out.1 HO2.out.1]; rfl) (pc_one X O2) ?_
      refine hK _ _ (al_nq.storeNew hS26 _) ?_
      clear hK K
      try ((repeat rw [put_none]); (try simp only [put_some, List.setIfInBounds_toArray, List.set_cons_succ, List.set_cons_zero]))
      refine rem_nil ?_
      intro v9 hS9 hE9
      exact ⟨O2, v24.heap.size, rfl, HO2.out, al_nq.lt (p := (g10, .cells (pc O Z) 91 (0, 0))) (by simp), ⟨(hS9.add (hE9 _ _ (setRow_here hg_nq (pc X O2)))).1, Below.join hst.2 hS9.2⟩, hS9.2⟩
  rintro b' w9 ⟨O2, g11, rfl, hO2, hlt, hst9, hb9⟩
  have sO2 : (arrI O2).size = 16 := by rw [arrI_size, hO2.1]
  have HO2 := Lib.hid hO2
  clear hO2
  have hK := hK.keep hb9
  try ((repeat rw [put_none]); (try simp only [put_some, List.setIfInBounds_toArray, List.set_cons_succ, List.set_cons_zero]))
  have hgs : gk < g9 ∧ g9 < g10 ∧ g10 < g11 ∧ w.heap.size ≤ g9 := ⟨by omega, by omega, by omega, by omega⟩
  have H0 : Hid (LadQ w gk g9 g10 g11 (valB (uTop lu)) X (clampL lk) [] w9) := Lib.hid ⟨O, Z, X, O2, ⟨HO.out, HZ.out, HX.out, HO2.out⟩, ⟨fun p hp => hst9.1 p (by simp only [List.mem_cons, List.not_mem_nil, or_false] at hp ⊢; rcases hp with h | h | h <;> simp [h]), hst9.2⟩, hK⟩
  have HG := Lib.hid hgs
  have HKB := Lib.hid (clampL_in hkin.out)
  clear hst hst9 hb9 hK hlt hs7 hs8 hk7 hk4 hw4 hgs hgklt hgk hc1
  go_wp2_with fail
  go_loopw [12] (fun i wr => ∃ (m : Nat) (z : Int), m ≤ 255 ∧ z = 254 - (m : Int) ∧ i = .int .i64 z ∧ LadQ w gk g9 g10 g11 (valB (uTop lu)) X (clampL lk) ((bitL (clampL lk)).take m) wr) (fun i wr => (intOf i + 1).toNat)
  case atStart => exact ⟨0, 254, by omega, by omega, rfl, H0.out⟩
  case round =>
    obtain ⟨m, z, hm, hz, rfl, A, B, C, D, ⟨f0, f1, f2, f3⟩, hst, hK⟩ := hrel
    clear H0
    have HA := Lib.hid f0
    have HB := Lib.hid f1
    have HC := Lib.hid f2
    have HD := Lib.hid f3
    clear f0 f1 f2 f3
    have c9 := hst.at_ (g := g9) (ob := .cells (arrI X) 52 (0, 0)) (by simp)
    have c10 := hst.at_ (g := g10) (ob := .cells (pc A B) 91 (0, 0)) (by simp)
    have c11 := hst.at_ (g := g11) (ob := .cells (pc C D) 91 (0, 0)) (by simp)
    by_cases hlt : m < 255
    · obtain ⟨i, hi⟩ : ∃ i : Nat, i = 254 - m := ⟨_, rfl⟩
      obtain rfl : z = (i : Int) := by omega
      have hi254 : i ≤ 254 := by omega
      have hnx := bitL_next (clampL lk) m hlt
      rw [← hi] at hnx
      have ck' := hK.cell (i / 8) (by omega)
      rw [Nat.zero_add] at ck'
      have xb := byte_at HKB.out (i / 8)
      have hbit : bitB (clampL lk) i = ((clampL lk).getD (i / 8) 0 / 2 ^ (i % 8) % 2 == 1) := rfl
      rw [hbit] at hnx
      have eq : (i : Int) / 8 = ((i / 8 : Nat) : Int) := by omega
      have er : (i : Int) % 8 = ((i % 8 : Nat) : Int) := by omega
      have hq : i / 8 < 32 := by omega
      have hr8 : i % 8 < 8 := by omega
      have hge : decide ((i : Int) ≥ 0) = true := by simp
      generalize (clampL lk).getD (i / 8) 0 = c at *
      generalize i / 8 = q at *
      generalize i % 8 = r at *
      have HI := Lib.hid hi
      have HZ2 := Lib.hid hz
      have HNX := Lib.hid hnx
      have HST := Lib.hid hst
      have HK := Lib.hid hK
      clear hnx hi hbit hz hst hK
      cases hbb : (c / 2 ^ r % 2 == 1)
      · have HBB := Lib.hid hbb
        go_wp2_with (first | (refine wpList_load_row rfl 52 (.tmp 9) rfl g9 rfl 52 (arrI X) (0, 0) _ c9 Try.underlying52 rfl (by rw [arrI_size, HX.out.1]; exact info_num) ?_) | (refine wpList_load_row rfl 91 (.tmp 10) rfl g10 rfl 91 (pc A B) (0, 0) _ c10 Try.underlying91 rfl (by rw [pc_size HA.out.1 HB.out.1]; exact infoQ) ?_) | (refine wpList_load_row rfl 91 (.tmp 11) rfl g11 rfl 91 (pc C D) (0, 0) _ c11 Try.underlying91 rfl (by rw [pc_size HC.out.1 HD.out.1]; exact infoQ) ?_) | fail)
        refine (mstep_num X A B C D _ _ _ _ _ _ HX.out HA.out HB.out HC.out HD.out).mono ?_
        rintro e W2 ⟨M0, M1, M2, M3, rfl, g0, g1, g2, g3, hb2⟩
        have HM0 := Lib.hid g0
        have HM1 := Lib.hid g1
        have HM2 := Lib.hid g2
        have HM3 := Lib.hid g3
        have HST2 := Lib.hid (HST.out.keep hb2)
        have HK2 := Lib.hid (HK.out.keep hb2)
        have d10 := block_stay hb2 c10
        have d11 := block_stay hb2 c11
        have e11 : (W2.setRow g10 (pc M0 M1)).heap[g11]? = some (.cells (pc C D) 91 (0, 0)) := (setRow_other _ _ _ _ (by have := HG.out; omega)).trans d11
        clear g0 g1 g2 g3 hb2 c9 c10 c11
        go_wp2_with (first | (refine wpList_store_row rfl 91 (.tmp 10) (.tmp 69) rfl g10 (pc M0 M1) rfl rfl 91 _ d10 (by rw [pc_size HM0.out.1 HM1.out.1]; exact infoQ) (by rw [pc_size HA.out.1 HB.out.1, pc_size HM0.out.1 HM1.out.1]) (pc_one M0 M1) ?_) | (refine wpList_store_row rfl 91 (.tmp 11) (.tmp 70) rfl g11 (pc M2 M3) rfl rfl 91 _ e11 (by rw [pc_size HM2.out.1 HM3.out.1]; exact infoQ) (by rw [pc_size HC.out.1 HD.out.1, pc_size HM2.out.1 HM3.out.1]) (pc_one M2 M3) ?_) | fail)
        go_roundw
        case rel =>
          refine ⟨m + 1, (i : Int) - 1, by omega, by have := HI.out; omega, rfl, ?_⟩
          have hz := HNX.out
          rw [HBB.out] at hz
          rw [hz]
          refine ladQ_next HG.out HST2.out HK2.out (A' := M0) (B' := M1) (C' := M2) (D' := M3) ?_ ?_ ?_ ?_ (.inl rfl)
          · rw [ladF_snoc]; exact HM0.out.mod (modP _)
          · rw [ladF_snoc]; exact HM1.out.mod (modP _)
          · rw [ladF_snoc]; exact HM2.out.mod (modP _)
          · rw [ladF_snoc]; exact HM3.out.mod (modP _)
        case measure => simp [intOf]
      · have HBB := Lib.hid hbb
        go_wp2_with (first | (refine wpList_load_row rfl 52 (.tmp 9) rfl g9 rfl 52 (arrI X) (0, 0) _ c9 Try.underlying52 rfl (by rw [arrI_size, HX.out.1]; exact info_num) ?_) | (refine wpList_load_row rfl 91 (.tmp 10) rfl g10 rfl 91 (pc A B) (0, 0) _ c10 Try.underlying91 rfl (by rw [pc_size HA.out.1 HB.out.1]; exact infoQ) ?_) | (refine wpList_load_row rfl 91 (.tmp 11) rfl g11 rfl 91 (pc C D) (0, 0) _ c11 Try.underlying91 rfl (by rw [pc_size HC.out.1 HD.out.1]; exact infoQ) ?_) | fail)
        refine (mstep_num X C D A B _ _ _ _ _ _ HX.out HC.out HD.out HA.out HB.out).mono ?_
        rintro e W2 ⟨M0, M1, M2, M3, rfl, g0, g1, g2, g3, hb2⟩
        have HM0 := Lib.hid g0
        have HM1 := Lib.hid g1
        have HM2 := Lib.hid g2
        have HM3 := Lib.hid g3
        have HST2 := Lib.hid (HST.out.keep hb2)
        have HK2 := Lib.hid (HK.out.keep hb2)
        have d10 := block_stay hb2 c10
        have d11 := block_stay hb2 c11
        have e10 : (W2.setRow g11 (pc M0 M1)).heap[g10]? = some (.cells (pc A B) 91 (0, 0)) := (setRow_other _ _ _ _ (by have := HG.out; omega)).trans d10
        clear g0 g1 g2 g3 hb2 c9 c10 c11
        go_wp2_with (first | (refine wpList_store_row rfl 91 (.tmp 11) (.tmp 62) rfl g11 (pc M0 M1) rfl rfl 91 _ d11 (by rw [pc_size HM0.out.1 HM1.out.1]; exact infoQ) (by rw [pc_size HC.out.1 HD.out.1, pc_size HM0.out.1 HM1.out.1]) (pc_one M0 M1) ?_) | (refine wpList_store_row rfl 91 (.tmp 10) (.tmp 63) rfl g10 (pc M2 M3) rfl rfl 91 _ e10 (by rw [pc_size HM2.out.1 HM3.out.1]; exact infoQ) (by rw [pc_size HA.out.1 HB.out.1, pc_size HM2.out.1 HM3.out.1]) (pc_one M2 M3) ?_) | fail)
        go_roundw
        case rel =>
          refine ⟨m + 1, (i : Int) - 1, by omega, by have := HI.out; omega, rfl, ?_⟩
          have hz := HNX.out
          rw [HBB.out] at hz
          rw [hz]
          refine ladQ_next HG.out HST2.out HK2.out (A' := M2) (B' := M3) (C' := M0) (D' := M1) ?_ ?_ ?_ ?_ (.inr rfl)
          · rw [ladF_snoc]; exact HM2.out.mod (modP _)
          · rw [ladF_snoc]; exact HM3.out.mod (modP _)
          · rw [ladF_snoc]; exact HM0.out.mod (modP _)
          · rw [ladF_snoc]; exact HM1.out.mod (modP _)
        case measure => simp [intOf]
    · obtain rfl : m = 255 := by omega
      obtain rfl : z = -1 := by omega
      clear hz
      rw [List.take_of_length_le (by rw [bitL_length]; omega)] at HA HB
      have HK := Lib.hid hK
      clear hK c9 c11 HC HD
      go_wp2_with fail
      refine wp_region_then (fun a b' w' => ∃ (I T : List Int) (gr cr : Nat), b' = (((((((((a.put (some 71) (.pointer (some ⟨g10, 0, none⟩))).put (some 72) (.agg (arrI A))).put (some 73) (.pointer (some ⟨g10, 16, none⟩))).put (some 74) (.agg (arrI B))).put (some 75) (.agg (arrI I))).put (some 76) (.agg (arrI T))).put (some 77) (.slice (some ⟨gr, 0, none⟩) 32 cr)).put (some 4) (.slice (some ⟨gr, 0, none⟩) 32 cr)).put (some 5) (.int .i64 0)) ∧ 32 ≤ cr ∧ Bs w' (some ⟨gr, 0, none⟩) 32 (leB (mulN lk lu % PP)) ∧ Below w.heap.size w w') ?_ ?_
      · refine wp_region_rem (Kq w [(g9, .cells (arrI X) 52 (0, 0)), (g10, .cells (pc A B) 91 (0, 0)), (g11, .cells (pc C D) 91 (0, 0))]) (by kernel_rfl) (by kernel_rfl) (fun _ _ _ _ _ h => h.elim) hst.drew ?_
        apply rem_sure 0 (by kernel_rfl) rfl (wanted_none rfl)
        · intro w2 hS K hK
          go_wp2_with fail
          exact hK _ hS (Ext.refl _)
        · kernel_rfl
        · kernel_rfl
        try ((repeat rw [put_none]); (try simp only [put_some, List.setIfInBounds_toArray, List.set_cons_succ, List.set_cons_zero]))
        apply rem_sure 1 (by kernel_rfl) rfl (wanted_none rfl)
        · intro w2 hS K hK
          exact wp_load_mid 52 _ rfl g10 0 rfl (arrI A).toList _ (pc_fst (t := 91) HA.out.1 HB.out.1 (hS.at_ (by simp))) Try.underlying52 rfl (by rw [Array.length_toList, arrI_size, HA.out.1]; exact info_num) (hK _ hS (Ext.refl _))
        · kernel_rfl
        · kernel_rfl
        try ((repeat rw [put_none]); (try simp only [put_some, List.setIfInBounds_toArray, List.set_cons_succ, List.set_cons_zero]))
        apply rem_sure 2 (by kernel_rfl) rfl (wanted_none rfl)
        · intro w2 hS K hK
          go_wp2_with fail
          exact hK _ hS (Ext.refl _)
        · kernel_rfl
        · kernel_rfl
        try ((repeat rw [put_none]); (try simp only [put_some, List.setIfInBounds_toArray, List.set_cons_succ, List.set_cons_zero]))
        apply rem_sure 3 (by kernel_rfl) rfl (wanted_none rfl)
        · intro w2 hS K hK
          exact wp_load_mid 52 _ rfl g10 16 rfl (arrI B).toList _ (pc_snd (t := 91) HA.out.1 HB.out.1 (hS.at_ (by simp))) Try.underlying52 rfl (by rw [Array.length_toList, arrI_size, HB.out.1]; exact info_num) (hK _ hS (Ext.refl _))
        · kernel_rfl
        · kernel_rfl
        try ((repeat rw [put_none]); (try simp only [put_some, List.setIfInBounds_toArray, List.set_cons_succ, List.set_cons_zero]))
        refine rem_one 4 (by kernel_rfl) (step_of rfl (wanted_none rfl) ?_)
        intro v21 hS21 hE21 K hK
        go_wp2_with fail
        refine (rinverse_num B _ _ HB.out).mono ?_
        rintro e u21 ⟨I, rfl, hI, hk21⟩
        have sI : (arrI I).size = 16 := by rw [arrI_size, hI.1]
        have HI := Lib.hid hI
        clear hI
        refine hK _ _ (hS21.keep hk21) ?_
        clear hK K
        try ((repeat rw [put_none]); (try simp only [put_some, List.setIfInBounds_toArray, List.set_cons_succ, List.set_cons_zero]))
        refine rem_one 5 (by kernel_rfl) (step_of rfl (wanted_none rfl) ?_)
        intro v22 hS22 hE22 K hK
        go_wp2_with fail
        refine (rtimes_num A I _ _ _ HA.out HI.out).mono ?_
        rintro e u22 ⟨T, rfl, hT, hk22⟩
        have sT : (arrI T).size = 16 := by rw [arrI_size, hT.1]
        have HT := Lib.hid hT
        clear hT
        refine hK _ _ (hS22.keep hk22) ?_
        clear hK K
        try ((repeat rw [put_none]); (try simp only [put_some, List.setIfInBounds_toArray, List.set_cons_succ, List.set_cons_zero]))
        refine rem_one 6 (by kernel_rfl) (step_of rfl (wanted_none rfl) ?_)
        intro v23 hS23 hE23 K hK
        go_wp2_with fail
        refine (rbytes_num T _ _ HT.out).mono ?_
        rintro e u23 ⟨gr, cr, rfl, hcr, hR, hk23⟩
        refine hK _ _ (hS23.keep hk23) ?_
        clear hK K
        try ((repeat rw [put_none]); (try simp only [put_some, List.setIfInBounds_toArray, List.set_cons_succ, List.set_cons_zero]))
        apply rem_sure 7 (by kernel_rfl) rfl (wanted_none rfl)
        · intro w2 hS K hK
          go_wp2_with fail
          exact hK _ hS (Ext.refl _)
        · kernel_rfl
        · kernel_rfl
        try ((repeat rw [put_none]); (try simp only [put_some, List.setIfInBounds_toArray, List.set_cons_succ, List.set_cons_zero]))
        apply rem_sure 8 (by kernel_rfl) rfl (wanted_none rfl)
        · intro w2 hS K hK
          go_wp2_with fail
          exact hK _ hS (Ext.refl _)
        · kernel_rfl
        · kernel_rfl
        try ((repeat rw [put_none]); (try simp only [put_some, List.setIfInBounds_toArray, List.set_cons_succ, List.set_cons_zero]))
        refine rem_nil ?_
        intro v9 hS9 hE9
        have hR9 := hR.ext hE9
        exact ⟨I, T, gr, cr, rfl, hcr, hR9, hS9.2⟩
      rintro b' w9 ⟨I, T, gr, cr, rfl, hcr, hR, hb⟩
      try ((repeat rw [put_none]); (try simp only [put_some, List.setIfInBounds_toArray, List.set_cons_succ, List.set_cons_zero]))
      go_wp2_with fail
      go_ret2
      exact ⟨gr, cr, rfl, hcr, hR, hb⟩
end Go.Proofs.Ytenppmciabdefaa
namespace Go.Proofs.Ytenppmciabdefaa
open Go Go.RowKit Go.Shelf
/-- What Mul, Public and Shared answer: the bytes, and the error's number. -/
def mlL (k u : List Int) : List Int := if k.length = 32 ∧ u.length = 32 then leB (mulN k u % PP) else []
def mlE (k u : List Int) : Int := if k.length = 32 ∧ u.length = 32 then 0 else 1
def shL (k u : List Int) : List Int := if k.length = 32 ∧ u.length = 32 then (if mx (leB (mulN k u % PP)) = 0 then [] else leB (mulN k u % PP)) else []
def shE (k u : List Int) : Int := if k.length = 32 ∧ u.length = 32 then (if mx (leB (mulN k u % PP)) = 0 then 30 else 0) else 1
/-- The result: bytes and an error's number. -/
def ResE (w : World) (L : List Int) (E : Int) (e : Ending) (w' : World) : Prop := ∃ q k c, e = .returned (.tuple #[.slice q k c, .int .i64 E]) ∧ Bs w' q k L ∧ Below w.heap.size w w'
theorem ResE.nil {w w' : World} {E : Int} (h : Below w.heap.size w w') : ResE w [] E (.returned (.tuple #[.slice none 0 0, .int .i64 E])) w' := ⟨_, _, _, rfl, Bs.empty _ _, h⟩
theorem lmul_any (pk pu : Option Addr) (nk nu ck cu : Nat) (lk lu : List Int) (w : World) (hk : Bs w pk nk lk) (hu : Bs w pu nu lu) :
    Calls Try.prog 57 #[.slice pk nk ck, .slice pu nu cu] w (ResE w (mlL lk lu) (mlE lk lu)) := by
  by_cases h1 : nk = 32
  · by_cases h2 : nu = 32
    · subst h1
      subst h2
      rw [mlL, mlE, if_pos ⟨hk.1, hu.1⟩, if_pos ⟨hk.1, hu.1⟩]
      exact (mul_yes pk pu ck cu lk lu w hk hu).mono fun _ _ ⟨b, g1, _, g3, g4⟩ => ⟨_, _, _, g1, Bs.leB g3, g4⟩
    · subst h1
      rw [mlL, mlE, if_neg (fun h => h2 (hu.1.symm.trans h.2)), if_neg (fun h => h2 (hu.1.symm.trans h.2))]
      refine (mul_no2 pk pu nu ck cu lk w hk h2).mono ?_
      rintro _ _ ⟨rfl, g⟩
      exact ResE.nil g
  · rw [mlL, mlE, if_neg (fun h => h1 (hk.1.symm.trans h.1)), if_neg (fun h => h1 (hk.1.symm.trans h.1))]
    refine (mul_no1 pk pu nk nu ck cu w h1).mono ?_
    rintro _ _ ⟨rfl, g⟩
    exact ResE.nil g
set_option maxRecDepth 100000 in
set_option maxHeartbeats 4000000 in
theorem lpublic_any (pk : Option Addr) (nk ck : Nat) (lk : List Int) (w : World) (hk : Bs w pk nk lk) :
    Calls Try.prog 59 #[.slice pk nk ck] w (ResE w (mlL lk nineL) (mlE lk nineL)) := by
  obtain ⟨W0, hW0, hz, hb0, q0⟩ := one_new w (.cells #[.int .u8 0, .int .u8 0, .int .u8 0, .int .u8 0, .int .u8 0, .int .u8 0, .int .u8 0, .int .u8 0, .int .u8 0, .int .u8 0, .int .u8 0, .int .u8 0, .int .u8 0, .int .u8 0, .int .u8 0, .int .u8 0, .int .u8 0, .int .u8 0, .int .u8 0, .int .u8 0, .int .u8 0, .int .u8 0, .int .u8 0, .int .u8 0, .int .u8 0, .int .u8 0, .int .u8 0, .int .u8 0, .int .u8 0, .int .u8 0, .int .u8 0, .int .u8 0] 5)
  have hmk : (Instr.makeSlice 22 (.int .i64 32) (.int .i64 32)).run Try.prog w = .ok (.slice (some ⟨w.heap.size, 0, none⟩) 32 32) W0 := by rw [← hW0]; exact make32 w
  have c0 : W0.cell? ⟨w.heap.size, 0, none⟩ = some (.int .u8 0) := (cell_of_row W0 _ 0 _ _ _ q0).trans rfl
  have f0 : W0.frozen? ⟨w.heap.size, 0, none⟩ = false := frozen_of_row W0 _ 0 _ _ q0
  have hN : Bs (W0.setCell ⟨w.heap.size, 0, none⟩ (.int .u8 9)) (some ⟨w.heap.size, 0, none⟩) 32 nineL := Bs.of_isB (l := nineL) (heap_setCell_same W0 _ 0 _ _ _ q0) rfl nineL_in
  have hb1 : Below w.heap.size w (W0.setCell ⟨w.heap.size, 0, none⟩ (.int .u8 9)) := hb0.setCell (Nat.le_refl _) _
  have hK := hk.keep hb1
  clear hW0 hz hb0 q0
  go_enter Try.func59, Try.ntmps59
  go_wp2_with fail
  refine (lmul_any pk _ nk 32 ck 32 lk nineL _ hK hN).mono ?_
  rintro e w1 ⟨q, k, c, rfl, hB, hbel⟩
  go_wp2_with fail
  go_ret2
  exact ⟨q, k, c, rfl, hB, Below.join hb1 hbel⟩
set_option maxRecDepth 100000 in
set_option maxHeartbeats 4000000 in
theorem lshared_any (pk pu : Option Addr) (nk nu ck cu : Nat) (lk lu : List Int) (w : World) (hk : Bs w pk nk lk) (hu : Bs w pu nu lu) :
    Calls Try.prog 61 #[.slice pk nk ck, .slice pu nu cu] w (ResE w (shL lk lu) (shE lk lu)) := by
  by_cases h : lk.length = 32 ∧ lu.length = 32
  · have hh := h
    obtain ⟨h1, h2⟩ := h
    obtain rfl : nk = 32 := hk.1.symm.trans h1
    obtain rfl : nu = 32 := hu.1.symm.trans h2
    rw [shL, shE, if_pos hh, if_pos hh]
    refine (shared_yes pk pu ck cu lk lu w hk hu).mono ?_
    rintro e w' ⟨hb, ⟨h0, rfl⟩ | ⟨h0, b, rfl, _, hB⟩⟩
    · rw [if_pos h0, if_pos h0]
      exact ResE.nil hb
    · rw [if_neg h0, if_neg h0]
      exact ⟨_, _, _, rfl, Bs.leB hB, hb⟩
  · have e1 : mlL lk lu = [] := if_neg h
    have e2 : mlE lk lu = 1 := if_neg h
    rw [shL, shE, if_neg h, if_neg h]
    have hc := lmul_any pk pu nk nu ck cu lk lu w hk hu
    rw [e1, e2] at hc
    go_enter Try.func61, Try.ntmps61
    go_wp2_with fail
    refine hc.mono ?_
    rintro e w1 ⟨q, k, c, rfl, hB, hbel⟩
    go_wp2_with fail
    go_ret2
    exact ⟨q, k, c, rfl, hB, hbel⟩
end Go.Proofs.Ytenppmciabdefaa
namespace Go.Proofs.Ytenppmciabdefaa
open Go Go.RowKit Go.Shelf
set_option maxRecDepth 100000 in
set_option maxHeartbeats 4000000 in
theorem mmul_no1 (pk pu : Option Addr) (nk nu ck cu : Nat) (w : World) (hk : nk ≠ 32) :
    Calls Try.prog 58 #[.slice pk nk ck, .slice pu nu cu] w fun e w' => e = .returned (.tuple #[.slice none 0 0, .int .i64 1]) ∧ Below w.heap.size w w' := by
  go_enter Try.func58, Try.ntmps58
  go_wp2_with fail
  refine (mclamp_no pk nk ck _ hk).mono ?_
  rintro e w1 ⟨rfl, hw⟩
  have hb : Below w.heap.size w w1 := by rw [← hw]; exact Below.refl _ _
  clear hw
  go_wp2_with fail
  go_ret2
  exact ⟨rfl, hb⟩
set_option maxRecDepth 100000 in
set_option maxHeartbeats 4000000 in
theorem mmul_no2 (pk pu : Option Addr) (nu ck cu : Nat) (lk : List Int) (w : World) (hk : Bs w pk 32 lk) (hu : nu ≠ 32) :
    Calls Try.prog 58 #[.slice pk 32 ck, .slice pu nu cu] w fun e w' => e = .returned (.tuple #[.slice none 0 0, .int .i64 1]) ∧ Below w.heap.size w w' := by
  have hd : ((nu : Int) != 32) = true := by rw [bne_iff_ne]; omega
  go_enter Try.func58, Try.ntmps58
  go_wp2_with fail
  refine (mclamp_yes pk ck lk _ hk).mono ?_
  rintro e w1 ⟨gk, c1, rfl, hc1, _, hgk, hgklt, hK, hb1⟩
  go_wp2_with fail
  go_ret2
  exact ⟨rfl, hb1⟩
theorem mmul_any (pk pu : Option Addr) (nk nu ck cu : Nat) (lk lu : List Int) (w : World) (hk : Bs w pk nk lk) (hu : Bs w pu nu lu) :
    Calls Try.prog 58 #[.slice pk nk ck, .slice pu nu cu] w (ResE w (mlL lk lu) (mlE lk lu)) := by
  by_cases h1 : nk = 32
  · by_cases h2 : nu = 32
    · subst h1
      subst h2
      rw [mlL, mlE, if_pos ⟨hk.1, hu.1⟩, if_pos ⟨hk.1, hu.1⟩]
      exact (mmul_yes pk pu ck cu lk lu w hk hu).mono fun _ _ ⟨b, c, g1, _, g3, g4⟩ => ⟨_, _, _, g1, g3, g4⟩
    · subst h1
      rw [mlL, mlE, if_neg (fun h => h2 (hu.1.symm.trans h.2)), if_neg (fun h => h2 (hu.1.symm.trans h.2))]
      refine (mmul_no2 pk pu nu ck cu lk w hk h2).mono ?_
      rintro _ _ ⟨rfl, g⟩
      exact ResE.nil g
  · rw [mlL, mlE, if_neg (fun h => h1 (hk.1.symm.trans h.1)), if_neg (fun h => h1 (hk.1.symm.trans h.1))]
    refine (mmul_no1 pk pu nk nu ck cu w h1).mono ?_
    rintro _ _ ⟨rfl, g⟩
    exact ResE.nil g
set_option maxRecDepth 100000 in
set_option maxHeartbeats 4000000 in
theorem mnine_any (w : World) : Calls Try.prog 85 #[] w fun e w' => ∃ b, e = .returned (.slice (some ⟨b, 0, none⟩) 32 32) ∧ Bs w' (some ⟨b, 0, none⟩) 32 nineL ∧ Below w.heap.size w w' := by
  obtain ⟨W0, hW0, hz, hb0, q0⟩ := one_new w (.cells #[.int .u8 0, .int .u8 0, .int .u8 0, .int .u8 0, .int .u8 0, .int .u8 0, .int .u8 0, .int .u8 0, .int .u8 0, .int .u8 0, .int .u8 0, .int .u8 0, .int .u8 0, .int .u8 0, .int .u8 0, .int .u8 0, .int .u8 0, .int .u8 0, .int .u8 0, .int .u8 0, .int .u8 0, .int .u8 0, .int .u8 0, .int .u8 0, .int .u8 0, .int .u8 0, .int .u8 0, .int .u8 0, .int .u8 0, .int .u8 0, .int .u8 0, .int .u8 0] 5)
  have hmk : (Instr.makeSlice 22 (.int .i64 32) (.int .i64 32)).run Try.prog w = .ok (.slice (some ⟨w.heap.size, 0, none⟩) 32 32) W0 := by rw [← hW0]; exact make32 w
  have c0 : W0.cell? ⟨w.heap.size, 0, none⟩ = some (.int .u8 0) := (cell_of_row W0 _ 0 _ _ _ q0).trans rfl
  have f0 : W0.frozen? ⟨w.heap.size, 0, none⟩ = false := frozen_of_row W0 _ 0 _ _ q0
  have hN : Bs (W0.setCell ⟨w.heap.size, 0, none⟩ (.int .u8 9)) (some ⟨w.heap.size, 0, none⟩) 32 nineL := Bs.of_isB (l := nineL) (heap_setCell_same W0 _ 0 _ _ _ q0) rfl nineL_in
  have hb1 : Below w.heap.size w (W0.setCell ⟨w.heap.size, 0, none⟩ (.int .u8 9)) := hb0.setCell (Nat.le_refl _) _
  clear hW0 hz hb0 q0
  go_enter Try.func85, Try.ntmps85
  go_wp2
  go_ret
  exact ⟨_, rfl, hN, hb1⟩
set_option maxRecDepth 100000 in
set_option maxHeartbeats 4000000 in
theorem mpublic_any (pk : Option Addr) (nk ck : Nat) (lk : List Int) (w : World) (hk : Bs w pk nk lk) :
    Calls Try.prog 60 #[.slice pk nk ck] w (ResE w (mlL lk nineL) (mlE lk nineL)) := by
  go_enter Try.func60, Try.ntmps60
  go_wp2_with fail
  refine (mnine_any _).mono ?_
  rintro e w1 ⟨b, rfl, hN, hb1⟩
  have hK := hk.keep hb1
  go_wp2_with fail
  refine (mmul_any pk _ nk 32 ck 32 lk nineL _ hK hN).mono ?_
  rintro e w2 ⟨q, k, c, rfl, hB, hbel⟩
  go_wp2_with fail
  go_ret2
  exact ⟨q, k, c, rfl, hB, Below.join hb1 hbel⟩
theorem mx_up : ∀ (l : List Int) (a : Int), a ≤ l.foldl max a
  | [], _ => Int.le_refl _
  | x :: l, a => Int.le_trans (Int.le_max_left a x) (mx_up l _)
theorem mx_each : ∀ (l : List Int) (a : Int), ∀ x ∈ l, x ≤ l.foldl max a
  | [], _, _, h => by cases h
  | y :: l, a, x, h => by
    rcases List.mem_cons.1 h with rfl | h
    · exact Int.le_trans (Int.le_max_right a x) (mx_up l _)
    · exact mx_each l _ x h
theorem mx_none : ∀ (l : List Int), (∀ x ∈ l, x = 0) → l.foldl max 0 = (0 : Int)
  | [], _ => rfl
  | x :: l, h => by
    rw [List.foldl_cons, h x (List.mem_cons_self ..)]
    exact mx_none l (fun y hy => h y (List.mem_cons_of_mem _ hy))
theorem mx_some {l : List Int} (hb : ∀ x ∈ l, 0 ≤ x ∧ x < 256) {k : Nat} (hk : k < l.length) (h : l.getD k 0 ≠ 0) : mx l ≠ 0 := by
  have hm : l.getD k 0 ∈ l := by
    rw [List.getD_eq_getElem?_getD, List.getElem?_eq_getElem hk]
    exact List.getElem_mem hk
  have h1 := hb _ hm
  have h2 := mx_each l 0 _ hm
  unfold mx
  omega
theorem mx_all0 {l : List Int} (h : ∀ j, j < l.length → l.getD j 0 = 0) : mx l = 0 := by
  refine mx_none l fun x hx => ?_
  obtain ⟨j, hj, rfl⟩ := List.getElem_of_mem hx
  have := h j hj
  rw [List.getD_eq_getElem?_getD, List.getElem?_eq_getElem hj] at this
  exact this
set_option maxRecDepth 100000 in
set_option maxHeartbeats 4000000 in
theorem mshared_any (pk pu : Option Addr) (nk nu ck cu : Nat) (lk lu : List Int) (w : World) (hk : Bs w pk nk lk) (hu : Bs w pu nu lu) :
    Calls Try.prog 62 #[.slice pk nk ck, .slice pu nu cu] w (ResE w (shL lk lu) (shE lk lu)) := by
  by_cases h : lk.length = 32 ∧ lu.length = 32
  · have hh := h
    obtain ⟨h1, h2⟩ := h
    obtain rfl : nk = 32 := hk.1.symm.trans h1
    obtain rfl : nu = 32 := hu.1.symm.trans h2
    have hs0 : Hid (mx (leB (mulN lk lu % PP)) = 0 → shL lk lu = [] ∧ shE lk lu = 30) := Lib.hid fun h0 => by
      rw [shL, shE, if_pos hh, if_pos hh, if_pos h0, if_pos h0]
      exact ⟨rfl, rfl⟩
    have hs1 : Hid (mx (leB (mulN lk lu % PP)) ≠ 0 → shL lk lu = leB (mulN lk lu % PP) ∧ shE lk lu = 0) := Lib.hid fun h0 => by
      rw [shL, shE, if_pos hh, if_pos hh, if_neg h0, if_neg h0]
      exact ⟨rfl, rfl⟩
    clear hh h1 h2
    go_enter Try.func62, Try.ntmps62
    go_wp2_with fail
    refine (mmul_yes pk pu ck cu lk lu _ hk hu).mono ?_
    rintro e w1 ⟨b, c, rfl, hc, hB, hbel⟩
    clear hk hu
    have hin := Lib.hid (leB_in (mulN lk lu % PP))
    have hlen := Lib.hid hB.1
    generalize leB (mulN lk lu % PP) = L at *
    go_wp2_with fail
    go_loopw [8] (fun i wr => ∃ k : Nat, k ≤ 32 ∧ i = .int .i64 k ∧ wr = w1 ∧ Hid (∀ j, j < k → L.getD j 0 = 0)) (fun i _ => (32 - intOf i).toNat)
    case atStart => exact ⟨0, by omega, rfl, rfl, Lib.hid (fun j hj => by omega)⟩
    case round =>
      obtain ⟨k, hk, rfl, rfl, hz⟩ := hrel
      by_cases hlt : k < 32
      · have hcell : wr.cell? ⟨b, k, none⟩ = some (.int .u8 (L.getD k 0)) := by have := hB.cell k hlt; rwa [Nat.zero_add] at this
        have hl : decide ((k : Int) < 32) = true := by simp; omega
        by_cases h0 : L.getD k 0 = 0
        · have H0 := Lib.hid h0
          rw [h0] at hcell
          clear h0
          go_wp2_with fail
          go_roundw
          case rel =>
            refine ⟨k + 1, by omega, rfl, by trivial, Lib.hid fun j hj => ?_⟩
            by_cases hjk : j = k
            · rw [hjk]; exact H0.out
            · exact hz.out j (by omega)
          case measure => simp [intOf]; omega
        · have hm := mx_some hin.out (by rw [hlen.out]; exact hlt) h0
          have hbb : (L.getD k 0 != 0) = true := by rw [bne_iff_ne]; exact h0
          have HM := Lib.hid hm
          clear h0 hm
          generalize L.getD k 0 = x at *
          go_wp2_with fail
          go_ret2
          rw [(hs1.out HM.out).1, (hs1.out HM.out).2]
          exact ⟨_, _, _, rfl, hB, hbel⟩
      · obtain rfl : k = 32 := by omega
        have hm : mx L = 0 := mx_all0 (fun j hj => hz.out j (by rw [hlen.out] at hj; exact hj))
        have HM := Lib.hid hm
        clear hm
        go_wp2_with fail
        go_ret2
        rw [(hs0.out HM.out).1, (hs0.out HM.out).2]
        exact ResE.nil hbel
  · have e1 : mlL lk lu = [] := if_neg h
    have e2 : mlE lk lu = 1 := if_neg h
    rw [shL, shE, if_neg h, if_neg h]
    have hc := mmul_any pk pu nk nu ck cu lk lu w hk hu
    rw [e1, e2] at hc
    go_enter Try.func62, Try.ntmps62
    go_wp2_with fail
    refine hc.mono ?_
    rintro e w1 ⟨q, k, c, rfl, hB, hbel⟩
    go_wp2_with fail
    go_ret2
    exact ⟨none, 0, 0, rfl, Bs.empty _ _, hbel⟩
end Go.Proofs.Ytenppmciabdefaa
namespace Go.Proofs.Ytenppmciabdefaa
open Go.RowKit
set_option maxHeartbeats 4000000 in
set_option maxRecDepth 100000 in
theorem ladderMuls_walk (a0 : Option Addr) (n0 c0 : Nat) (l0 : List Int) (a1 : Option Addr) (n1 c1 : Nat) (l1 : List Int) (w : World) (b0 : Bs w a0 n0 l0) (e0 : n0 ≤ c0) (g0 : c0 ≤ 140737488351232) (b1 : Bs w a1 n1 l1) (e1 : n1 ≤ c1) (g1 : c1 ≤ 140737488351232) :
    Calls Try.prog 13 #[.slice a0 n0 c0, .slice a1 n1 c1] w fun e w' => e = .returned (.bool true) ∧ Below w.heap.size w w' := by
  have hl0 := Lib.hid b0.1
  have hl1 := Lib.hid b1.1
  go_enter Try.func13, Try.ntmps13
  go_wp2_with fail
  refine (lent_any a0 n0 c0 l0 _ (by omega) b0).mono ?_
  rintro e w1 ⟨gx, cgx, rfl, hcx, hcx2, _, _, hBx, hb⟩
  have b0 := b0.keep hb
  have b1 := b1.keep hb
  unfold maxLen at hcx2
  go_wp2_with fail
  refine (lent_any a1 n1 c1 l1 _ (by omega) b1).mono ?_
  rintro e w2 ⟨gy, cgy, rfl, hcy, hcy2, _, _, hBy, hb3⟩
  unfold maxLen at hcy2
  have hb := Below.join hb hb3
  have b0 := b0.keep hb3
  have b1 := b1.keep hb3
  have hBx := hBx.keep hb3
  clear hb3
  go_wp2_with fail
  refine (lmul_any _ _ n0 n1 cgx cgy l0 l1 _ (hBx.head hl0.out) (hBy.head hl1.out)).mono ?_
  rintro e w3 ⟨p0, k0, d0, rfl, hR1, hb3⟩
  have hb := Below.join hb hb3
  have b0 := b0.keep hb3
  have b1 := b1.keep hb3
  have hBx := hBx.keep hb3
  have hBy := hBy.keep hb3
  clear hb3
  go_wp2_with fail
  refine (mmul_any _ _ n0 n1 c0 c1 l0 l1 _ b0 b1).mono ?_
  rintro e w3 ⟨p1, k1, d1, rfl, hR2, hb3⟩
  have hb := Below.join hb hb3
  have b0 := b0.keep hb3
  have b1 := b1.keep hb3
  have hBx := hBx.keep hb3
  have hBy := hBy.keep hb3
  have hR1 := hR1.keep hb3
  clear hb3
  go_wp2_with fail
  refine (lpublic_any _ n0 cgx l0 _ (hBx.head hl0.out)).mono ?_
  rintro e w3 ⟨p2, k2, d2, rfl, hR3, hb3⟩
  have hb := Below.join hb hb3
  have b0 := b0.keep hb3
  have b1 := b1.keep hb3
  have hBx := hBx.keep hb3
  have hBy := hBy.keep hb3
  have hR1 := hR1.keep hb3
  have hR2 := hR2.keep hb3
  clear hb3
  go_wp2_with fail
  refine (mpublic_any _ n0 c0 l0 _ b0).mono ?_
  rintro e w3 ⟨p3, k3, d3, rfl, hR4, hb3⟩
  have hb := Below.join hb hb3
  have b0 := b0.keep hb3
  have b1 := b1.keep hb3
  have hBx := hBx.keep hb3
  have hBy := hBy.keep hb3
  have hR1 := hR1.keep hb3
  have hR2 := hR2.keep hb3
  have hR3 := hR3.keep hb3
  clear hb3
  go_wp2_with fail
  refine (lshared_any _ _ n0 n1 cgx cgy l0 l1 _ (hBx.head hl0.out) (hBy.head hl1.out)).mono ?_
  rintro e w3 ⟨p4, k4, d4, rfl, hR5, hb3⟩
  have hb := Below.join hb hb3
  have b0 := b0.keep hb3
  have b1 := b1.keep hb3
  have hBx := hBx.keep hb3
  have hBy := hBy.keep hb3
  have hR1 := hR1.keep hb3
  have hR2 := hR2.keep hb3
  have hR3 := hR3.keep hb3
  have hR4 := hR4.keep hb3
  clear hb3
  go_wp2_with fail
  refine (mshared_any _ _ n0 n1 c0 c1 l0 l1 _ b0 b1).mono ?_
  rintro e w3 ⟨p5, k5, d5, rfl, hR6, hb3⟩
  have hb := Below.join hb hb3
  have b0 := b0.keep hb3
  have b1 := b1.keep hb3
  have hBx := hBx.keep hb3
  have hBy := hBy.keep hb3
  have hR1 := hR1.keep hb3
  have hR2 := hR2.keep hb3
  have hR3 := hR3.keep hb3
  have hR4 := hR4.keep hb3
  have hR5 := hR5.keep hb3
  clear hb3
  have cv0 := conv_at (cap := d0) hR1
  have cv1 := conv_at (cap := d1) hR2
  have cv2 := conv_at (cap := d2) hR3
  have cv3 := conv_at (cap := d3) hR4
  have cv4 := conv_at (cap := d4) hR5
  have cv5 := conv_at (cap := d5) hR6
  clear hR1 hR2 hR3 hR4 hR5 hR6
  generalize strOfNums (mlL l0 l1) = S0 at *
  generalize mlE l0 l1 = x0 at *
  generalize strOfNums (mlL l0 nineL) = S1 at *
  generalize mlE l0 nineL = x1 at *
  generalize strOfNums (shL l0 l1) = S2 at *
  generalize shE l0 l1 = x2 at *
  go_wp2_with (go_at_call 55; refine (num5_any _ _).mono ?_; rintro e w' ⟨rfl, rfl⟩)
  refine (stays_any gx cgx _ n0 c0 l0 _ (by omega) hcx hcx2 hBx b0).mono ?_
  rintro e w5 ⟨rfl, j5, rfl⟩
  go_wp2_with fail
  refine (stays_any gy cgy _ n1 c1 l1 _ (by omega) hcy hcy2 (hBy.drewN _) (b1.drewN _)).mono ?_
  rintro e w6 ⟨rfl, j6, rfl⟩
  go_wp2_with fail
  refine (knows5_yes _).mono ?_
  rintro e w7 ⟨rfl, hb7⟩
  go_wp2
  go_ret
  exact ⟨rfl, Below.join (bel_drewN hb _) hb7⟩
end Go.Proofs.Ytenppmciabdefaa
