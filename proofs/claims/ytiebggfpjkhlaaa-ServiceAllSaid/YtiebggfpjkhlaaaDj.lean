/- service.Pick. No condition. -/
import Derived.Test.YtiebggfpjkhlaaaDi
namespace Go.Proofs.Ytiebggfpjkhlaaa
open Go Go.RowKit
set_option linter.unusedSimpArgs false
attribute [local go_sem] map_neq_some map_neq_nil
theorem cells_len (w : Wt) : w.cells.length = 5 := rfl
theorem flat_take : ∀ (l : List Wt) (j : Nat), (l.flatMap Wt.cells).take (j * 5) = (l.take j).flatMap Wt.cells
  | [], j => by simp
  | w :: l, 0 => by simp
  | w :: l, j + 1 => by
    rw [List.flatMap_cons, List.take_succ_cons, List.flatMap_cons, List.take_append, cells_len, List.take_of_length_le (by rw [cells_len]; omega), show (j + 1) * 5 - 5 = j * 5 by omega, flat_take l j]
theorem flat_drop : ∀ (l : List Wt) (j : Nat), (l.flatMap Wt.cells).drop (j * 5) = (l.drop j).flatMap Wt.cells
  | [], j => by simp
  | w :: l, 0 => by simp
  | w :: l, j + 1 => by
    rw [List.flatMap_cons, List.drop_succ_cons, List.drop_append, cells_len, List.drop_of_length_le (by rw [cells_len]; omega), List.nil_append, show (j + 1) * 5 - 5 = j * 5 by omega, flat_drop l j]
theorem flat_get {l : List Wt} {j : Nat} {w : Wt} (h : l[j]? = some w) : ((l.flatMap Wt.cells).drop (j * 5)).take 5 = w.cells := by
  obtain ⟨hj, rfl⟩ := List.getElem?_eq_some_iff.1 h
  rw [flat_drop, List.drop_eq_getElem_cons hj, List.flatMap_cons]
  exact List.take_left' (cells_len _)
theorem flat_erase (l : List Wt) (j : Nat) : (l.flatMap Wt.cells).take (j * 5) ++ (l.flatMap Wt.cells).drop ((j + 1) * 5) = (l.eraseIdx j).flatMap Wt.cells := by
  rw [flat_take, flat_drop, ← List.flatMap_append, List.eraseIdx_eq_take_drop_succ]
theorem flat_one (l : List Wt) : ∀ u ∈ l.flatMap Wt.cells, u.oneCell' = true := by
  intro u hu
  obtain ⟨w, _, hu⟩ := List.mem_flatMap.1 hu
  simp [Wt.cells] at hu
  rcases hu with rfl | rfl | rfl | rfl | rfl <;> rfl
theorem flat_len (l : List Wt) : (l.flatMap Wt.cells).length = l.length * 5 := by
  induction l with
  | nil => rfl
  | cons w l ih => rw [List.flatMap_cons, List.length_append, ih, cells_len, List.length_cons]; omega
theorem pick_bad (b m0 m1 m2 : Nat) (s : ByteArray) (k : Int) (hs : okN s = false) (W : World) (hb : W.heap[b]? = some (svc m0 m1 m2)) :
    Calls Try.prog 16 #[.pointer (some ⟨b, 0, none⟩), .string s, .int .i64 k] W fun e W' => e = .returned (.tuple #[.agg wait0, .int .i64 1]) ∧ Below W.heap.size W W' := by
  have hself : Kq W [(b, svc m0 m1 m2)] W := ⟨by simp; exact hb, Below.refl _ _⟩
  have h1 := (hself.new rfl (.cells wait0 38)).new (n := W.heap.size + 1) (by simp) (.cells #[.string s] 9)
  have hmay := mayA_one (c := 1) (h1.at_ (g := b) (ob := svc m0 m1 m2) (by simp)) (h1.at_ (g := W.heap.size + 1) (ob := .cells #[.string s] 9 (0, 0)) (by simp))
  rw [hs] at hmay
  have e6 := h1.at_ (g := W.heap.size) (ob := .cells wait0 38 (0, 0)) (by simp)
  have hone : wait0.all (·.oneCell') = true := by
    rw [Array.all_eq_true_iff_forall_mem]
    intro v hv
    simp [wait0] at hv
    rcases hv with rfl | rfl | rfl <;> rfl
  have HB := Lib.hid (setRow_below h1.2 (Nat.le_refl _) wait0)
  have HE := Lib.hid (setRow_here e6 wait0)
  clear hself h1 hb
  unfold wait0 at *
  go_enter Try.func16, Try.ntmps16
  go_wp2_with fail
  refine hmay.mono ?_
  rintro e w' ⟨rfl, rfl⟩
  go_wp2_with (refine wpList_store_row rfl 38 (.tmp 6) (.tmp 15) rfl W.heap.size #[.string { data := #[] }, .int .i64 0, .int .i64 0, .int .i64 0, .slice none 0 0] rfl rfl 38 #[.string { data := #[] }, .int .i64 0, .int .i64 0, .int .i64 0, .slice none 0 0] e6 infoW5 rfl hone ?_)
  refine ret_cell_tmp rfl W.heap.size _ _ _ _ (.int .i64 1) rfl rfl HE.out Try.underlying38 rfl infoW5 rfl ?_
  exact ⟨rfl, HB.out⟩
theorem Chg.setRow {ws : List Nat} {W W1 : World} (h : Chg ws W W1) {g : Nat} (hg : g ∈ ws ∨ W.heap.size ≤ g) (cs : Array Value) : Chg ws W (W1.setRow g cs) :=
  ⟨h.os, h.tape, h.output, by simpa [World.setRow] using h.size, fun i hi hn => (setRow_other _ _ _ _ (by
    rintro rfl
    rcases hg with hg | hg
    · exact hn hg
    · omega)).trans (h.block i hi hn)⟩
theorem WRep.lt {B m2 : Nat} {L : List WRow} {W : World} (h : WRep B m2 L W) : ∀ i ∈ blkW m2 L, i < W.heap.size := by
  intro i hi
  rcases List.mem_cons.1 hi with rfl | hi
  · obtain ⟨es, clock, h5, _⟩ := h.map
    exact (Array.getElem?_eq_some_iff.1 h5).1
  · obtain ⟨e, he, hi⟩ := List.mem_flatMap.1 hi
    rcases List.mem_cons.1 hi with rfl | hi
    · exact (Array.getElem?_eq_some_iff.1 (h.row e he)).1
    · exact ((h.own e he).lt i (by simpa using hi)).2
/-- What Pick tells and leaves. -/
def PickR (B m2 : Nat) (L : List WRow) (s : ByteArray) (wq : List Wt) (k : Int) (W : World) (e : Ending) (W' : World) : Prop :=
  ∃ L', WRep B m2 L' W' ∧ Kept (blkW m2 L) (blkW m2 L') W W' ∧
    (((k < 0 ∨ (wq.length : Int) ≤ k) ∧ e = .returned (.tuple #[.agg wait0, .int .i64 3]) ∧ wf L' = wf L) ∨
     ∃ (j : Nat) (w : Wt) (q' c' : Nat), k = j ∧ wq[j]? = some w ∧ e = .returned (.tuple #[.agg #[.string w.s, .int .i64 w.k, .int .i64 w.en.ep, .int .i64 w.en.kd, .slice (some ⟨q', 0, none⟩) w.en.n c'], .int .i64 0]) ∧ Body W' q' w.en.n c' w.en.l ∧
       wf L' = setF (wf L) s ((wq.eraseIdx j).length, (wq.eraseIdx j).flatMap Wt.cells))
set_option maxRecDepth 100000 in
set_option maxHeartbeats 4000000 in
theorem pick_miss (B b m0 m1 m2 : Nat) (L : List WRow) (s : ByteArray) (wq : List Wt) (k : Int) (hs : okN s = true) (hk : k < 0 ∨ (wq.length : Int) ≤ k) (W : World) (hB : B ≤ W.heap.size) (hb : W.heap[b]? = some (svc m0 m1 m2)) (hR : WRep B m2 L W) (hq : wf L s = (wq.length, wq.flatMap Wt.cells)) :
    Calls Try.prog 16 #[.pointer (some ⟨b, 0, none⟩), .string s, .int .i64 k] W (PickR B m2 L s wq k W) := by
  have hself : Kq W [(b, svc m0 m1 m2)] W := ⟨by simp; exact hb, Below.refl _ _⟩
  have h1 := (hself.new rfl (.cells wait0 38)).new (n := W.heap.size + 1) (by simp) (.cells #[.string s] 9)
  have hmay := mayA_one (c := 1) (h1.at_ (g := b) (ob := svc m0 m1 m2) (by simp)) (h1.at_ (g := W.heap.size + 1) (ob := .cells #[.string s] 9 (0, 0)) (by simp))
  rw [hs] at hmay
  have cb2 : ((W.alloc (.cells wait0 38)).alloc (.cells #[.string s] 9)).cell? ⟨b, 2, none⟩ = some (.map (some m2)) := (cell_of_row _ b 2 _ _ _ (h1.at_ (g := b) (ob := svc m0 m1 m2) (by simp))).trans rfl
  have hR1 := hR.keep h1.2
  obtain ⟨es, clock, hm, hE⟩ := hR1.map
  have hof := ofW_any m2 clock es (L.map fun e => (e.name, e.r)) s _ hm hE
  have e6 := h1.at_ (g := W.heap.size) (ob := .cells wait0 38 (0, 0)) (by simp)
  have hone : wait0.all (·.oneCell') = true := by
    rw [Array.all_eq_true_iff_forall_mem]
    intro v hv
    simp [wait0] at hv
    rcases hv with rfl | rfl | rfl <;> rfl
  have hB1 : B ≤ ((W.alloc (.cells wait0 38)).alloc (.cells #[.string s] 9)).heap.size := by have := h1.size; omega
  have HE6 := Lib.hid e6
  have HR1 := Lib.hid hR1
  have HBEL := Lib.hid h1.2
  have HQ := Lib.hid hq
  have hnot : ∀ i ∈ blkW m2 L, i ≠ W.heap.size := by
    intro i hi
    rcases List.mem_cons.1 hi with rfl | hi
    · obtain ⟨es, clock, h5, _⟩ := hR.map
      have := (Array.getElem?_eq_some_iff.1 h5).1
      omega
    · obtain ⟨e, he, hi⟩ := List.mem_flatMap.1 hi
      rcases List.mem_cons.1 hi with rfl | hi
      · have := (Array.getElem?_eq_some_iff.1 (hR.row e he)).1
        omega
      · have := ((hR.own e he).lt i (by simpa using hi)).2
        omega
  have HNOT := Lib.hid hnot
  clear hself h1 hb hR hR1 hm hE hq e6 hnot
  have hwz : wait0 = #[.string { data := #[] }, .int .i64 0, .int .i64 0, .int .i64 0, .slice none 0 0] := rfl
  generalize hgw : wait0 = wz at hmay cb2 hof HE6 HR1 HBEL hone hB1
  have hw0 : wz = #[.string { data := #[] }, .int .i64 0, .int .i64 0, .int .i64 0, .slice none 0 0] := by rw [← hgw]; exact hwz
  subst hw0
  clear hgw hwz
  go_enter Try.func16, Try.ntmps16
  go_wp2_with fail
  refine hmay.mono ?_
  rintro e w' ⟨rfl, rfl⟩
  go_wp2_with fail
  refine hof.mono ?_
  intro e w2 hr
  obtain ⟨L1, row, hR2, hrow, hname, rfl, ⟨hch, hkp⟩, hcase⟩ := HR1.out.of hB1 hr
  obtain ⟨hwf, hrw⟩ := WRep.wf_of hR2 hrow hname hcase
  rw [HQ.out] at hrw
  obtain ⟨p, cap, hv⟩ := own_any (hR2.own row hrow)
  have hrn : row.n = wq.length := congrArg Prod.fst hrw
  have hnot1 : ∀ i ∈ blkW m2 L1, i ∉ [W.heap.size] := by
    intro i hi hm
    have hm : i = W.heap.size := by simpa using hm
    rcases hkp.own i hi with h5 | h5
    · exact HNOT.out i h5 hm
    · have := HBEL.out.size
      simp at h5
      omega
  have HN1 := Lib.hid hnot1
  clear hnot1
  have htk := takeW_no row.r row.n row.v w2 k (by rw [hrn]; exact hk) (hR2.row row hrow) ⟨p, cap, hv⟩
  have e62 := hkp.chg.at_ HE6.out (fun hm => HNOT.out _ hm rfl)
  have HKP := Lib.hid ((Kept.below HBEL.out).trans hkp)
  have HR2 := Lib.hid hR2
  have HWF := Lib.hid hwf
  clear hr hof hR2 hrow hname hch hkp hcase hwf hrw hv hrn
  unfold wait0 at htk
  go_wp2_with fail
  refine htk.mono ?_
  rintro e w3 ⟨rfl, hb3⟩
  have e63 := blk_stay hb3 e62
  have l63 := (Array.getElem?_eq_some_iff.1 e63).1
  have hb4 : Below w3.heap.size w3 (w3.alloc (.cells #[.string { data := #[] }, .int .i64 0, .int .i64 0, .int .i64 0, .slice none 0 0] 38)) := (Below.refl _ _).alloc (Nat.le_refl _) _
  have e64 := blk_stay hb4 e63
  have e84 := alloc_at w3 (.cells #[.string { data := #[] }, .int .i64 0, .int .i64 0, .int .i64 0, .slice none 0 0] 38)
  have hb5 := setRow_below hb4 (Nat.le_refl _) #[.string { data := #[] }, .int .i64 0, .int .i64 0, .int .i64 0, .slice none 0 0]
  have e65 : ((w3.alloc (.cells #[.string { data := #[] }, .int .i64 0, .int .i64 0, .int .i64 0, .slice none 0 0] 38)).setRow w3.heap.size #[.string { data := #[] }, .int .i64 0, .int .i64 0, .int .i64 0, .slice none 0 0]).heap[W.heap.size]? = some (.cells #[.string { data := #[] }, .int .i64 0, .int .i64 0, .int .i64 0, .slice none 0 0] 38 (0, 0)) := (setRow_other _ _ _ _ (by omega)).trans e64
  have e66 := setRow_here e65 #[.string { data := #[] }, .int .i64 0, .int .i64 0, .int .i64 0, .slice none 0 0]
  have hEND : PickR B m2 L s wq k W (.returned (.tuple #[.agg #[.string { data := #[] }, .int .i64 0, .int .i64 0, .int .i64 0, .slice none 0 0], .int .i64 3])) (((w3.alloc (.cells #[.string { data := #[] }, .int .i64 0, .int .i64 0, .int .i64 0, .slice none 0 0] 38)).setRow w3.heap.size #[.string { data := #[] }, .int .i64 0, .int .i64 0, .int .i64 0, .slice none 0 0]).setRow W.heap.size #[.string { data := #[] }, .int .i64 0, .int .i64 0, .int .i64 0, .slice none 0 0]) := by
    refine ⟨L1, (HR2.out.keep (below_thru hb3 hb5)).apartStay ((Chg.refl _ _).setRow (.inl (by simp)) #[.string { data := #[] }, .int .i64 0, .int .i64 0, .int .i64 0, .slice none 0 0]) HN1.out, ⟨(HKP.out.chg.keep (below_thru hb3 hb5)).setRow (.inr (Nat.le_refl _)) #[.string { data := #[] }, .int .i64 0, .int .i64 0, .int .i64 0, .slice none 0 0], HKP.out.own⟩, .inl ⟨hk, rfl, HWF.out⟩⟩
  have HEND := Lib.hid hEND
  have HE := Lib.hid e66
  clear hEND e66 hb5 hb4 e64 e63 e62 hb3 htk
  go_wp2_with (first | (refine wpList_store_row rfl 38 (.tmp 8) (.tmp 25) rfl w3.heap.size #[.string { data := #[] }, .int .i64 0, .int .i64 0, .int .i64 0, .slice none 0 0] rfl rfl 38 #[.string { data := #[] }, .int .i64 0, .int .i64 0, .int .i64 0, .slice none 0 0] e84 infoW5 rfl hone ?_) | (refine wpList_store_row rfl 38 (.tmp 6) (.tmp 29) rfl W.heap.size #[.string { data := #[] }, .int .i64 0, .int .i64 0, .int .i64 0, .slice none 0 0] rfl rfl 38 #[.string { data := #[] }, .int .i64 0, .int .i64 0, .int .i64 0, .slice none 0 0] e65 infoW5 rfl hone ?_))
  refine ret_cell_tmp rfl W.heap.size _ _ _ _ (.int .i64 3) rfl rfl HE.out Try.underlying38 rfl infoW5 rfl ?_
  exact HEND.out
set_option maxRecDepth 100000 in
set_option maxHeartbeats 4000000 in
theorem pick_hit (B b m0 m1 m2 j : Nat) (L : List WRow) (s : ByteArray) (wq : List Wt) (wt : Wt) (hs : okN s = true) (hj : wq[j]? = some wt) (W : World) (hok : wt.en.Ok W) (hB : B ≤ W.heap.size) (hb : W.heap[b]? = some (svc m0 m1 m2)) (hR : WRep B m2 L W) (hq : wf L s = (wq.length, wq.flatMap Wt.cells)) :
    Calls Try.prog 16 #[.pointer (some ⟨b, 0, none⟩), .string s, .int .i64 j] W (PickR B m2 L s wq j W) := by
  have hself : Kq W [(b, svc m0 m1 m2)] W := ⟨by simp; exact hb, Below.refl _ _⟩
  have h1 := (hself.new rfl (.cells wait0 38)).new (n := W.heap.size + 1) (by simp) (.cells #[.string s] 9)
  have hmay := mayA_one (c := 1) (h1.at_ (g := b) (ob := svc m0 m1 m2) (by simp)) (h1.at_ (g := W.heap.size + 1) (ob := .cells #[.string s] 9 (0, 0)) (by simp))
  rw [hs] at hmay
  have cb2 : ((W.alloc (.cells wait0 38)).alloc (.cells #[.string s] 9)).cell? ⟨b, 2, none⟩ = some (.map (some m2)) := (cell_of_row _ b 2 _ _ _ (h1.at_ (g := b) (ob := svc m0 m1 m2) (by simp))).trans rfl
  have hR1 := hR.keep h1.2
  obtain ⟨es, clock, hm, hE⟩ := hR1.map
  have hof := ofW_any m2 clock es (L.map fun e => (e.name, e.r)) s _ hm hE
  have e6 := h1.at_ (g := W.heap.size) (ob := .cells wait0 38 (0, 0)) (by simp)
  have hone : wait0.all (·.oneCell') = true := by
    rw [Array.all_eq_true_iff_forall_mem]
    intro v hv
    simp [wait0] at hv
    rcases hv with rfl | rfl | rfl <;> rfl
  have hB1 : B ≤ ((W.alloc (.cells wait0 38)).alloc (.cells #[.string s] 9)).heap.size := by have := h1.size; omega
  have HE6 := Lib.hid e6
  have HR1 := Lib.hid hR1
  have HBEL := Lib.hid h1.2
  have HQ := Lib.hid hq
  have hnot : ∀ i ∈ blkW m2 L, i ≠ W.heap.size := by
    intro i hi
    rcases List.mem_cons.1 hi with rfl | hi
    · obtain ⟨es, clock, h5, _⟩ := hR.map
      have := (Array.getElem?_eq_some_iff.1 h5).1
      omega
    · obtain ⟨e, he, hi⟩ := List.mem_flatMap.1 hi
      rcases List.mem_cons.1 hi with rfl | hi
      · have := (Array.getElem?_eq_some_iff.1 (hR.row e he)).1
        omega
      · have := ((hR.own e he).lt i (by simpa using hi)).2
        omega
  have HNOT := Lib.hid hnot
  have HNU := Lib.hid hR.noU
  clear hself h1 hb hR hR1 hm hE hq e6 hnot
  have hwz : wait0 = #[.string { data := #[] }, .int .i64 0, .int .i64 0, .int .i64 0, .slice none 0 0] := rfl
  generalize hgw : wait0 = wz at hmay cb2 hof HE6 HR1 HBEL hone hB1
  have hw0 : wz = #[.string { data := #[] }, .int .i64 0, .int .i64 0, .int .i64 0, .slice none 0 0] := by rw [← hgw]; exact hwz
  subst hw0
  clear hgw hwz
  go_enter Try.func16, Try.ntmps16
  go_wp2_with fail
  refine hmay.mono ?_
  rintro e w' ⟨rfl, rfl⟩
  go_wp2_with fail
  refine hof.mono ?_
  intro e w2 hr
  obtain ⟨L1, row, hR2, hrow, hname, rfl, ⟨hch, hkp⟩, hcase⟩ := HR1.out.of hB1 hr
  obtain ⟨hwf, hrw⟩ := WRep.wf_of hR2 hrow hname hcase
  rw [HQ.out] at hrw
  obtain ⟨p, cap, hv⟩ := own_any (hR2.own row hrow)
  have hrn : row.n = wq.length := congrArg Prod.fst hrw
  have hnot1 : ∀ i ∈ blkW m2 L1, i ∉ [W.heap.size] := by
    intro i hi hm
    have hm : i = W.heap.size := by simpa using hm
    rcases hkp.own i hi with h5 | h5
    · exact HNOT.out i h5 hm
    · have := HBEL.out.size
      simp at h5
      omega
  have HN1 := Lib.hid hnot1
  clear hnot1
  have hrn : row.n = wq.length := congrArg Prod.fst hrw
  have hrx : row.xs = wq.flatMap Wt.cells := congrArg Prod.snd hrw
  have hjl : j < wq.length := (List.getElem?_eq_some_iff.1 hj).1
  have htk := takeW_yes B row.r row.n j row.v row.xs (.string wt.s) (.int .i64 wt.k) (.int .i64 wt.en.ep) (.int .i64 wt.en.kd) (.slice (some ⟨wt.en.q, 0, none⟩) wt.en.n wt.en.c) (by rw [hrx]; exact flat_one wq) w2 (by omega) (hR2.row row hrow) (hR2.own row hrow) (hR2.own_ne hrow hrow) (by rw [hrx]; exact flat_get hj)
  have hok2 := hok.chg ((Kept.below HBEL.out).trans hkp).chg HNU.out
  have e62 := hkp.chg.at_ HE6.out (fun hm => HNOT.out _ hm rfl)
  have HKP := Lib.hid ((Kept.below HBEL.out).trans hkp)
  have HR2 := Lib.hid hR2
  have HWF := Lib.hid hwf
  have HMEM := Lib.hid hrow
  have HNAME := Lib.hid hname
  have HX : Hid (row.n = wq.length ∧ row.xs = wq.flatMap Wt.cells) := Lib.hid ⟨hrn, hrx⟩
  have HOK2 := Lib.hid hok2
  have HJ := Lib.hid hj
  clear hr hof hR2 hrow hname hch hkp hcase hwf hrw hv hrn hrx hok2 hj hok
  obtain ⟨ws, wk, we⟩ := wt
  obtain ⟨ep, kd, q, n, c, l⟩ := we
  have hww := htk
  go_wp2_with fail
  refine htk.mono ?_
  rintro e w3 ⟨rfl, v', hr3, ho3, hv3, hch3⟩
  obtain ⟨hR3, _, hkp3⟩ := HR2.out.set HMEM.out hr3 ho3 (.inl hv3) hch3
  have hwf3 := HR2.out.wf_upd HMEM.out v' (row.n - 1) (row.xs.take (j * 5) ++ row.xs.drop ((j + 1) * 5))
  rw [HWF.out, HNAME.out, HX.out.1, HX.out.2, flat_erase, show wq.length - 1 = (wq.eraseIdx j).length from by rw [List.length_eraseIdx_of_lt hjl]] at hwf3
  have hok3 := HOK2.out.chg hkp3.chg HR2.out.noU
  rw [HX.out.1, HX.out.2, flat_erase, show wq.length - 1 = (wq.eraseIdx j).length from by rw [List.length_eraseIdx_of_lt hjl]] at hR3 hkp3
  have hdis : ∀ i ∈ blkW m2 (upd L1 row.r v' (wq.eraseIdx j).length ((wq.eraseIdx j).flatMap Wt.cells)), i ≠ W.heap.size ∧ i < w3.heap.size := by
    intro i hi
    refine ⟨fun hm => ?_, hR3.lt i hi⟩
    rcases hkp3.own i hi with h5 | h5
    · exact HN1.out i h5 (by simp [hm])
    · have h6 := HE6.out
      have := HBEL.out.size
      have := (Array.getElem?_eq_some_iff.1 e62).1
      omega
  have HDIS := Lib.hid hdis
  have e63 := hkp3.chg.at_ e62 (fun hm => HN1.out _ hm (by simp))
  have l63 := (Array.getElem?_eq_some_iff.1 e63).1
  have hb4 : Below w3.heap.size w3 (w3.alloc (.cells #[.string { data := #[] }, .int .i64 0, .int .i64 0, .int .i64 0, .slice none 0 0] 38)) := (Below.refl _ _).alloc (Nat.le_refl _) _
  have e84 := alloc_at w3 (.cells #[.string { data := #[] }, .int .i64 0, .int .i64 0, .int .i64 0, .slice none 0 0] 38)
  have hb5 := setRow_below hb4 (Nat.le_refl _) (#[.string ws, .int .i64 wk, .int .i64 ep, .int .i64 kd, .slice (some ⟨q, 0, none⟩) n c] : Array Value)
  have e85 := setRow_here e84 (#[.string ws, .int .i64 wk, .int .i64 ep, .int .i64 kd, .slice (some ⟨q, 0, none⟩) n c] : Array Value)
  have e65 : ((w3.alloc (.cells #[.string { data := #[] }, .int .i64 0, .int .i64 0, .int .i64 0, .slice none 0 0] 38)).setRow w3.heap.size (#[.string ws, .int .i64 wk, .int .i64 ep, .int .i64 kd, .slice (some ⟨q, 0, none⟩) n c] : Array Value)).heap[W.heap.size]? = some (.cells #[.string { data := #[] }, .int .i64 0, .int .i64 0, .int .i64 0, .slice none 0 0] 38 (0, 0)) := (setRow_other _ _ _ _ (by omega)).trans (blk_stay hb4 e63)
  have hrng : ((w3.alloc (.cells #[.string { data := #[] }, .int .i64 0, .int .i64 0, .int .i64 0, .slice none 0 0] 38)).setRow w3.heap.size (#[.string ws, .int .i64 wk, .int .i64 ep, .int .i64 kd, .slice (some ⟨q, 0, none⟩) n c] : Array Value)).rangeAt w3.heap.size 2 [.int .i64 ep, .int .i64 kd, .slice (some ⟨q, 0, none⟩) n c] := by
    intro t u hu
    rw [cell_at e85]
    match t, hu with
    | 0, hu => exact hu
    | 1, hu => exact hu
    | 2, hu => exact hu
  have honey : (#[.string ws, .int .i64 wk, .int .i64 ep, .int .i64 kd, .slice (some ⟨q, 0, none⟩) n c] : Array Value).all (·.oneCell') = true := by
    rw [Array.all_eq_true_iff_forall_mem]
    intro v hv
    simp at hv
    rcases hv with rfl | rfl | rfl | rfl | rfl <;> rfl
  have hx5 := (hok3.1.stay (hb5.block q (by obtain ⟨o, ho, _⟩ := hok3.1.blk; exact (Array.getElem?_eq_some_iff.1 ho).1))).bs
  have hown := entry_own ep kd (some ⟨q, 0, none⟩) n c l _ hx5 hok3.2
  have HR3 := Lib.hid hR3
  have HK3 := Lib.hid (HKP.out.trans hkp3)
  have HW3 := Lib.hid hwf3
  have HB5 := Lib.hid hb5
  have HE65 := Lib.hid e65
  have HE85 := Lib.hid e85
  have HBL := Lib.hid hok3.1.2
  clear hdis hR3 hkp3 hwf3 hok3 e63 hb4 hx5 hr3 ho3 hv3 hch3 hb5 e65 e85 htk hww e62
  go_wp2_with (first | (refine wpList_store_row rfl 38 (.tmp 8) (.tmp 25) rfl w3.heap.size (#[.string ws, .int .i64 wk, .int .i64 ep, .int .i64 kd, .slice (some ⟨q, 0, none⟩) n c] : Array Value) rfl rfl 38 #[.string { data := #[] }, .int .i64 0, .int .i64 0, .int .i64 0, .slice none 0 0] e84 infoW5 rfl honey ?_) | (refine wpList_load_mid rfl 33 (.tmp 30) rfl w3.heap.size 2 rfl [.int .i64 ep, .int .i64 kd, .slice (some ⟨q, 0, none⟩) n c] _ hrng Try.underlying33 rfl infoE ?_))
  refine hown.mono ?_
  rintro e w5 ⟨q', c', rfl, _, hbd, hb6⟩
  have e86 := blk_stay hb6 HE85.out
  have e66 := blk_stay hb6 HE65.out
  have hthere : w5.there w3.heap.size 2 3 := by
    intro t ht
    refine ⟨?_, frozen_at e86 _⟩
    rw [cell_at e86, Array.getElem?_eq_getElem (by simp; omega)]
    rfl
  have honee : (#[Value.int .i64 ep, .int .i64 kd, .slice (some ⟨q', 0, none⟩) n c']).all (·.oneCell') = true := by
    rw [Array.all_eq_true_iff_forall_mem]
    intro v hv
    simp at hv
    rcases hv with rfl | rfl | rfl <;> rfl
  have e87 : (w5.setCells w3.heap.size 2 [.int .i64 ep, .int .i64 kd, .slice (some ⟨q', 0, none⟩) n c']).heap[w3.heap.size]? = some (.cells (#[.string ws, .int .i64 wk, .int .i64 ep, .int .i64 kd, .slice (some ⟨q', 0, none⟩) n c'] : Array Value) 38 (0, 0)) := setCells_here w3.heap.size _ [.int .i64 ep, .int .i64 kd, .slice (some ⟨q', 0, none⟩) n c'] 2 w5 _ e86
  have honev : (#[.string ws, .int .i64 wk, .int .i64 ep, .int .i64 kd, .slice (some ⟨q', 0, none⟩) n c'] : Array Value).all (·.oneCell') = true := by
    rw [Array.all_eq_true_iff_forall_mem]
    intro v hv
    simp at hv
    rcases hv with rfl | rfl | rfl | rfl | rfl <;> rfl
  have hch6 : Chg [w3.heap.size] w5 (w5.setCells w3.heap.size 2 [.int .i64 ep, .int .i64 kd, .slice (some ⟨q', 0, none⟩) n c']) := Chg.setCells (by simp) _ _ _ (Chg.refl _ _)
  have e67 := hch6.at_ e66 (by simp; omega)
  have e68 := setRow_here e67 (#[.string ws, .int .i64 wk, .int .i64 ep, .int .i64 kd, .slice (some ⟨q', 0, none⟩) n c'] : Array Value)
  have hEND : PickR B m2 L s wq j W (.returned (.tuple #[.agg (#[.string ws, .int .i64 wk, .int .i64 ep, .int .i64 kd, .slice (some ⟨q', 0, none⟩) n c'] : Array Value), .int .i64 0])) ((w5.setCells w3.heap.size 2 [.int .i64 ep, .int .i64 kd, .slice (some ⟨q', 0, none⟩) n c']).setRow W.heap.size (#[.string ws, .int .i64 wk, .int .i64 ep, .int .i64 kd, .slice (some ⟨q', 0, none⟩) n c'] : Array Value)) := by
    have hb7 := below_thru HB5.out hb6
    have hR5 := HR3.out.keep hb7
    have lq : q' ≠ w3.heap.size ∧ q' ≠ W.heap.size := by
      obtain ⟨h5, h6⟩ := hbd.lt q' rfl
      have := HB5.out.size
      have h8 := (Array.getElem?_eq_some_iff.1 HE85.out).1
      omega
    have hch7 : Chg [w3.heap.size, W.heap.size] w5 ((w5.setCells w3.heap.size 2 [.int .i64 ep, .int .i64 kd, .slice (some ⟨q', 0, none⟩) n c']).setRow W.heap.size (#[.string ws, .int .i64 wk, .int .i64 ep, .int .i64 kd, .slice (some ⟨q', 0, none⟩) n c'] : Array Value)) := (hch6.mono (by simp)).setRow (.inl (by simp)) _
    refine ⟨_, hR5.apartStay hch7 (fun i hi hm => ?_), ⟨?_, HK3.out.own⟩, .inr ⟨j, ⟨ws, wk, ⟨ep, kd, q, n, c, l⟩⟩, q', c', rfl, HJ.out, rfl, ?_, HW3.out⟩⟩
    · have := HDIS.out i hi
      simp at hm
      omega
    · exact chg_via (HK3.out.chg.keep hb7) (fun i hi => by simp at hi; omega) hch7
    · exact ⟨⟨_, own_ext hbd (fun g hg => by
        obtain rfl : q' = g := by simpa [Value.ownBlock] using hg
        exact hch7.block q' (hbd.lt q' rfl).2 (by simp; omega))⟩, HBL.out⟩
  have HEND := Lib.hid hEND
  have HE := Lib.hid e68
  clear hEND e68 hch6 hbd hb6 e86 e66 hown
  go_wp2_with (first | (refine wpList_store_mid rfl 33 (.tmp 33) (.tmp 32) rfl w3.heap.size 2 #[.int .i64 ep, .int .i64 kd, .slice (some ⟨q', 0, none⟩) n c'] rfl rfl hthere infoE honee ?_) | (refine wpList_load_row rfl 38 (.tmp 8) rfl w3.heap.size rfl 38 (#[.string ws, .int .i64 wk, .int .i64 ep, .int .i64 kd, .slice (some ⟨q', 0, none⟩) n c'] : Array Value) (0, 0) _ e87 Try.underlying38 rfl infoW5 ?_) | (refine wpList_store_row rfl 38 (.tmp 6) (.tmp 34) rfl W.heap.size (#[.string ws, .int .i64 wk, .int .i64 ep, .int .i64 kd, .slice (some ⟨q', 0, none⟩) n c'] : Array Value) rfl rfl 38 #[.string { data := #[] }, .int .i64 0, .int .i64 0, .int .i64 0, .slice none 0 0] e67 infoW5 rfl honev ?_))
  refine ret_cell_tmp rfl W.heap.size _ _ _ _ (.int .i64 0) rfl rfl HE.out Try.underlying38 rfl infoW5 rfl ?_
  exact HEND.out
end Go.Proofs.Ytiebggfpjkhlaaa
