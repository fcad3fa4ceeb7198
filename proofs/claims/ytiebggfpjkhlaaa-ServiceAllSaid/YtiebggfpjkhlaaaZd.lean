/- The parts of service.Send: an entry, its copy, who waits. No condition. -/
import Derived.Test.YtiebggfpjkhlaaaZc
namespace Go.Proofs.Ytiebggfpjkhlaaa
open Go Go.RowKit
open Go.ChangeMaps (setBlock heap_setBlock_same heap_setBlock_other)
attribute [local go_sem] map_neq_some map_neq_nil
theorem wpList_want {P : Program} {ops : Array Oper} {Q : Exit → Act → World → Prop} {a : Act} {w : World} {rest : List Oper} {o : Oper} (hw : Region.wanted o (yielded ops a.tmps) = true)
    (h : ∀ K : Act → World → Prop, (∀ a w, wpList P ops Q rest a w → K a w) → o.wp P a w K Q) : wpList P ops Q (o :: rest) a w :=
  wpList_step fun K hK => by simp only [hw, if_true]; exact h K hK
theorem wpList_lookW {P : Program} {ops : Array Oper} {Q : Exit → Act → World → Prop} {a : Act} {w : World} {rest : List Oper} {o : Oper} (hg : Region.wanted o (yielded ops a.tmps) = true) (T k e : TypeId) (m x : Operand) (ho : o.op = .lookup T m x false) (ht : P.underlying T = some (.map k e)) (hk : P.underlying k = some .string) (r : Nat) (s : ByteArray) (hm : a.eval m = .map (some r)) (hs : a.eval x = .string s) (es : Array MapEntry) (clock : Nat)
    (hr : w.heap[r]? = some (.map es clock)) (z : Value) (hz : ∀ w, (zeroValue e).run P w = .ok z w) (y : Option (Nat × Value)) (hy : Instr.findNow .string (.string s) es.toList 0 = some y) (v : Value) (hv : lookV z y = v) (h : wpList P ops Q rest (a.put o.dst v) w) : wpList P ops Q (o :: rest) a w :=
  wpList_want hg fun _ hK => wp_look T k e m x ho ht hk r s hm hs es clock hr z hz y hy v hv (hK _ _ h)
theorem infoU8 : (Try.prog.info? 5).map (fun i => (i.zero, i.size, i.bytes)) = some (some (.int .u8 0), 1, 1) := by kernel_rfl
theorem own_slice {w : World} {base e n : Nat} {v : Value} {xs : List Value} (h : w.ownsRow base e 1 v n xs) (hn : 0 < n) :
    ∃ g cap, v = .slice (some ⟨g, 0, none⟩) n cap ∧ n ≤ cap ∧ cap ≤ maxLen ∧ base ≤ g ∧ g < w.heap.size := by
  rcases h.2 with ⟨_, h0⟩ | ⟨g, cap, cur, rfl, hg, hh, hc1, hc2, hc3, hc4⟩
  · omega
  · exact ⟨g, cap, rfl, hc1, hc2, hg, (Array.getElem?_eq_some_iff.1 hh).1⟩
theorem Bs.of_ownG {w : World} {base e n g cap : Nat} {l : List Int} (h : w.ownsRow base e 1 (.slice (some ⟨g, 0, none⟩) n cap) n (l.map (Value.int .u8))) (hl : ∀ x ∈ l, 0 ≤ x ∧ x < 256) : Bs w (some ⟨g, 0, none⟩) n l := by
  have hlen : l.length = n := by have := h.1; simpa using this
  refine ⟨hlen, hl, fun _ => ⟨g, 0, rfl, fun i hi => ?_⟩⟩
  rw [Nat.zero_add, h.cellAt i (by omega)]
  simp [List.getD, show i < l.length by omega]
set_option maxRecDepth 100000 in
set_option maxHeartbeats 1000000 in
theorem clone_any (p : Option Addr) (n cap : Nat) (l : List Int) (w : World) (hn : 0 < n) (hn2 : n ≤ 140737488351232) (hr : Bs w p n l) :
    Calls Try.prog 28 #[.slice p n cap] w fun e w' => ∃ g cap', e = .returned (.slice (some ⟨g, 0, none⟩) n cap') ∧ n ≤ cap' ∧ cap' ≤ maxLen ∧ w.heap.size ≤ g ∧ w'.ownsRow w.heap.size 5 1 (.slice (some ⟨g, 0, none⟩) n cap') n (l.map (Value.int .u8)) ∧ Below w.heap.size w w' := by
  obtain ⟨i0, hi0, hz0, hz1, hz2⟩ := info_of infoU8
  obtain ⟨B, off, rfl, _⟩ := hr.2.2 hn
  have hB : Bs (w.alloc (.cells #[] 5)) (some ⟨B, off, none⟩) n l := hr.keep ((Below.refl _ _).alloc (Nat.le_refl _) _)
  have hnil : ∀ w, (binOp .eql 29 (.slice (some ⟨B, off, none⟩) n cap) (.slice none 0 0)).run Try.prog w = .ok (.bool false) w := fun w => Lib.run_eql_slice_nil w _ 5 _ _ _ _ _ Try.underlying29
  go_enter Try.func28, Try.ntmps28
  go_wp2_with (at_builtin; refine wpList_append_bs _ rfl (.tmp 5) (.tmp 6) 29 rfl w.heap.size 5 i0 (.int .u8 0) 1 Try.underlying29 hi0 hz0 hz1 hz2 rfl _ 0 [] rfl (World.ownsRow_made w #[] 0 (Nat.le_refl _) (by unfold maxLen; omega) rfl) (some ⟨B, off, none⟩) n cap l rfl hB (by unfold maxLen; omega) (by omega) (by simp) ?_; intro v1 w1 hown1 hg1 hat1; have hb1 := ((Below.refl w.heap.size w).alloc (Nat.le_refl _) (.cells #[] 5)).grown hg1 (by simp) (fun k hk => by simp [Value.ownBlock, Act.eval] at hk; omega); rw [Nat.zero_add, List.nil_append] at hown1; obtain ⟨g, c1, rfl, hc1, hc2, hgg, hlt⟩ := own_slice hown1 hn; clear hg1 hat1)
  go_ret
  exact ⟨g, c1, rfl, hc1, hc2, hgg, hown1, hb1⟩

theorem bs_one {w : World} {g : Nat} {x : Int} {t : TypeId} (h : w.heap[g]? = some (.cells #[.int .u8 x] t (0, 0))) (hx : 0 ≤ x ∧ x < 256) : Bs w (some ⟨g, 0, none⟩) 1 [x] :=
  ⟨rfl, by simpa using hx, fun _ => ⟨g, 0, rfl, fun i hi => by
    obtain rfl : i = 0 := by omega
    exact (cell_of_row w g 0 _ _ _ h).trans rfl⟩⟩
theorem clone_one (g c : Nat) (x : Int) (w : World) (t : TypeId) (hx : 0 ≤ x ∧ x < 256) (h : w.heap[g]? = some (.cells #[.int .u8 x] t (0, 0))) :
    Calls Try.prog 28 #[.slice (some ⟨g, 0, none⟩) 1 c] w fun e w' => ∃ g' cap, e = .returned (.slice (some ⟨g', 0, none⟩) 1 cap) ∧ Below w.heap.size w w' :=
  (clone_any _ 1 c [x] w (by omega) (by omega) (bs_one h hx)).mono fun _ _ ⟨g', cap, h1, _, _, _, _, hb⟩ => ⟨g', cap, h1, hb⟩
/-- An entry of the epoch 0, a commit of one byte. -/
def entry0 (g : Nat) : Value := .agg #[.int .i64 0, .int .i64 3, .slice (some ⟨g, 0, none⟩) 1 1]
theorem infoE : (Try.prog.info? 33).map (·.size) = some 3 := by kernel_rfl
set_option maxRecDepth 100000 in
theorem commit_any (x : Int) (w : World) : Calls Try.prog 24 #[.int .i64 0, .int .u8 x] w fun e w' => ∃ g, e = .returned (entry0 g) ∧ w'.heap[g]? = some (.cells #[.int .u8 x] 5 (0, 0)) ∧ Below w.heap.size w w' := by
  have h0 : Kq w [] w := ⟨by simp, Below.refl _ _⟩
  have h2 := (h0.new rfl (.cells #[.int .i64 0, .int .i64 3, .slice (some ⟨w.heap.size + 1, 0, none⟩) 1 1] 33)).new (n := w.heap.size + 1) (by simp) (.cells #[.int .u8 x] 5)
  have e1 := h2.at_ (g := w.heap.size) (ob := .cells #[.int .i64 0, .int .i64 3, .slice (some ⟨w.heap.size + 1, 0, none⟩) 1 1] 33 (0, 0)) (by simp)
  have e2 := h2.at_ (g := w.heap.size + 1) (ob := .cells #[.int .u8 x] 5 (0, 0)) (by simp)
  have hb := h2.2
  clear h0 h2
  go_enter Try.func24, Try.ntmps24
  go_wp2
  refine ret_cell rfl w.heap.size _ _ _ _ rfl e1 Try.underlying33 rfl infoE rfl ?_
  exact ⟨_, rfl, e2, hb⟩
theorem sized_one (g c : Nat) (w : World) : Calls Try.prog 25 #[.slice (some ⟨g, 0, none⟩) 1 c] w fun e w' => e = .returned (.bool true) ∧ w' = w := by
  go_enter Try.func25, Try.ntmps25
  go_wp2
  go_ret
  exact ⟨rfl, rfl⟩
theorem zero_r (w : World) : (zeroValue 72).run Try.prog w = .ok (.pointer none) w := by kernel_rfl
set_option maxRecDepth 100000 in
theorem waiting_none (b m0 m1 m2 : Nat) (w W : World) (hst : Kq w [(b, svc m0 m1 m2), (m2, .map #[] 0)] W) :
    Calls Try.prog 18 #[.pointer (some ⟨b, 0, none⟩), .string sA] W fun e W' => e = .returned (.int .i64 0) ∧ Below W.heap.size W W' := by
  have hst1 := hst.new rfl (.cells #[.string sA] 9)
  have hb1 := hst1.at_ (g := b) (ob := svc m0 m1 m2) (by simp)
  have hg1 := hst1.at_ (g := W.heap.size) (ob := .cells #[.string sA] 9 (0, 0)) (by simp)
  have cb1 : (W.alloc (.cells #[.string sA] 9)).cell? ⟨b, 2, none⟩ = some (.map (some m2)) := (cell_of_row _ b 2 _ _ _ hb1).trans rfl
  have hr1 := hst1.at_ (g := m2) (ob := .map #[] 0) (by simp)
  have hmay := may_one (c := 1) hb1 hg1 szA
  have hbel : Below W.heap.size W (W.alloc (.cells #[.string sA] 9)) := (Below.refl _ _).alloc (Nat.le_refl _) _
  clear hst hst1 hb1 hg1
  go_enter Try.func18, Try.ntmps18
  go_wp2_with fail
  refine hmay.mono ?_
  rintro e w' ⟨rfl, rfl⟩
  go_wp2_with (first | (at_lookup; refine wpList_lookW rfl 55 9 72 _ _ rfl Try.underlying55 Try.underlying9 m2 sA rfl rfl #[] 0 hr1 (.pointer none) zero_r none rfl (.pointer none) rfl ?_))
  go_ret
  exact ⟨rfl, hbel⟩
/-- A row's block. -/
def rowB (l : Value) : Obj := .cells #[l] 88 (0, 0)
set_option maxRecDepth 100000 in
theorem waiting_one (b m0 m1 m2 br gw cw : Nat) (w W : World) (hst : Kq w [(b, svc m0 m1 m2), (m2, one sA br), (br, rowB (.slice (some ⟨gw, 0, none⟩) 1 cw))] W) :
    Calls Try.prog 18 #[.pointer (some ⟨b, 0, none⟩), .string sA] W fun e W' => e = .returned (.int .i64 1) ∧ Below W.heap.size W W' := by
  have hst1 := hst.new rfl (.cells #[.string sA] 9)
  have hb1 := hst1.at_ (g := b) (ob := svc m0 m1 m2) (by simp)
  have hg1 := hst1.at_ (g := W.heap.size) (ob := .cells #[.string sA] 9 (0, 0)) (by simp)
  have cb1 : (W.alloc (.cells #[.string sA] 9)).cell? ⟨b, 2, none⟩ = some (.map (some m2)) := (cell_of_row _ b 2 _ _ _ hb1).trans rfl
  have hr1 := hst1.at_ (g := m2) (ob := one sA br) (by simp)
  have hq := hst1.at_ (g := br) (ob := rowB (.slice (some ⟨gw, 0, none⟩) 1 cw)) (by simp)
  have cq : (W.alloc (.cells #[.string sA] 9)).cell? ⟨br, 0, none⟩ = some (.slice (some ⟨gw, 0, none⟩) 1 cw) := (cell_of_row _ br 0 _ _ _ hq).trans rfl
  have hmay := may_one (c := 1) hb1 hg1 szA
  have hbel : Below W.heap.size W (W.alloc (.cells #[.string sA] 9)) := (Below.refl _ _).alloc (Nat.le_refl _) _
  clear hst hst1 hb1 hg1 hq
  go_enter Try.func18, Try.ntmps18
  go_wp2_with fail
  refine hmay.mono ?_
  rintro e w' ⟨rfl, rfl⟩
  go_wp2_with (first | (at_lookup; refine wpList_lookW rfl 55 9 72 _ _ rfl Try.underlying55 Try.underlying9 m2 sA rfl rfl _ 1 hr1 (.pointer none) zero_r _ (look_one sA br rfl) (.pointer (some ⟨br, 0, none⟩)) rfl ?_))
  go_ret
  exact ⟨rfl, hbel⟩
/-- Is the row of one full? It is not. -/
theorem pred_wait (b m0 m1 m2 p : Nat) (w W : World) (hst : Kq w [(b, svc m0 m1 m2), (m2, .map #[] 0)] W) (hp : W.cell? ⟨p, 0, none⟩ = some (.pointer (some ⟨b, 0, none⟩))) :
    Calls Try.prog 27 #[.string sA, .pointer (some ⟨p, 0, none⟩)] W fun e W' => e = .returned (.bool false) ∧ Below W.heap.size W W' := by
  go_enter Try.func27, Try.ntmps27
  go_wp2_with fail
  refine (waiting_none b m0 m1 m2 w _ hst).mono ?_
  rintro e w' ⟨rfl, hb⟩
  go_wp2_with fail
  go_ret
  exact ⟨rfl, hb⟩
set_option maxRecDepth 100000 in
set_option maxHeartbeats 4000000 in
theorem idxf_wait (b m0 m1 m2 p g c : Nat) (w W : World) (hst : Kq w [(b, svc m0 m1 m2), (m2, .map #[] 0)] W) (hp : W.cell? ⟨p, 0, none⟩ = some (.pointer (some ⟨b, 0, none⟩))) (hc : W.cell? ⟨g, 0, none⟩ = some (.string sA)) :
    Calls Try.prog 40 #[.slice (some ⟨g, 0, none⟩) 1 c, .func (.func 27) #[] #[.pointer (some ⟨p, 0, none⟩)]] W fun e W' => e = .returned (.int .i64 (-1)) ∧ Below W.heap.size W W' := by
  have H0 := Lib.hid hst
  have hpr := pred_wait b m0 m1 m2 p w W hst hp
  clear hst
  go_enter Try.func40, Try.ntmps40
  go_wp2_with fail
  go_loopw [8] (fun i wr => (i = .int .i64 0 ∧ wr = W) ∨ (i = .int .i64 1 ∧ Below W.heap.size W wr)) (fun i _ => (1 - intOf i).toNat)
  case atStart => exact .inl ⟨rfl, rfl⟩
  case round =>
    rcases hrel with ⟨rfl, rfl⟩ | ⟨rfl, hb⟩
    · go_wp2_with fail
      refine hpr.mono ?_
      rintro e w' ⟨rfl, hb⟩
      have HB := Lib.hid hb
      clear hb
      go_wp2_with fail
      go_roundw
      case rel => exact .inr ⟨rfl, HB.out⟩
      case measure => simp [intOf]
    · have HB := Lib.hid hb
      clear hb
      go_wp2_with fail
      go_ret
      exact ⟨rfl, HB.out⟩
set_option maxRecDepth 100000 in
theorem cont_wait (b m0 m1 m2 p g c : Nat) (w W : World) (hst : Kq w [(b, svc m0 m1 m2), (m2, .map #[] 0)] W) (hp : W.cell? ⟨p, 0, none⟩ = some (.pointer (some ⟨b, 0, none⟩))) (hc : W.cell? ⟨g, 0, none⟩ = some (.string sA)) :
    Calls Try.prog 26 #[.slice (some ⟨g, 0, none⟩) 1 c, .func (.func 27) #[] #[.pointer (some ⟨p, 0, none⟩)]] W fun e W' => e = .returned (.bool false) ∧ Below W.heap.size W W' := by
  have h := idxf_wait b m0 m1 m2 p g c w W hst hp hc
  clear hst hp hc
  go_enter Try.func26, Try.ntmps26
  go_wp2_with fail
  refine h.mono ?_
  rintro e w' ⟨rfl, hb⟩
  go_wp2_with fail
  go_ret
  exact ⟨rfl, hb⟩
end Go.Proofs.Ytiebggfpjkhlaaa
