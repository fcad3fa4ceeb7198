/- service.of and Waiting at any service. No condition. -/
import Derived.Test.YtiebggfpjkhlaaaYb
namespace Go.Proofs.Ytiebggfpjkhlaaa
open Go Go.RowKit
open Go.ChangeMaps (setBlock heap_setBlock_same heap_setBlock_other)
set_option linter.unusedSimpArgs false
attribute [local go_sem] map_neq_some map_neq_nil
theorem self_eq (s : ByteArray) : (s == s) = true := by
  cases s with
  | mk d =>
    show (d == d) = true
    simp
/-- A name's block. -/
def look (E : List (ByteArray × Nat)) (s : ByteArray) : Option Nat := (E.find? fun p => s == p.1).map (·.2)
def ptrV : Option Nat → Value
  | some p => .pointer (some ⟨p, 0, none⟩)
  | none => .pointer none
/-- The entries lead from names to blocks. -/
def MapIs (es : Array MapEntry) (E : List (ByteArray × Nat)) : Prop := es.toList.map (fun e => (e.key, e.val)) = E.map fun p => (Value.string p.1, Value.pointer (some ⟨p.2, 0, none⟩))
theorem find_names (s : ByteArray) : ∀ (l : List MapEntry) (E : List (ByteArray × Nat)) (i : Nat), l.map (fun e => (e.key, e.val)) = E.map (fun p => (Value.string p.1, Value.pointer (some ⟨p.2, 0, none⟩))) →
    ∃ y, Instr.findNow .string (.string s) l i = some y ∧ lookV (.pointer none) y = ptrV (look E s) ∧ (look E s = none → y = none)
  | [], [], _, _ => ⟨none, rfl, rfl, fun _ => rfl⟩
  | [], _ :: _, _, h => by cases h
  | _ :: _, [], _, h => by cases h
  | e :: l, p :: E, i, h => by
    simp only [List.map_cons, List.cons.injEq, Prod.mk.injEq] at h
    obtain ⟨⟨h1, h2⟩, h3⟩ := h
    cases hs : (s == p.1) with
    | true =>
      refine ⟨some (i, e.val), ?_, ?_, ?_⟩
      · simp only [Instr.findNow, h1, Instr.sameNow, hs]
      · simp [look, List.find?, hs, lookV, ptrV, h2]
      · intro hn
        simp [look, List.find?, hs] at hn
    | false =>
      obtain ⟨y, g1, g2, g3⟩ := find_names s l E (i + 1) h3
      refine ⟨y, ?_, ?_, ?_⟩
      · simp only [Instr.findNow, h1, Instr.sameNow, hs]
        exact g1
      · simpa [look, List.find?, hs] using g2
      · simpa [look, List.find?, hs] using g3
theorem MapIs.push {es : Array MapEntry} {E : List (ByteArray × Nat)} (h : MapIs es E) (s : ByteArray) (p c : Nat) : MapIs (es.push { key := .string s, val := .pointer (some ⟨p, 0, none⟩), born := c }) (E ++ [(s, p)]) := by
  unfold MapIs at *
  simp [h]
theorem look_push (E : List (ByteArray × Nat)) (s : ByteArray) (p : Nat) (h : look E s = none) : look (E ++ [(s, p)]) s = some p := by
  unfold look at *
  have h1 : E.find? (fun q => s == q.1) = none := by simpa using h
  rw [List.find?_append, h1]
  simp [self_eq s]
/-- What 'of' leaves: the row that there is, or a new one. -/
def OfR (ROW : Value → Obj) (m : Nat) (E : List (ByteArray × Nat)) (s : ByteArray) (W : World) (e : Ending) (W' : World) : Prop :=
  (∃ p, look E s = some p ∧ e = .returned (.pointer (some ⟨p, 0, none⟩)) ∧ W' = W) ∨
  (look E s = none ∧ e = .returned (.pointer (some ⟨W.heap.size, 0, none⟩)) ∧ W'.heap[W.heap.size]? = some (ROW (.slice none 0 0)) ∧ (∃ es' c', W'.heap[m]? = some (.map es' c') ∧ MapIs es' (E ++ [(s, W.heap.size)])) ∧ Chg [m] W W')
theorem Chg.setMap {ws : List Nat} {W W1 : World} (h : Chg ws W W1) {g : Nat} {es : Array MapEntry} {clock : Nat} (hc : W1.heap[g]? = some (.map es clock)) (hg : g ∈ ws) (ob : Obj) : Chg ws W (setBlock W1 g ob) :=
  ⟨h.os, h.tape, h.output, by simpa [setBlock] using h.size, fun i hi hn => by
    rw [heap_setBlock_other hc ob (by rintro rfl; exact hn hg)]
    exact h.block i hi hn⟩
set_option maxRecDepth 100000 in
set_option maxHeartbeats 4000000 in
theorem ofW_any (m clock : Nat) (es : Array MapEntry) (E : List (ByteArray × Nat)) (s : ByteArray) (W : World) (hm : W.heap[m]? = some (.map es clock)) (hE : MapIs es E) :
    Calls Try.prog 29 #[.map (some m), .string s] W (OfR rowB m E s W) := by
  obtain ⟨y, hy, hv, hno⟩ := find_names s es.toList E 0 hE
  cases hl : look E s with
  | some p =>
    rw [hl] at hv
    have hv : lookV (.pointer none) y = .pointer (some ⟨p, 0, none⟩) := hv
    have HL := Lib.hid hl
    have HV := Lib.hid hv
    have HY := Lib.hid hy
    clear hl hv hno hy
    go_enter Try.func29, Try.ntmps29
    go_wp2_with (first | (at_lookup; refine wpList_lookW rfl 55 9 72 _ _ rfl Try.underlying55 Try.underlying9 m s rfl rfl es clock hm (.pointer none) zero_r y HY.out _ HV.out ?_))
    go_ret
    exact .inl ⟨p, HL.out, rfl, rfl⟩
  | none =>
    obtain rfl := hno hl
    have h1 : (W.alloc (.cells #[.slice none 0 0] 88)).heap[m]? = some (.map es clock) := blk_stay ((Below.refl _ _).alloc (Nat.le_refl _) _) hm
    have hlt : m < W.heap.size := (Array.getElem?_eq_some_iff.1 hm).1
    have h2 := heap_setBlock_same h1 (.map (es.push { key := .string s, val := .pointer (some ⟨W.heap.size, 0, none⟩), born := clock }) (clock + 1))
    have h3 : (setBlock (W.alloc (.cells #[.slice none 0 0] 88)) m (.map (es.push { key := .string s, val := .pointer (some ⟨W.heap.size, 0, none⟩), born := clock }) (clock + 1))).heap[W.heap.size]? = some (rowB (.slice none 0 0)) := by
      rw [heap_setBlock_other h1 _ (by omega)]
      exact alloc_at W _
    have hE2 := hE.push s W.heap.size clock
    obtain ⟨y2, hy2, hv2, _⟩ := find_names s _ _ 0 hE2
    rw [look_push E s _ hl] at hv2
    have hv2 : lookV (.pointer none) y2 = .pointer (some ⟨W.heap.size, 0, none⟩) := hv2
    have hend : OfR rowB m E s W (.returned (.pointer (some ⟨W.heap.size, 0, none⟩))) (setBlock (W.alloc (.cells #[.slice none 0 0] 88)) m (.map (es.push { key := .string s, val := .pointer (some ⟨W.heap.size, 0, none⟩), born := clock }) (clock + 1))) :=
      .inr ⟨hl, rfl, h3, ⟨_, _, h2, hE2⟩, (((Chg.refl [m] W).alloc _).setMap h1 (by simp) _)⟩
    have HEND := Lib.hid hend
    have HY := Lib.hid hy
    have HY2 := Lib.hid hy2
    have HV2 := Lib.hid hv2
    clear hv hl hno hy hy2 hv2 hend hE hE2 h3 hlt
    go_enter Try.func29, Try.ntmps29
    go_wp2_with (first | (at_lookup; refine wpList_lookW rfl 55 9 72 _ _ rfl Try.underlying55 Try.underlying9 m s rfl rfl es clock hm (.pointer none) zero_r none HY.out (.pointer none) rfl ?_) | (at_lookup; refine wpList_lookW rfl 55 9 72 _ _ rfl Try.underlying55 Try.underlying9 m s rfl rfl _ _ h2 (.pointer none) zero_r y2 HY2.out _ HV2.out ?_) | (at_mapUpdate; refine wpList_mapNew rfl 55 9 72 _ _ _ rfl Try.underlying55 Try.underlying9 m s (.pointer (some ⟨W.heap.size, 0, none⟩)) rfl rfl rfl es clock h1 HY.out ?_))
    go_ret
    exact HEND.out
theorem zero_p (w : World) : (zeroValue 75).run Try.prog w = .ok (.pointer none) w := by kernel_rfl
set_option maxRecDepth 100000 in
set_option maxHeartbeats 4000000 in
theorem ofP_any (m clock : Nat) (es : Array MapEntry) (E : List (ByteArray × Nat)) (s : ByteArray) (W : World) (hm : W.heap[m]? = some (.map es clock)) (hE : MapIs es E) :
    Calls Try.prog 31 #[.map (some m), .string s] W (OfR rowP m E s W) := by
  obtain ⟨y, hy, hv, hno⟩ := find_names s es.toList E 0 hE
  cases hl : look E s with
  | some p =>
    rw [hl] at hv
    have hv : lookV (.pointer none) y = .pointer (some ⟨p, 0, none⟩) := hv
    have HL := Lib.hid hl
    have HV := Lib.hid hv
    have HY := Lib.hid hy
    clear hl hv hno hy
    go_enter Try.func31, Try.ntmps31
    go_wp2_with (first | (at_lookup; refine wpList_lookW rfl 53 9 75 _ _ rfl Try.underlying53 Try.underlying9 m s rfl rfl es clock hm (.pointer none) zero_p y HY.out _ HV.out ?_))
    go_ret
    exact .inl ⟨p, HL.out, rfl, rfl⟩
  | none =>
    obtain rfl := hno hl
    have h1 : (W.alloc (.cells #[.slice none 0 0] 79)).heap[m]? = some (.map es clock) := blk_stay ((Below.refl _ _).alloc (Nat.le_refl _) _) hm
    have hlt : m < W.heap.size := (Array.getElem?_eq_some_iff.1 hm).1
    have h2 := heap_setBlock_same h1 (.map (es.push { key := .string s, val := .pointer (some ⟨W.heap.size, 0, none⟩), born := clock }) (clock + 1))
    have h3 : (setBlock (W.alloc (.cells #[.slice none 0 0] 79)) m (.map (es.push { key := .string s, val := .pointer (some ⟨W.heap.size, 0, none⟩), born := clock }) (clock + 1))).heap[W.heap.size]? = some (rowP (.slice none 0 0)) := by
      rw [heap_setBlock_other h1 _ (by omega)]
      exact alloc_at W _
    have hE2 := hE.push s W.heap.size clock
    obtain ⟨y2, hy2, hv2, _⟩ := find_names s _ _ 0 hE2
    rw [look_push E s _ hl] at hv2
    have hv2 : lookV (.pointer none) y2 = .pointer (some ⟨W.heap.size, 0, none⟩) := hv2
    have hend : OfR rowP m E s W (.returned (.pointer (some ⟨W.heap.size, 0, none⟩))) (setBlock (W.alloc (.cells #[.slice none 0 0] 79)) m (.map (es.push { key := .string s, val := .pointer (some ⟨W.heap.size, 0, none⟩), born := clock }) (clock + 1))) :=
      .inr ⟨hl, rfl, h3, ⟨_, _, h2, hE2⟩, (((Chg.refl [m] W).alloc _).setMap h1 (by simp) _)⟩
    have HEND := Lib.hid hend
    have HY := Lib.hid hy
    have HY2 := Lib.hid hy2
    have HV2 := Lib.hid hv2
    clear hv hl hno hy hy2 hv2 hend hE hE2 h3 hlt
    go_enter Try.func31, Try.ntmps31
    go_wp2_with (first | (at_lookup; refine wpList_lookW rfl 53 9 75 _ _ rfl Try.underlying53 Try.underlying9 m s rfl rfl es clock hm (.pointer none) zero_p none HY.out (.pointer none) rfl ?_) | (at_lookup; refine wpList_lookW rfl 53 9 75 _ _ rfl Try.underlying53 Try.underlying9 m s rfl rfl _ _ h2 (.pointer none) zero_p y2 HY2.out _ HV2.out ?_) | (at_mapUpdate; refine wpList_mapNew rfl 53 9 75 _ _ _ rfl Try.underlying53 Try.underlying9 m s (.pointer (some ⟨W.heap.size, 0, none⟩)) rfl rfl rfl es clock h1 HY.out ?_))
    go_ret
    exact HEND.out
theorem own_any {W : World} {B e size n : Nat} {v : Value} {xs : List Value} (h : W.ownsRow B e size v n xs) : ∃ p cap, v = .slice p n cap := by
  rcases h.2 with ⟨h1, h2⟩ | ⟨g, cap, _, rfl, _⟩
  · subst h2
    exact ⟨_, _, h1⟩
  · exact ⟨_, _, rfl⟩
set_option maxRecDepth 100000 in
set_option maxHeartbeats 4000000 in
theorem waiting_any (b m0 m1 m2 clock r n : Nat) (es : Array MapEntry) (E : List (ByteArray × Nat)) (s : ByteArray) (hs : 1 ≤ s.size ∧ s.size ≤ 255) (W : World) (hb : W.heap[b]? = some (svc m0 m1 m2)) (hm : W.heap[m2]? = some (.map es clock)) (hE : MapIs es E)
    (hl : look E s = some r) (B : Nat) (v : Value) (xs : List Value) (hr : W.heap[r]? = some (rowB v)) (hown : W.ownsRow B 38 5 v n xs) :
    Calls Try.prog 18 #[.pointer (some ⟨b, 0, none⟩), .string s] W fun e W' => e = .returned (.int .i64 n) ∧ Below W.heap.size W W' := by
  obtain ⟨p, cap, rfl⟩ := own_any hown
  obtain ⟨y, hy, hv, _⟩ := find_names s es.toList E 0 hE
  rw [hl] at hv
  have hv : lookV (.pointer none) y = .pointer (some ⟨r, 0, none⟩) := hv
  have hbel : Below W.heap.size W (W.alloc (.cells #[.string s] 9)) := (Below.refl _ _).alloc (Nat.le_refl _) _
  have hb1 := blk_stay hbel hb
  have hm1 := blk_stay hbel hm
  have hr1 := blk_stay hbel hr
  have cb1 : (W.alloc (.cells #[.string s] 9)).cell? ⟨b, 2, none⟩ = some (.map (some m2)) := (cell_of_row _ b 2 _ _ _ hb1).trans rfl
  have cq : (W.alloc (.cells #[.string s] 9)).cell? ⟨r, 0, none⟩ = some (.slice p n cap) := (cell_of_row _ r 0 _ _ _ hr1).trans rfl
  have hmay := may_one (c := 1) hb1 (alloc_at W (.cells #[.string s] 9)) hs
  have HV := Lib.hid hv
  have HY := Lib.hid hy
  clear hown hv hy hl hE hb hm hr hb1 hr1
  go_enter Try.func18, Try.ntmps18
  go_wp2_with fail
  refine hmay.mono ?_
  rintro e w' ⟨rfl, rfl⟩
  go_wp2_with (first | (at_lookup; refine wpList_lookW rfl 55 9 72 _ _ rfl Try.underlying55 Try.underlying9 m2 s rfl rfl es clock hm1 (.pointer none) zero_r y HY.out _ HV.out ?_))
  go_ret
  exact ⟨rfl, hbel⟩
end Go.Proofs.Ytiebggfpjkhlaaa
