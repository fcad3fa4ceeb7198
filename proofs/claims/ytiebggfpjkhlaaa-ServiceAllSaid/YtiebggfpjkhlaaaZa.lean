/- Known blocks; maps with string keys, appends to nil, at the operation. No condition. -/
import Derived.Test.YtiebggfpjkhlaaaRe
import Derived.Test.YtiebggfpjkhlaaaSa
import Derived.Maps.Own
import Derived.Maps.OwnOps
namespace Go.Proofs.Ytiebggfpjkhlaaa
open Go Go.RowKit
open Go.ChangeMaps (setBlock heap_setBlock_same heap_setBlock_other)
/-- A halt of the walk. -/
def Stp (p : Prop) : Prop := p
theorem Stp.go {p : Prop} (h : Stp p) : p := h
theorem Stp.mk {p : Prop} (h : p) : Stp p := h
/-- Known blocks of any kind. -/
def Kq (w : World) (bl : List (Nat × Obj)) (w' : World) : Prop := (∀ p ∈ bl, w'.heap[p.1]? = some p.2) ∧ Below w.heap.size w w'
theorem blk_stay {w w' : World} (h : Below w.heap.size w w') {g : Nat} {o : Obj} (hg : w.heap[g]? = some o) : w'.heap[g]? = some o :=
  (h.block g (Array.getElem?_eq_some_iff.1 hg).1).trans hg
theorem below_thru {w w1 w2 : World} (h : Below w.heap.size w w1) (k : Below w1.heap.size w1 w2) : Below w.heap.size w w2 :=
  ⟨k.os.trans h.os, k.tape.trans h.tape, k.output.trans h.output, Nat.le_trans h.size k.size, fun i hi => (k.block i (Nat.lt_of_lt_of_le hi h.size)).trans (h.block i hi)⟩
theorem alloc_at (w : World) (o : Obj) : (w.alloc o).heap[w.heap.size]? = some o := by
  show (w.heap.push o)[w.heap.size]? = some o
  simp
namespace Kq
variable {w w1 w2 : World} {bl : List (Nat × Obj)}
theorem at_ (h : Kq w bl w1) {g : Nat} {ob : Obj} (hm : (g, ob) ∈ bl) : w1.heap[g]? = some ob := h.1 _ hm
theorem size (h : Kq w bl w1) : w.heap.size ≤ w1.heap.size := h.2.size
theorem lt (h : Kq w bl w1) {p : Nat × Obj} (hm : p ∈ bl) : p.1 < w1.heap.size := (Array.getElem?_eq_some_iff.1 (h.1 _ hm)).1
theorem keep (h : Kq w bl w1) (hb : Below w1.heap.size w1 w2) : Kq w bl w2 := ⟨fun p hp => blk_stay hb (h.1 p hp), below_thru h.2 hb⟩
theorem alloc (h : Kq w bl w1) (ob : Obj) : Kq w bl (w1.alloc ob) := h.keep ((Below.refl _ _).alloc (Nat.le_refl _) _)
theorem drew (h : Kq w bl w1) : Kq w bl w1.drew := ⟨h.1, h.2.drew⟩
theorem add (h : Kq w bl w1) {g : Nat} {ob : Obj} (hg : w1.heap[g]? = some ob) : Kq w ((g, ob) :: bl) w1 :=
  ⟨fun p hp => by
    rcases List.mem_cons.1 hp with rfl | hp
    · exact hg
    · exact h.1 p hp, h.2⟩
theorem new (h : Kq w bl w1) {n : Nat} (hn : w1.heap.size = n) (ob : Obj) : Kq w ((n, ob) :: bl) (w1.alloc ob) := by
  subst hn
  exact (h.alloc ob).add (alloc_at w1 ob)
theorem sub {bm : List (Nat × Obj)} (h : Kq w bl w1) (hs : ∀ p ∈ bm, p ∈ bl) : Kq w bm w1 := ⟨fun p hp => h.1 p (hs p hp), h.2⟩
/-- A block of its own is written. -/
theorem put (h : Kq w bl w1) {g : Nat} (hg : w.heap.size ≤ g) (hne : ∀ p ∈ bl, p.1 ≠ g) {w2 : World} {ob : Obj} (h1 : w2.heap[g]? = some ob) (h2 : ∀ i, i ≠ g → w2.heap[i]? = w1.heap[i]?) (h3 : w2.heap.size = w1.heap.size) (h4 : w2.os = w1.os) (h5 : w2.tape = w1.tape) (h6 : w2.output = w1.output) : Kq w ((g, ob) :: bl) w2 :=
  ⟨fun p hp => by
    rcases List.mem_cons.1 hp with rfl | hp
    · exact h1
    · rw [h2 _ (hne p hp)]; exact h.1 p hp,
   ⟨h4.trans h.2.os, h5.trans h.2.tape, h6.trans h.2.output, by rw [h3]; exact h.2.size, fun i hi => (h2 i (by omega)).trans (h.2.block i hi)⟩⟩
theorem setCell (h : Kq w bl w1) {g : Nat} {cs : Array Value} {t : TypeId} (hc : w1.heap[g]? = some (.cells cs t (0, 0))) (hg : w.heap.size ≤ g) (hne : ∀ p ∈ bl, p.1 ≠ g) (j : Nat) (v : Value) :
    Kq w ((g, .cells (cs.setIfInBounds j v) t (0, 0)) :: bl) (w1.setCell ⟨g, j, none⟩ v) :=
  h.put hg hne (heap_setCell_same w1 g j cs t v hc) (fun i hi => Below.heap_setCell _ _ _ _ hi) (by simp [World.setCell]) rfl rfl rfl
/-- A map of its own is written. -/
theorem setMap (h : Kq w bl w1) {g : Nat} {es : Array MapEntry} {clock : Nat} (hc : w1.heap[g]? = some (.map es clock)) (hg : w.heap.size ≤ g) (hne : ∀ p ∈ bl, p.1 ≠ g) (ob : Obj) : Kq w ((g, ob) :: bl) (setBlock w1 g ob) :=
  h.put hg hne (heap_setBlock_same hc ob) (fun i hi => heap_setBlock_other hc ob hi) (by simp [setBlock]) rfl rfl rfl
end Kq
section
variable {P : Program} {o : Oper} {a : Act} {w : World} {K : Act → World → Prop} {Q : Exit → Act → World → Prop} {ops : Array Oper} {rest : List Oper}
theorem checkKey_str {k : TypeId} (hk : P.underlying k = some .string) (e : Bool) (s : ByteArray) (w : World) : (Instr.checkKey e 10000 k (.string s)).run P w = .ok () w := by
  rw [show (10000 : Nat) = 9999 + 1 from rfl, Instr.checkKey]
  simp [run_underlying hk]
theorem findKey_str {k : TypeId} (hk : P.underlying k = some .string) (s : ByteArray) (es : List MapEntry) {r : Option (Nat × Value)} (hr : Instr.findNow .string (.string s) es 0 = some r) (w : World) : (Instr.findKey k (.string s) es).run P w = .ok r w := by
  simp [Instr.findKey, run_underlying hk, hr]
/-- What a lookup answers. -/
def lookV (z : Value) : Option (Nat × Value) → Value
  | some (_, v) => v
  | none => z
theorem run_look {T k e : TypeId} (ht : P.underlying T = some (.map k e)) (hk : P.underlying k = some .string) {r : Nat} {s : ByteArray} {es : Array MapEntry} {clock : Nat} (hr : w.heap[r]? = some (.map es clock)) {z : Value} (hz : ∀ w, (zeroValue e).run P w = .ok z w)
    {x : Option (Nat × Value)} (hx : Instr.findNow .string (.string s) es.toList 0 = some x) : (Instr.lookup T (.map (some r)) (.string s) false).run P w = .ok (lookV z x) w := by
  cases x with
  | none => simp [Instr.lookup, run_underlying ht, MapKept.run_getObj_map hr, checkKey_str hk, findKey_str hk s _ hx, hz w, Result.andThen, lookV]
  | some y => simp [Instr.lookup, run_underlying ht, MapKept.run_getObj_map hr, checkKey_str hk, findKey_str hk s _ hx, Result.andThen, lookV]
theorem wp_look (T k e : TypeId) (m x : Operand) (ho : o.op = .lookup T m x false) (ht : P.underlying T = some (.map k e)) (hk : P.underlying k = some .string) (r : Nat) (s : ByteArray) (hm : a.eval m = .map (some r)) (hs : a.eval x = .string s) (es : Array MapEntry) (clock : Nat)
    (hr : w.heap[r]? = some (.map es clock)) (z : Value) (hz : ∀ w, (zeroValue e).run P w = .ok z w) (y : Option (Nat × Value)) (hy : Instr.findNow .string (.string s) es.toList 0 = some y) (v : Value) (hv : lookV z y = v) (h : K (a.put o.dst v) w) : o.wp P a w K Q := by
  subst hv
  unfold Oper.wp
  simp [execOp, ho, hm, hs, run_look ht hk hr hz hy, Result.andThen]
  exact h
theorem wpList_look (hg : o.guard = none) (T k e : TypeId) (m x : Operand) (ho : o.op = .lookup T m x false) (ht : P.underlying T = some (.map k e)) (hk : P.underlying k = some .string) (r : Nat) (s : ByteArray) (hm : a.eval m = .map (some r)) (hs : a.eval x = .string s) (es : Array MapEntry) (clock : Nat)
    (hr : w.heap[r]? = some (.map es clock)) (z : Value) (hz : ∀ w, (zeroValue e).run P w = .ok z w) (y : Option (Nat × Value)) (hy : Instr.findNow .string (.string s) es.toList 0 = some y) (v : Value) (hv : lookV z y = v) (h : wpList P ops Q rest (a.put o.dst v) w) : wpList P ops Q (o :: rest) a w :=
  wpList_plain hg fun _ hK => wp_look T k e m x ho ht hk r s hm hs es clock hr z hz y hy v hv (hK _ _ h)
/-- A new key. -/
theorem wpList_mapNew (hg : o.guard = none) (T k e : TypeId) (m x v : Operand) (ho : o.op = .mapUpdate T m x v) (ht : P.underlying T = some (.map k e)) (hk : P.underlying k = some .string) (r : Nat) (s : ByteArray) (val : Value) (hm : a.eval m = .map (some r)) (hs : a.eval x = .string s) (hv : a.eval v = val) (es : Array MapEntry) (clock : Nat)
    (hr : w.heap[r]? = some (.map es clock)) (hy : Instr.findNow .string (.string s) es.toList 0 = some none) (h : wpList P ops Q rest (a.put o.dst undef) (setBlock w r (.map (es.push { key := .string s, val := val, born := clock }) (clock + 1)))) : wpList P ops Q (o :: rest) a w := by
  refine wpList_plain hg fun K hK => ?_
  have hrun : (Instr.mapUpdate T (.map (some r)) (.string s) val).run P w = .ok () (setBlock w r (.map (es.push { key := .string s, val := val, born := clock }) (clock + 1))) := by
    simp [Instr.mapUpdate, run_underlying ht, MapKept.run_getObj_map hr, checkKey_str hk, findKey_str hk s _ hy, MapKept.run_setObj_map _ hr, Result.andThen, setBlock]
  unfold Oper.wp
  simp [execOp, ho, hm, hs, hv, hrun, Result.andThen]
  exact hK _ _ h
/-- append of one element to nil. -/
theorem run_append_nil (w : World) {t ty e : TypeId} {i : TypeInfo} {z : Value} {size bytes : Nat} (ht : P.underlying t = some (.slice e)) (hi : P.info? e = some i) (hz : i.zero = some z) (hsize : i.size = size) (hby : i.bytes = bytes) (hzs : z.cells.size = size) (hsz : 0 < size)
    {g c : Nat} {cs : Array Value} {te : TypeId} (hc : w.heap[g]? = some (.cells cs te (0, 0))) (hcs : cs.size = size) (h1 : ∀ u ∈ cs.toList, u.oneCell' = true) (hbytes : bytes ≤ 140737488355328) :
    ∃ g' cap cur w', (Builtin.append_ #[t, t] ty #[.slice none 0 0, .slice (some ⟨g, 0, none⟩) 1 c]).run P w = .ok (.slice (some ⟨g', 0, none⟩) 1 cap) w' ∧ w.heap.size ≤ g' ∧ w'.heap[g']? = some (.cells cur e (0, 0)) ∧ 1 ≤ cap ∧ cur.toList.take size = cs.toList ∧ Below w.heap.size w w' := by
  obtain ⟨v', w', hr, hown, hg, hn, hat⟩ := run_append_own_at (P := P) w w.heap.size t ty e i z size bytes ht hi hz hsize hby hzs hsz (.slice none 0 0) 0 [] (World.ownsRow_nil w _ e size) ⟨g, 0, none⟩ 1 c cs.toList (by simp [hcs])
    (fun j u hu => by
      rw [addr_add, Nat.zero_add]
      unfold World.cell?
      simp only [hc]
      simpa using hu) h1 (by unfold maxLen; omega) (by simpa using hbytes) (Nat.le_refl _)
  rw [Nat.zero_add, List.nil_append] at hown
  have hb : Below w.heap.size w w' := (Below.refl _ _).grown hg (Nat.le_refl _) (fun k hk => by cases hk)
  rcases hown.2 with ⟨_, h0⟩ | ⟨g', cap, cur, rfl, hge, hh, hcap, _, _, htake⟩
  · omega
  · exact ⟨g', cap, cur, w', hr, hge, hh, hcap, by rw [Nat.one_mul] at htake; exact htake, hb⟩
theorem wp_append_nil (s x : Operand) (t : TypeId) (ho : o.op = .call { callee := .builtin .append, args := #[s, x], argTypes := #[t, t] }) {e : TypeId} {i : TypeInfo} {z : Value} {size bytes : Nat} (ht : P.underlying t = some (.slice e)) (hi : P.info? e = some i) (hz : i.zero = some z) (hsize : i.size = size) (hby : i.bytes = bytes) (hzs : z.cells.size = size) (hsz : 0 < size)
    {g c : Nat} {cs : Array Value} {te : TypeId} (hs : a.eval s = .slice none 0 0) (hx : a.eval x = .slice (some ⟨g, 0, none⟩) 1 c) (hc : w.heap[g]? = some (.cells cs te (0, 0))) (hcs : cs.size = size) (h1 : ∀ u ∈ cs.toList, u.oneCell' = true) (hbytes : bytes ≤ 140737488355328)
    (h : ∀ g' cap cur w', w.heap.size ≤ g' → w'.heap[g']? = some (.cells cur e (0, 0)) → 1 ≤ cap → cur.toList.take size = cs.toList → Below w.heap.size w w' → K (a.put o.dst (.slice (some ⟨g', 0, none⟩) 1 cap)) w') : o.wp P a w K Q := by
  obtain ⟨g', cap, cur, w', hr, q1, q2, q3, q4, q5⟩ := run_append_nil (P := P) w (ty := o.type) ht hi hz hsize hby hzs hsz (c := c) hc hcs h1 hbytes
  unfold Oper.wp execOp
  simp only [ho, resolve, invoke, builtin, Sem.run_bind, Sem.run_pure, Result.andThen_ok, List.map_toArray, List.map_cons, List.map_nil, hs, hx, hr]
  exact h g' cap cur w' q1 q2 q3 q4 q5
theorem wpList_append_nil (hg : o.guard = none) (s x : Operand) (t : TypeId) (ho : o.op = .call { callee := .builtin .append, args := #[s, x], argTypes := #[t, t] }) {e : TypeId} {i : TypeInfo} {z : Value} {size bytes : Nat} (ht : P.underlying t = some (.slice e)) (hi : P.info? e = some i) (hz : i.zero = some z) (hsize : i.size = size) (hby : i.bytes = bytes) (hzs : z.cells.size = size) (hsz : 0 < size)
    {g c : Nat} {cs : Array Value} {te : TypeId} (hs : a.eval s = .slice none 0 0) (hx : a.eval x = .slice (some ⟨g, 0, none⟩) 1 c) (hc : w.heap[g]? = some (.cells cs te (0, 0))) (hcs : cs.size = size) (h1 : ∀ u ∈ cs.toList, u.oneCell' = true) (hbytes : bytes ≤ 140737488355328)
    (h : ∀ g' cap cur w', w.heap.size ≤ g' → w'.heap[g']? = some (.cells cur e (0, 0)) → 1 ≤ cap → cur.toList.take size = cs.toList → Below w.heap.size w w' → wpList P ops Q rest (a.put o.dst (.slice (some ⟨g', 0, none⟩) 1 cap)) w') : wpList P ops Q (o :: rest) a w :=
  wpList_plain hg fun _ hK => wp_append_nil s x t ho ht hi hz hsize hby hzs hsz hs hx hc hcs h1 hbytes fun g' cap cur w' q1 q2 q3 q4 q5 => hK _ _ (h g' cap cur w' q1 q2 q3 q4 q5)
end
end Go.Proofs.Ytiebggfpjkhlaaa
