/- What a call of a service turns: all but some blocks stand. Maps of names. No condition. -/
import Derived.Test.YtiebggfpjkhlaaaZh
namespace Go.Proofs.Ytiebggfpjkhlaaa
open Go Go.RowKit
open Go.ChangeMaps (setBlock heap_setBlock_same heap_setBlock_other)
/-- All blocks of W but ws stand in W'. -/
structure Chg (ws : List Nat) (W W' : World) : Prop where
  os : W'.os = W.os
  tape : W'.tape = W.tape
  output : W'.output = W.output
  size : W.heap.size ≤ W'.heap.size
  block : ∀ i, i < W.heap.size → i ∉ ws → W'.heap[i]? = W.heap[i]?
namespace Chg
variable {ws vs : List Nat} {W W1 W2 : World}
theorem refl (ws : List Nat) (W : World) : Chg ws W W := ⟨rfl, rfl, rfl, Nat.le_refl _, fun _ _ _ => rfl⟩
theorem mono (h : Chg ws W W1) (hs : ∀ i, i ∈ ws → i ∈ vs) : Chg vs W W1 := ⟨h.os, h.tape, h.output, h.size, fun i hi hn => h.block i hi (fun hm => hn (hs i hm))⟩
theorem of_below (h : Below W.heap.size W W1) : Chg ws W W1 := ⟨h.os, h.tape, h.output, h.size, fun i hi _ => h.block i hi⟩
theorem trans (h : Chg ws W W1) (k : Chg ws W1 W2) : Chg ws W W2 :=
  ⟨k.os.trans h.os, k.tape.trans h.tape, k.output.trans h.output, Nat.le_trans h.size k.size, fun i hi hn => (k.block i (Nat.lt_of_lt_of_le hi h.size) hn).trans (h.block i hi hn)⟩
theorem keep (h : Chg ws W W1) (hb : Below W1.heap.size W1 W2) : Chg ws W W2 := h.trans (of_below hb)
theorem alloc (h : Chg ws W W1) (o : Obj) : Chg ws W (W1.alloc o) := h.keep ((Below.refl _ _).alloc (Nat.le_refl _) _)
theorem drew (h : Chg ws W W1) : Chg ws W W1.drew := ⟨h.os, h.tape, h.output, h.size, h.block⟩
theorem setCell (h : Chg ws W W1) {g : Nat} (hg : g ∈ ws ∨ W.heap.size ≤ g) (j : Nat) (v : Value) : Chg ws W (W1.setCell ⟨g, j, none⟩ v) :=
  ⟨h.os, h.tape, h.output, by simpa [World.setCell] using h.size, fun i hi hn => by
    rw [Below.heap_setCell _ _ _ _ (by rintro rfl; rcases hg with hg | hg; exact hn hg; omega)]
    exact h.block i hi hn⟩
theorem grown (h : Chg ws W W1) {row : Option Nat} (hg : W1.grownBy W2 row) (hr : ∀ k, row = some k → k ∈ ws ∨ W.heap.size ≤ k) : Chg ws W W2 :=
  ⟨hg.os.trans h.os, hg.tape.trans h.tape, hg.output.trans h.output, Nat.le_trans h.size hg.size, fun i hi hn => (hg.block i (Nat.lt_of_lt_of_le hi h.size) (by
    rintro rfl
    rcases hr i rfl with hr | hr
    · exact hn hr
    · omega)).trans (h.block i hi hn)⟩
theorem at_ (h : Chg ws W W1) {g : Nat} {o : Obj} (hg : W.heap[g]? = some o) (hn : g ∉ ws) : W1.heap[g]? = some o := (h.block g (Array.getElem?_eq_some_iff.1 hg).1 hn).trans hg
theorem below (h : Chg ws W W1) {B : Nat} {w : World} (hb : Below B w W) (hw : ∀ i ∈ ws, B ≤ i) (hB : B ≤ W.heap.size) : Below B w W1 :=
  ⟨h.os.trans hb.os, h.tape.trans hb.tape, h.output.trans hb.output, Nat.le_trans hb.size h.size, fun i hi => (h.block i (by omega) (fun hm => by have := hw i hm; omega)).trans (hb.block i hi)⟩
end Chg
theorem own_ext {W W1 : World} {B e size n : Nat} {v : Value} {xs : List Value} (h : W.ownsRow B e size v n xs) (hE : ∀ g, v.ownBlock = some g → W1.heap[g]? = W.heap[g]?) : W1.ownsRow B e size v n xs := by
  refine ⟨h.1, ?_⟩
  rcases h.2 with ⟨h1, h2⟩ | ⟨g, cap, cur, rfl, hg, hh, h3, h4, h5, h6⟩
  · exact .inl ⟨h1, h2⟩
  · exact .inr ⟨g, cap, cur, rfl, hg, (hE g rfl).trans hh, h3, h4, h5, h6⟩
theorem own_E {W W1 : World} {B e size n : Nat} {v : Value} {xs : List Value} (h : W.ownsRow B e size v n xs) (hE : Ext W W1) : W1.ownsRow B e size v n xs := by
  refine ⟨h.1, ?_⟩
  rcases h.2 with ⟨h1, h2⟩ | ⟨g, cap, cur, rfl, hg, hh, h3, h4, h5, h6⟩
  · exact .inl ⟨h1, h2⟩
  · exact .inr ⟨g, cap, cur, rfl, hg, hE _ _ hh, h3, h4, h5, h6⟩
/-- Bytes in memory of their own. -/
def Body (W : World) (q n c : Nat) (l : List Int) : Prop := (∃ Bb, W.ownsRow Bb 5 1 (.slice (some ⟨q, 0, none⟩) n c) n (l.map (Value.int .u8))) ∧ ∀ x ∈ l, 0 ≤ x ∧ x < 256
theorem own_form {W : World} {B e size n : Nat} {v : Value} {xs : List Value} (h : W.ownsRow B e size v n xs) (hn : 0 < n) : ∃ g cap, v = .slice (some ⟨g, 0, none⟩) n cap := by
  rcases h.2 with ⟨_, h2⟩ | ⟨g, cap, _, rfl, _⟩
  · omega
  · exact ⟨g, cap, rfl⟩
theorem wp_append_at {P : Program} {o : Oper} {a : Act} {w : World} {K : Act → World → Prop} {Q : Exit → Act → World → Prop} (s x : Operand) (t : TypeId) (ho : o.op = .call { callee := .builtin .append, args := #[s, x], argTypes := #[t, t] })
    (base : Nat) (e : TypeId) (i : TypeInfo) (z : Value) (size bytes : Nat) (ht : P.underlying t = some (.slice e)) (hi : P.info? e = some i) (hz : i.zero = some z)
    (hsize : i.size = size) (hby : i.bytes = bytes) (hzs : z.cells.size = size) (hsz : 0 < size) (v : Value) (n : Nat) (xs : List Value) (hs : a.eval s = v) (hown : w.ownsRow base e size v n xs)
    (ad : Addr) (m c : Nat) (news : List Value) (hx : a.eval x = .slice (some ad) m c) (hl : news.length = m * size) (hnews : ∀ j u, news[j]? = some u → w.cell? (ad.add j) = some u) (h1 : ∀ u ∈ news, u.oneCell' = true)
    (h63 : n + m ≤ maxLen) (hbytes : (n + m) * bytes ≤ 140737488355328) (hbase : base ≤ w.heap.size)
    (h : ∀ v' w', w'.ownsRow base e size v' (n + m) (xs ++ news) → w.grownBy w' v.ownBlock → (v'.ownBlock = v.ownBlock ∨ v'.ownBlock = some w.heap.size) → K (a.put o.dst v') w') : o.wp P a w K Q := by
  obtain ⟨v', w', hr, h2, h3, _, h5⟩ := run_append_own_at (P := P) w base t o.type e i z size bytes ht hi hz hsize hby hzs hsz v n xs hown ad m c news hl hnews h1 h63 hbytes hbase
  unfold Oper.wp execOp
  simp only [ho, resolve, invoke, builtin, Sem.run_bind, Sem.run_pure, Result.andThen_ok, List.map_toArray, List.map_cons, List.map_nil, hs, hx, hr]
  exact h v' w' h2 h3 h5
end Go.Proofs.Ytiebggfpjkhlaaa
