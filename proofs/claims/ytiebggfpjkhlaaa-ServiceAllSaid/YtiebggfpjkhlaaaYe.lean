/- The waits as a list of rows: one more waits for a name. No condition. -/
import Derived.Test.YtiebggfpjkhlaaaYd
namespace Go.Proofs.Ytiebggfpjkhlaaa
open Go Go.RowKit
set_option linter.unusedSimpArgs false
/-- A row of waits, or its memory. -/
def isW : Obj → Bool
  | .cells _ t _ => t == 88 || t == 38
  | _ => false
/-- All blocks stand but the map m and those of rows of waits. -/
structure ChgW (m : Nat) (W W' : World) : Prop where
  os : W'.os = W.os
  tape : W'.tape = W.tape
  output : W'.output = W.output
  size : W.heap.size ≤ W'.heap.size
  block : ∀ i o, W.heap[i]? = some o → i ≠ m → isW o = false → W'.heap[i]? = some o
theorem ChgW.refl (m : Nat) (W : World) : ChgW m W W := ⟨rfl, rfl, rfl, Nat.le_refl _, fun _ _ h _ _ => h⟩
theorem ChgW.trans {m : Nat} {W W1 W2 : World} (h : ChgW m W W1) (k : ChgW m W1 W2) : ChgW m W W2 :=
  ⟨k.os.trans h.os, k.tape.trans h.tape, k.output.trans h.output, Nat.le_trans h.size k.size, fun i o hi hm ho => k.block i o (h.block i o hi hm ho) hm ho⟩
theorem ChgW.of_chg {m : Nat} {ws : List Nat} {W W' : World} (h : Chg ws W W') (hw : ∀ i ∈ ws, i = m ∨ ∃ o, W.heap[i]? = some o ∧ isW o = true) : ChgW m W W' :=
  ⟨h.os, h.tape, h.output, h.size, fun i o hi hm ho => (h.block i (Array.getElem?_eq_some_iff.1 hi).1 (fun hmem => by
    rcases hw i hmem with h1 | ⟨o', h1, h2⟩
    · exact hm h1
    · rw [hi] at h1
      cases h1
      rw [ho] at h2
      cases h2)).trans hi⟩
/-- A row of waits: whose, where, how many. -/
structure WRow where
  name : ByteArray
  r : Nat
  v : Value
  n : Nat
  xs : List Value
/-- The waits of a service. -/
structure WRep (B m2 : Nat) (L : List WRow) (W : World) : Prop where
  map : ∃ es clock, W.heap[m2]? = some (.map es clock) ∧ MapIs es (L.map fun e => (e.name, e.r))
  row : ∀ e ∈ L, W.heap[e.r]? = some (rowB e.v)
  own : ∀ e ∈ L, W.ownsRow B 38 5 e.v e.n e.xs
  base : ∀ e ∈ L, B ≤ e.r
  apart : L.Pairwise fun e f => e.name ≠ f.name ∧ e.r ≠ f.r ∧ ∀ g, e.v.ownBlock = some g → f.v.ownBlock ≠ some g
theorem own_blk {W : World} {B e size n : Nat} {v : Value} {xs : List Value} (h : W.ownsRow B e size v n xs) {g : Nat} (hg : v.ownBlock = some g) : ∃ cur, W.heap[g]? = some (.cells cur e (0, 0)) := by
  rcases h.2 with ⟨rfl, _⟩ | ⟨g', cap, cur, rfl, _, hh, _⟩
  · cases hg
  · cases hg
    exact ⟨cur, hh⟩
theorem WRep.own_ne {B m2 : Nat} {L : List WRow} {W : World} (h : WRep B m2 L W) {e f : WRow} (he : e ∈ L) (hf : f ∈ L) : e.v.ownBlock ≠ some f.r := by
  intro hg
  obtain ⟨cur, hc⟩ := own_blk (h.own e he) hg
  rw [h.row f hf] at hc
  cases hc
theorem WRep.keep {B m2 : Nat} {L : List WRow} {W W' : World} (h : WRep B m2 L W) (hb : Below W.heap.size W W') : WRep B m2 L W' := by
  obtain ⟨es, clock, h1, h2⟩ := h.map
  exact ⟨⟨es, clock, blk_stay hb h1, h2⟩, fun e he => blk_stay hb (h.row e he), fun e he => own_ext (h.own e he) (fun g hg => hb.block g ((h.own e he).lt g hg).2), h.base, h.apart⟩
theorem WRep.isw {B m2 : Nat} {L : List WRow} {W : World} (h : WRep B m2 L W) {e : WRow} (he : e ∈ L) : ∀ i ∈ (e.r :: e.v.ownBlock.toList), i = m2 ∨ ∃ o, W.heap[i]? = some o ∧ isW o = true := by
  intro i hi
  rcases List.mem_cons.1 hi with rfl | hi
  · exact .inr ⟨_, h.row e he, rfl⟩
  · obtain ⟨cur, hc⟩ := own_blk (h.own e he) (g := i) (by simpa using hi)
    exact .inr ⟨_, hc, rfl⟩
/-- What is owned is all that was turned; what is owned now was owned, or is new. -/
structure Kept (os os' : List Nat) (W W' : World) : Prop where
  chg : Chg os W W'
  own : ∀ i ∈ os', i ∈ os ∨ W.heap.size ≤ i
theorem Kept.refl (os : List Nat) (W : World) : Kept os os W W := ⟨Chg.refl _ _, fun _ h => .inl h⟩
theorem Kept.trans {a b c : List Nat} {W W1 W2 : World} (h : Kept a b W W1) (k : Kept b c W1 W2) : Kept a c W W2 :=
  ⟨⟨k.chg.os.trans h.chg.os, k.chg.tape.trans h.chg.tape, k.chg.output.trans h.chg.output, Nat.le_trans h.chg.size k.chg.size, fun i hi hn =>
    (k.chg.block i (Nat.lt_of_lt_of_le hi h.chg.size) (fun hm => by rcases h.own i hm with h1 | h1; exact hn h1; omega)).trans (h.chg.block i hi hn)⟩,
   fun i hi => by
    rcases k.own i hi with h1 | h1
    · exact h.own i h1
    · exact .inr (Nat.le_trans h.chg.size h1)⟩
theorem Kept.below {os : List Nat} {W W' : World} (h : Below W.heap.size W W') : Kept os os W W' := ⟨Chg.of_below h, fun _ h => .inl h⟩
theorem Kept.app {a b : List Nat} {W W' : World} (h : Kept a b W W') (o : List Nat) : Kept (o ++ a) (o ++ b) W W' :=
  ⟨h.chg.mono (fun i hi => List.mem_append_right _ hi), fun i hi => by
    rcases List.mem_append.1 hi with h1 | h1
    · exact .inl (List.mem_append_left _ h1)
    · exact (h.own i h1).imp (List.mem_append_right _) id⟩
theorem Kept.app2 {a b : List Nat} {W W' : World} (h : Kept a b W W') (o : List Nat) : Kept (a ++ o) (b ++ o) W W' :=
  ⟨h.chg.mono (fun i hi => List.mem_append_left _ hi), fun i hi => by
    rcases List.mem_append.1 hi with h1 | h1
    · exact (h.own i h1).imp (List.mem_append_left _) id
    · exact .inl (List.mem_append_right _ h1)⟩
/-- The blocks of the waits. -/
def blkW (m2 : Nat) (L : List WRow) : List Nat := m2 :: L.flatMap fun e => e.r :: e.v.ownBlock.toList
/-- The row that there is, or a new one. -/
theorem WRep.of {B m2 : Nat} {L : List WRow} {W W' : World} {s : ByteArray} {e : Ending} (h : WRep B m2 L W) (hB : B ≤ W.heap.size) (ho : OfR rowB m2 (L.map fun e => (e.name, e.r)) s W e W') :
    ∃ L' row, WRep B m2 L' W' ∧ row ∈ L' ∧ row.name = s ∧ e = .returned (.pointer (some ⟨row.r, 0, none⟩)) ∧ (ChgW m2 W W' ∧ Kept (blkW m2 L) (blkW m2 L') W W') ∧
      ((L' = L) ∨ (L' = L ++ [row] ∧ row.n = 0 ∧ row.xs = [] ∧ ∀ f ∈ L, f.name ≠ s)) := by
  rcases ho with ⟨p, hl, he, rfl⟩ | ⟨hl, he, hnew, ⟨es', c', hm', hE'⟩, hch⟩
  · have hp : ∃ row ∈ L, row.name = s ∧ row.r = p := by
      unfold look at hl
      cases hf : (L.map fun e => (e.name, e.r)).find? (fun q => s == q.1) with
      | none => rw [hf] at hl; cases hl
      | some q =>
        rw [hf] at hl
        have h1 := List.find?_some hf
        have h2 := List.mem_of_find?_eq_some hf
        obtain ⟨row, hr, rfl⟩ := List.mem_map.1 h2
        refine ⟨row, hr, ((MapKept.bytes_beq _ _).1 h1).symm, ?_⟩
        simpa using hl
    obtain ⟨row, hr, hn, rfl⟩ := hp
    exact ⟨L, row, h, hr, hn, he, ⟨ChgW.refl _ _, Kept.refl _ _⟩, .inl rfl⟩
  · have hno : ∀ f ∈ L, f.name ≠ s := by
      intro f hf hfs
      have h0 : (L.map fun e => (e.name, e.r)).find? (fun q => s == q.1) = none := by
        unfold look at hl
        simpa using hl
      rw [List.find?_eq_none] at h0
      have := h0 (f.name, f.r) (List.mem_map.2 ⟨f, hf, rfl⟩)
      rw [hfs] at this
      exact this (self_eq s)
    have hkeep : ∀ f ∈ L, f.r ∉ [m2] := by
      intro f hf hm
      have hm : f.r = m2 := by simpa using hm
      obtain ⟨es, clock, h1, _⟩ := h.map
      have h2 := h.row f hf
      rw [hm, h1] at h2
      cases h2
    have hkeepo : ∀ f ∈ L, ∀ g, f.v.ownBlock = some g → g ∉ [m2] := by
      intro f hf g hg hm
      have hm : g = m2 := by simpa using hm
      obtain ⟨es, clock, h1, _⟩ := h.map
      obtain ⟨cur, hc⟩ := own_blk (h.own f hf) hg
      rw [hm, h1] at hc
      cases hc
    refine ⟨L ++ [⟨s, W.heap.size, .slice none 0 0, 0, []⟩], ⟨s, W.heap.size, .slice none 0 0, 0, []⟩, ⟨⟨es', c', hm', by simpa using hE'⟩, ?_, ?_, ?_, ?_⟩, by simp, rfl, he, ?_, .inr ⟨rfl, rfl, rfl, hno⟩⟩
    · intro f hf
      rcases List.mem_append.1 hf with hf | hf
      · exact hch.at_ (h.row f hf) (hkeep f hf)
      · obtain rfl : f = _ := by simpa using hf
        exact hnew
    · intro f hf
      rcases List.mem_append.1 hf with hf | hf
      · exact own_ext (h.own f hf) (fun g hg => hch.block g ((h.own f hf).lt g hg).2 (hkeepo f hf g hg))
      · obtain rfl : f = _ := by simpa using hf
        exact World.ownsRow_nil _ _ _ _
    · intro f hf
      rcases List.mem_append.1 hf with hf | hf
      · exact h.base f hf
      · obtain rfl : f = _ := by simpa using hf
        exact hB
    · rw [List.pairwise_append]
      refine ⟨h.apart, by simp, ?_⟩
      intro f hf q hq
      obtain rfl : q = _ := by simpa using hq
      refine ⟨hno f hf, ?_, fun g _ => by simp [Value.ownBlock]⟩
      have := (Array.getElem?_eq_some_iff.1 (h.row f hf)).1
      show f.r ≠ W.heap.size
      omega
    · refine ⟨ChgW.of_chg hch (fun i hi => .inl (by simpa using hi)), hch.mono (fun i hi => by unfold blkW; simp at hi; simp [hi]), fun i hi => ?_⟩
      unfold blkW at hi ⊢
      rcases List.mem_cons.1 hi with rfl | hi
      · exact .inl (by simp)
      · rw [List.flatMap_append] at hi
        rcases List.mem_append.1 hi with hi | hi
        · exact .inl (List.mem_cons_of_mem _ hi)
        · right
          have : i = W.heap.size := by simpa [Value.ownBlock] using hi
          omega
/-- The row at r is another one now. -/
def upd (L : List WRow) (r : Nat) (v : Value) (n : Nat) (xs : List Value) : List WRow := L.map fun e => if e.r = r then { e with v := v, n := n, xs := xs } else e
theorem WRep.same {B m2 : Nat} {L : List WRow} {W : World} (h : WRep B m2 L W) {e f : WRow} (he : e ∈ L) (hf : f ∈ L) (hr : e.r = f.r) : e = f := by
  have hp := h.apart
  clear h
  induction L with
  | nil => cases he
  | cons a L ih =>
    rw [List.pairwise_cons] at hp
    rcases List.mem_cons.1 he with he1 | he1 <;> rcases List.mem_cons.1 hf with hf1 | hf1
    · rw [he1, hf1]
    · rw [he1] at hr
      exact absurd hr (hp.1 f hf1).2.1
    · rw [hf1] at hr
      exact absurd hr.symm (hp.1 e he1).2.1
    · exact ih he1 hf1 hp.2
theorem WRep.set {B m2 n' : Nat} {L : List WRow} {W W' : World} {row : WRow} {v' : Value} {xs' : List Value} (h : WRep B m2 L W) (hrow : row ∈ L) (h1 : W'.heap[row.r]? = some (rowB v')) (h2 : W'.ownsRow B 38 5 v' n' xs')
    (h3 : v'.ownBlock = row.v.ownBlock ∨ ∃ g, v'.ownBlock = some g ∧ W.heap.size ≤ g) (hch : Chg (row.r :: row.v.ownBlock.toList) W W') :
    WRep B m2 (upd L row.r v' n' xs') W' ∧ ChgW m2 W W' ∧ Kept (blkW m2 L) (blkW m2 (upd L row.r v' n' xs')) W W' := by
  have hlt : ∀ f ∈ L, ∀ g, f.v.ownBlock = some g → g < W.heap.size := fun f hf g hg => ((h.own f hf).lt g hg).2
  have hgo : ∀ f ∈ L, f.r ≠ row.r → ∀ g, f.v.ownBlock = some g → row.v.ownBlock ≠ some g := by
    intro f hf hne g hg
    have hpw := h.apart
    clear hch h1 h2 h3
    have key : ∀ (M : List WRow), M.Pairwise (fun e f => e.name ≠ f.name ∧ e.r ≠ f.r ∧ ∀ g, e.v.ownBlock = some g → f.v.ownBlock ≠ some g) → f ∈ M → row ∈ M → row.v.ownBlock ≠ some g := by
      intro M
      induction M with
      | nil => intro _ hf _; cases hf
      | cons a M ih =>
        intro hp hf hr
        rw [List.pairwise_cons] at hp
        rcases List.mem_cons.1 hf with hf1 | hf1 <;> rcases List.mem_cons.1 hr with hr1 | hr1
        · exact absurd (by rw [hf1, hr1]) hne
        · rw [hf1] at hg
          exact (hp.1 row hr1).2.2 g hg
        · intro h5
          rw [hr1] at h5
          exact (hp.1 f hf1).2.2 g h5 hg
        · exact ih hp.2 hf1 hr1
    exact key L hpw hf hrow
  have hkept : Kept (blkW m2 L) (blkW m2 (upd L row.r v' n' xs')) W W' := by
    refine ⟨hch.mono (fun i hi => List.mem_cons_of_mem _ (List.mem_flatMap.2 ⟨row, hrow, hi⟩)), fun i hi => ?_⟩
    rcases List.mem_cons.1 hi with rfl | hi
    · exact .inl (by simp [blkW])
    · obtain ⟨e, he, hi⟩ := List.mem_flatMap.1 hi
      obtain ⟨f, hf, rfl⟩ := List.mem_map.1 he
      by_cases hr : f.r = row.r
      · simp only [hr, if_true] at hi
        rcases List.mem_cons.1 hi with rfl | hi
        · exact .inl (List.mem_cons_of_mem _ (List.mem_flatMap.2 ⟨row, hrow, List.mem_cons_self⟩))
        · rcases h3 with h3 | ⟨G, h3, h4⟩
          · rw [h3] at hi
            exact .inl (List.mem_cons_of_mem _ (List.mem_flatMap.2 ⟨row, hrow, List.mem_cons_of_mem _ hi⟩))
          · rw [h3] at hi
            right
            have : i = G := by simpa using hi
            omega
      · simp only [hr, if_false] at hi
        exact .inl (List.mem_cons_of_mem _ (List.mem_flatMap.2 ⟨f, hf, hi⟩))
  refine ⟨⟨?_, ?_, ?_, ?_, ?_⟩, ChgW.of_chg hch (h.isw hrow), hkept⟩
  · obtain ⟨es, clock, g1, g2⟩ := h.map
    refine ⟨es, clock, hch.at_ g1 (fun hm => ?_), ?_⟩
    · rcases List.mem_cons.1 hm with hm | hm
      · have h5 := h.row row hrow
        rw [← hm, g1] at h5
        cases h5
      · obtain ⟨cur, hc⟩ := own_blk (h.own row hrow) (g := m2) (by simpa using hm)
        rw [g1] at hc
        cases hc
    · have e : ((upd L row.r v' n' xs').map fun e => (e.name, e.r)) = L.map fun e => (e.name, e.r) := by
        unfold upd
        rw [List.map_map]
        refine List.map_congr_left fun e _ => ?_
        simp only [Function.comp]
        split <;> rfl
      rw [e]
      exact g2
  · intro e he
    obtain ⟨f, hf, rfl⟩ := List.mem_map.1 he
    by_cases hr : f.r = row.r
    · simp only [hr, if_true]
      exact h1
    · simp only [hr, if_false]
      refine hch.at_ (h.row f hf) (fun hm => ?_)
      rcases List.mem_cons.1 hm with hm | hm
      · exact hr hm
      · exact h.own_ne hrow hf (by simpa using hm)
  · intro e he
    obtain ⟨f, hf, rfl⟩ := List.mem_map.1 he
    by_cases hr : f.r = row.r
    · obtain rfl := h.same hf hrow hr
      simp only [if_true]
      exact h2
    · simp only [hr, if_false]
      refine own_ext (h.own f hf) (fun g hg => hch.block g (hlt f hf g hg) (fun hm => ?_))
      rcases List.mem_cons.1 hm with hm | hm
      · exact h.own_ne hf hrow (by rw [hg, hm])
      · exact hgo f hf hr g hg (by simpa using hm)
  · intro e he
    obtain ⟨f, hf, rfl⟩ := List.mem_map.1 he
    have := h.base f hf
    by_cases hr : f.r = row.r
    · simp only [hr, if_true]; omega
    · simp only [hr, if_false]; exact this
  · unfold upd
    rw [List.pairwise_map]
    refine List.Pairwise.imp_of_mem (fun {e f} he hf hef => ?_) h.apart
    obtain ⟨a1, a2, a3⟩ := hef
    by_cases hr : e.r = row.r
    · have hfr : ¬ f.r = row.r := fun h5 => a2 (hr.trans h5.symm)
      simp only [hr, if_true, hfr, if_false]
      refine ⟨a1, fun h5 => hfr h5.symm, fun g hg hfg => ?_⟩
      rcases h3 with h3 | ⟨G, h3, h4⟩
      · rw [h3] at hg
        exact hgo f hf hfr g hfg hg
      · rw [h3] at hg
        cases hg
        have := hlt f hf _ hfg
        omega
    · simp only [hr, if_false]
      by_cases hfr : f.r = row.r
      · simp only [hfr, if_true]
        refine ⟨a1, hr, fun g hg hfg => ?_⟩
        rcases h3 with h3 | ⟨G, h3, h4⟩
        · rw [h3] at hfg
          exact hgo e he hr g hg hfg
        · rw [h3] at hfg
          cases hfg
          have := hlt e he _ hg
          omega
      · simp only [hfr, if_false]
        exact ⟨a1, a2, a3⟩
theorem WRep.put {B m2 : Nat} {L : List WRow} {W W' : World} {row : WRow} {cs : List Value} (h : WRep B m2 L W) (hrow : row ∈ L) (hp : PutR rowB B 38 5 row.r row.v row.n row.xs cs W W') :
    ∃ v', WRep B m2 (upd L row.r v' (row.n + 1) (row.xs ++ cs)) W' ∧ ChgW m2 W W' ∧ Kept (blkW m2 L) (blkW m2 (upd L row.r v' (row.n + 1) (row.xs ++ cs))) W W' := by
  obtain ⟨v', h1, h2, h3, hch⟩ := hp
  exact ⟨v', h.set hrow h1 h2 h3 hch⟩
/-- What waits for a name: how many, and the cells. -/
def wf (L : List WRow) (s : ByteArray) : Nat × List Value := match L.find? (fun e => s == e.name) with
  | some e => (e.n, e.xs)
  | none => (0, [])
/-- The same, but of one name. -/
def setF (f : ByteArray → Nat × List Value) (s : ByteArray) (x : Nat × List Value) : ByteArray → Nat × List Value := fun t => if t = s then x else f t
theorem wf_app {L : List WRow} {row : WRow} (h1 : row.n = 0) (h2 : row.xs = []) : wf (L ++ [row]) = wf L := by
  funext s
  unfold wf
  rw [List.find?_append]
  cases L.find? (fun e => s == e.name) with
  | some e => rfl
  | none =>
    simp only [Option.none_or]
    cases hs : (s == row.name) with
    | true => simp [List.find?, hs, h1, h2]
    | false => simp [List.find?, hs]
theorem WRep.wf_row {B m2 : Nat} {L : List WRow} {W : World} (h : WRep B m2 L W) {row : WRow} (hr : row ∈ L) : wf L row.name = (row.n, row.xs) := by
  have hp := h.apart
  clear h
  unfold wf
  have : L.find? (fun e => row.name == e.name) = some row := by
    induction L with
    | nil => cases hr
    | cons a L ih =>
      rw [List.pairwise_cons] at hp
      rcases List.mem_cons.1 hr with rfl | hr1
      · simp [List.find?, self_eq row.name]
      · have hne : (row.name == a.name) = false := by
          cases hb : (row.name == a.name) with
          | false => rfl
          | true => exact absurd ((MapKept.bytes_beq _ _).1 hb).symm (hp.1 row hr1).1
        rw [List.find?_cons, hne]
        exact ih hr1 hp.2
  rw [this]
theorem WRep.wf_upd {B m2 : Nat} {L : List WRow} {W : World} (h : WRep B m2 L W) {row : WRow} (hr : row ∈ L) (v : Value) (n : Nat) (xs : List Value) : wf (upd L row.r v n xs) = setF (wf L) row.name (n, xs) := by
  funext s
  have hf : (upd L row.r v n xs).find? (fun e => s == e.name) = (L.find? (fun e => s == e.name)).map (fun e => if e.r = row.r then { e with v := v, n := n, xs := xs } else e) := by
    unfold upd
    rw [List.find?_map]
    congr 2
    funext e
    simp only [Function.comp]
    split <;> rfl
  unfold setF
  by_cases hs : s = row.name
  · subst hs
    rw [if_pos rfl]
    have h5 := h.wf_row hr
    unfold wf at h5 ⊢
    rw [hf]
    cases hL : L.find? (fun e => row.name == e.name) with
    | none =>
      rw [List.find?_eq_none] at hL
      exact absurd (self_eq row.name) (hL row hr)
    | some e =>
      have h6 := List.find?_some hL
      have h7 := List.mem_of_find?_eq_some hL
      have hne : e.r = row.r := by
        have h8 : row.name = e.name := (MapKept.bytes_beq _ _).1 h6
        have hp := h.apart
        clear h hf hL h5 h6
        revert h7 hr hp
        induction L with
        | nil => intro _ h7; cases h7
        | cons a L ih =>
          intro hr h7 hp
          rw [List.pairwise_cons] at hp
          rcases List.mem_cons.1 h7 with a7 | a7 <;> rcases List.mem_cons.1 hr with ar | ar
          · rw [a7, ar]
          · exact absurd (h8.symm.trans (congrArg WRow.name rfl)) (a7 ▸ (hp.1 _ ar).1)
          · exact absurd h8 (ar ▸ (hp.1 _ a7).1)
          · exact ih ar a7 hp.2
      simp [hne]
  · rw [if_neg hs]
    unfold wf
    rw [hf]
    cases hL : L.find? (fun e => s == e.name) with
    | none => rfl
    | some e =>
      have h6 := List.find?_some hL
      have h6 : s = e.name := (MapKept.bytes_beq _ _).1 h6
      have h7 := List.mem_of_find?_eq_some hL
      by_cases hr2 : e.r = row.r
      · exact absurd (h6.trans (congrArg WRow.name (h.same h7 hr hr2))) hs
      · simp [hr2]
theorem WRep.wf_of {B m2 : Nat} {L L' : List WRow} {row : WRow} {W' : World} {s : ByteArray} (hR : WRep B m2 L' W') (hrow : row ∈ L') (hn : row.name = s) (hc : (L' = L) ∨ (L' = L ++ [row] ∧ row.n = 0 ∧ row.xs = [] ∧ ∀ f ∈ L, f.name ≠ s)) :
    wf L' = wf L ∧ (row.n, row.xs) = wf L s := by
  have h1 : wf L' = wf L := by
    rcases hc with rfl | ⟨rfl, h1, h2, _⟩
    · rfl
    · exact wf_app h1 h2
  exact ⟨h1, by rw [← h1, ← hn]; exact (hR.wf_row hrow).symm⟩
/-- How many wait for a name. -/
def cntL (L : List WRow) (s : ByteArray) : Nat := match L.find? (fun e => s == e.name) with
  | some e => e.n
  | none => 0
theorem cnt_wf (L : List WRow) (s : ByteArray) : cntL L s = (wf L s).1 := by
  unfold cntL wf
  cases L.find? (fun e => s == e.name) <;> rfl
theorem WRep.cnt {B m2 : Nat} {L : List WRow} {W : World} (h : WRep B m2 L W) (s : ByteArray) : Cnt W m2 s (cntL L s) := by
  obtain ⟨es, clock, h1, h2⟩ := h.map
  refine ⟨es, clock, _, h1, h2, ?_⟩
  have hl : look (L.map fun e => (e.name, e.r)) s = (L.find? fun e => s == e.name).map (·.r) := by
    unfold look
    rw [List.find?_map]
    have hc : ((fun q : ByteArray × Nat => s == q.1) ∘ fun e : WRow => (e.name, e.r)) = fun e : WRow => s == e.name := rfl
    rw [hc]
    cases L.find? (fun e : WRow => s == e.name) <;> rfl
  rw [hl]
  unfold cntL
  cases hf : L.find? (fun e => s == e.name) with
  | none => exact .inl ⟨rfl, rfl⟩
  | some e =>
    have he := List.mem_of_find?_eq_some hf
    exact .inr ⟨e.r, e.v, e.xs, B, rfl, h.row e he, h.own e he⟩
end Go.Proofs.Ytiebggfpjkhlaaa
