/- The packages as a list of rows: one more is offered. No condition. -/
import Derived.Test.YtiebggfpjkhlaaaYe
namespace Go.Proofs.Ytiebggfpjkhlaaa
open Go Go.RowKit
set_option linter.unusedSimpArgs false
/-- A row of waits, or its memory. -/
def isP : Obj → Bool
  | .cells _ t _ => t == 79 || t == 29
  | _ => false
/-- All blocks stand but the map m and those of rows of waits. -/
structure ChgP (m : Nat) (W W' : World) : Prop where
  os : W'.os = W.os
  tape : W'.tape = W.tape
  output : W'.output = W.output
  size : W.heap.size ≤ W'.heap.size
  block : ∀ i o, W.heap[i]? = some o → i ≠ m → isP o = false → W'.heap[i]? = some o
theorem ChgP.refl (m : Nat) (W : World) : ChgP m W W := ⟨rfl, rfl, rfl, Nat.le_refl _, fun _ _ h _ _ => h⟩
theorem ChgP.trans {m : Nat} {W W1 W2 : World} (h : ChgP m W W1) (k : ChgP m W1 W2) : ChgP m W W2 :=
  ⟨k.os.trans h.os, k.tape.trans h.tape, k.output.trans h.output, Nat.le_trans h.size k.size, fun i o hi hm ho => k.block i o (h.block i o hi hm ho) hm ho⟩
theorem ChgP.of_chg {m : Nat} {ws : List Nat} {W W' : World} (h : Chg ws W W') (hw : ∀ i ∈ ws, i = m ∨ ∃ o, W.heap[i]? = some o ∧ isP o = true) : ChgP m W W' :=
  ⟨h.os, h.tape, h.output, h.size, fun i o hi hm ho => (h.block i (Array.getElem?_eq_some_iff.1 hi).1 (fun hmem => by
    rcases hw i hmem with h1 | ⟨o', h1, h2⟩
    · exact hm h1
    · rw [hi] at h1
      cases h1
      rw [ho] at h2
      cases h2)).trans hi⟩
/-- A row of waits: whose, where, how many. -/
structure PRow where
  name : ByteArray
  r : Nat
  v : Value
  n : Nat
  xs : List Value
/-- The waits of a service. -/
structure PRep (B m0 : Nat) (L : List PRow) (W : World) : Prop where
  map : ∃ es clock, W.heap[m0]? = some (.map es clock) ∧ MapIs es (L.map fun e => (e.name, e.r))
  row : ∀ e ∈ L, W.heap[e.r]? = some (rowP e.v)
  own : ∀ e ∈ L, W.ownsRow B 29 1 e.v e.n e.xs
  base : ∀ e ∈ L, B ≤ e.r
  apart : L.Pairwise fun e f => e.name ≠ f.name ∧ e.r ≠ f.r ∧ ∀ g, e.v.ownBlock = some g → f.v.ownBlock ≠ some g
theorem PRep.own_ne {B m0 : Nat} {L : List PRow} {W : World} (h : PRep B m0 L W) {e f : PRow} (he : e ∈ L) (hf : f ∈ L) : e.v.ownBlock ≠ some f.r := by
  intro hg
  obtain ⟨cur, hc⟩ := own_blk (h.own e he) hg
  rw [h.row f hf] at hc
  cases hc
theorem PRep.keep {B m0 : Nat} {L : List PRow} {W W' : World} (h : PRep B m0 L W) (hb : Below W.heap.size W W') : PRep B m0 L W' := by
  obtain ⟨es, clock, h1, h2⟩ := h.map
  exact ⟨⟨es, clock, blk_stay hb h1, h2⟩, fun e he => blk_stay hb (h.row e he), fun e he => own_ext (h.own e he) (fun g hg => hb.block g ((h.own e he).lt g hg).2), h.base, h.apart⟩
theorem PRep.isp {B m0 : Nat} {L : List PRow} {W : World} (h : PRep B m0 L W) {e : PRow} (he : e ∈ L) : ∀ i ∈ (e.r :: e.v.ownBlock.toList), i = m0 ∨ ∃ o, W.heap[i]? = some o ∧ isP o = true := by
  intro i hi
  rcases List.mem_cons.1 hi with rfl | hi
  · exact .inr ⟨_, h.row e he, rfl⟩
  · obtain ⟨cur, hc⟩ := own_blk (h.own e he) (g := i) (by simpa using hi)
    exact .inr ⟨_, hc, rfl⟩
/-- The blocks of the waits. -/
def blkP (m0 : Nat) (L : List PRow) : List Nat := m0 :: L.flatMap fun e => e.r :: e.v.ownBlock.toList
/-- The row that there is, or a new one. -/
theorem PRep.of {B m0 : Nat} {L : List PRow} {W W' : World} {s : ByteArray} {e : Ending} (h : PRep B m0 L W) (hB : B ≤ W.heap.size) (ho : OfR rowP m0 (L.map fun e => (e.name, e.r)) s W e W') :
    ∃ L' row, PRep B m0 L' W' ∧ row ∈ L' ∧ row.name = s ∧ e = .returned (.pointer (some ⟨row.r, 0, none⟩)) ∧ (ChgP m0 W W' ∧ Kept (blkP m0 L) (blkP m0 L') W W') ∧
      ((L' = L) ∨ (L' = L ++ [row] ∧ row.n = 0 ∧ row.xs = [] ∧ ∀ f ∈ L, f.name ≠ s)) := by
  rcases ho with ⟨p, hl, he, rfl⟩ | ⟨hl, he, hnew, ⟨es', c', hm', hE'⟩, hch⟩
  · have hp : ∃ row ∈ L, row.name = s ∧ row.r = p := by
      unfold look at hl
      cases hf : (L.map fun e => (e.name, e.r)).find? (fun q => s == q.1) with
      | none => rw [hf] at hl; cases hl
      | some q =>
        rw [hf] at hl
        have h1 := List.find?_some hf
        have h2 := List.mem_of_find?_eq_some hf
        obtain ⟨row, hr, rfl⟩ := List.mem_map.1 h2
        refine ⟨row, hr, ((MapKept.bytes_beq _ _).1 h1).symm, ?_⟩
        simpa using hl
    obtain ⟨row, hr, hn, rfl⟩ := hp
    exact ⟨L, row, h, hr, hn, he, ⟨ChgP.refl _ _, Kept.refl _ _⟩, .inl rfl⟩
  · have hno : ∀ f ∈ L, f.name ≠ s := by
      intro f hf hfs
      have h0 : (L.map fun e => (e.name, e.r)).find? (fun q => s == q.1) = none := by
        unfold look at hl
        simpa using hl
      rw [List.find?_eq_none] at h0
      have := h0 (f.name, f.r) (List.mem_map.2 ⟨f, hf, rfl⟩)
      rw [hfs] at this
      exact this (self_eq s)
    have hkeep : ∀ f ∈ L, f.r ∉ [m0] := by
      intro f hf hm
      have hm : f.r = m0 := by simpa using hm
      obtain ⟨es, clock, h1, _⟩ := h.map
      have h2 := h.row f hf
      rw [hm, h1] at h2
      cases h2
    have hkeepo : ∀ f ∈ L, ∀ g, f.v.ownBlock = some g → g ∉ [m0] := by
      intro f hf g hg hm
      have hm : g = m0 := by simpa using hm
      obtain ⟨es, clock, h1, _⟩ := h.map
      obtain ⟨cur, hc⟩ := own_blk (h.own f hf) hg
      rw [hm, h1] at hc
      cases hc
    refine ⟨L ++ [⟨s, W.heap.size, .slice none 0 0, 0, []⟩], ⟨s, W.heap.size, .slice none 0 0, 0, []⟩, ⟨⟨es', c', hm', by simpa using hE'⟩, ?_, ?_, ?_, ?_⟩, by simp, rfl, he, ?_, .inr ⟨rfl, rfl, rfl, hno⟩⟩
    · intro f hf
      rcases List.mem_append.1 hf with hf | hf
      · exact hch.at_ (h.row f hf) (hkeep f hf)
      · obtain rfl : f = _ := by simpa using hf
        exact hnew
    · intro f hf
      rcases List.mem_append.1 hf with hf | hf
      · exact own_ext (h.own f hf) (fun g hg => hch.block g ((h.own f hf).lt g hg).2 (hkeepo f hf g hg))
      · obtain rfl : f = _ := by simpa using hf
        exact World.ownsRow_nil _ _ _ _
    · intro f hf
      rcases List.mem_append.1 hf with hf | hf
      · exact h.base f hf
      · obtain rfl : f = _ := by simpa using hf
        exact hB
    · rw [List.pairwise_append]
      refine ⟨h.apart, by simp, ?_⟩
      intro f hf q hq
      obtain rfl : q = _ := by simpa using hq
      refine ⟨hno f hf, ?_, fun g _ => by simp [Value.ownBlock]⟩
      have := (Array.getElem?_eq_some_iff.1 (h.row f hf)).1
      show f.r ≠ W.heap.size
      omega
    · refine ⟨ChgP.of_chg hch (fun i hi => .inl (by simpa using hi)), hch.mono (fun i hi => by unfold blkP; simp at hi; simp [hi]), fun i hi => ?_⟩
      unfold blkP at hi ⊢
      rcases List.mem_cons.1 hi with rfl | hi
      · exact .inl (by simp)
      · rw [List.flatMap_append] at hi
        rcases List.mem_append.1 hi with hi | hi
        · exact .inl (List.mem_cons_of_mem _ hi)
        · right
          have : i = W.heap.size := by simpa [Value.ownBlock] using hi
          omega
/-- The row at r is another one now. -/
def updP (L : List PRow) (r : Nat) (v : Value) (n : Nat) (xs : List Value) : List PRow := L.map fun e => if e.r = r then { e with v := v, n := n, xs := xs } else e
theorem PRep.same {B m0 : Nat} {L : List PRow} {W : World} (h : PRep B m0 L W) {e f : PRow} (he : e ∈ L) (hf : f ∈ L) (hr : e.r = f.r) : e = f := by
  have hp := h.apart
  clear h
  induction L with
  | nil => cases he
  | cons a L ih =>
    rw [List.pairwise_cons] at hp
    rcases List.mem_cons.1 he with he1 | he1 <;> rcases List.mem_cons.1 hf with hf1 | hf1
    · rw [he1, hf1]
    · rw [he1] at hr
      exact absurd hr (hp.1 f hf1).2.1
    · rw [hf1] at hr
      exact absurd hr.symm (hp.1 e he1).2.1
    · exact ih he1 hf1 hp.2
theorem PRep.set {B m0 n' : Nat} {L : List PRow} {W W' : World} {row : PRow} {v' : Value} {xs' : List Value} (h : PRep B m0 L W) (hrow : row ∈ L) (h1 : W'.heap[row.r]? = some (rowP v')) (h2 : W'.ownsRow B 29 1 v' n' xs')
    (h3 : v'.ownBlock = row.v.ownBlock ∨ ∃ g, v'.ownBlock = some g ∧ W.heap.size ≤ g) (hch : Chg (row.r :: row.v.ownBlock.toList) W W') :
    PRep B m0 (updP L row.r v' n' xs') W' ∧ ChgP m0 W W' ∧ Kept (blkP m0 L) (blkP m0 (updP L row.r v' n' xs')) W W' := by
  have hlt : ∀ f ∈ L, ∀ g, f.v.ownBlock = some g → g < W.heap.size := fun f hf g hg => ((h.own f hf).lt g hg).2
  have hgo : ∀ f ∈ L, f.r ≠ row.r → ∀ g, f.v.ownBlock = some g → row.v.ownBlock ≠ some g := by
    intro f hf hne g hg
    have hpw := h.apart
    clear hch h1 h2 h3
    have key : ∀ (M : List PRow), M.Pairwise (fun e f => e.name ≠ f.name ∧ e.r ≠ f.r ∧ ∀ g, e.v.ownBlock = some g → f.v.ownBlock ≠ some g) → f ∈ M → row ∈ M → row.v.ownBlock ≠ some g := by
      intro M
      induction M with
      | nil => intro _ hf _; cases hf
      | cons a M ih =>
        intro hp hf hr
        rw [List.pairwise_cons] at hp
        rcases List.mem_cons.1 hf with hf1 | hf1 <;> rcases List.mem_cons.1 hr with hr1 | hr1
        · exact absurd (by rw [hf1, hr1]) hne
        · rw [hf1] at hg
          exact (hp.1 row hr1).2.2 g hg
        · intro h5
          rw [hr1] at h5
          exact (hp.1 f hf1).2.2 g h5 hg
        · exact ih hp.2 hf1 hr1
    exact key L hpw hf hrow
  have hkept : Kept (blkP m0 L) (blkP m0 (updP L row.r v' n' xs')) W W' := by
    refine ⟨hch.mono (fun i hi => List.mem_cons_of_mem _ (List.mem_flatMap.2 ⟨row, hrow, hi⟩)), fun i hi => ?_⟩
    rcases List.mem_cons.1 hi with rfl | hi
    · exact .inl (by simp [blkP])
    · obtain ⟨e, he, hi⟩ := List.mem_flatMap.1 hi
      obtain ⟨f, hf, rfl⟩ := List.mem_map.1 he
      by_cases hr : f.r = row.r
      · simp only [hr, if_true] at hi
        rcases List.mem_cons.1 hi with rfl | hi
        · exact .inl (List.mem_cons_of_mem _ (List.mem_flatMap.2 ⟨row, hrow, List.mem_cons_self⟩))
        · rcases h3 with h3 | ⟨G, h3, h4⟩
          · rw [h3] at hi
            exact .inl (List.mem_cons_of_mem _ (List.mem_flatMap.2 ⟨row, hrow, List.mem_cons_of_mem _ hi⟩))
          · rw [h3] at hi
            right
            have : i = G := by simpa using hi
            omega
      · simp only [hr, if_false] at hi
        exact .inl (List.mem_cons_of_mem _ (List.mem_flatMap.2 ⟨f, hf, hi⟩))
  refine ⟨⟨?_, ?_, ?_, ?_, ?_⟩, ChgP.of_chg hch (h.isp hrow), hkept⟩
  · obtain ⟨es, clock, g1, g2⟩ := h.map
    refine ⟨es, clock, hch.at_ g1 (fun hm => ?_), ?_⟩
    · rcases List.mem_cons.1 hm with hm | hm
      · have h5 := h.row row hrow
        rw [← hm, g1] at h5
        cases h5
      · obtain ⟨cur, hc⟩ := own_blk (h.own row hrow) (g := m0) (by simpa using hm)
        rw [g1] at hc
        cases hc
    · have e : ((updP L row.r v' n' xs').map fun e => (e.name, e.r)) = L.map fun e => (e.name, e.r) := by
        unfold updP
        rw [List.map_map]
        refine List.map_congr_left fun e _ => ?_
        simp only [Function.comp]
        split <;> rfl
      rw [e]
      exact g2
  · intro e he
    obtain ⟨f, hf, rfl⟩ := List.mem_map.1 he
    by_cases hr : f.r = row.r
    · simp only [hr, if_true]
      exact h1
    · simp only [hr, if_false]
      refine hch.at_ (h.row f hf) (fun hm => ?_)
      rcases List.mem_cons.1 hm with hm | hm
      · exact hr hm
      · exact h.own_ne hrow hf (by simpa using hm)
  · intro e he
    obtain ⟨f, hf, rfl⟩ := List.mem_map.1 he
    by_cases hr : f.r = row.r
    · obtain rfl := h.same hf hrow hr
      simp only [if_true]
      exact h2
    · simp only [hr, if_false]
      refine own_ext (h.own f hf) (fun g hg => hch.block g (hlt f hf g hg) (fun hm => ?_))
      rcases List.mem_cons.1 hm with hm | hm
      · exact h.own_ne hf hrow (by rw [hg, hm])
      · exact hgo f hf hr g hg (by simpa using hm)
  · intro e he
    obtain ⟨f, hf, rfl⟩ := List.mem_map.1 he
    have := h.base f hf
    by_cases hr : f.r = row.r
    · simp only [hr, if_true]; omega
    · simp only [hr, if_false]; exact this
  · unfold updP
    rw [List.pairwise_map]
    refine List.Pairwise.imp_of_mem (fun {e f} he hf hef => ?_) h.apart
    obtain ⟨a1, a2, a3⟩ := hef
    by_cases hr : e.r = row.r
    · have hfr : ¬ f.r = row.r := fun h5 => a2 (hr.trans h5.symm)
      simp only [hr, if_true, hfr, if_false]
      refine ⟨a1, fun h5 => hfr h5.symm, fun g hg hfg => ?_⟩
      rcases h3 with h3 | ⟨G, h3, h4⟩
      · rw [h3] at hg
        exact hgo f hf hfr g hfg hg
      · rw [h3] at hg
        cases hg
        have := hlt f hf _ hfg
        omega
    · simp only [hr, if_false]
      by_cases hfr : f.r = row.r
      · simp only [hfr, if_true]
        refine ⟨a1, hr, fun g hg hfg => ?_⟩
        rcases h3 with h3 | ⟨G, h3, h4⟩
        · rw [h3] at hfg
          exact hgo e he hr g hg hfg
        · rw [h3] at hfg
          cases hfg
          have := hlt e he _ hg
          omega
      · simp only [hfr, if_false]
        exact ⟨a1, a2, a3⟩
theorem PRep.put {B m0 : Nat} {L : List PRow} {W W' : World} {row : PRow} {cs : List Value} (h : PRep B m0 L W) (hrow : row ∈ L) (hp : PutR rowP B 29 1 row.r row.v row.n row.xs cs W W') :
    ∃ v', PRep B m0 (updP L row.r v' (row.n + 1) (row.xs ++ cs)) W' ∧ ChgP m0 W W' ∧ Kept (blkP m0 L) (blkP m0 (updP L row.r v' (row.n + 1) (row.xs ++ cs))) W W' := by
  obtain ⟨v', h1, h2, h3, hch⟩ := hp
  exact ⟨v', h.set hrow h1 h2 h3 hch⟩
/-- What waits for a name: how many, and the cells. -/
def pf (L : List PRow) (s : ByteArray) : Nat × List Value := match L.find? (fun e => s == e.name) with
  | some e => (e.n, e.xs)
  | none => (0, [])
theorem pf_app {L : List PRow} {row : PRow} (h1 : row.n = 0) (h2 : row.xs = []) : pf (L ++ [row]) = pf L := by
  funext s
  unfold pf
  rw [List.find?_append]
  cases L.find? (fun e => s == e.name) with
  | some e => rfl
  | none =>
    simp only [Option.none_or]
    cases hs : (s == row.name) with
    | true => simp [List.find?, hs, h1, h2]
    | false => simp [List.find?, hs]
theorem PRep.pf_row {B m0 : Nat} {L : List PRow} {W : World} (h : PRep B m0 L W) {row : PRow} (hr : row ∈ L) : pf L row.name = (row.n, row.xs) := by
  have hp := h.apart
  clear h
  unfold pf
  have : L.find? (fun e => row.name == e.name) = some row := by
    induction L with
    | nil => cases hr
    | cons a L ih =>
      rw [List.pairwise_cons] at hp
      rcases List.mem_cons.1 hr with rfl | hr1
      · simp [List.find?, self_eq row.name]
      · have hne : (row.name == a.name) = false := by
          cases hb : (row.name == a.name) with
          | false => rfl
          | true => exact absurd ((MapKept.bytes_beq _ _).1 hb).symm (hp.1 row hr1).1
        rw [List.find?_cons, hne]
        exact ih hr1 hp.2
  rw [this]
theorem PRep.pf_updP {B m0 : Nat} {L : List PRow} {W : World} (h : PRep B m0 L W) {row : PRow} (hr : row ∈ L) (v : Value) (n : Nat) (xs : List Value) : pf (updP L row.r v n xs) = setF (pf L) row.name (n, xs) := by
  funext s
  have hf : (updP L row.r v n xs).find? (fun e => s == e.name) = (L.find? (fun e => s == e.name)).map (fun e => if e.r = row.r then { e with v := v, n := n, xs := xs } else e) := by
    unfold updP
    rw [List.find?_map]
    congr 2
    funext e
    simp only [Function.comp]
    split <;> rfl
  unfold setF
  by_cases hs : s = row.name
  · subst hs
    rw [if_pos rfl]
    have h5 := h.pf_row hr
    unfold pf at h5 ⊢
    rw [hf]
    cases hL : L.find? (fun e => row.name == e.name) with
    | none =>
      rw [List.find?_eq_none] at hL
      exact absurd (self_eq row.name) (hL row hr)
    | some e =>
      have h6 := List.find?_some hL
      have h7 := List.mem_of_find?_eq_some hL
      have hne : e.r = row.r := by
        have h8 : row.name = e.name := (MapKept.bytes_beq _ _).1 h6
        have hp := h.apart
        clear h hf hL h5 h6
        revert h7 hr hp
        induction L with
        | nil => intro _ h7; cases h7
        | cons a L ih =>
          intro hr h7 hp
          rw [List.pairwise_cons] at hp
          rcases List.mem_cons.1 h7 with a7 | a7 <;> rcases List.mem_cons.1 hr with ar | ar
          · rw [a7, ar]
          · exact absurd (h8.symm.trans (congrArg PRow.name rfl)) (a7 ▸ (hp.1 _ ar).1)
          · exact absurd h8 (ar ▸ (hp.1 _ a7).1)
          · exact ih ar a7 hp.2
      simp [hne]
  · rw [if_neg hs]
    unfold pf
    rw [hf]
    cases hL : L.find? (fun e => s == e.name) with
    | none => rfl
    | some e =>
      have h6 := List.find?_some hL
      have h6 : s = e.name := (MapKept.bytes_beq _ _).1 h6
      have h7 := List.mem_of_find?_eq_some hL
      by_cases hr2 : e.r = row.r
      · exact absurd (h6.trans (congrArg PRow.name (h.same h7 hr hr2))) hs
      · simp [hr2]
theorem PRep.pf_of {B m0 : Nat} {L L' : List PRow} {row : PRow} {W' : World} {s : ByteArray} (hR : PRep B m0 L' W') (hrow : row ∈ L') (hn : row.name = s) (hc : (L' = L) ∨ (L' = L ++ [row] ∧ row.n = 0 ∧ row.xs = [] ∧ ∀ f ∈ L, f.name ≠ s)) :
    pf L' = pf L ∧ (row.n, row.xs) = pf L s := by
  have h1 : pf L' = pf L := by
    rcases hc with rfl | ⟨rfl, h1, h2, _⟩
    · rfl
    · exact pf_app h1 h2
  exact ⟨h1, by rw [← h1, ← hn]; exact (hR.pf_row hrow).symm⟩
end Go.Proofs.Ytiebggfpjkhlaaa
