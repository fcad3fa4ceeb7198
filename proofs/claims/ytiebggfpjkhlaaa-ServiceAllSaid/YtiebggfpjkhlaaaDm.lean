/- A service's state as a whole; each call as a step of it. No condition. -/
import Derived.Test.YtiebggfpjkhlaaaDl
import Derived.Test.YtiebggfpjkhlaaaYl
namespace Go.Proofs.Ytiebggfpjkhlaaa
open Go Go.RowKit
set_option linter.unusedSimpArgs false
structure Abs where
  pq : ByteArray → List Pk
  gq : ByteArray → Option GS
  wq : ByteArray → List Wt
def encP (f : ByteArray → List Pk) : ByteArray → Nat × List Value := fun s => ((f s).length, (f s).map Pk.v)
def encW (f : ByteArray → List Wt) : ByteArray → Nat × List Value := fun s => ((f s).length, (f s).flatMap Wt.cells)
theorem encP_set (f : ByteArray → List Pk) (s : ByteArray) (l : List Pk) : encP (setQ f s l) = setF (encP f) s (l.length, l.map Pk.v) := by
  funext t
  unfold encP setQ setF
  by_cases h : t = s <;> simp [h]
theorem encW_set (f : ByteArray → List Wt) (s : ByteArray) (l : List Wt) : encW (setQ f s l) = setF (encW f) s (l.length, l.flatMap Wt.cells) := by
  funext t
  unfold encW setQ setF
  by_cases h : t = s <;> simp [h]
structure SRep (B b m0 m1 m2 : Nat) (A : Abs) (os : List Nat) (W : World) : Prop where
  svc_ : W.heap[b]? = some (svc m0 m1 m2)
  base : B ≤ W.heap.size
  ne : m0 ≠ m1 ∧ m0 ≠ m2 ∧ m1 ≠ m2 ∧ B ≤ b ∧ B ≤ m0 ∧ B ≤ m1 ∧ B ≤ m2
  rep : ∃ P G L, PRep B m0 P W ∧ GRep B m1 G W ∧ WRep B m2 L W ∧ pf P = encP A.pq ∧ gf G = A.gq ∧ wf L = encW A.wq ∧ os = blkP m0 P ++ (blkG m1 G ++ blkW m2 L)
  pok : ∀ s, ∀ p ∈ A.pq s, p.Ok W
  wok : ∀ s, ∀ w ∈ A.wq s, w.en.Ok W
theorem PRep.lt {B m0 : Nat} {L : List PRow} {W : World} (h : PRep B m0 L W) : ∀ i ∈ blkP m0 L, i < W.heap.size := by
  intro i hi
  rcases List.mem_cons.1 hi with rfl | hi
  · obtain ⟨es, clock, h5, _⟩ := h.map
    exact (Array.getElem?_eq_some_iff.1 h5).1
  · obtain ⟨e, he, hi⟩ := List.mem_flatMap.1 hi
    rcases List.mem_cons.1 hi with rfl | hi
    · exact (Array.getElem?_eq_some_iff.1 (h.row e he)).1
    · exact ((h.own e he).lt i (by simpa using hi)).2
theorem GRep.lt {B m1 : Nat} {L : List GRow} {W : World} (h : GRep B m1 L W) : ∀ i ∈ blkG m1 L, i < W.heap.size := by
  intro i hi
  rcases List.mem_cons.1 hi with rfl | hi
  · obtain ⟨es, clock, h5, _⟩ := h.map
    exact (Array.getElem?_eq_some_iff.1 h5).1
  · obtain ⟨e, he, hi⟩ := List.mem_flatMap.1 hi
    exact ((h.ok e he).lt i hi).2
theorem PRep.ge {B m0 : Nat} {L : List PRow} {W : World} (h : PRep B m0 L W) (hm : B ≤ m0) : ∀ i ∈ blkP m0 L, B ≤ i := by
  intro i hi
  rcases List.mem_cons.1 hi with rfl | hi
  · exact hm
  · obtain ⟨e, he, hi⟩ := List.mem_flatMap.1 hi
    rcases List.mem_cons.1 hi with rfl | hi
    · exact h.base e he
    · exact ((h.own e he).lt i (by simpa using hi)).1
theorem WRep.ge {B m0 : Nat} {L : List WRow} {W : World} (h : WRep B m0 L W) (hm : B ≤ m0) : ∀ i ∈ blkW m0 L, B ≤ i := by
  intro i hi
  rcases List.mem_cons.1 hi with rfl | hi
  · exact hm
  · obtain ⟨e, he, hi⟩ := List.mem_flatMap.1 hi
    rcases List.mem_cons.1 hi with rfl | hi
    · exact h.base e he
    · exact ((h.own e he).lt i (by simpa using hi)).1
theorem GRep.ge {B m1 : Nat} {L : List GRow} {W : World} (h : GRep B m1 L W) (hm : B ≤ m1) : ∀ i ∈ blkG m1 L, B ≤ i := by
  intro i hi
  rcases List.mem_cons.1 hi with rfl | hi
  · exact hm
  · obtain ⟨e, he, hi⟩ := List.mem_flatMap.1 hi
    exact ((h.ok e he).lt i hi).1
/-- Of what kind a block is: 0 a map, 1 packages, 2 groups, 3 waits. -/
theorem PRep.kind {B m0 : Nat} {L : List PRow} {W : World} (h : PRep B m0 L W) : ∀ i ∈ blkP m0 L, (i = m0 ∧ ∃ es c, W.heap[i]? = some (.map es c)) ∨ ∃ o, W.heap[i]? = some o ∧ isP o = true := by
  intro i hi
  rcases List.mem_cons.1 hi with rfl | hi
  · obtain ⟨es, clock, h5, _⟩ := h.map
    exact .inl ⟨rfl, es, clock, h5⟩
  · obtain ⟨e, he, hi⟩ := List.mem_flatMap.1 hi
    rcases List.mem_cons.1 hi with rfl | hi
    · exact .inr ⟨_, h.row e he, rfl⟩
    · obtain ⟨cur, hc⟩ := own_blk (h.own e he) (g := i) (by simpa using hi)
      exact .inr ⟨_, hc, rfl⟩
theorem WRep.kind {B m2 : Nat} {L : List WRow} {W : World} (h : WRep B m2 L W) : ∀ i ∈ blkW m2 L, (i = m2 ∧ ∃ es c, W.heap[i]? = some (.map es c)) ∨ ∃ o, W.heap[i]? = some o ∧ isW o = true := by
  intro i hi
  rcases List.mem_cons.1 hi with rfl | hi
  · obtain ⟨es, clock, h5, _⟩ := h.map
    exact .inl ⟨rfl, es, clock, h5⟩
  · obtain ⟨e, he, hi⟩ := List.mem_flatMap.1 hi
    rcases List.mem_cons.1 hi with rfl | hi
    · exact .inr ⟨_, h.row e he, rfl⟩
    · obtain ⟨cur, hc⟩ := own_blk (h.own e he) (g := i) (by simpa using hi)
      exact .inr ⟨_, hc, rfl⟩
theorem GRep.kind {B m1 : Nat} {L : List GRow} {W : World} (h : GRep B m1 L W) : ∀ i ∈ blkG m1 L, (i = m1 ∧ ∃ es c, W.heap[i]? = some (.map es c)) ∨ ∃ o, W.heap[i]? = some o ∧ isG o = true := by
  intro i hi
  rcases List.mem_cons.1 hi with rfl | hi
  · obtain ⟨es, clock, h5, _⟩ := h.map
    exact .inl ⟨rfl, es, clock, h5⟩
  · obtain ⟨e, he, hi⟩ := List.mem_flatMap.1 hi
    exact .inr ((h.ok e he).kind i hi)
theorem isPG {o : Obj} (h : isP o = true) (k : isG o = true) : False := by
  cases o <;> simp_all [isP, isG]
  rcases h with rfl | rfl <;> rcases k with (k | k) | k <;> exact absurd k (by decide)
theorem isPW {o : Obj} (h : isP o = true) (k : isW o = true) : False := by
  cases o <;> simp_all [isP, isW]
  rcases h with rfl | rfl <;> rcases k with k | k <;> exact absurd k (by decide)
theorem isGW {o : Obj} (h : isG o = true) (k : isW o = true) : False := by
  cases o <;> simp_all [isG, isW]
  rcases h with (rfl | rfl) | rfl <;> rcases k with k | k <;> exact absurd k (by decide)
theorem kinds_apart {p q : Obj → Bool} {W : World} {i m m' : Nat} (hpq : ∀ o, p o = true → q o = true → False) (hp : ∀ es c, p (.map es c) = false) (hq : ∀ es c, q (.map es c) = false) (hm : m ≠ m')
    (h : (i = m ∧ ∃ es c, W.heap[i]? = some (.map es c)) ∨ ∃ o, W.heap[i]? = some o ∧ p o = true) (k : (i = m' ∧ ∃ es c, W.heap[i]? = some (.map es c)) ∨ ∃ o, W.heap[i]? = some o ∧ q o = true) : False := by
  rcases h with ⟨rfl, es, c, h⟩ | ⟨o, h, ho⟩ <;> rcases k with ⟨rfl, es', c', k⟩ | ⟨o', k, ko⟩
  · exact hm rfl
  · rw [h] at k; cases k; rw [hq] at ko; cases ko
  · rw [h] at k; cases k; rw [hp] at ho; cases ho
  · rw [h] at k; cases k; exact hpq _ ho ko
section
variable {B b m0 m1 m2 : Nat} {A : Abs} {os : List Nat} {W W' : World}
theorem PRep.xG {P : List PRow} {G : List GRow} (h : PRep B m0 P W) (k : GRep B m1 G W) (hm : m0 ≠ m1) : ∀ i ∈ blkP m0 P, i ∉ blkG m1 G := fun i hi hj =>
  kinds_apart (p := isP) (q := isG) (fun _ => isPG) (fun _ _ => rfl) (fun _ _ => rfl) hm (h.kind i hi) (k.kind i hj)
theorem PRep.xW {P : List PRow} {L : List WRow} (h : PRep B m0 P W) (k : WRep B m2 L W) (hm : m0 ≠ m2) : ∀ i ∈ blkP m0 P, i ∉ blkW m2 L := fun i hi hj =>
  kinds_apart (p := isP) (q := isW) (fun _ => isPW) (fun _ _ => rfl) (fun _ _ => rfl) hm (h.kind i hi) (k.kind i hj)
theorem GRep.xW {G : List GRow} {L : List WRow} (h : GRep B m1 G W) (k : WRep B m2 L W) (hm : m1 ≠ m2) : ∀ i ∈ blkG m1 G, i ∉ blkW m2 L := fun i hi hj =>
  kinds_apart (p := isG) (q := isW) (fun _ => isGW) (fun _ _ => rfl) (fun _ _ => rfl) hm (h.kind i hi) (k.kind i hj)
theorem SRep.noU (h : SRep B b m0 m1 m2 A os W) : NoU os W := by
  obtain ⟨P, G, L, hp, hg, hw, _, _, _, rfl⟩ := h.rep
  intro i hi
  rcases List.mem_append.1 hi with hi | hi
  · exact hp.noU i hi
  · rcases List.mem_append.1 hi with hi | hi
    · exact hg.noU i hi
    · exact hw.noU i hi
theorem SRep.lt (h : SRep B b m0 m1 m2 A os W) : ∀ i ∈ os, B ≤ i ∧ i < W.heap.size := by
  obtain ⟨P, G, L, hp, hg, hw, _, _, _, rfl⟩ := h.rep
  obtain ⟨_, _, _, _, n0, n1, n2⟩ := h.ne
  intro i hi
  rcases List.mem_append.1 hi with hi | hi
  · exact ⟨hp.ge n0 i hi, hp.lt i hi⟩
  · rcases List.mem_append.1 hi with hi | hi
    · exact ⟨hg.ge n1 i hi, hg.lt i hi⟩
    · exact ⟨hw.ge n2 i hi, hw.lt i hi⟩
theorem SRep.bnot (h : SRep B b m0 m1 m2 A os W) : b ∉ os := by
  obtain ⟨P, G, L, hp, hg, hw, _, _, _, rfl⟩ := h.rep
  have hb := h.svc_
  intro hi
  have key : ∀ {p : Obj → Bool} {m : Nat}, p (svc m0 m1 m2) = false → ((b = m ∧ ∃ es c, W.heap[b]? = some (.map es c)) ∨ ∃ o, W.heap[b]? = some o ∧ p o = true) → False := by
    intro p m hp h5
    rcases h5 with ⟨_, es, c, h5⟩ | ⟨o, h5, h6⟩
    · rw [hb] at h5; cases h5
    · rw [hb] at h5; cases h5; rw [hp] at h6; cases h6
  rcases List.mem_append.1 hi with hi | hi
  · exact key (p := isP) rfl (hp.kind b hi)
  · rcases List.mem_append.1 hi with hi | hi
    · exact key (p := isG) rfl (hg.kind b hi)
    · exact key (p := isW) rfl (hw.kind b hi)
/-- A service stands where its blocks do. -/
theorem SRep.stay {os' : List Nat} (h : SRep B b m0 m1 m2 A os W) (hc : Chg os' W W') (hn : NoU os' W) (hd : ∀ i ∈ b :: os, i ∉ os') : SRep B b m0 m1 m2 A os W' := by
  obtain ⟨P, G, L, hp, hg, hw, e1, e2, e3, rfl⟩ := h.rep
  refine ⟨hc.at_ h.svc_ (hd b (by simp)), Nat.le_trans h.base hc.size, h.ne, ⟨P, G, L, hp.apartStay hc (fun i hi => hd i (by simp [hi])), hg.stay hc hn (fun i hi => hd i (by simp [hi])), hw.apartStay hc (fun i hi => hd i (by simp [hi])), e1, e2, e3, rfl⟩, fun s p hp => (h.pok s p hp).chg hc hn, fun s w hw => (h.wok s w hw).chg hc hn⟩
theorem SRep.keep (h : SRep B b m0 m1 m2 A os W) (hb : Below W.heap.size W W') : SRep B b m0 m1 m2 A os W' :=
  h.stay (os' := []) (Chg.of_below hb) (by intro i hi; cases hi) (by simp)
/-- A call: what it answers, and the step that it is. -/
def Did (B b m0 m1 m2 : Nat) (os : List Nat) (W : World) (R : Value → Abs → World → Prop) (e : Ending) (W' : World) : Prop :=
  ∃ v A' os', e = .returned v ∧ SRep B b m0 m1 m2 A' os' W' ∧ Kept os os' W W' ∧ R v A' W'
theorem Did.same {R : Value → Abs → World → Prop} {v : Value} (h : SRep B b m0 m1 m2 A os W) (hb : Below W.heap.size W W') (hR : R v A W') : Did B b m0 m1 m2 os W R (.returned v) W' :=
  ⟨v, A, os, rfl, h.keep hb, Kept.below hb, hR⟩
/-- The packages turn. -/
theorem SRep.setP {P P' : List PRow} {G : List GRow} {L : List WRow} {pq' : ByteArray → List Pk} (hs : W.heap[b]? = some (svc m0 m1 m2)) (hB : B ≤ W.heap.size) (hne : m0 ≠ m1 ∧ m0 ≠ m2 ∧ m1 ≠ m2 ∧ B ≤ b ∧ B ≤ m0 ∧ B ≤ m1 ∧ B ≤ m2) (hp : PRep B m0 P W) (hg : GRep B m1 G W) (hw : WRep B m2 L W) (e2 : gf G = A.gq) (e3 : wf L = encW A.wq) (wok : ∀ s, ∀ w ∈ A.wq s, w.en.Ok W) (hbn : b ∉ blkP m0 P)
    (hp' : PRep B m0 P' W') (hk : Kept (blkP m0 P) (blkP m0 P') W W') (e1 : pf P' = encP pq') (pok : ∀ s, ∀ p ∈ pq' s, p.Ok W') :
    SRep B b m0 m1 m2 { A with pq := pq' } (blkP m0 P' ++ (blkG m1 G ++ blkW m2 L)) W' ∧ Kept (blkP m0 P ++ (blkG m1 G ++ blkW m2 L)) (blkP m0 P' ++ (blkG m1 G ++ blkW m2 L)) W W' := by
  have hn := hp.noU
  have x1 := hp.xG hg hne.1
  have x2 := hp.xW hw hne.2.1
  exact ⟨⟨hk.chg.at_ hs hbn, Nat.le_trans hB hk.chg.size, hne, ⟨P', G, L, hp', hg.stay hk.chg hn (fun i hi hj => x1 i hj hi), hw.apartStay hk.chg (fun i hi hj => x2 i hj hi), e1, e2, e3, rfl⟩, pok, fun s w hw => (wok s w hw).chg hk.chg hn⟩, hk.app2 _⟩
/-- The groups turn. -/
theorem SRep.setG {P : List PRow} {G G' : List GRow} {L : List WRow} {gq' : ByteArray → Option GS} (hs : W.heap[b]? = some (svc m0 m1 m2)) (hB : B ≤ W.heap.size) (hne : m0 ≠ m1 ∧ m0 ≠ m2 ∧ m1 ≠ m2 ∧ B ≤ b ∧ B ≤ m0 ∧ B ≤ m1 ∧ B ≤ m2) (hp : PRep B m0 P W) (hg : GRep B m1 G W) (hw : WRep B m2 L W) (e1 : pf P = encP A.pq) (e3 : wf L = encW A.wq) (pok : ∀ s, ∀ p ∈ A.pq s, p.Ok W) (wok : ∀ s, ∀ w ∈ A.wq s, w.en.Ok W) (hbn : b ∉ blkG m1 G)
    (hg' : GRep B m1 G' W') (hk : Kept (blkG m1 G) (blkG m1 G') W W') (e2 : gf G' = gq') :
    SRep B b m0 m1 m2 { A with gq := gq' } (blkP m0 P ++ (blkG m1 G' ++ blkW m2 L)) W' ∧ Kept (blkP m0 P ++ (blkG m1 G ++ blkW m2 L)) (blkP m0 P ++ (blkG m1 G' ++ blkW m2 L)) W W' := by
  have hn := hg.noU
  have x1 := hp.xG hg hne.1
  have x2 := hg.xW hw hne.2.2.1
  exact ⟨⟨hk.chg.at_ hs hbn, Nat.le_trans hB hk.chg.size, hne, ⟨P, G', L, hp.apartStay hk.chg x1, hg', hw.apartStay hk.chg (fun i hi hj => x2 i hj hi), e1, e2, e3, rfl⟩, fun s p hp => (pok s p hp).chg hk.chg hn, fun s w hw => (wok s w hw).chg hk.chg hn⟩, (hk.app2 _).app _⟩
/-- The waits turn. -/
theorem SRep.setW {P : List PRow} {G : List GRow} {L L' : List WRow} {wq' : ByteArray → List Wt} (hs : W.heap[b]? = some (svc m0 m1 m2)) (hB : B ≤ W.heap.size) (hne : m0 ≠ m1 ∧ m0 ≠ m2 ∧ m1 ≠ m2 ∧ B ≤ b ∧ B ≤ m0 ∧ B ≤ m1 ∧ B ≤ m2) (hp : PRep B m0 P W) (hg : GRep B m1 G W) (hw : WRep B m2 L W) (e1 : pf P = encP A.pq) (e2 : gf G = A.gq) (pok : ∀ s, ∀ p ∈ A.pq s, p.Ok W) (hbn : b ∉ blkW m2 L)
    (hw' : WRep B m2 L' W') (hk : Kept (blkW m2 L) (blkW m2 L') W W') (e3 : wf L' = encW wq') (wok : ∀ s, ∀ w ∈ wq' s, w.en.Ok W') :
    SRep B b m0 m1 m2 { A with wq := wq' } (blkP m0 P ++ (blkG m1 G ++ blkW m2 L')) W' ∧ Kept (blkP m0 P ++ (blkG m1 G ++ blkW m2 L)) (blkP m0 P ++ (blkG m1 G ++ blkW m2 L')) W W' := by
  have hn := hw.noU
  have x1 := hp.xW hw hne.2.1
  have x2 := hg.xW hw hne.2.2.1
  exact ⟨⟨hk.chg.at_ hs hbn, Nat.le_trans hB hk.chg.size, hne, ⟨P, G, L', hp.apartStay hk.chg x1, hg.stay hk.chg hn x2, hw', e1, e2, e3, rfl⟩, fun s p hp => (pok s p hp).chg hk.chg hn, wok⟩, (hk.app _).app _⟩
end
end Go.Proofs.Ytiebggfpjkhlaaa
