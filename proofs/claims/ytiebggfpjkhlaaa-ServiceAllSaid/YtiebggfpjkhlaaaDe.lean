/- A service's state: packages, groups, waits; what stands while others turn. No condition. -/
import Derived.Test.YtiebggfpjkhlaaaDd
namespace Go.Proofs.Ytiebggfpjkhlaaa
open Go Go.RowKit
set_option linter.unusedSimpArgs false
/-- An entry of a log. -/
structure En where
  ep : Int
  kd : Int
  q : Nat
  n : Nat
  c : Nat
  l : List Int
def En.cells (e : En) : List Value := [.int .i64 e.ep, .int .i64 e.kd, .slice (some ⟨e.q, 0, none⟩) e.n e.c]
def En.Ok (W : World) (e : En) : Prop := Body W e.q e.n e.c e.l ∧ 1 ≤ e.n ∧ e.n ≤ 65536
/-- One that waits. -/
structure Wt where
  s : ByteArray
  k : Nat
  en : En
def Wt.cells (w : Wt) : List Value := [.string w.s, .int .i64 w.k, .int .i64 w.en.ep, .int .i64 w.en.kd, .slice (some ⟨w.en.q, 0, none⟩) w.en.n w.en.c]
/-- A package. -/
structure Pk where
  q : Nat
  n : Nat
  c : Nat
  l : List Int
def Pk.v (p : Pk) : Value := .slice (some ⟨p.q, 0, none⟩) p.n p.c
def Pk.Ok (W : World) (p : Pk) : Prop := Body W p.q p.n p.c p.l
/-- A group. -/
structure GS where
  ep : Int
  log : List En
  subs : List ByteArray
structure GRow where
  name : ByteArray
  bg : Nat
  vlog : Value
  vsubs : Value
  st : GS
def GRow.blk (g : GRow) : List Nat := g.bg :: (g.vlog.ownBlock.toList ++ g.vsubs.ownBlock.toList)
structure GOk (B : Nat) (W : World) (g : GRow) : Prop where
  blk_ : W.heap[g.bg]? = some (grp g.st.ep g.vlog g.vsubs)
  log : W.ownsRow B 33 3 g.vlog g.st.log.length (g.st.log.flatMap En.cells)
  sub : W.ownsRow B 9 1 g.vsubs g.st.subs.length (g.st.subs.map Value.string)
  base : B ≤ g.bg
  few : g.st.subs.length ≤ 16
  nms : ∀ t ∈ g.st.subs, 1 ≤ t.size ∧ t.size ≤ 255
  ep_ : 0 ≤ g.st.ep ∧ g.st.ep < 4294967296
  body : ∀ e ∈ g.st.log, e.Ok W
/-- The kinds of blocks that a group owns. -/
def isG : Obj → Bool
  | .cells _ t _ => t == 65 || t == 33 || t == 9
  | _ => false
theorem GOk.kind {B : Nat} {W : World} {g : GRow} (h : GOk B W g) : ∀ i ∈ g.blk, ∃ o, W.heap[i]? = some o ∧ isG o = true := by
  intro i hi
  rcases List.mem_cons.1 hi with rfl | hi
  · exact ⟨_, h.blk_, rfl⟩
  · rcases List.mem_append.1 hi with hi | hi
    · obtain ⟨cur, hc⟩ := own_blk h.log (g := i) (by simpa using hi)
      exact ⟨_, hc, rfl⟩
    · obtain ⟨cur, hc⟩ := own_blk h.sub (g := i) (by simpa using hi)
      exact ⟨_, hc, rfl⟩
theorem GOk.lt {B : Nat} {W : World} {g : GRow} (h : GOk B W g) : ∀ i ∈ g.blk, B ≤ i ∧ i < W.heap.size := by
  intro i hi
  rcases List.mem_cons.1 hi with rfl | hi
  · exact ⟨h.base, (Array.getElem?_eq_some_iff.1 h.blk_).1⟩
  · rcases List.mem_append.1 hi with hi | hi
    · exact h.log.lt i (by simpa using hi)
    · exact h.sub.lt i (by simpa using hi)
/-- A block of bytes. -/
def isU : Obj → Bool
  | .cells _ t _ => t == 5
  | _ => false
theorem Body.blk {W : World} {q n c : Nat} {l : List Int} (h : Body W q n c l) : ∃ o, W.heap[q]? = some o ∧ isU o = true := by
  obtain ⟨⟨Bb, ho⟩, _⟩ := h
  obtain ⟨cur, hc⟩ := own_blk ho (g := q) rfl
  exact ⟨_, hc, rfl⟩
theorem Body.stay {W W' : World} {q n c : Nat} {l : List Int} (h : Body W q n c l) (hs : W'.heap[q]? = W.heap[q]?) : Body W' q n c l := by
  obtain ⟨⟨Bb, ho⟩, hl⟩ := h
  refine ⟨⟨Bb, own_ext ho (fun g hg => ?_)⟩, hl⟩
  cases hg
  exact hs
theorem Body.bs {W : World} {q n c : Nat} {l : List Int} (h : Body W q n c l) : Bs W (some ⟨q, 0, none⟩) n l := by
  obtain ⟨⟨Bb, ho⟩, hl⟩ := h
  exact Bs.of_ownG ho hl
/-- Blocks that turn, none of bytes. -/
def NoU (os : List Nat) (W : World) : Prop := ∀ i ∈ os, ∀ o, W.heap[i]? = some o → isU o = false
theorem Body.chg {W W' : World} {q n c : Nat} {l : List Int} {os : List Nat} (h : Body W q n c l) (hc : Chg os W W') (hn : NoU os W) : Body W' q n c l := by
  obtain ⟨o, h1, h2⟩ := h.blk
  refine h.stay (hc.block q (Array.getElem?_eq_some_iff.1 h1).1 (fun hm => ?_))
  rw [hn q hm o h1] at h2
  cases h2
theorem En.Ok.chg {W W' : World} {e : En} {os : List Nat} (h : e.Ok W) (hc : Chg os W W') (hn : NoU os W) : e.Ok W' := ⟨h.1.chg hc hn, h.2⟩
theorem Pk.Ok.chg {W W' : World} {e : Pk} {os : List Nat} (h : e.Ok W) (hc : Chg os W W') (hn : NoU os W) : e.Ok W' := Body.chg h hc hn
theorem isG_U {o : Obj} (h : isG o = true) : isU o = false := by
  cases o <;> simp_all [isG, isU]
  rcases h with (rfl | rfl) | rfl <;> decide
theorem isW_U {o : Obj} (h : isW o = true) : isU o = false := by
  cases o <;> simp_all [isW, isU]
  rcases h with rfl | rfl <;> decide
theorem isP_U {o : Obj} (h : isP o = true) : isU o = false := by
  cases o <;> simp_all [isP, isU]
  rcases h with rfl | rfl <;> decide
theorem GOk.noU {B : Nat} {W : World} {g : GRow} (h : GOk B W g) : NoU g.blk W := by
  intro i hi o ho
  obtain ⟨o', h1, h2⟩ := h.kind i hi
  rw [h1] at ho
  cases ho
  exact isG_U h2
/-- A group stands where its blocks do. -/
theorem GOk.stay {B : Nat} {W W' : World} {g : GRow} {os : List Nat} (h : GOk B W g) (hc : Chg os W W') (hn : NoU os W) (hd : ∀ i ∈ g.blk, i ∉ os) : GOk B W' g := by
  have hs : ∀ i ∈ g.blk, W'.heap[i]? = W.heap[i]? := fun i hi => hc.block i (h.lt i hi).2 (hd i hi)
  refine ⟨(hs _ (by simp [GRow.blk])).trans h.blk_, own_ext h.log (fun i hi => hs i ?_), own_ext h.sub (fun i hi => hs i ?_), h.base, h.few, h.nms, h.ep_, fun e he => (h.body e he).chg hc hn⟩
  · simp [GRow.blk, hi]
  · simp [GRow.blk, hi]
structure GRep (B m1 : Nat) (G : List GRow) (W : World) : Prop where
  map : ∃ es clock, W.heap[m1]? = some (.map es clock) ∧ MapIs es (G.map fun g => (g.name, g.bg))
  ok : ∀ g ∈ G, GOk B W g
  apart : G.Pairwise fun e f => e.name ≠ f.name ∧ ∀ i ∈ e.blk, i ∉ f.blk
def blkG (m1 : Nat) (G : List GRow) : List Nat := m1 :: G.flatMap GRow.blk
theorem noU_map {W : World} {m : Nat} {es : Array MapEntry} {clock : Nat} (h : W.heap[m]? = some (.map es clock)) : ∀ o, W.heap[m]? = some o → isU o = false := by
  intro o ho
  rw [h] at ho
  cases ho
  rfl
theorem GRep.noU {B m1 : Nat} {G : List GRow} {W : World} (h : GRep B m1 G W) : NoU (blkG m1 G) W := by
  intro i hi
  rcases List.mem_cons.1 hi with rfl | hi
  · obtain ⟨es, clock, h1, _⟩ := h.map
    exact noU_map h1
  · obtain ⟨g, hg, hi⟩ := List.mem_flatMap.1 hi
    exact (h.ok g hg).noU i hi
theorem WRep.noU {B m2 : Nat} {L : List WRow} {W : World} (h : WRep B m2 L W) : NoU (blkW m2 L) W := by
  intro i hi
  rcases List.mem_cons.1 hi with rfl | hi
  · obtain ⟨es, clock, h1, _⟩ := h.map
    exact noU_map h1
  · obtain ⟨g, hg, hi⟩ := List.mem_flatMap.1 hi
    rcases h.isw hg i hi with rfl | ⟨o, h1, h2⟩
    · obtain ⟨es, clock, h1, _⟩ := h.map
      exact noU_map h1
    · intro o' ho
      rw [h1] at ho
      cases ho
      exact isW_U h2
theorem PRep.noU {B m0 : Nat} {L : List PRow} {W : World} (h : PRep B m0 L W) : NoU (blkP m0 L) W := by
  intro i hi
  rcases List.mem_cons.1 hi with rfl | hi
  · obtain ⟨es, clock, h1, _⟩ := h.map
    exact noU_map h1
  · obtain ⟨g, hg, hi⟩ := List.mem_flatMap.1 hi
    rcases h.isp hg i hi with rfl | ⟨o, h1, h2⟩
    · obtain ⟨es, clock, h1, _⟩ := h.map
      exact noU_map h1
    · intro o' ho
      rw [h1] at ho
      cases ho
      exact isP_U h2
theorem GRep.stay {B m1 : Nat} {G : List GRow} {W W' : World} {os : List Nat} (h : GRep B m1 G W) (hc : Chg os W W') (hn : NoU os W) (hd : ∀ i ∈ blkG m1 G, i ∉ os) : GRep B m1 G W' := by
  obtain ⟨es, clock, h1, h2⟩ := h.map
  exact ⟨⟨es, clock, hc.at_ h1 (hd _ (by simp [blkG])), h2⟩, fun g hg => (h.ok g hg).stay hc hn (fun i hi => hd i (List.mem_cons_of_mem _ (List.mem_flatMap.2 ⟨g, hg, hi⟩))), h.apart⟩
theorem WRep.apartStay {B m2 : Nat} {L : List WRow} {W W' : World} {os : List Nat} (h : WRep B m2 L W) (hc : Chg os W W') (hd : ∀ i ∈ blkW m2 L, i ∉ os) : WRep B m2 L W' := by
  obtain ⟨es, clock, h1, h2⟩ := h.map
  refine ⟨⟨es, clock, hc.at_ h1 (hd _ (by simp [blkW])), h2⟩, fun e he => hc.at_ (h.row e he) (hd _ ?_), fun e he => own_ext (h.own e he) (fun g hg => hc.block g ((h.own e he).lt g hg).2 (hd _ ?_)), h.base, h.apart⟩
  · exact List.mem_cons_of_mem _ (List.mem_flatMap.2 ⟨e, he, by simp⟩)
  · exact List.mem_cons_of_mem _ (List.mem_flatMap.2 ⟨e, he, by simp [hg]⟩)
theorem PRep.apartStay {B m0 : Nat} {L : List PRow} {W W' : World} {os : List Nat} (h : PRep B m0 L W) (hc : Chg os W W') (hd : ∀ i ∈ blkP m0 L, i ∉ os) : PRep B m0 L W' := by
  obtain ⟨es, clock, h1, h2⟩ := h.map
  refine ⟨⟨es, clock, hc.at_ h1 (hd _ (by simp [blkP])), h2⟩, fun e he => hc.at_ (h.row e he) (hd _ ?_), fun e he => own_ext (h.own e he) (fun g hg => hc.block g ((h.own e he).lt g hg).2 (hd _ ?_)), h.base, h.apart⟩
  · exact List.mem_cons_of_mem _ (List.mem_flatMap.2 ⟨e, he, by simp⟩)
  · exact List.mem_cons_of_mem _ (List.mem_flatMap.2 ⟨e, he, by simp [hg]⟩)
/-- A group's state by its name. -/
def gf (G : List GRow) (s : ByteArray) : Option GS := (G.find? fun g => s == g.name).map (·.st)
def setQ {α : Type} (f : ByteArray → α) (s : ByteArray) (x : α) : ByteArray → α := fun t => if t = s then x else f t
theorem beq_iff {s t : ByteArray} : (s == t) = true ↔ s = t := MapKept.bytes_beq _ _
theorem look_G (G : List GRow) (s : ByteArray) : look (G.map fun g => (g.name, g.bg)) s = (G.find? fun g => s == g.name).map (·.bg) := by
  unfold look
  rw [List.find?_map]
  have hc : ((fun q : ByteArray × Nat => s == q.1) ∘ fun e : GRow => (e.name, e.bg)) = fun e : GRow => s == e.name := rfl
  rw [hc]
  cases G.find? (fun e : GRow => s == e.name) <;> rfl
theorem gf_none {G : List GRow} {s : ByteArray} : gf G s = none ↔ look (G.map fun g => (g.name, g.bg)) s = none := by
  rw [look_G]
  unfold gf
  cases G.find? (fun e : GRow => s == e.name) <;> simp
theorem gf_some {G : List GRow} {s : ByteArray} {g : GS} (h : gf G s = some g) : ∃ r ∈ G, r.name = s ∧ r.st = g ∧ look (G.map fun g => (g.name, g.bg)) s = some r.bg := by
  rw [look_G]
  unfold gf at h
  cases hf : G.find? (fun e : GRow => s == e.name) with
  | none => rw [hf] at h; cases h
  | some r =>
    rw [hf] at h
    refine ⟨r, List.mem_of_find?_eq_some hf, (beq_iff.1 (List.find?_some (p := fun e : GRow => s == e.name) hf)).symm, by simpa using h, by simp⟩
/-- A new group. -/
theorem GRep.push {B m1 bg : Nat} {G : List GRow} {W W' : World} {s : ByteArray} {ep : Int} (h : GRep B m1 G W) (hB : B ≤ W.heap.size) (he : 0 ≤ ep ∧ ep < 4294967296) (hl : gf G s = none) (hge : W.heap.size ≤ bg) (hbg : W'.heap[bg]? = some (grp ep (.slice none 0 0) (.slice none 0 0)))
    (hm : ∃ es' c', W'.heap[m1]? = some (.map es' c') ∧ MapIs es' ((G.map fun g => (g.name, g.bg)) ++ [(s, bg)])) (hch : Chg [m1] W W') :
    GRep B m1 (G ++ [⟨s, bg, .slice none 0 0, .slice none 0 0, ⟨ep, [], []⟩⟩]) W' ∧ Kept (blkG m1 G) (blkG m1 (G ++ [⟨s, bg, .slice none 0 0, .slice none 0 0, ⟨ep, [], []⟩⟩])) W W' ∧ gf (G ++ [⟨s, bg, .slice none 0 0, .slice none 0 0, ⟨ep, [], []⟩⟩]) = setQ (gf G) s (some ⟨ep, [], []⟩) := by
  have hm1 : ∀ g ∈ G, ∀ i ∈ g.blk, i ∉ [m1] := by
    intro g hg i hi hm
    obtain rfl : i = m1 := by simpa using hm
    obtain ⟨o, h1, h2⟩ := (h.ok g hg).kind i hi
    obtain ⟨es, clock, h3, _⟩ := h.map
    rw [h3] at h1
    cases h1
    cases h2
  have hnm : NoU [m1] W := by
    intro i hi
    obtain rfl : i = m1 := by simpa using hi
    obtain ⟨es, clock, h3, _⟩ := h.map
    exact noU_map h3
  have hno : ∀ g ∈ G, g.name ≠ s := by
    intro g hg hs
    unfold gf at hl
    have h0 : G.find? (fun e => s == e.name) = none := by simpa using hl
    rw [List.find?_eq_none] at h0
    exact h0 g hg (by rw [hs]; exact self_eq s)
  have hblk : GRow.blk ⟨s, bg, .slice none 0 0, .slice none 0 0, ⟨ep, [], []⟩⟩ = [bg] := rfl
  refine ⟨⟨by obtain ⟨es', c', g1, g2⟩ := hm; exact ⟨es', c', g1, by simpa using g2⟩, ?_, ?_⟩, ⟨hch.mono (by simp [blkG]), ?_⟩, ?_⟩
  · intro g hg
    rcases List.mem_append.1 hg with hg | hg
    · exact (h.ok g hg).stay hch hnm (hm1 g hg)
    · obtain rfl : g = _ := by simpa using hg
      exact ⟨hbg, World.ownsRow_nil _ _ _ _, World.ownsRow_nil _ _ _ _, by show B ≤ bg; omega, by simp, by simp, he, by simp⟩
  · rw [List.pairwise_append]
    refine ⟨h.apart, by simp, ?_⟩
    intro f hf q hq
    obtain rfl : q = _ := by simpa using hq
    refine ⟨hno f hf, fun i hi hq => ?_⟩
    rw [hblk] at hq
    have := ((h.ok f hf).lt i hi).2
    have : i = bg := by simpa using hq
    omega
  · intro i hi
    unfold blkG at hi ⊢
    rcases List.mem_cons.1 hi with rfl | hi
    · exact .inl (by simp)
    · rw [List.flatMap_append] at hi
      rcases List.mem_append.1 hi with hi | hi
      · exact .inl (List.mem_cons_of_mem _ hi)
      · right
        have : i = bg := by simpa [hblk] using hi
        omega
  · funext t
    simp only [setQ]
    unfold gf
    rw [List.find?_append]
    by_cases ht : t = s
    · subst ht
      have h0 : G.find? (fun e => t == e.name) = none := by simpa [gf] using hl
      rw [h0, if_pos rfl]
      simp [self_eq t]
    · rw [if_neg ht]
      have hb : (t == s) = false := by
        cases hb : (t == s) with
        | false => rfl
        | true => exact absurd (beq_iff.1 hb) ht
      cases G.find? (fun e => t == e.name) with
      | some e => rfl
      | none => simp [List.find?, hb]
def updG (G : List GRow) (r : GRow) (r' : GRow) : List GRow := G.map fun e => if e.name = r.name then r' else e
theorem GRep.one {B m1 : Nat} {G : List GRow} {W : World} (h : GRep B m1 G W) {e f : GRow} (he : e ∈ G) (hf : f ∈ G) (hr : e.name = f.name) : e = f := by
  have hp := h.apart
  clear h
  induction G with
  | nil => cases he
  | cons a L ih =>
    rw [List.pairwise_cons] at hp
    rcases List.mem_cons.1 he with he1 | he1 <;> rcases List.mem_cons.1 hf with hf1 | hf1
    · rw [he1, hf1]
    · rw [he1] at hr
      exact absurd hr (hp.1 f hf1).1
    · rw [hf1] at hr
      exact absurd hr.symm (hp.1 e he1).1
    · exact ih he1 hf1 hp.2
theorem GRep.disj {B m1 : Nat} {G : List GRow} {W : World} (h : GRep B m1 G W) {e f : GRow} (he : e ∈ G) (hf : f ∈ G) (hr : e.name ≠ f.name) : ∀ i ∈ e.blk, i ∉ f.blk := by
  have hp := h.apart
  clear h
  induction G with
  | nil => cases he
  | cons a L ih =>
    rw [List.pairwise_cons] at hp
    rcases List.mem_cons.1 he with he1 | he1 <;> rcases List.mem_cons.1 hf with hf1 | hf1
    · exact absurd (by rw [he1, hf1]) hr
    · rw [he1]
      exact (hp.1 f hf1).2
    · rw [hf1]
      exact fun i hi hq => (hp.1 e he1).2 i hq hi
    · exact ih he1 hf1 hp.2
/-- One group turns. -/
theorem GRep.set {B m1 : Nat} {G : List GRow} {W W' : World} {r r' : GRow} (h : GRep B m1 G W) (hr : r ∈ G) (hn : r'.name = r.name) (hb : r'.bg = r.bg) (hok : GOk B W' r') (hown : ∀ i ∈ r'.blk, i ∈ r.blk ∨ W.heap.size ≤ i) (hch : Chg r.blk W W') :
    GRep B m1 (updG G r r') W' ∧ Kept (blkG m1 G) (blkG m1 (updG G r r')) W W' ∧ gf (updG G r r') = setQ (gf G) r.name (some r'.st) := by
  have hnu := (h.ok r hr).noU
  have hm1 : m1 ∉ r.blk := by
    intro hm
    obtain ⟨o, h1, h2⟩ := (h.ok r hr).kind m1 hm
    obtain ⟨es, clock, h3, _⟩ := h.map
    rw [h3] at h1
    cases h1
    cases h2
  refine ⟨⟨?_, ?_, ?_⟩, ⟨hch.mono (fun i hi => List.mem_cons_of_mem _ (List.mem_flatMap.2 ⟨r, hr, hi⟩)), ?_⟩, ?_⟩
  · obtain ⟨es, clock, h3, h4⟩ := h.map
    refine ⟨es, clock, hch.at_ h3 hm1, ?_⟩
    have e : ((updG G r r').map fun g => (g.name, g.bg)) = G.map fun g => (g.name, g.bg) := by
      unfold updG
      rw [List.map_map]
      refine List.map_congr_left fun e he => ?_
      simp only [Function.comp]
      by_cases hc : e.name = r.name
      · rw [if_pos hc, hn, hb, h.one he hr hc]
      · rw [if_neg hc]
    rw [e]
    exact h4
  · intro g hg
    obtain ⟨f, hf, rfl⟩ := List.mem_map.1 hg
    by_cases hc : f.name = r.name
    · simp only [hc, if_true]
      exact hok
    · simp only [hc, if_false]
      exact (h.ok f hf).stay hch hnu (h.disj hf hr hc)
  · unfold updG
    rw [List.pairwise_map]
    refine List.Pairwise.imp_of_mem (fun {e f} he hf hef => ?_) h.apart
    obtain ⟨a1, a2⟩ := hef
    by_cases hc : e.name = r.name
    · have hfr : ¬ f.name = r.name := fun h5 => a1 (hc.trans h5.symm)
      simp only [hc, if_true, hfr, if_false]
      refine ⟨by rw [hn]; exact fun h5 => hfr h5.symm, fun i hi hq => ?_⟩
      rcases hown i hi with h5 | h5
      · exact h.disj hf hr hfr i hq h5
      · have := ((h.ok f hf).lt i hq).2
        omega
    · simp only [hc, if_false]
      by_cases hfr : f.name = r.name
      · simp only [hfr, if_true]
        refine ⟨by rw [hn]; exact hc, fun i hi hq => ?_⟩
        rcases hown i hq with h5 | h5
        · exact h.disj he hr hc i hi h5
        · have := ((h.ok e he).lt i hi).2
          omega
      · simp only [hfr, if_false]
        exact ⟨a1, a2⟩
  · intro i hi
    rcases List.mem_cons.1 hi with rfl | hi
    · exact .inl (by simp [blkG])
    · obtain ⟨e, he, hi⟩ := List.mem_flatMap.1 hi
      obtain ⟨f, hf, rfl⟩ := List.mem_map.1 he
      by_cases hc : f.name = r.name
      · simp only [hc, if_true] at hi
        exact (hown i hi).imp (fun h5 => List.mem_cons_of_mem _ (List.mem_flatMap.2 ⟨r, hr, h5⟩)) id
      · simp only [hc, if_false] at hi
        exact .inl (List.mem_cons_of_mem _ (List.mem_flatMap.2 ⟨f, hf, hi⟩))
  · funext t
    simp only [setQ]
    unfold gf updG
    rw [List.find?_map]
    have hfun : ((fun g : GRow => t == g.name) ∘ fun e : GRow => if e.name = r.name then r' else e) = fun e : GRow => t == e.name := by
      funext e
      simp only [Function.comp]
      by_cases hc : e.name = r.name
      · rw [if_pos hc, hn, hc]
      · rw [if_neg hc]
    rw [hfun]
    by_cases ht : t = r.name
    · rw [if_pos ht]
      cases hf : G.find? (fun e => t == e.name) with
      | none =>
        rw [List.find?_eq_none] at hf
        exact absurd (by rw [ht]; exact self_eq r.name) (hf r hr)
      | some e =>
        have := beq_iff.1 (List.find?_some (p := fun e : GRow => t == e.name) hf)
        simp [← this, ht]
    · rw [if_neg ht]
      cases hf : G.find? (fun e => t == e.name) with
      | none => rfl
      | some e =>
        have := beq_iff.1 (List.find?_some (p := fun e : GRow => t == e.name) hf)
        have hc : ¬ e.name = r.name := fun h5 => ht (this.trans h5)
        simp [hc]
end Go.Proofs.Ytiebggfpjkhlaaa
