/- What a sending leaves: the log's row, the subscribers' rows, one by one. No condition. -/
import Derived.Test.YtiebggfpjkhlaaaYn
namespace Go.Proofs.Ytiebggfpjkhlaaa
open Go Go.RowKit
set_option linter.unusedSimpArgs false
/-- What the subscribers are told. -/
def tellF (cs : List Value) (f : ByteArray → Nat × List Value) (s : ByteArray) : ByteArray → Nat × List Value := setF f s ((f s).1 + 1, (f s).2 ++ cs)
/-- What Send tells and leaves, where the epoch is the group's. -/
def SendR (B m2 bg n nl : Nat) (ep kd : Int) (vlog vsubs : Value) (xl : List Value) (nm : List ByteArray) (L : List WRow) (l : List Int) (s : ByteArray) (W : World) (e : Ending) (W' : World) : Prop :=
  (kd = 3 ∧ ep + 1 ≥ 4294967296 ∧ e = .returned (.tuple #[.int .i64 0, .int .i64 65]) ∧ Below W.heap.size W W') ∨
  (¬ (kd = 3 ∧ ep + 1 ≥ 4294967296) ∧ full (wf L) nm = true ∧ e = .returned (.tuple #[.int .i64 0, .int .i64 64]) ∧ Below W.heap.size W W') ∨
  (¬ (kd = 3 ∧ ep + 1 ≥ 4294967296) ∧ full (wf L) nm = false ∧ e = .returned (.tuple #[.int .i64 nl, .int .i64 0]) ∧ ∃ vlog' q' c' L', W'.heap[bg]? = some (grp (if kd = 3 then ep + 1 else ep) vlog' vsubs) ∧
    W'.ownsRow B 33 3 vlog' (nl + 1) (xl ++ [.int .i64 ep, .int .i64 kd, .slice (some ⟨q', 0, none⟩) n c']) ∧ (vlog'.ownBlock = vlog.ownBlock ∨ ∃ g, vlog'.ownBlock = some g ∧ W.heap.size ≤ g) ∧ Body W' q' n c' l ∧
    WRep B m2 L' W' ∧ wf L' = nm.foldl (tellF [.string s, .int .i64 nl, .int .i64 ep, .int .i64 kd, .slice (some ⟨q', 0, none⟩) n c']) (wf L) ∧
    Kept ((bg :: vlog.ownBlock.toList) ++ blkW m2 L) ((bg :: vlog'.ownBlock.toList) ++ blkW m2 L') W W')
theorem WRep.stay {B m2 : Nat} {L : List WRow} {W W' : World} (h : WRep B m2 L W) (hs : ∀ i o, W.heap[i]? = some o → (i = m2 ∨ isW o = true) → W'.heap[i]? = some o) : WRep B m2 L W' := by
  obtain ⟨es, clock, h1, h2⟩ := h.map
  refine ⟨⟨es, clock, hs _ _ h1 (.inl rfl), h2⟩, fun e he => hs _ _ (h.row e he) (.inr rfl), fun e he => own_ext (h.own e he) (fun g hg => ?_), h.base, h.apart⟩
  obtain ⟨cur, hc⟩ := own_blk (h.own e he) hg
  exact (hs _ _ hc (.inr rfl)).trans hc.symm
theorem WRep.ext {B m2 : Nat} {L : List WRow} {W W' : World} (h : WRep B m2 L W) (hE : Ext W W') : WRep B m2 L W' := h.stay fun _ _ h _ => hE _ _ h
theorem ChgW.drew {m : Nat} {W W' : World} (h : ChgW m W W') : ChgW m W W'.drew := ⟨h.os, h.tape, h.output, h.size, h.block⟩
theorem chg_via {os os1 : List Nat} {W v u : World} (h : Chg os W v) (ho : ∀ i ∈ os1, i ∈ os ∨ W.heap.size ≤ i) (k : Chg os1 v u) : Chg os W u :=
  (Kept.trans (b := os1) (c := []) ⟨h, ho⟩ ⟨k, by simp⟩).chg
theorem own_thru {os os1 os2 : List Nat} {m n : Nat} (h : ∀ i ∈ os1, i ∈ os ∨ m ≤ i) (hm : m ≤ n) (k : ∀ i ∈ os2, i ∈ os1 ∨ n ≤ i) : ∀ i ∈ os2, i ∈ os ∨ m ≤ i := fun i hi => by
  rcases k i hi with h1 | h1
  · exact h i h1
  · exact .inr (by omega)
/-- A sending, ahead of the log's row. -/
structure SMid (B b m0 m1 m2 bg n nl : Nat) (ep : Int) (ent : Array Value) (gc cc : Nat) (vlog vsubs : Value) (xl : List Value) (nm : List ByteArray) (L : List WRow) (l : List Int) (W w : World) : Prop where
  below : Below W.heap.size W w
  bg_ : w.heap[bg]? = some (grp ep vlog vsubs)
  svc_ : w.heap[b]? = some (svc m0 m1 m2)
  p3_ : w.heap[W.heap.size]? = some (.cells #[.pointer (some ⟨b, 0, none⟩)] 22 (0, 0))
  p5_ : w.heap[W.heap.size + 1]? = some (.cells ent 33 (0, 0))
  log_ : w.ownsRow B 33 3 vlog nl xl
  sub_ : w.ownsRow B 9 1 vsubs nm.length (nm.map Value.string)
  body_ : ∃ Bb, w.ownsRow Bb 5 1 (.slice (some ⟨gc, 0, none⟩) n cc) n (l.map (Value.int .u8))
  rep : WRep B m2 L w
  base : B ≤ w.heap.size
  bglt : bg < W.heap.size
  loglt0 : ∀ g, vlog.ownBlock = some g → g < W.heap.size
  loglt : ∀ g, vlog.ownBlock = some g → g < w.heap.size
  logne : vlog.ownBlock ≠ some bg
  gcge : W.heap.size + 2 ≤ gc
theorem send_set {B Bb b m0 m1 m2 bg n nl gc cc : Nat} {ep : Int} {e0 e1 e2 : Value} {vlog vsubs : Value} {xl : List Value} {nm : List ByteArray} {L : List WRow} {l : List Int} {W w : World} {mo : Obj}
    (hB : B ≤ W.heap.size) (hlt : ∀ k, vlog.ownBlock = some k → B ≤ k ∧ k < W.heap.size) (hslt : ∀ k, vsubs.ownBlock = some k → B ≤ k ∧ k < W.heap.size) (hbg : bg < W.heap.size) (hb : b < W.heap.size) (hm1 : m1 < W.heap.size) (hgc : W.heap.size + 2 ≤ gc)
    (hst : Kq W [(W.heap.size + 1, .cells #[e0, e1, e2] 33 (0, 0)), (W.heap.size, .cells #[.pointer (some ⟨b, 0, none⟩)] 22 (0, 0)), (bg, grp ep vlog vsubs), (m1, mo), (b, svc m0 m1 m2)] w)
    (hR : WRep B m2 L w) (hlog : w.ownsRow B 33 3 vlog nl xl) (hsub : w.ownsRow B 9 1 vsubs nm.length (nm.map Value.string)) (hown : w.ownsRow Bb 5 1 (.slice (some ⟨gc, 0, none⟩) n cc) n (l.map (Value.int .u8))) :
    SMid B b m0 m1 m2 bg n nl ep #[e0, e1, .slice (some ⟨gc, 0, none⟩) n cc] gc cc vlog vsubs xl nm L l W (w.setCell ⟨W.heap.size + 1, 2, none⟩ (.slice (some ⟨gc, 0, none⟩) n cc)) := by
  have h5 := hst.at_ (g := W.heap.size + 1) (ob := .cells #[e0, e1, e2] 33 (0, 0)) (by simp)
  have hk := Kq.setCell (hst.sub (bm := [(W.heap.size, .cells #[.pointer (some ⟨b, 0, none⟩)] 22 (0, 0)), (bg, grp ep vlog vsubs), (m1, mo), (b, svc m0 m1 m2)]) (by simp)) h5 (by omega) (by simp; omega) 2 (.slice (some ⟨gc, 0, none⟩) n cc)
  have ho : ∀ i, i ≠ W.heap.size + 1 → (w.setCell ⟨W.heap.size + 1, 2, none⟩ (.slice (some ⟨gc, 0, none⟩) n cc)).heap[i]? = w.heap[i]? := fun i hi => Below.heap_setCell _ _ _ _ hi
  have hbg0 := hst.at_ (g := bg) (ob := grp ep vlog vsubs) (by simp)
  refine ⟨hk.2, hk.at_ (g := bg) (by simp), hk.at_ (g := b) (by simp), hk.at_ (g := W.heap.size) (by simp), hk.at_ (g := W.heap.size + 1) (ob := .cells #[e0, e1, .slice (some ⟨gc, 0, none⟩) n cc] 33 (0, 0)) (by simp), own_ext hlog (fun g hg => ho g (by have := (hlt g hg).2; omega)), own_ext hsub (fun g hg => ho g (by have := (hslt g hg).2; omega)),
    ⟨Bb, own_ext hown (fun g hg => ho g (by
      have : gc = g := by simpa [Value.ownBlock] using hg
      omega))⟩, hR.stay (fun i o hi h1 => (ho i ?_).trans hi), Nat.le_trans hB hk.size, hbg, fun g hg => (hlt g hg).2, fun g hg => Nat.lt_of_lt_of_le (hlt g hg).2 hk.size, ?_, hgc⟩
  · rintro rfl
    rw [h5] at hi
    cases hi
    rcases h1 with h1 | h1
    · obtain ⟨es, clock, h2, _⟩ := hR.map
      rw [← h1, h5] at h2
      cases h2
    · exact (Bool.false_ne_true h1).elim
  · intro hg
    obtain ⟨cur, hc⟩ := own_blk hlog hg
    rw [hbg0] at hc
    cases hc
/-- A sending, behind the log's row. -/
structure S8 (B b m0 m1 m2 bg n nl : Nat) (ep : Int) (ent : Array Value) (gc cc : Nat) (vlog vlog' vsubs : Value) (xl cs : List Value) (nm : List ByteArray) (L : List WRow) (l : List Int) (W w : World) : Prop where
  bg_ : w.heap[bg]? = some (grp ep vlog' vsubs)
  bgne : bg ≠ m2
  svc_ : w.heap[b]? = some (svc m0 m1 m2) ∧ b ≠ m2
  p3_ : w.heap[W.heap.size]? = some (.cells #[.pointer (some ⟨b, 0, none⟩)] 22 (0, 0)) ∧ W.heap.size ≠ m2
  p5_ : w.heap[W.heap.size + 1]? = some (.cells ent 33 (0, 0)) ∧ W.heap.size + 1 ≠ m2
  log_ : w.ownsRow B 33 3 vlog' (nl + 1) (xl ++ cs)
  logo : vlog'.ownBlock = vlog.ownBlock ∨ ∃ g, vlog'.ownBlock = some g ∧ W.heap.size ≤ g
  sub_ : w.ownsRow B 9 1 vsubs nm.length (nm.map Value.string)
  body_ : ∃ Bb, w.ownsRow Bb 5 1 (.slice (some ⟨gc, 0, none⟩) n cc) n (l.map (Value.int .u8))
  rep : WRep B m2 L w
  base : B ≤ w.heap.size
  kept : Kept (bg :: vlog.ownBlock.toList) (bg :: vlog'.ownBlock.toList) W w
theorem send_mid {B b m0 m1 m2 bg n nl gc cc : Nat} {ep : Int} {ent : Array Value} {vlog vsubs : Value} {xl cs : List Value} {nm : List ByteArray} {L : List WRow} {l : List Int} {W w w8 : World}
    (h : SMid B b m0 m1 m2 bg n nl ep ent gc cc vlog vsubs xl nm L l W w) (hp : PutR (fun v => grp ep v vsubs) B 33 3 bg vlog nl xl cs w w8) : ∃ vlog', S8 B b m0 m1 m2 bg n nl ep ent gc cc vlog vlog' vsubs xl cs nm L l W w8 := by
  obtain ⟨v', h1, h2, h3, hch⟩ := hp
  have hty : ∀ i ∈ (bg :: vlog.ownBlock.toList), ∃ cs t, w.heap[i]? = some (.cells cs t (0, 0)) ∧ (t = 65 ∨ t = 33) := by
    intro i hi
    rcases List.mem_cons.1 hi with rfl | hi
    · exact ⟨_, _, h.bg_, .inl rfl⟩
    · obtain ⟨cur, hc⟩ := own_blk h.log_ (g := i) (by simpa using hi)
      exact ⟨_, _, hc, .inr rfl⟩
  have hst : ∀ (i : Nat) (o : Obj), w.heap[i]? = some o → (∀ cs, o ≠ Obj.cells cs 65 (0, 0)) → (∀ cs, o ≠ Obj.cells cs 33 (0, 0)) → w8.heap[i]? = some o := by
    intro i o hi n1 n2
    refine hch.at_ hi (fun hm => ?_)
    obtain ⟨cs, t, h5, h6⟩ := hty i hm
    rw [hi] at h5
    cases h5
    rcases h6 with rfl | rfl
    · exact n1 _ rfl
    · exact n2 _ rfl
  obtain ⟨es, clock, hmap, _⟩ := h.rep.map
  have hcell : ∀ {i : Nat} {cs : Array Value} {t : TypeId} {fr : Nat × Nat}, w.heap[i]? = some (.cells cs t fr) → i ≠ m2 := by
    rintro i cs t fr hi rfl
    rw [hmap] at hi
    cases hi
  obtain ⟨Bb, hbody⟩ := h.body_
  refine ⟨v', h1, hcell h.bg_, ⟨hst _ _ h.svc_ (by intro _ h; cases h) (by intro _ h; cases h), hcell h.svc_⟩, ⟨hst _ _ h.p3_ (by intro _ h; cases h) (by intro _ h; cases h), hcell h.p3_⟩, ⟨?_, hcell h.p5_⟩, h2, ?_, own_ext h.sub_ (fun g hg => ?_), ⟨Bb, own_ext hbody (fun g hg => ?_)⟩,
    h.rep.stay (fun i o hi ho => hst i o hi ?_ ?_), Nat.le_trans h.base hch.size, ?_⟩
  · refine hch.at_ h.p5_ (fun hm => ?_)
    rcases List.mem_cons.1 hm with hm | hm
    · have := h.bglt; omega
    · have := h.loglt0 (W.heap.size + 1) (by simpa using hm); omega
  · exact h3.imp id (fun ⟨g, h4, h5⟩ => ⟨g, h4, Nat.le_trans h.below.size h5⟩)
  · obtain ⟨cur, hc⟩ := own_blk h.sub_ hg
    exact (hst _ _ hc (by intro _ h; cases h) (by intro _ h; cases h)).trans hc.symm
  · obtain ⟨cur, hc⟩ := own_blk hbody hg
    exact (hst _ _ hc (by intro _ h; cases h) (by intro _ h; cases h)).trans hc.symm
  · rintro cs rfl
    rcases ho with rfl | ho
    · rw [hmap] at hi; cases hi
    · exact (Bool.false_ne_true ho).elim
  · rintro cs rfl
    rcases ho with rfl | ho
    · rw [hmap] at hi; cases hi
    · exact (Bool.false_ne_true ho).elim
  · refine (Kept.below h.below).trans ⟨hch, fun i hi => ?_⟩
    rcases List.mem_cons.1 hi with rfl | hi
    · exact .inl (by simp)
    · rcases h3 with h3 | ⟨g, h3, h4⟩
      · rw [h3] at hi
        exact .inl (List.mem_cons_of_mem _ hi)
      · rw [h3] at hi
        right
        have : i = g := by simpa using hi
        omega
theorem S8.name {B b m0 m1 m2 bg n nl gc cc cap : Nat} {pp : Option Addr} {ep : Int} {ent : Array Value} {vlog vlog' : Value} {xl cs : List Value} {nm : List ByteArray} {L : List WRow} {l : List Int} {W w : World}
    (h : S8 B b m0 m1 m2 bg n nl ep ent gc cc vlog vlog' (.slice pp nm.length cap) xl cs nm L l W w) {j : Nat} (hj : j < nm.length) : ∃ g, pp = some ⟨g, 0, none⟩ ∧ ∀ wr, ChgW m2 w wr → wr.cell? ⟨g, j, none⟩ = some (.string (nm.getD j { data := #[] })) := by
  rcases own_at h.sub_ with ⟨_, h0, _⟩ | ⟨g, rfl, hc⟩
  · omega
  · refine ⟨g, rfl, fun wr hw => ?_⟩
    obtain ⟨cur, hcur⟩ := own_blk h.sub_ (g := g) rfl
    have h2 := hw.block g _ hcur (by
      rintro rfl
      obtain ⟨es, clock, hmap, _⟩ := h.rep.map
      rw [hmap] at hcur
      cases hcur) rfl
    have h3 := hc j hj
    unfold World.cell? at h3 ⊢
    rw [hcur] at h3
    rw [h2]
    exact h3
/-- So many subscribers were told. -/
def TellR (B m2 : Nat) (nm : List ByteArray) (L : List WRow) (cs : List Value) (w8 : World) (j : Nat) (wr : World) : Prop :=
  ∃ Lj, WRep B m2 Lj wr ∧ ChgW m2 w8 wr ∧ Chg (blkW m2 L) w8 wr ∧ (∀ i ∈ blkW m2 Lj, i ∈ blkW m2 L ∨ w8.heap.size ≤ i) ∧ wf Lj = (nm.take j).foldl (tellF cs) (wf L)
theorem TellR.start {B m2 : Nat} {nm : List ByteArray} {L : List WRow} {cs : List Value} {w8 : World} (h : WRep B m2 L w8) : TellR B m2 nm L cs w8 0 w8 :=
  ⟨L, h, ChgW.refl _ _, Chg.refl _ _, fun _ h => .inl h, rfl⟩
theorem TellR.chg {B m2 j : Nat} {nm : List ByteArray} {L : List WRow} {cs : List Value} {w8 wr : World} (h : TellR B m2 nm L cs w8 j wr) : ChgW m2 w8 wr := by
  obtain ⟨_, _, h, _⟩ := h
  exact h
theorem TellR.stand {B m2 j : Nat} {nm : List ByteArray} {L : List WRow} {cs : List Value} {w8 wr : World} (h : TellR B m2 nm L cs w8 j wr) {i : Nat} {o : Obj} (hi : w8.heap[i]? = some o) (hm : i ≠ m2) (ho : isW o = false) : wr.heap[i]? = some o := h.chg.block i o hi hm ho
theorem fold_le (cs : List Value) : ∀ (nm : List ByteArray) (f : ByteArray → Nat × List Value) (t : ByteArray), (nm.foldl (tellF cs) f t).1 ≤ (f t).1 + nm.length
  | [], _, _ => Nat.le_refl _
  | s :: nm, f, t => by
    refine Nat.le_trans (fold_le cs nm (tellF cs f s) t) ?_
    have : (tellF cs f s t).1 ≤ (f t).1 + 1 := by
      unfold tellF setF
      split
      · next h => subst h; exact Nat.le_refl _
      · omega
    simp only [List.length_cons]
    omega
theorem few {f : ByteArray → Nat × List Value} {nm : List ByteArray} (hf : full f nm = false) (hk : nm.length ≤ 16) {t : ByteArray} (ht : t ∈ nm) (cs : List Value) (j : Nat) : ((nm.take j).foldl (tellF cs) f t).1 ≤ 300 := by
  have h1 := fold_le cs (nm.take j) f t
  have h2 : (nm.take j).length ≤ 16 := by rw [List.length_take]; omega
  have h3 : (f t).1 < 256 := by
    unfold full at hf
    rw [List.any_eq_false] at hf
    have := hf t ht
    simpa using this
  omega
theorem tell_next {nm : List ByteArray} {j : Nat} {t : ByteArray} {L Lj L1 : List WRow} {row : WRow} {cs : List Value} {g : ByteArray → Nat × List Value} (hs : nm.take (j + 1) = nm.take j ++ [t]) (h1 : wf Lj = (nm.take j).foldl (tellF cs) (wf L)) (hn : row.name = t) (h2 : wf L1 = wf Lj) (h3 : (row.n, row.xs) = wf Lj t)
    (h4 : g = setF (wf L1) row.name (row.n + 1, row.xs ++ cs)) : g = (nm.take (j + 1)).foldl (tellF cs) (wf L) := by
  rw [hs, List.foldl_append, ← h1, h4, h2, hn]
  simp only [List.foldl_cons, List.foldl_nil, tellF, ← h3]
theorem send_fin {B b m0 m1 m2 bg n nl gc cc : Nat} {ep ep' kd : Int} {ent : Array Value} {vlog vlog' vsubs : Value} {xl : List Value} {nm : List ByteArray} {L : List WRow} {l : List Int} {s : ByteArray} {W w8 wr wE : World}
    (h : S8 B b m0 m1 m2 bg n nl ep ent gc cc vlog vlog' vsubs xl [.int .i64 ep, .int .i64 kd, .slice (some ⟨gc, 0, none⟩) n cc] nm L l W w8) (ht : TellR B m2 nm L [.string s, .int .i64 nl, .int .i64 ep, .int .i64 kd, .slice (some ⟨gc, 0, none⟩) n cc] w8 nm.length wr)
    (hl : ∀ x ∈ l, 0 ≤ x ∧ x < 256) (hov : ¬ (kd = 3 ∧ ep + 1 ≥ 4294967296)) (hf : full (wf L) nm = false) (hep : ep' = if kd = 3 then ep + 1 else ep)
    (hE : wE.heap[bg]? = some (grp ep' vlog' vsubs)) (hch : Chg [bg] wr wE) : SendR B m2 bg n nl ep kd vlog vsubs xl nm L l s W (.returned (.tuple #[.int .i64 nl, .int .i64 0])) wE := by
  obtain ⟨Lj, hR, hcw, hcg, hown, hwf⟩ := ht
  rw [List.take_length] at hwf
  obtain ⟨Bb, hbody⟩ := h.body_
  obtain ⟨es, clock, hmap, _⟩ := h.rep.map
  have hcell : ∀ {i : Nat} {cs : Array Value} {t : TypeId} {fr : Nat × Nat}, w8.heap[i]? = some (.cells cs t fr) → i ≠ m2 := by
    rintro i cs t fr hi rfl
    rw [hmap] at hi
    cases hi
  have hgo : ∀ (i : Nat) (o : Obj), w8.heap[i]? = some o → i ≠ m2 → isW o = false → i ≠ bg → wE.heap[i]? = some o := fun i o hi hm ho hne => hch.at_ (hcw.block i o hi hm ho) (by simpa using hne)
  have hlne : ∀ g, vlog'.ownBlock = some g → g ≠ bg := by
    rintro g hg rfl
    obtain ⟨cur, hc⟩ := own_blk h.log_ hg
    rw [h.bg_] at hc
    cases hc
  have hgc : gc ≠ bg := by
    rintro rfl
    obtain ⟨cur, hc⟩ := own_blk hbody (g := gc) rfl
    rw [h.bg_] at hc
    cases hc
  refine .inr (.inr ⟨hov, hf, rfl, vlog', gc, cc, Lj, hep ▸ hE, own_ext h.log_ (fun g hg => ?_), h.logo, ⟨⟨Bb, own_ext hbody (fun g hg => ?_)⟩, hl⟩, hR.stay (fun i o hi ho => hch.at_ hi (fun hm => ?_)), hwf, ?_⟩)
  · obtain ⟨cur, hc⟩ := own_blk h.log_ hg
    exact (hgo _ _ hc (hcell hc) rfl (hlne g hg)).trans hc.symm
  · cases hg
    obtain ⟨cur, hc⟩ := own_blk hbody (g := gc) rfl
    exact (hgo _ _ hc (hcell hc) rfl hgc).trans hc.symm
  · have hm : i = bg := by simpa using hm
    subst hm
    rw [hcw.block _ _ h.bg_ h.bgne rfl] at hi
    cases hi
    rcases ho with rfl | ho
    · exact h.bgne rfl
    · exact (Bool.false_ne_true ho).elim
  · have k1 : Kept ((bg :: vlog.ownBlock.toList) ++ blkW m2 L) ((bg :: vlog'.ownBlock.toList) ++ blkW m2 L) W w8 := h.kept.app2 _
    have k2 : Kept ((bg :: vlog'.ownBlock.toList) ++ blkW m2 L) ((bg :: vlog'.ownBlock.toList) ++ blkW m2 Lj) w8 wr := Kept.app ⟨hcg, hown⟩ _
    exact (k1.trans k2).trans ⟨hch.mono (by simp), fun _ h => .inl h⟩
end Go.Proofs.Ytiebggfpjkhlaaa
