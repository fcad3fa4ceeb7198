/- Send, Pick, Waiting, Log, Epoch as steps of a service's state. No condition. -/
import Derived.Test.YtiebggfpjkhlaaaDn
namespace Go.Proofs.Ytiebggfpjkhlaaa
open Go Go.RowKit
set_option linter.unusedSimpArgs false
/-- One group turns, and what is no group's. -/
theorem GRep.set2 {B m1 : Nat} {G : List GRow} {W W' : World} {r r' : GRow} (h : GRep B m1 G W) (hr : r ∈ G) (hn : r'.name = r.name) (hb : r'.bg = r.bg) (hok : GOk B W' r') (hown : ∀ i ∈ r'.blk, i ∈ r.blk ∨ W.heap.size ≤ i) {os' : List Nat} (hch : Chg os' W W') (hnu : NoU os' W) (hap : ∀ f ∈ G, f.name ≠ r.name → ∀ i ∈ f.blk, i ∉ os') (hm1 : m1 ∉ os') :
    GRep B m1 (updG G r r') W' ∧ (∀ i ∈ blkG m1 (updG G r r'), i ∈ blkG m1 G ∨ W.heap.size ≤ i) ∧ gf (updG G r r') = setQ (gf G) r.name (some r'.st) := by
  refine ⟨⟨?_, ?_, ?_⟩, ?_, ?_⟩
  · obtain ⟨es, clock, h3, h4⟩ := h.map
    refine ⟨es, clock, hch.at_ h3 hm1, ?_⟩
    have e : ((updG G r r').map fun g => (g.name, g.bg)) = G.map fun g => (g.name, g.bg) := by
      unfold updG
      rw [List.map_map]
      refine List.map_congr_left fun e he => ?_
      simp only [Function.comp]
      by_cases hc : e.name = r.name
      · rw [if_pos hc, hn, hb, h.one he hr hc]
      · rw [if_neg hc]
    rw [e]
    exact h4
  · intro g hg
    obtain ⟨f, hf, rfl⟩ := List.mem_map.1 hg
    by_cases hc : f.name = r.name
    · simp only [hc, if_true]
      exact hok
    · simp only [hc, if_false]
      exact (h.ok f hf).stay hch hnu (hap f hf hc)
  · unfold updG
    rw [List.pairwise_map]
    refine List.Pairwise.imp_of_mem (fun {e f} he hf hef => ?_) h.apart
    obtain ⟨a1, a2⟩ := hef
    by_cases hc : e.name = r.name
    · have hfr : ¬ f.name = r.name := fun h5 => a1 (hc.trans h5.symm)
      simp only [hc, if_true, hfr, if_false]
      refine ⟨by rw [hn]; exact fun h5 => hfr h5.symm, fun i hi hq => ?_⟩
      rcases hown i hi with h5 | h5
      · exact h.disj hf hr hfr i hq h5
      · have := ((h.ok f hf).lt i hq).2
        omega
    · simp only [hc, if_false]
      by_cases hfr : f.name = r.name
      · simp only [hfr, if_true]
        refine ⟨by rw [hn]; exact hc, fun i hi hq => ?_⟩
        rcases hown i hq with h5 | h5
        · exact h.disj he hr hc i hi h5
        · have := ((h.ok e he).lt i hi).2
          omega
      · simp only [hfr, if_false]
        exact ⟨a1, a2⟩
  · intro i hi
    rcases List.mem_cons.1 hi with rfl | hi
    · exact .inl (by simp [blkG])
    · obtain ⟨e, he, hi⟩ := List.mem_flatMap.1 hi
      obtain ⟨f, hf, rfl⟩ := List.mem_map.1 he
      by_cases hc : f.name = r.name
      · simp only [hc, if_true] at hi
        exact (hown i hi).imp (fun h5 => List.mem_cons_of_mem _ (List.mem_flatMap.2 ⟨r, hr, h5⟩)) id
      · simp only [hc, if_false] at hi
        exact .inl (List.mem_cons_of_mem _ (List.mem_flatMap.2 ⟨f, hf, hi⟩))
  · funext t
    simp only [setQ]
    unfold gf updG
    rw [List.find?_map]
    have hfun : ((fun g : GRow => t == g.name) ∘ fun e : GRow => if e.name = r.name then r' else e) = fun e : GRow => t == e.name := by
      funext e
      simp only [Function.comp]
      by_cases hc : e.name = r.name
      · rw [if_pos hc, hn, hc]
      · rw [if_neg hc]
    rw [hfun]
    by_cases ht : t = r.name
    · rw [if_pos ht]
      cases hf : G.find? (fun e => t == e.name) with
      | none =>
        rw [List.find?_eq_none] at hf
        exact absurd (by rw [ht]; exact self_eq r.name) (hf r hr)
      | some e =>
        have := beq_iff.1 (List.find?_some (p := fun e : GRow => t == e.name) hf)
        simp [← this, ht]
    · rw [if_neg ht]
      cases hf : G.find? (fun e => t == e.name) with
      | none => rfl
      | some e =>
        have := beq_iff.1 (List.find?_some (p := fun e : GRow => t == e.name) hf)
        have hc : ¬ e.name = r.name := fun h5 => ht (this.trans h5)
        simp [hc]
section
variable {B b m0 m1 m2 : Nat} {A : Abs} {os : List Nat} {W : World}
def tellQ (w : Wt) (f : ByteArray → List Wt) (t : ByteArray) : ByteArray → List Wt := setQ f t (f t ++ [w])
theorem encW_tell (w : Wt) (f : ByteArray → List Wt) (t : ByteArray) : encW (tellQ w f t) = tellF w.cells (encW f) t := by
  unfold tellQ tellF
  rw [encW_set]
  simp [encW, List.flatMap_append]
theorem encW_fold (w : Wt) : ∀ (nm : List ByteArray) (f : ByteArray → List Wt), encW (nm.foldl (tellQ w) f) = nm.foldl (tellF w.cells) (encW f)
  | [], _ => rfl
  | t :: nm, f => by rw [List.foldl_cons, List.foldl_cons, encW_fold w nm, encW_tell]
theorem fold_mem (w : Wt) : ∀ (nm : List ByteArray) (f : ByteArray → List Wt) (t : ByteArray) (x : Wt), x ∈ nm.foldl (tellQ w) f t → x ∈ f t ∨ x = w
  | [], _, _, _, h => .inl h
  | s :: nm, f, t, x, h => by
    rcases fold_mem w nm (tellQ w f s) t x h with h | h
    · unfold tellQ setQ at h
      by_cases ht : t = s
      · rw [if_pos ht] at h
        rcases List.mem_append.1 h with h | h
        · exact .inl (by rw [ht]; exact h)
        · exact .inr (by simpa using h)
      · rw [if_neg ht] at h
        exact .inl h
    · exact .inr h
theorem fold_out (w : Wt) : ∀ (nm : List ByteArray) (f : ByteArray → List Wt) (t : ByteArray), t ∉ nm → nm.foldl (tellQ w) f t = f t
  | [], _, _, _ => rfl
  | s :: nm, f, t, h => by
    simp only [List.mem_cons, not_or] at h
    rw [List.foldl_cons, fold_out w nm _ t h.2]
    exact setQ_other _ _ h.1
theorem fold_in (w : Wt) : ∀ (nm : List ByteArray) (f : ByteArray → List Wt) (t : ByteArray), t ∈ nm → nm.Nodup → nm.foldl (tellQ w) f t = f t ++ [w]
  | [], _, _, h, _ => by cases h
  | s :: nm, f, t, h, hn => by
    rw [List.nodup_cons] at hn
    rw [List.foldl_cons]
    rcases List.mem_cons.1 h with h1 | h1
    · subst h1
      rw [fold_out w nm _ t hn.1]
      exact setQ_same _ _ _
    · rw [fold_in w nm _ t h1 hn.2]
      unfold tellQ
      rw [setQ_other _ _ (by rintro rfl; exact hn.1 h1)]
theorem fold_len (w : Wt) : ∀ (nm : List ByteArray) (f : ByteArray → List Wt) (t : ByteArray), (nm.foldl (tellQ w) f t).length ≤ (f t).length + nm.length
  | [], _, _ => Nat.le_refl _
  | s :: nm, f, t => by
    rw [List.foldl_cons]
    have h := fold_len w nm (tellQ w f s) t
    have h2 : (tellQ w f s t).length ≤ (f t).length + 1 := by
      unfold tellQ setQ
      split
      · rename_i h; rw [h]; simp
      · omega
    simp only [List.length_cons]
    omega
/-- Is a subscriber's row full? -/
def fullA (A : Abs) (nm : List ByteArray) : Bool := nm.any fun t => decide (256 ≤ (A.wq t).length)
theorem full_A {f : ByteArray → Nat × List Value} {nm : List ByteArray} (h : f = encW A.wq) : full f nm = fullA A nm := by
  unfold full fullA
  subst h
  rfl
def okS (s : ByteArray) (ep kd : Int) (n : Nat) : Prop := okN s = true ∧ (0 ≤ ep ∧ ep < 4294967296) ∧ (1 ≤ kd ∧ kd ≤ 3) ∧ okB n = true
def SenA (A : Abs) (s : ByteArray) (ep kd : Int) (n : Nat) (l : List Int) (k : Nat) (r : Int) (A' : Abs) : Prop :=
  (¬ okS s ep kd n ∧ k = 0 ∧ r = 1 ∧ A' = A) ∨ (okS s ep kd n ∧ A.gq s = none ∧ k = 0 ∧ r = 3 ∧ A' = A) ∨
  (okS s ep kd n ∧ ∃ g, A.gq s = some g ∧ ((ep ≠ g.ep ∧ k = 0 ∧ r = 60 ∧ A' = A) ∨ (ep = g.ep ∧ (kd = 3 ∧ ep + 1 ≥ 4294967296) ∧ k = 0 ∧ r = 65 ∧ A' = A) ∨
    (ep = g.ep ∧ ¬ (kd = 3 ∧ ep + 1 ≥ 4294967296) ∧ fullA A g.subs = true ∧ k = 0 ∧ r = 64 ∧ A' = A) ∨
    (ep = g.ep ∧ ¬ (kd = 3 ∧ ep + 1 ≥ 4294967296) ∧ fullA A g.subs = false ∧ k = g.log.length ∧ r = 0 ∧ ∃ en : En, en.ep = ep ∧ en.kd = kd ∧ en.l = l ∧ en.n = n ∧
      A' = { A with gq := setQ A.gq s (some ⟨if kd = 3 then ep + 1 else ep, g.log ++ [en], g.subs⟩), wq := g.subs.foldl (tellQ ⟨s, g.log.length, en⟩) A.wq })))
theorem Chg.sub {ws vs : List Nat} {W W1 : World} (h : Chg ws W W1) (hs : ∀ i ∈ ws, i ∈ vs) : Chg vs W W1 := h.mono hs
theorem send_S (h : SRep B b m0 m1 m2 A os W) (s : ByteArray) (ep kd : Int) (q : Option Addr) (n c : Nat) (l : List Int) (hx : Bs W q n l) (hlen : ∀ g, A.gq s = some g → g.log.length ≤ 2000000000000) :
    Calls Try.prog 13 #[.pointer (some ⟨b, 0, none⟩), .string s, .agg #[.int .i64 ep, .int .i64 kd, .slice q n c]] W (Did B b m0 m1 m2 os W fun v A' _ => ∃ (k : Nat) (r : Int), v = .tuple #[.int .i64 k, .int .i64 r] ∧ SenA A s ep kd n l k r A') := by
  by_cases hok : okS s ep kd n
  · have hok' := hok
    obtain ⟨hN, hep, hkd, hBk⟩ := hok
    have h' := h
    obtain ⟨P, G, L, hp, hg, hw, e1, e2, e3, rfl⟩ := h.rep
    have hbn := bn_parts h.bnot
    obtain ⟨es, clock, hm, hE⟩ := hg.map
    cases hq : A.gq s with
    | none =>
      exact (send_none b m0 m1 m2 n c clock es _ ep kd q s W h.svc_ hN hep hkd hBk hm hE (gf_none.1 (by rw [e2]; exact hq))).mono fun e W' ⟨he, hb⟩ => by subst he; exact Did.same h' hb ⟨0, 3, rfl, .inr (.inl ⟨hok', hq, rfl, rfl, rfl⟩)⟩
    | some g =>
      obtain ⟨r, hr, hrn, hrs, hl⟩ := gf_some (G := G) (s := s) (g := g) (by rw [e2]; exact hq)
      have ho := hg.ok r hr
      have hap := own_apart ho
      rw [← hrs] at hq
      by_cases hee : ep = r.st.ep
      · subst hee
        refine (send_any B b m0 m1 m2 r.bg clock n c r.st.log.length es _ r.st.ep kd r.vlog r.vsubs (r.st.log.flatMap En.cells) r.st.subs L q l s (okN_iff.1 hN) W h.base h.svc_ hm hE hl ho.blk_ ho.log ho.sub ho.few ho.nms hw hep hkd hx (okB_iff.1 hBk) (hlen _ hq)).mono ?_
        rintro e W' (⟨h3, h5, rfl, hb⟩ | ⟨h3, h5, rfl, hb⟩ | ⟨h3, h5, rfl, vlog', q', c', L', hbg, hlog, hlo, hbd, hw', hwf, hk⟩)
        · exact Did.same h' hb ⟨0, 65, rfl, .inr (.inr ⟨hok', r.st, hq, .inr (.inl ⟨rfl, ⟨h3, h5⟩, rfl, rfl, rfl⟩)⟩)⟩
        · exact Did.same h' hb ⟨0, 64, rfl, .inr (.inr ⟨hok', r.st, hq, .inr (.inr (.inl ⟨rfl, h3, by rw [← full_A e3]; exact h5, rfl, rfl, rfl⟩))⟩)⟩
        · have x1 := hp.xG hg h.ne.1
          have x2 := hp.xW hw h.ne.2.1
          have x3 := hg.xW hw h.ne.2.2.1
          have hn := h'.noU
          have hcg : Chg (blkG m1 G ++ blkW m2 L) W W' := hk.chg.sub (fun i hi => by
            rcases List.mem_append.1 hi with hi | hi
            · refine List.mem_append_left _ (List.mem_cons_of_mem _ (List.mem_flatMap.2 ⟨r, hr, ?_⟩))
              rcases List.mem_cons.1 hi with rfl | hi
              · simp [GRow.blk]
              · simp only [GRow.blk, List.mem_cons, List.mem_append]; exact .inr (.inl hi)
            · exact List.mem_append_right _ hi)
          have hcall : Chg (blkP m0 P ++ (blkG m1 G ++ blkW m2 L)) W W' := hcg.sub (fun i hi => List.mem_append_right _ hi)
          have hrsub : ∀ i, r.vsubs.ownBlock = some i → i ∉ (r.bg :: r.vlog.ownBlock.toList) ++ blkW m2 L := by
            intro i hi hm5
            rcases List.mem_append.1 hm5 with hm5 | hm5
            · rcases List.mem_cons.1 hm5 with hm5 | hm5
              · exact hap.2.1 (by rw [hi, hm5])
              · exact hap.2.2 i (by simpa using hm5) hi
            · exact x3 i (List.mem_cons_of_mem _ (List.mem_flatMap.2 ⟨r, hr, by simp [GRow.blk, hi]⟩)) hm5
          let en : En := ⟨r.st.ep, kd, q', n, c', l⟩
          have hok1 : GOk B W' ⟨r.name, r.bg, vlog', r.vsubs, ⟨if kd = 3 then r.st.ep + 1 else r.st.ep, r.st.log ++ [en], r.st.subs⟩⟩ := by
            refine ⟨hbg, ?_, own_ext ho.sub (fun i hi => hk.chg.block i (ho.sub.lt i hi).2 (hrsub i hi)), ho.base, ho.few, ho.nms, ?_, fun x hx => ?_⟩
            · show W'.ownsRow B 33 3 vlog' (r.st.log ++ [en]).length ((r.st.log ++ [en]).flatMap En.cells)
              rw [List.flatMap_append, List.length_append]
              exact hlog
            · show 0 ≤ (if kd = 3 then r.st.ep + 1 else r.st.ep) ∧ (if kd = 3 then r.st.ep + 1 else r.st.ep) < 4294967296
              split
              · next h9 => exact ⟨by omega, by have : ¬ r.st.ep + 1 ≥ 4294967296 := fun h8 => h3 ⟨h9, h8⟩; omega⟩
              · exact hep
            · rcases List.mem_append.1 hx with hx | hx
              · exact (ho.body x hx).chg hcall hn
              · have : x = en := by simpa using hx
                rw [this]
                exact ⟨hbd, okB_iff.1 hBk⟩
          have hg' : GRep B m1 (updG G r ⟨r.name, r.bg, vlog', r.vsubs, ⟨if kd = 3 then r.st.ep + 1 else r.st.ep, r.st.log ++ [en], r.st.subs⟩⟩) W' ∧ (∀ i ∈ blkG m1 (updG G r ⟨r.name, r.bg, vlog', r.vsubs, ⟨if kd = 3 then r.st.ep + 1 else r.st.ep, r.st.log ++ [en], r.st.subs⟩⟩), i ∈ blkG m1 G ∨ W.heap.size ≤ i) ∧ gf (updG G r ⟨r.name, r.bg, vlog', r.vsubs, ⟨if kd = 3 then r.st.ep + 1 else r.st.ep, r.st.log ++ [en], r.st.subs⟩⟩) = setQ (gf G) r.name (some ⟨if kd = 3 then r.st.ep + 1 else r.st.ep, r.st.log ++ [en], r.st.subs⟩) :=
            hg.set2 hr rfl rfl hok1 (fun i hi => by
              simp only [GRow.blk, List.mem_cons, List.mem_append] at hi ⊢
              rcases hi with hi | hi | hi
              · exact .inl (.inl hi)
              · rcases hlo with hlo | ⟨g5, hlo, hg5⟩
                · rw [hlo] at hi
                  exact .inl (.inr (.inl hi))
                · rw [hlo] at hi
                  have : i = g5 := by simpa using hi
                  right; omega
              · exact .inl (.inr (.inr hi))) hk.chg (fun i hi => hn i (by
                rcases List.mem_append.1 hi with hi | hi
                · refine List.mem_append_right _ (List.mem_append_left _ (List.mem_cons_of_mem _ (List.mem_flatMap.2 ⟨r, hr, ?_⟩)))
                  rcases List.mem_cons.1 hi with rfl | hi
                  · simp [GRow.blk]
                  · simp only [GRow.blk, List.mem_cons, List.mem_append]; exact .inr (.inl hi)
                · exact List.mem_append_right _ (List.mem_append_right _ hi))) (fun f hf hne i hi hm5 => by
                rcases List.mem_append.1 hm5 with hm5 | hm5
                · refine hg.disj hf hr hne i hi ?_
                  rcases List.mem_cons.1 hm5 with rfl | hm5
                  · simp [GRow.blk]
                  · simp only [GRow.blk, List.mem_cons, List.mem_append]; exact .inr (.inl hm5)
                · exact x3 i (List.mem_cons_of_mem _ (List.mem_flatMap.2 ⟨f, hf, hi⟩)) hm5) (fun hm5 => by
                rcases List.mem_append.1 hm5 with hm5 | hm5
                · have hm6 : m1 ∈ r.blk := by
                    rcases List.mem_cons.1 hm5 with h8 | hm5
                    · simp [GRow.blk, h8]
                    · simp only [GRow.blk, List.mem_cons, List.mem_append]; exact .inr (.inl hm5)
                  obtain ⟨o, h8, h9⟩ := ho.kind m1 hm6
                  rw [hm] at h8
                  cases h8
                  cases h9
                · exact x3 m1 (by simp [blkG]) hm5)
          obtain ⟨hg1, hg2, hg3⟩ := hg'
          have hokn : En.Ok W' en := ⟨hbd, okB_iff.1 hBk⟩
          refine ⟨_, { A with gq := setQ A.gq s (some ⟨if kd = 3 then r.st.ep + 1 else r.st.ep, r.st.log ++ [en], r.st.subs⟩), wq := r.st.subs.foldl (tellQ ⟨s, r.st.log.length, en⟩) A.wq }, _, rfl,
            ⟨hcall.at_ h'.svc_ h'.bnot, Nat.le_trans h'.base hcall.size, h'.ne, ⟨P, _, L', hp.apartStay hcg (fun i hi hm5 => ?_), hg1, hw', e1, by rw [hg3, e2, hrn], ?_, rfl⟩, fun t p5 hp5 => (h'.pok t p5 hp5).chg hcall hn, fun t w5 hw5 => ?_⟩, ⟨hcall, fun i hi => ?_⟩, r.st.log.length, 0, rfl, .inr (.inr ⟨hok', r.st, hq, .inr (.inr (.inr ⟨rfl, h3, by rw [← full_A e3]; exact h5, rfl, rfl, en, rfl, rfl, rfl, rfl, rfl⟩))⟩)⟩
          · rcases List.mem_append.1 hm5 with hm5 | hm5
            · exact x1 i hi hm5
            · exact x2 i hi hm5
          · rw [hwf, encW_fold, e3]
            rfl
          · rcases fold_mem _ _ _ _ _ hw5 with hw5 | hw5
            · exact (h'.wok t w5 hw5).chg hcall hn
            · rw [hw5]
              exact hokn
          · have hkey : ∀ i ∈ (r.bg :: r.vlog.ownBlock.toList) ++ blkW m2 L, i ∈ blkP m0 P ++ (blkG m1 G ++ blkW m2 L) := by
              intro i hi
              rcases List.mem_append.1 hi with hi | hi
              · refine List.mem_append_right _ (List.mem_append_left _ (List.mem_cons_of_mem _ (List.mem_flatMap.2 ⟨r, hr, ?_⟩)))
                rcases List.mem_cons.1 hi with rfl | hi
                · simp [GRow.blk]
                · simp only [GRow.blk, List.mem_cons, List.mem_append]; exact .inr (.inl hi)
              · exact List.mem_append_right _ (List.mem_append_right _ hi)
            rcases List.mem_append.1 hi with hi | hi
            · exact .inl (List.mem_append_left _ hi)
            · rcases List.mem_append.1 hi with hi | hi
              · exact (hg2 i hi).imp (fun h8 => List.mem_append_right _ (List.mem_append_left _ h8)) id
              · exact (hk.own i (List.mem_append_right _ hi)).imp (hkey i) id
      · exact (send_epoch b m0 m1 m2 n c r.bg clock es _ r.st.ep r.vlog r.vsubs ep kd q s W h.svc_ hN hep hkd hBk hm hE hl ho.blk_ hee).mono fun e W' ⟨he, hb⟩ => by subst he; exact Did.same h' hb ⟨0, 60, rfl, .inr (.inr ⟨hok', r.st, hq, .inl ⟨hee, rfl, rfl, rfl⟩⟩)⟩
  · have hbad : Calls Try.prog 13 #[.pointer (some ⟨b, 0, none⟩), .string s, .agg #[.int .i64 ep, .int .i64 kd, .slice q n c]] W fun e W' => e = .returned (.tuple #[.int .i64 0, .int .i64 1]) ∧ Below W.heap.size W W' := by
      cases hN : okN s with
      | false => exact send_badN b m0 m1 m2 n c ep kd q s W h.svc_ hN
      | true =>
        by_cases h1 : ep < 0
        · exact send_bad1 b m0 m1 m2 n c ep kd q s W h.svc_ hN h1
        by_cases h2 : 4294967296 ≤ ep
        · exact send_bad2 b m0 m1 m2 n c ep kd q s W h.svc_ hN h2
        by_cases h3 : kd < 1
        · exact send_bad3 b m0 m1 m2 n c ep kd q s W h.svc_ hN ⟨by omega, by omega⟩ h3
        by_cases h4 : 3 < kd
        · exact send_bad4 b m0 m1 m2 n c ep kd q s W h.svc_ hN ⟨by omega, by omega⟩ h4
        cases h5 : okB n with
        | false => exact send_bad5 b m0 m1 m2 n c ep kd q s W h.svc_ hN ⟨by omega, by omega⟩ ⟨by omega, by omega⟩ h5
        | true => exact absurd ⟨hN, ⟨by omega, by omega⟩, ⟨by omega, by omega⟩, h5⟩ hok
    exact hbad.mono fun e W' ⟨he, hb⟩ => by subst he; exact Did.same h hb ⟨0, 1, rfl, .inl ⟨hok, rfl, rfl, rfl⟩⟩
def PicA (A : Abs) (s : ByteArray) (k : Int) (v : Value) (r : Int) (A' : Abs) (W' : World) : Prop :=
  (okN s = false ∧ v = .agg wait0 ∧ r = 1 ∧ A' = A) ∨ (okN s = true ∧ (k < 0 ∨ ((A.wq s).length : Int) ≤ k) ∧ v = .agg wait0 ∧ r = 3 ∧ A' = A) ∨
  (okN s = true ∧ ∃ (j : Nat) (w : Wt) (q' c' : Nat), k = j ∧ (A.wq s)[j]? = some w ∧ v = .agg #[.string w.s, .int .i64 w.k, .int .i64 w.en.ep, .int .i64 w.en.kd, .slice (some ⟨q', 0, none⟩) w.en.n c'] ∧ Body W' q' w.en.n c' w.en.l ∧ r = 0 ∧ A' = { A with wq := setQ A.wq s ((A.wq s).eraseIdx j) })
theorem pick_S (h : SRep B b m0 m1 m2 A os W) (s : ByteArray) (k : Int) :
    Calls Try.prog 16 #[.pointer (some ⟨b, 0, none⟩), .string s, .int .i64 k] W (Did B b m0 m1 m2 os W fun v A' W' => ∃ v0 r, v = .tuple #[v0, .int .i64 r] ∧ PicA A s k v0 r A' W') := by
  cases hN : okN s with
  | false => exact (pick_bad b m0 m1 m2 s k hN W h.svc_).mono fun e W' ⟨he, hb⟩ => by subst he; exact Did.same h hb ⟨_, 1, rfl, .inl ⟨hN, rfl, rfl, rfl⟩⟩
  | true =>
    obtain ⟨P, G, L, hp, hg, hw, e1, e2, e3, rfl⟩ := h.rep
    have hbn := bn_parts h.bnot
    have hgo : Calls Try.prog 16 #[.pointer (some ⟨b, 0, none⟩), .string s, .int .i64 k] W (PickR B m2 L s (A.wq s) k W) := by
      by_cases hk : k < 0 ∨ ((A.wq s).length : Int) ≤ k
      · exact pick_miss B b m0 m1 m2 L s (A.wq s) k hN hk W h.base h.svc_ hw (by rw [e3]; rfl)
      · obtain ⟨j, rfl⟩ : ∃ j : Nat, k = j := ⟨k.toNat, by omega⟩
        have hj : j < (A.wq s).length := by omega
        exact pick_hit B b m0 m1 m2 j L s (A.wq s) (A.wq s)[j] hN (List.getElem?_eq_getElem hj) W (h.wok s _ (List.getElem_mem hj)) h.base h.svc_ hw (by rw [e3]; rfl)
    refine hgo.mono ?_
    rintro e W' ⟨L', hw', hk, hr⟩
    rcases hr with ⟨h6, rfl, h7⟩ | ⟨j, w, q', c', h6, h7, rfl, h8, h9⟩
    · obtain ⟨g1, g2⟩ := SRep.setW (wq' := A.wq) h.svc_ h.base h.ne hp hg hw e1 e2 h.pok hbn.2.2 hw' hk (by rw [h7, e3]) (fun s p hp5 => (h.wok s p hp5).chg hk.chg hw.noU)
      exact ⟨_, _, _, rfl, g1, g2, _, 3, rfl, .inr (.inl ⟨hN, h6, rfl, rfl, rfl⟩)⟩
    · obtain ⟨g1, g2⟩ := SRep.setW (wq' := setQ A.wq s ((A.wq s).eraseIdx j)) h.svc_ h.base h.ne hp hg hw e1 e2 h.pok hbn.2.2 hw' hk (by rw [h9, encW_set, e3]) (fun t p5 hp5 => by
        unfold setQ at hp5
        by_cases ht : t = s
        · rw [if_pos ht] at hp5
          exact (h.wok s p5 ((List.eraseIdx_sublist _ _).subset hp5)).chg hk.chg hw.noU
        · rw [if_neg ht] at hp5
          exact (h.wok t p5 hp5).chg hk.chg hw.noU)
      exact ⟨_, _, _, rfl, g1, g2, _, 0, rfl, .inr (.inr ⟨hN, j, w, q', c', h6, h7, rfl, h8, rfl, rfl⟩)⟩
theorem waiting_S (h : SRep B b m0 m1 m2 A os W) (s : ByteArray) :
    Calls Try.prog 18 #[.pointer (some ⟨b, 0, none⟩), .string s] W fun e W' => e = .returned (.int .i64 (if okN s = true then ((A.wq s).length : Int) else 0)) ∧ Below W.heap.size W W' := by
  cases hN : okN s with
  | false => exact (waiting_bad b m0 m1 m2 s hN W h.svc_).mono fun e W' h5 => by simpa using h5
  | true =>
    obtain ⟨P, G, L, hp, hg, hw, e1, e2, e3, _⟩ := h.rep
    have hl : cntL L s = (A.wq s).length := by rw [cnt_wf, e3]; rfl
    have hc := hw.cnt s
    rw [hl] at hc
    exact (waiting_cnt b m0 m1 m2 _ s (okN_iff.1 hN) W h.svc_ hc).mono fun e W' h5 => by simpa using h5
/-- The log that Log answers. -/
def logA (A : Abs) (s : ByteArray) : List En := if okN s = true then (match A.gq s with | some g => g.log | none => []) else []
theorem log_S (h : SRep B b m0 m1 m2 A os W) (s : ByteArray) (hlen : (logA A s).length ≤ 2000000000000) :
    Calls Try.prog 15 #[.pointer (some ⟨b, 0, none⟩), .string s] W (LogR (logA A s) W) := by
  have hnil : ∀ e W', e = .returned (.slice none 0 0) ∧ Below W.heap.size W W' → LogR [] W e W' := fun e W' ⟨he, hb⟩ => ⟨_, [], he, World.ownsRow_nil _ _ _ _, rfl, by simp, hb⟩
  cases hN : okN s with
  | false =>
    have : logA A s = [] := by simp [logA, hN]
    rw [this]
    exact (log_bad b m0 m1 m2 s hN W h.svc_).mono hnil
  | true =>
    obtain ⟨P, G, L, hp, hg, hw, e1, e2, e3, _⟩ := h.rep
    obtain ⟨es, clock, hm, hE⟩ := hg.map
    cases hq : A.gq s with
    | none =>
      have : logA A s = [] := by simp [logA, hN, hq]
      rw [this]
      exact (log_none b m0 m1 m2 clock es _ s hN W h.svc_ hm hE (gf_none.1 (by rw [e2]; exact hq))).mono hnil
    | some g =>
      obtain ⟨r, hr, hrn, hrs, hl⟩ := gf_some (G := G) (s := s) (g := g) (by rw [e2]; exact hq)
      have ho := hg.ok r hr
      have : logA A s = r.st.log := by simp [logA, hN, hq, hrs]
      rw [this] at hlen ⊢
      exact log_any B b m0 m1 m2 r.bg clock es _ r.st.ep r.vlog r.vsubs r.st.log s hN W h.svc_ hm hE hl ho.blk_ ho.log ho.body hlen
/-- What Epoch answers. -/
def epoA (A : Abs) (s : ByteArray) : Int × Int := if okN s = true then (match A.gq s with | some g => (g.ep, 0) | none => (0, 3)) else (0, 1)
theorem epoch_S (h : SRep B b m0 m1 m2 A os W) (s : ByteArray) :
    Calls Try.prog 20 #[.pointer (some ⟨b, 0, none⟩), .string s] W fun e W' => e = .returned (.tuple #[.int .i64 (epoA A s).1, .int .i64 (epoA A s).2]) ∧ Below W.heap.size W W' := by
  cases hN : okN s with
  | false =>
    have : epoA A s = (0, 1) := by simp [epoA, hN]
    rw [this]
    exact epoch_bad b m0 m1 m2 s hN W h.svc_
  | true =>
    obtain ⟨P, G, L, hp, hg, hw, e1, e2, e3, _⟩ := h.rep
    obtain ⟨es, clock, hm, hE⟩ := hg.map
    cases hq : A.gq s with
    | none =>
      have : epoA A s = (0, 3) := by simp [epoA, hN, hq]
      rw [this]
      exact epoch_none b m0 m1 m2 clock es _ s hN W h.svc_ hm hE (gf_none.1 (by rw [e2]; exact hq))
    | some g =>
      obtain ⟨r, hr, hrn, hrs, hl⟩ := gf_some (G := G) (s := s) (g := g) (by rw [e2]; exact hq)
      have ho := hg.ok r hr
      have : epoA A s = (r.st.ep, 0) := by simp [epoA, hN, hq, hrs]
      rw [this]
      exact epoch_any b m0 m1 m2 r.bg clock es _ r.st.ep r.vlog r.vsubs s (okN_iff.1 hN) W h.svc_ hm hE hl ho.blk_
end
/-- A service that is new. -/
theorem new_S (w : World) : Calls Try.prog 8 #[] w fun e w' => ∃ b m0 m1 m2 os, e = .returned (.pointer (some ⟨b, 0, none⟩)) ∧ SRep w.heap.size b m0 m1 m2 ⟨fun _ => [], fun _ => none, fun _ => []⟩ os w' ∧ Kept [] (b :: os) w w' := by
  refine (new_any w).mono ?_
  rintro e w' ⟨rfl, hk⟩
  have hm0 := hk.at_ (g := w.heap.size) (ob := .map #[] 0) (by simp)
  have hm1 := hk.at_ (g := w.heap.size + 1) (ob := .map #[] 0) (by simp)
  have hm2 := hk.at_ (g := w.heap.size + 2) (ob := .map #[] 0) (by simp)
  have hb := hk.at_ (g := w.heap.size + 3) (ob := svc w.heap.size (w.heap.size + 1) (w.heap.size + 2)) (by simp [svc])
  refine ⟨w.heap.size + 3, w.heap.size, w.heap.size + 1, w.heap.size + 2, blkP w.heap.size [] ++ (blkG (w.heap.size + 1) [] ++ blkW (w.heap.size + 2) []), rfl,
    ⟨hb, hk.2.size, by omega, ⟨[], [], [], ⟨⟨_, _, hm0, rfl⟩, by simp, by simp, by simp, by simp⟩, ⟨⟨_, _, hm1, rfl⟩, by simp, by simp⟩, ⟨⟨_, _, hm2, rfl⟩, by simp, by simp, by simp, by simp⟩, rfl, rfl, rfl, rfl⟩, by simp, by simp⟩, Chg.of_below hk.2, fun i hi => ?_⟩
  right
  simp [blkP, blkG, blkW] at hi
  omega
end Go.Proofs.Ytiebggfpjkhlaaa
