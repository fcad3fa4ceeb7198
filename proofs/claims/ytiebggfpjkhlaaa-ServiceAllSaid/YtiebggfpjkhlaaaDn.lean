/- Each call of a service as a step of its state. No condition. -/
import Derived.Test.YtiebggfpjkhlaaaDm
namespace Go.Proofs.Ytiebggfpjkhlaaa
open Go Go.RowKit
set_option linter.unusedSimpArgs false
theorem okN_iff {s : ByteArray} : okN s = true ↔ 1 ≤ s.size ∧ s.size ≤ 255 := by simp [okN]
theorem okB_iff {n : Nat} : okB n = true ↔ 1 ≤ n ∧ n ≤ 65536 := by simp [okB]
theorem setQ_same {α : Type} (f : ByteArray → α) (s : ByteArray) (x : α) : setQ f s x s = x := by simp [setQ]
theorem setQ_other {α : Type} (f : ByteArray → α) {s t : ByteArray} (x : α) (h : t ≠ s) : setQ f s x t = f t := by simp [setQ, h]
section
variable {B b m0 m1 m2 : Nat} {A : Abs} {os : List Nat} {W : World}
theorem bn_parts {P : List PRow} {G : List GRow} {L : List WRow} (h : b ∉ blkP m0 P ++ (blkG m1 G ++ blkW m2 L)) : b ∉ blkP m0 P ∧ b ∉ blkG m1 G ∧ b ∉ blkW m2 L := by
  simp only [List.mem_append, not_or] at h
  exact h
def OffA (A : Abs) (s : ByteArray) (n : Nat) (l : List Int) (r : Int) (A' : Abs) : Prop :=
  ((okN s && okB n) = false ∧ r = 1 ∧ A' = A) ∨ ((okN s && okB n) = true ∧ 256 ≤ (A.pq s).length ∧ r = 64 ∧ A' = A) ∨
  ((okN s && okB n) = true ∧ (A.pq s).length < 256 ∧ r = 0 ∧ ∃ p : Pk, p.l = l ∧ p.n = n ∧ A' = { A with pq := setQ A.pq s (A.pq s ++ [p]) })
theorem offer_S (h : SRep B b m0 m1 m2 A os W) (s : ByteArray) (q : Option Addr) (n c : Nat) (l : List Int) (hx : ∀ W', Chg os W W' → Bs W' q n l) :
    Calls Try.prog 14 #[.pointer (some ⟨b, 0, none⟩), .string s, .slice q n c] W (Did B b m0 m1 m2 os W fun v A' _ => ∃ r : Int, v = .int .i64 r ∧ OffA A s n l r A') := by
  cases hN : okN s with
  | false => exact (offer_bad b m0 m1 m2 s q n c hN W h.svc_).mono fun e W' ⟨he, hb⟩ => by subst he; exact Did.same h hb ⟨1, rfl, .inl ⟨by simp [hN], rfl, rfl⟩⟩
  | true =>
    cases hBk : okB n with
    | false => exact (offer_badB b m0 m1 m2 n c q s hN hBk W h.svc_).mono fun e W' ⟨he, hb⟩ => by subst he; exact Did.same h hb ⟨1, rfl, .inl ⟨by simp [hBk], rfl, rfl⟩⟩
    | true =>
      obtain ⟨P, G, L, hp, hg, hw, e1, e2, e3, rfl⟩ := h.rep
      have hbn := bn_parts h.bnot
      refine (offer_any B b m0 m1 m2 n c q l P s (okN_iff.1 hN) W h.base h.svc_ hp (fun W' hc => hx W' (hc.mono (fun i hi => by simp [hi]))) (okB_iff.1 hBk)).mono ?_
      rintro e W' ⟨P', hp', ⟨_, hk⟩, hr⟩
      have hlen : (pf P s).1 = (A.pq s).length := by rw [e1]; rfl
      rcases hr with ⟨h6, rfl, h7⟩ | ⟨h6, rfl, q', c', h7, hbd⟩
      · obtain ⟨g1, g2⟩ := SRep.setP (pq' := A.pq) h.svc_ h.base h.ne hp hg hw e2 e3 h.wok hbn.1 hp' hk (by rw [h7, e1]) (fun s p hp5 => (h.pok s p hp5).chg hk.chg hp.noU)
        exact ⟨_, _, _, rfl, g1, g2, 64, rfl, .inr (.inl ⟨by simp [hN, hBk], by omega, rfl, rfl⟩)⟩
      · have hbd' : Pk.Ok W' ⟨q', n, c', l⟩ := hbd
        obtain ⟨g1, g2⟩ := SRep.setP (pq' := setQ A.pq s (A.pq s ++ [⟨q', n, c', l⟩])) h.svc_ h.base h.ne hp hg hw e2 e3 h.wok hbn.1 hp' hk (by rw [h7, encP_set, e1]; simp [encP, Pk.v]) (fun t p hp5 => by
          unfold setQ at hp5
          by_cases ht : t = s
          · rw [if_pos ht] at hp5
            rcases List.mem_append.1 hp5 with hp5 | hp5
            · exact (h.pok s p hp5).chg hk.chg hp.noU
            · have : p = ⟨q', n, c', l⟩ := by simpa using hp5
              rw [this]; exact hbd'
          · rw [if_neg ht] at hp5
            exact (h.pok t p hp5).chg hk.chg hp.noU)
        exact ⟨_, _, _, rfl, g1, g2, 0, rfl, .inr (.inr ⟨by simp [hN, hBk], by omega, rfl, ⟨q', n, c', l⟩, rfl, rfl, rfl⟩)⟩
def TakA (A : Abs) (s : ByteArray) (v : Value) (r : Int) (A' : Abs) : Prop :=
  (okN s = false ∧ v = .slice none 0 0 ∧ r = 1 ∧ A' = A) ∨ (okN s = true ∧ A.pq s = [] ∧ v = .slice none 0 0 ∧ r = 3 ∧ A' = A) ∨
  (okN s = true ∧ ∃ p rest, A.pq s = p :: rest ∧ v = p.v ∧ r = 0 ∧ A' = { A with pq := setQ A.pq s rest })
theorem take_S (h : SRep B b m0 m1 m2 A os W) (s : ByteArray) :
    Calls Try.prog 17 #[.pointer (some ⟨b, 0, none⟩), .string s] W (Did B b m0 m1 m2 os W fun v A' W' => ∃ v0 r, v = .tuple #[v0, .int .i64 r] ∧ TakA A s v0 r A' ∧ Chg os W W') := by
  cases hN : okN s with
  | false => exact (take_bad b m0 m1 m2 s hN W h.svc_).mono fun e W' ⟨he, hb⟩ => by subst he; exact Did.same h hb ⟨_, 1, rfl, .inl ⟨hN, rfl, rfl, rfl⟩, Chg.of_below hb⟩
  | true =>
    obtain ⟨P, G, L, hp, hg, hw, e1, e2, e3, rfl⟩ := h.rep
    have hbn := bn_parts h.bnot
    refine (take_any B b m0 m1 m2 P s (A.pq s) hN W h.base h.svc_ hp (by rw [e1]; rfl)).mono ?_
    rintro e W' ⟨P', hp', hk, hr⟩
    rcases hr with ⟨h6, rfl, h7⟩ | ⟨p, rest, h6, rfl, h7⟩
    · obtain ⟨g1, g2⟩ := SRep.setP (pq' := A.pq) h.svc_ h.base h.ne hp hg hw e2 e3 h.wok hbn.1 hp' hk (by rw [h7, e1]) (fun s p hp5 => (h.pok s p hp5).chg hk.chg hp.noU)
      exact ⟨_, _, _, rfl, g1, g2, _, 3, rfl, .inr (.inl ⟨hN, h6, rfl, rfl, rfl⟩), g2.chg⟩
    · obtain ⟨g1, g2⟩ := SRep.setP (pq' := setQ A.pq s rest) h.svc_ h.base h.ne hp hg hw e2 e3 h.wok hbn.1 hp' hk (by rw [h7, encP_set, e1]) (fun t p5 hp5 => by
        unfold setQ at hp5
        by_cases ht : t = s
        · rw [if_pos ht] at hp5
          exact (h.pok s p5 (by rw [h6]; exact List.mem_cons_of_mem _ hp5)).chg hk.chg hp.noU
        · rw [if_neg ht] at hp5
          exact (h.pok t p5 hp5).chg hk.chg hp.noU)
      exact ⟨_, _, _, rfl, g1, g2, _, 0, rfl, .inr (.inr ⟨hN, p, rest, h6, rfl, rfl, rfl⟩), g2.chg⟩
def OpnA (A : Abs) (s : ByteArray) (ep : Int) (r : Int) (A' : Abs) : Prop :=
  (¬ (okN s = true ∧ 0 ≤ ep ∧ ep < 4294967296) ∧ r = 1 ∧ A' = A) ∨ ((okN s = true ∧ 0 ≤ ep ∧ ep < 4294967296) ∧ A.gq s ≠ none ∧ r = 50 ∧ A' = A) ∨
  ((okN s = true ∧ 0 ≤ ep ∧ ep < 4294967296) ∧ A.gq s = none ∧ r = 0 ∧ A' = { A with gq := setQ A.gq s (some ⟨ep, [], []⟩) })
theorem open_S (h : SRep B b m0 m1 m2 A os W) (s : ByteArray) (ep : Int) :
    Calls Try.prog 10 #[.pointer (some ⟨b, 0, none⟩), .string s, .int .i64 ep] W (Did B b m0 m1 m2 os W fun v A' _ => ∃ r : Int, v = .int .i64 r ∧ OpnA A s ep r A') := by
  cases hN : okN s with
  | false => exact (open_bad b m0 m1 m2 s ep hN W h.svc_).mono fun e W' ⟨he, hb⟩ => by subst he; exact Did.same h hb ⟨1, rfl, .inl ⟨by simp [hN], rfl, rfl⟩⟩
  | true =>
    by_cases h0 : ep < 0
    · exact (open_neg b m0 m1 m2 s ep hN h0 W h.svc_).mono fun e W' ⟨he, hb⟩ => by subst he; exact Did.same h hb ⟨1, rfl, .inl ⟨by omega, rfl, rfl⟩⟩
    by_cases h1 : 4294967296 ≤ ep
    · exact (open_big b m0 m1 m2 s ep hN h1 W h.svc_).mono fun e W' ⟨he, hb⟩ => by subst he; exact Did.same h hb ⟨1, rfl, .inl ⟨by omega, rfl, rfl⟩⟩
    have hok : okN s = true ∧ 0 ≤ ep ∧ ep < 4294967296 := ⟨hN, by omega, by omega⟩
    have h' := h
    obtain ⟨P, G, L, hp, hg, hw, e1, e2, e3, rfl⟩ := h.rep
    have hbn := bn_parts h.bnot
    obtain ⟨es, clock, hm, hE⟩ := hg.map
    refine (open_any b m0 m1 m2 clock es _ ep hok.2 s (okN_iff.1 hN) W h.svc_ hm hE).mono ?_
    rintro e W' (⟨h6, rfl, hb⟩ | ⟨h6, rfl, bg, hge, hbg, hm', hch⟩)
    · exact Did.same h' hb ⟨50, rfl, .inr (.inl ⟨hok, by rw [← e2]; exact fun hc => h6 (gf_none.1 hc), rfl, rfl⟩)⟩
    · have hl := gf_none.2 h6
      obtain ⟨hg', hk, hgf⟩ := hg.push h.base hok.2 hl hge hbg hm' hch
      obtain ⟨g1, g2⟩ := SRep.setG h.svc_ h.base h.ne hp hg hw e1 e3 h.pok h.wok hbn.2.1 hg' hk (by rw [hgf, e2])
      exact ⟨_, _, _, rfl, g1, g2, 0, rfl, .inr (.inr ⟨hok, by rw [← e2]; exact hl, rfl, rfl⟩)⟩
def JoiA (A : Abs) (s who : ByteArray) (r : Int) (A' : Abs) : Prop :=
  ((okN s && okN who) = false ∧ r = 1 ∧ A' = A) ∨ ((okN s && okN who) = true ∧ A.gq s = none ∧ r = 3 ∧ A' = A) ∨
  ((okN s && okN who) = true ∧ ∃ g, A.gq s = some g ∧ ((who ∈ g.subs ∧ r = 50 ∧ A' = A) ∨ (who ∉ g.subs ∧ 16 ≤ g.subs.length ∧ r = 64 ∧ A' = A) ∨
    (who ∉ g.subs ∧ g.subs.length < 16 ∧ r = 0 ∧ A' = { A with gq := setQ A.gq s (some ⟨g.ep, g.log, g.subs ++ [who]⟩) })))
theorem own_apart {r : GRow} (h : GOk B W r) : r.vlog.ownBlock ≠ some r.bg ∧ r.vsubs.ownBlock ≠ some r.bg ∧ ∀ i, r.vlog.ownBlock = some i → r.vsubs.ownBlock ≠ some i := by
  refine ⟨fun h5 => ?_, fun h5 => ?_, fun i h5 h6 => ?_⟩
  · obtain ⟨cur, hc⟩ := own_blk h.log h5
    rw [h.blk_] at hc
    simp [grp] at hc
  · obtain ⟨cur, hc⟩ := own_blk h.sub h5
    rw [h.blk_] at hc
    simp [grp] at hc
  · obtain ⟨cur, hc⟩ := own_blk h.log h5
    obtain ⟨cur', hc'⟩ := own_blk h.sub h6
    rw [hc] at hc'
    simp at hc'
theorem join_S (h : SRep B b m0 m1 m2 A os W) (s who : ByteArray) :
    Calls Try.prog 11 #[.pointer (some ⟨b, 0, none⟩), .string s, .string who] W (Did B b m0 m1 m2 os W fun v A' _ => ∃ r : Int, v = .int .i64 r ∧ JoiA A s who r A') := by
  cases hN : okN s && okN who with
  | false => exact (join_bad b m0 m1 m2 s who hN W h.svc_).mono fun e W' ⟨he, hb⟩ => by subst he; exact Did.same h hb ⟨1, rfl, .inl ⟨hN, rfl, rfl⟩⟩
  | true =>
    have hN2 : okN s = true ∧ okN who = true := by simpa using hN
    have h' := h
    obtain ⟨P, G, L, hp, hg, hw, e1, e2, e3, rfl⟩ := h.rep
    have hbn := bn_parts h.bnot
    obtain ⟨es, clock, hm, hE⟩ := hg.map
    cases hq : A.gq s with
    | none =>
      exact (join_none b m0 m1 m2 clock es _ s who hN W h.svc_ hm hE (gf_none.1 (by rw [e2]; exact hq))).mono fun e W' ⟨he, hb⟩ => by subst he; exact Did.same h' hb ⟨3, rfl, .inr (.inl ⟨hN, hq, rfl, rfl⟩)⟩
    | some g =>
      obtain ⟨r, hr, hrn, hrs, hl⟩ := gf_some (G := G) (s := s) (g := g) (by rw [e2]; exact hq)
      have ho := hg.ok r hr
      have hap := own_apart ho
      rw [← hrs] at hq
      refine (join_any B b m0 m1 m2 r.bg clock es _ r.st.ep r.vlog r.vsubs r.st.subs s who (okN_iff.1 hN2.1) (okN_iff.1 hN2.2) W h.base h.svc_ hm hE hl ho.blk_ ho.sub hap.2.1 ho.few).mono ?_
      rintro e W' (⟨h6, rfl, hb⟩ | ⟨h6, h7, rfl, hb⟩ | ⟨h6, h7, rfl, v', hbg, hown, hat, hch⟩)
      · exact Did.same h' hb ⟨50, rfl, .inr (.inr ⟨hN, r.st, hq, .inl ⟨h6, rfl, rfl⟩⟩)⟩
      · exact Did.same h' hb ⟨64, rfl, .inr (.inr ⟨hN, r.st, hq, .inr (.inl ⟨h6, h7, rfl, rfl⟩)⟩)⟩
      · have hch' : Chg r.blk W W' := hch.mono (fun i hi => by
          rcases List.mem_cons.1 hi with rfl | hi
          · simp [GRow.blk]
          · simp only [GRow.blk, List.mem_cons, List.mem_append]; exact .inr (.inr hi))
        have hok' : GOk B W' ⟨r.name, r.bg, r.vlog, v', ⟨r.st.ep, r.st.log, r.st.subs ++ [who]⟩⟩ := by
          refine ⟨hbg, own_ext ho.log (fun i hi => hch.block i (ho.log.lt i hi).2 (fun hm => ?_)), by simpa using hown, ho.base, by simp; omega, fun t ht => ?_, ho.ep_, fun x hx => (ho.body x hx).chg hch' ho.noU⟩
          · rcases List.mem_cons.1 hm with hm | hm
            · exact hap.1 (by rw [hi, hm])
            · exact hap.2.2 i hi (by simpa using hm)
          · rcases List.mem_append.1 ht with ht | ht
            · exact ho.nms t ht
            · have : t = who := by simpa using ht
              rw [this]; exact okN_iff.1 hN2.2
        obtain ⟨hg', hk, hgf⟩ := hg.set (r' := ⟨r.name, r.bg, r.vlog, v', ⟨r.st.ep, r.st.log, r.st.subs ++ [who]⟩⟩) hr rfl rfl hok' (fun i hi => by
          simp only [GRow.blk, List.mem_cons, List.mem_append] at hi ⊢
          rcases hi with hi | hi | hi
          · exact .inl (.inl hi)
          · exact .inl (.inr (.inl hi))
          · rcases hat with hat | ⟨g5, hat, hg5⟩
            · rw [hat] at hi
              exact .inl (.inr (.inr hi))
            · rw [hat] at hi
              have : i = g5 := by simpa using hi
              right; omega) hch'
        obtain ⟨g1, g2⟩ := SRep.setG h.svc_ h.base h.ne hp hg hw e1 e3 h.pok h.wok hbn.2.1 hg' hk (gq' := setQ A.gq s (some ⟨r.st.ep, r.st.log, r.st.subs ++ [who]⟩)) (by rw [hgf, e2, hrn])
        exact ⟨_, _, _, rfl, g1, g2, 0, rfl, .inr (.inr ⟨hN, r.st, hq, .inr (.inr ⟨h6, h7, rfl, rfl⟩)⟩)⟩
def LeaA (A : Abs) (s who : ByteArray) (r : Int) (A' : Abs) : Prop :=
  ((okN s && okN who) = false ∧ r = 1 ∧ A' = A) ∨ ((okN s && okN who) = true ∧ A.gq s = none ∧ r = 3 ∧ A' = A) ∨
  ((okN s && okN who) = true ∧ ∃ g, A.gq s = some g ∧ ((who ∉ g.subs ∧ r = 3 ∧ A' = A) ∨ (who ∈ g.subs ∧ r = 0 ∧ A' = { A with gq := setQ A.gq s (some ⟨g.ep, g.log, struck g.subs who⟩) })))
theorem struck_sub {nm : List ByteArray} {who t : ByteArray} (h : t ∈ struck nm who) : t ∈ nm ∧ t ≠ who := by
  unfold struck at h
  simpa using h
theorem struck_len (nm : List ByteArray) (who : ByteArray) : (struck nm who).length ≤ nm.length := List.length_filter_le _ _
theorem leave_S (h : SRep B b m0 m1 m2 A os W) (s who : ByteArray) :
    Calls Try.prog 21 #[.pointer (some ⟨b, 0, none⟩), .string s, .string who] W (Did B b m0 m1 m2 os W fun v A' _ => ∃ r : Int, v = .int .i64 r ∧ LeaA A s who r A') := by
  cases hN : okN s && okN who with
  | false => exact (leave_bad b m0 m1 m2 s who W h.svc_ hN).mono fun e W' ⟨he, hb⟩ => by subst he; exact Did.same h hb ⟨1, rfl, .inl ⟨hN, rfl, rfl⟩⟩
  | true =>
    have h' := h
    obtain ⟨P, G, L, hp, hg, hw, e1, e2, e3, rfl⟩ := h.rep
    have hbn := bn_parts h.bnot
    obtain ⟨es, clock, hm, hE⟩ := hg.map
    cases hq : A.gq s with
    | none =>
      exact (leave_none b m0 m1 m2 clock es _ s who W h.svc_ hN hm hE (gf_none.1 (by rw [e2]; exact hq))).mono fun e W' ⟨he, hb⟩ => by subst he; exact Did.same h' hb ⟨3, rfl, .inr (.inl ⟨hN, hq, rfl, rfl⟩)⟩
    | some g =>
      obtain ⟨r, hr, hrn, hrs, hl⟩ := gf_some (G := G) (s := s) (g := g) (by rw [e2]; exact hq)
      have ho := hg.ok r hr
      have hap := own_apart ho
      rw [← hrs] at hq
      by_cases hmem : who ∈ r.st.subs
      · refine (leave_in B b m0 m1 m2 r.bg clock es _ r.st.ep r.vlog r.vsubs r.st.subs s who W h.svc_ hN hm hE hl ho.blk_ ho.sub ho.few hap.2.1 hmem).mono ?_
        rintro e W' ⟨rfl, v', hbg, hown, hat, hch⟩
        have hch' : Chg r.blk W W' := hch.mono (fun i hi => by
          rcases List.mem_cons.1 hi with rfl | hi
          · simp [GRow.blk]
          · simp only [GRow.blk, List.mem_cons, List.mem_append]; exact .inr (.inr hi))
        have hok' : GOk B W' ⟨r.name, r.bg, r.vlog, v', ⟨r.st.ep, r.st.log, struck r.st.subs who⟩⟩ := by
          refine ⟨hbg, own_ext ho.log (fun i hi => hch.block i (ho.log.lt i hi).2 (fun hm => ?_)), hown, ho.base, Nat.le_trans (struck_len _ _) ho.few, fun t ht => ho.nms t (struck_sub ht).1, ho.ep_, fun x hx => (ho.body x hx).chg hch' ho.noU⟩
          rcases List.mem_cons.1 hm with hm | hm
          · exact hap.1 (by rw [hi, hm])
          · exact hap.2.2 i hi (by simpa using hm)
        obtain ⟨hg', hk, hgf⟩ := hg.set (r' := ⟨r.name, r.bg, r.vlog, v', ⟨r.st.ep, r.st.log, struck r.st.subs who⟩⟩) hr rfl rfl hok' (fun i hi => by
          simp only [GRow.blk, List.mem_cons, List.mem_append] at hi ⊢
          rw [hat] at hi
          exact .inl hi) hch'
        obtain ⟨g1, g2⟩ := SRep.setG h.svc_ h.base h.ne hp hg hw e1 e3 h.pok h.wok hbn.2.1 hg' hk (gq' := setQ A.gq s (some ⟨r.st.ep, r.st.log, struck r.st.subs who⟩)) (by rw [hgf, e2, hrn])
        exact ⟨_, _, _, rfl, g1, g2, 0, rfl, .inr (.inr ⟨hN, r.st, hq, .inr ⟨hmem, rfl, rfl⟩⟩)⟩
      · exact (leave_out B b m0 m1 m2 r.bg clock es _ r.st.ep r.vlog r.vsubs r.st.subs s who W h.svc_ hN hm hE hl ho.blk_ ho.sub ho.few hmem).mono fun e W' ⟨he, hb⟩ => by subst he; exact Did.same h' hb ⟨3, rfl, .inr (.inr ⟨hN, r.st, hq, .inl ⟨hmem, rfl, rfl⟩⟩)⟩
end
end Go.Proofs.Ytiebggfpjkhlaaa
