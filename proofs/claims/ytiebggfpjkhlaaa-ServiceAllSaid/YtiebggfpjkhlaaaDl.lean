/- service.Take. No condition. -/
import Derived.Test.YtiebggfpjkhlaaaDk
namespace Go.Proofs.Ytiebggfpjkhlaaa
open Go Go.RowKit
open Go.ChangeMaps (setBlock heap_setBlock_same heap_setBlock_other)
set_option linter.unusedSimpArgs false
attribute [local go_sem] map_neq_some map_neq_nil
section
variable {P : Program} {o : Oper} {a : Act} {w : World} {Q : Exit → Act → World → Prop} {ops : Array Oper} {rest : List Oper}
theorem wpList_del (hg : o.guard = none) (t k e : TypeId) (m x : Operand) (ho : o.op = .call { callee := .builtin .delete, args := #[m, x], argTypes := #[t, k] }) (ht : P.underlying t = some (.map k e)) (hk : P.underlying k = some .string) (r : Nat) (s : ByteArray) (hm : a.eval m = .map (some r)) (hs : a.eval x = .string s) (es : Array MapEntry) (clock : Nat)
    (hr : w.heap[r]? = some (.map es clock)) (i : Nat) (v : Value) (hy : Instr.findNow .string (.string s) es.toList 0 = some (some (i, v))) (h : wpList P ops Q rest (a.put o.dst (.tuple #[])) (setBlock w r (.map (es.eraseIdxIfInBounds i) clock))) : wpList P ops Q (o :: rest) a w := by
  refine wpList_plain hg fun K hK => ?_
  have hrun : (Builtin.delete_ #[t, k] o.type #[.map (some r), .string s]).run P w = .ok (.tuple #[]) (setBlock w r (.map (es.eraseIdxIfInBounds i) clock)) := by
    simp [Builtin.delete_, run_underlying ht, MapKept.run_getObj_map hr, checkKey_str hk, findKey_str hk s _ hy, MapKept.run_setObj_map _ hr, Result.andThen, setBlock]
  unfold Oper.wp execOp
  simp only [ho, resolve, invoke, builtin, Sem.run_bind, Sem.run_pure, Result.andThen_ok, List.map_toArray, List.map_cons, List.map_nil, hm, hs, hrun]
  exact hK _ _ h
end
theorem find_at (s : ByteArray) : ∀ (l : List MapEntry) (E : List (ByteArray × Nat)) (i k : Nat), l.map (fun e => (e.key, e.val)) = E.map (fun p => (Value.string p.1, Value.pointer (some ⟨p.2, 0, none⟩))) → (∀ j p, j < k → E[j]? = some p → p.1 ≠ s) → (∃ p, E[k]? = some p ∧ p.1 = s) →
    ∃ v, Instr.findNow .string (.string s) l i = some (some (i + k, v))
  | [], [], _, _, _, _, h => by obtain ⟨p, h, _⟩ := h; simp at h
  | [], _ :: _, _, _, h, _, _ => by cases h
  | _ :: _, [], _, _, h, _, _ => by cases h
  | e :: l, p :: E, i, 0, h, _, hk => by
    simp only [List.map_cons, List.cons.injEq, Prod.mk.injEq] at h
    obtain ⟨⟨h1, h2⟩, h3⟩ := h
    obtain ⟨p', hp, hs⟩ := hk
    have hp : p = p' := by simpa using hp
    subst hp
    refine ⟨e.val, ?_⟩
    simp only [Instr.findNow, h1, Instr.sameNow, hs, self_eq s, Nat.add_zero]
  | e :: l, p :: E, i, k + 1, h, hl, hk => by
    simp only [List.map_cons, List.cons.injEq, Prod.mk.injEq] at h
    obtain ⟨⟨h1, h2⟩, h3⟩ := h
    have hne : (s == p.1) = false := by
      cases hb : (s == p.1) with
      | false => rfl
      | true => exact absurd (beq_iff.1 hb).symm (hl 0 p (by omega) rfl)
    obtain ⟨v, hv⟩ := find_at s l E (i + 1) k h3 (fun j p hj hp => hl (j + 1) p (by omega) (by simpa using hp)) (by simpa using hk)
    refine ⟨v, ?_⟩
    simp only [Instr.findNow, h1, Instr.sameNow, hne]
    rw [hv, show i + 1 + k = i + (k + 1) by omega]
theorem pf_erase : ∀ (L : List PRow) (k : Nat) (row : PRow), L.Pairwise (fun e f => e.name ≠ f.name) → L[k]? = some row → row.n = 0 → row.xs = [] → pf (L.eraseIdx k) = pf L
  | [], _, _, _, h, _, _ => by simp at h
  | a :: L, 0, row, hp, h, h1, h2 => by
    have h : a = row := by simpa using h
    subst h
    rw [List.pairwise_cons] at hp
    funext t
    unfold pf
    rw [List.eraseIdx_cons_zero, List.find?_cons]
    cases hb : (t == a.name) with
    | false => rfl
    | true =>
      have hn : L.find? (fun e => t == e.name) = none := by
        rw [List.find?_eq_none]
        intro f hf hc
        exact hp.1 f hf ((beq_iff.1 hb).symm.trans (beq_iff.1 hc))
      rw [hn]
      simp [h1, h2]
  | a :: L, k + 1, row, hp, h, h1, h2 => by
    rw [List.pairwise_cons] at hp
    have ih := pf_erase L k row hp.2 (by simpa using h) h1 h2
    funext t
    have iht := congrFun ih t
    unfold pf at iht ⊢
    rw [List.eraseIdx_cons_succ, List.find?_cons, List.find?_cons]
    cases hb : (t == a.name) with
    | false => exact iht
    | true => rfl
theorem erase_list {es : Array MapEntry} {i : Nat} (h : i < es.size) : (es.eraseIdxIfInBounds i).toList = es.toList.eraseIdx i := by
  unfold Array.eraseIdxIfInBounds
  rw [dif_pos h]
  simp
theorem map_erase {α β : Type} (f : α → β) : ∀ (l : List α) (k : Nat), (l.eraseIdx k).map f = (l.map f).eraseIdx k
  | [], _ => rfl
  | _ :: _, 0 => rfl
  | a :: l, k + 1 => by simp [List.eraseIdx_cons_succ, map_erase f l k]
/-- An empty row goes. -/
theorem PRep.del {B m0 : Nat} {L : List PRow} {W : World} {row : PRow} (h : PRep B m0 L W) (hr : row ∈ L) (h1 : row.n = 0) (h2 : row.xs = []) {es : Array MapEntry} {clock : Nat} (hm : W.heap[m0]? = some (.map es clock)) (hE : MapIs es (L.map fun e => (e.name, e.r))) :
    ∃ i v L', Instr.findNow .string (.string row.name) es.toList 0 = some (some (i, v)) ∧ PRep B m0 L' (setBlock W m0 (.map (es.eraseIdxIfInBounds i) clock)) ∧ pf L' = pf L ∧ Kept (blkP m0 L) (blkP m0 L') W (setBlock W m0 (.map (es.eraseIdxIfInBounds i) clock)) := by
  obtain ⟨k, hk⟩ := List.mem_iff_getElem?.1 hr
  obtain ⟨hkl, hke⟩ := List.getElem?_eq_some_iff.1 hk
  have hnm : L.Pairwise (fun e f => e.name ≠ f.name) := h.apart.imp fun h => h.1
  have hE2 := hE
  unfold MapIs at hE2
  obtain ⟨v, hv⟩ := find_at row.name es.toList (L.map fun e => (e.name, e.r)) 0 k hE2 (fun j p hj hp => by
    rw [List.getElem?_map, Option.map_eq_some_iff] at hp
    obtain ⟨f, hf, rfl⟩ := hp
    obtain ⟨hjl, hje⟩ := List.getElem?_eq_some_iff.1 hf
    have := List.pairwise_iff_getElem.1 hnm j k hjl hkl hj
    rw [hje, hke] at this
    exact this) ⟨_, by rw [List.getElem?_map, hk]; rfl, rfl⟩
  rw [Nat.zero_add] at hv
  have hsz : es.size = L.length := by
    have := congrArg List.length hE
    simpa using this
  have hs2 := heap_setBlock_same hm (.map (es.eraseIdxIfInBounds k) clock)
  have hch : Chg [m0] W (setBlock W m0 (.map (es.eraseIdxIfInBounds k) clock)) := (Chg.refl _ _).setMap hm (by simp) _
  have hnot : ∀ e ∈ L, ∀ i ∈ (e.r :: e.v.ownBlock.toList), i ∉ [m0] := by
    intro e he i hi hmm
    obtain rfl : i = m0 := by simpa using hmm
    rcases List.mem_cons.1 hi with rfl | hi
    · rw [h.row e he] at hm
      cases hm
    · obtain ⟨cur, hc⟩ := own_blk (h.own e he) (g := i) (by simpa using hi)
      rw [hc] at hm
      cases hm
  have hsub : ∀ e ∈ L.eraseIdx k, e ∈ L := fun e he => (List.eraseIdx_sublist L k).subset he
  refine ⟨k, v, L.eraseIdx k, hv, ⟨⟨_, _, hs2, ?_⟩, fun e he => hch.at_ (h.row e (hsub e he)) (hnot e (hsub e he) _ (by simp)), fun e he => own_ext (h.own e (hsub e he)) (fun g hg => hch.block g ((h.own e (hsub e he)).lt g hg).2 (hnot e (hsub e he) _ (by simp [hg]))), fun e he => h.base e (hsub e he), h.apart.sublist (List.eraseIdx_sublist L k)⟩, pf_erase L k row hnm hk h1 h2, ⟨hch.mono (by simp [blkP]), fun i hi => .inl ?_⟩⟩
  · unfold MapIs at hE ⊢
    rw [erase_list (by omega), map_erase, hE, map_erase, map_erase]
  · rcases List.mem_cons.1 hi with rfl | hi
    · simp [blkP]
    · obtain ⟨e, he, hi⟩ := List.mem_flatMap.1 hi
      exact List.mem_cons_of_mem _ (List.mem_flatMap.2 ⟨e, hsub e he, hi⟩)
/-- What Take tells and leaves. -/
def TakeSR (B m0 : Nat) (L : List PRow) (s : ByteArray) (pq : List Pk) (W : World) (e : Ending) (W' : World) : Prop :=
  ∃ L', PRep B m0 L' W' ∧ Kept (blkP m0 L) (blkP m0 L') W W' ∧
    ((pq = [] ∧ e = .returned (.tuple #[.slice none 0 0, .int .i64 3]) ∧ pf L' = pf L) ∨
     ∃ p rest, pq = p :: rest ∧ e = .returned (.tuple #[p.v, .int .i64 0]) ∧ pf L' = setF (pf L) s (rest.length, rest.map Pk.v))
theorem updP_mem {L : List PRow} {row : PRow} (h : row ∈ L) (v : Value) (n : Nat) (xs : List Value) : { row with v := v, n := n, xs := xs } ∈ updP L row.r v n xs := by
  unfold updP
  exact List.mem_map.2 ⟨row, h, by simp⟩
set_option maxRecDepth 100000 in
set_option maxHeartbeats 4000000 in
theorem take_any (B b m0 m1 m2 : Nat) (L : List PRow) (s : ByteArray) (pq : List Pk) (hs : okN s = true) (W : World) (hB : B ≤ W.heap.size) (hb : W.heap[b]? = some (svc m0 m1 m2)) (hR : PRep B m0 L W) (hq : pf L s = (pq.length, pq.map Pk.v)) :
    Calls Try.prog 17 #[.pointer (some ⟨b, 0, none⟩), .string s] W (TakeSR B m0 L s pq W) := by
  have hself : Kq W [(b, svc m0 m1 m2)] W := ⟨by simp; exact hb, Below.refl _ _⟩
  have h1 := hself.new rfl (.cells #[.string s] 9)
  have hmay := mayA_one (c := 1) (h1.at_ (g := b) (ob := svc m0 m1 m2) (by simp)) (h1.at_ (g := W.heap.size) (ob := .cells #[.string s] 9 (0, 0)) (by simp))
  rw [hs] at hmay
  have hb1 := h1.at_ (g := b) (ob := svc m0 m1 m2) (by simp)
  have cb0 : (W.alloc (.cells #[.string s] 9)).cell? ⟨b, 0, none⟩ = some (.map (some m0)) := (cell_of_row _ b 0 _ _ _ hb1).trans rfl
  have hR1 := hR.keep h1.2
  obtain ⟨es, clock, hm, hE⟩ := hR1.map
  have hof := ofP_any m0 clock es (L.map fun e => (e.name, e.r)) s _ hm hE
  have hB1 : B ≤ (W.alloc (.cells #[.string s] 9)).heap.size := by have := h1.size; omega
  have hbnot : b ∉ blkP m0 L := by
    intro hm5
    rcases List.mem_cons.1 hm5 with h5 | h5
    · obtain ⟨es, clock, h6, _⟩ := hR.map
      rw [← h5, hb] at h6
      cases h6
    · obtain ⟨e, he, hi⟩ := List.mem_flatMap.1 h5
      rcases List.mem_cons.1 hi with h6 | h6
      · have := hR.row e he
        rw [← h6, hb] at this
        simp [svc, rowP] at this
      · obtain ⟨cur, hc⟩ := own_blk (hR.own e he) (g := b) (by simpa using h6)
        rw [hb] at hc
        simp [svc] at hc
  have hlb := (Array.getElem?_eq_some_iff.1 hb).1
  have HBN := Lib.hid hbnot
  have HR1 := Lib.hid hR1
  have HBEL := Lib.hid h1.2
  have HQ := Lib.hid hq
  have HB1 := Lib.hid hb1
  clear hself h1 hb hR hR1 hm hE hq hbnot hb1
  go_enter Try.func17, Try.ntmps17
  go_wp2_with fail
  refine hmay.mono ?_
  rintro e w' ⟨rfl, rfl⟩
  go_wp2_with fail
  refine hof.mono ?_
  intro e w2 hr
  obtain ⟨L1, row, hR2, hrow, hname, rfl, ⟨hch, hkp⟩, hcase⟩ := HR1.out.of hB1 hr
  obtain ⟨hwf, hrw⟩ := PRep.pf_of hR2 hrow hname hcase
  rw [HQ.out] at hrw
  obtain ⟨p, cap, hv⟩ := own_any (hR2.own row hrow)
  have hrn : row.n = pq.length := congrArg Prod.fst hrw
  have hrx : row.xs = pq.map Pk.v := congrArg Prod.snd hrw
  have HKP := Lib.hid ((Kept.below HBEL.out).trans hkp)
  have HR2 := Lib.hid hR2
  have HWF := Lib.hid hwf
  have HMEM := Lib.hid hrow
  have HNAME := Lib.hid hname
  have HX : Hid (row.n = pq.length ∧ row.xs = pq.map Pk.v) := Lib.hid ⟨hrn, hrx⟩
  have HB2 := Lib.hid (hkp.chg.at_ HB1.out HBN.out)
  cases pq with
  | nil =>
    have htk := takeP_no row.r row.v w2 (hR2.row row hrow) ⟨p, cap, by rw [hv, hrn]; rfl⟩
    clear hr hof hR2 hrow hname hch hkp hcase hwf hrw hv hrn hrx
    go_wp2_with fail
    refine htk.mono ?_
    rintro e w3 ⟨rfl, hb3⟩
    have HEND : Hid (TakeSR B m0 L s [] W (.returned (.tuple #[.slice none 0 0, .int .i64 3])) w3) := Lib.hid ⟨L1, HR2.out.keep hb3, HKP.out.trans (Kept.below hb3), .inl ⟨rfl, rfl, HWF.out⟩⟩
    clear htk hb3
    go_wp2_with fail
    go_ret2
    exact HEND.out
  | cons pk rest =>
    have htk := takeP_yes B row.r row.n row.v row.xs (some ⟨pk.q, 0, none⟩) pk.n pk.c (by rw [hrx]; intro u hu; obtain ⟨x, _, rfl⟩ := List.mem_map.1 hu; rfl) w2 (by rw [hrn]; simp) (hR2.row row hrow) (hR2.own row hrow) (hR2.own_ne hrow hrow) (by rw [hrx]; rfl)
    clear hr hof hR2 hrow hname hch hkp hcase hwf hrw hv hrn hrx
    go_wp2_with fail
    refine htk.mono ?_
    rintro e w3 ⟨rfl, v', hr3, ho3, hv3, hch3⟩
    have hn1 : row.n - 1 = rest.length := by rw [HX.out.1]; simp
    have hx1 : row.xs.take (0 * 1) ++ row.xs.drop ((0 + 1) * 1) = rest.map Pk.v := by rw [HX.out.2]; simp
    rw [hn1, hx1] at ho3
    obtain ⟨hR3, _, hkp3⟩ := HR2.out.set HMEM.out hr3 ho3 (.inl hv3) hch3
    have hwf3 := HR2.out.pf_updP HMEM.out v' rest.length (rest.map Pk.v)
    rw [HWF.out, HNAME.out] at hwf3
    have hmem3 := updP_mem HMEM.out v' rest.length (rest.map Pk.v)
    obtain ⟨p3, cap3, rfl⟩ := own_any ho3
    have cr : w3.cell? ⟨row.r, 0, none⟩ = some (.slice p3 rest.length cap3) := (cell_of_row _ row.r 0 _ _ _ hr3).trans rfl
    have HK3 := Lib.hid (HKP.out.trans hkp3)
    have HR3 := Lib.hid hR3
    have HW3 := Lib.hid hwf3
    have HM3 := Lib.hid hmem3
    have hb3 : w3.heap[b]? = some (svc m0 m1 m2) := hkp3.chg.at_ HB2.out (fun hm => by
      rcases HKP.out.own b hm with h5 | h5
      · exact HBN.out h5
      · omega)
    have cb3 : w3.cell? ⟨b, 0, none⟩ = some (.map (some m0)) := (cell_of_row _ b 0 _ _ _ hb3).trans rfl
    obtain ⟨es3, clock3, hm3, hE3⟩ := hR3.map
    cases rest with
    | nil =>
      obtain ⟨i, v, L4, hy, hR4, hpf4, hkp4⟩ := hR3.del hmem3 rfl rfl hm3 hE3
      have hy : Instr.findNow .string (.string s) es3.toList 0 = some (some (i, v)) := by rw [← HNAME.out]; exact hy
      have HY := Lib.hid hy
      have HEND : Hid (TakeSR B m0 L s [pk] W (.returned (.tuple #[pk.v, .int .i64 0])) (setBlock w3 m0 (.map (es3.eraseIdxIfInBounds i) clock3))) := Lib.hid ⟨L4, hR4, HK3.out.trans hkp4, .inr ⟨pk, [], rfl, rfl, by rw [hpf4]; exact HW3.out⟩⟩
      have hl0 : (([] : List Pk).length : Int) = 0 := rfl
      clear hR3 hkp3 hwf3 hmem3 hr3 ho3 hv3 hch3 hn1 hx1 hb3 hE3 hR4 hpf4 hkp4 hy htk
      go_wp2_with (refine wpList_del rfl 53 9 75 (.tmp 36) (.tmp 37) rfl Try.underlying53 Try.underlying9 m0 s rfl rfl es3 clock3 hm3 i v HY.out ?_)
      go_ret2
      exact HEND.out
    | cons r2 rest2 =>
      have HEND : Hid (TakeSR B m0 L s (pk :: r2 :: rest2) W (.returned (.tuple #[pk.v, .int .i64 0])) w3) := Lib.hid ⟨_, hR3, HK3.out, .inr ⟨pk, r2 :: rest2, rfl, rfl, HW3.out⟩⟩
      have hd1 : (((r2 :: rest2).length : Int) == 0) = false := by simp; omega
      have hd2 : decide (((r2 :: rest2).length : Int) = 0) = false := by simp; omega
      generalize (r2 :: rest2).length = nn at cr hd1 hd2
      clear hR3 hkp3 hwf3 hmem3 hr3 ho3 hv3 hch3 hn1 hx1 hb3 hE3 hm3 htk HW3 HM3 HR3 HK3
      go_wp2_with fail
      go_ret2
      exact HEND.out
end Go.Proofs.Ytiebggfpjkhlaaa
