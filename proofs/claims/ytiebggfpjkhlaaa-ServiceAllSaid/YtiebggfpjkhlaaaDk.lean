/- service.Log of a group. No condition. -/
import Derived.Test.YtiebggfpjkhlaaaDj
namespace Go.Proofs.Ytiebggfpjkhlaaa
open Go Go.RowKit
set_option linter.unusedSimpArgs false
attribute [local go_sem] map_neq_some map_neq_nil
def En.what (e : En) : Int × Int × List Int := (e.ep, e.kd, e.l)
theorem ecells_len (w : En) : w.cells.length = 3 := rfl
theorem eflat_len (l : List En) : (l.flatMap En.cells).length = l.length * 3 := by
  induction l with
  | nil => rfl
  | cons w l ih => rw [List.flatMap_cons, List.length_append, ih, ecells_len, List.length_cons]; omega
theorem eflat_get : ∀ {l : List En} {j : Nat} {w : En}, l[j]? = some w → ∀ t, t < 3 → (l.flatMap En.cells)[j * 3 + t]? = w.cells[t]?
  | [], _, _, h, _, _ => by simp at h
  | a :: l, 0, w, h, t, ht => by
    simp at h
    subst h
    rw [List.flatMap_cons, List.getElem?_append_left (by rw [ecells_len]; omega), Nat.zero_mul, Nat.zero_add]
  | a :: l, j + 1, w, h, t, ht => by
    rw [List.flatMap_cons, List.getElem?_append_right (by rw [ecells_len]; omega), ecells_len, show (j + 1) * 3 + t - 3 = j * 3 + t by omega]
    exact eflat_get (by simpa using h) t ht
/-- What Log answers: entries in memory of their own. -/
def LogR (log : List En) (W : World) (e : Ending) (W' : World) : Prop :=
  ∃ (vout : Value) (outs : List En), e = .returned vout ∧ W'.ownsRow W.heap.size 33 3 vout log.length (outs.flatMap En.cells) ∧ outs.map En.what = log.map En.what ∧ (∀ x ∈ outs, x.Ok W' ∧ W.heap.size ≤ x.q) ∧ Below W.heap.size W W'
set_option maxRecDepth 100000 in
set_option maxHeartbeats 8000000 in
theorem log_any (B b m0 m1 m2 bg clock : Nat) (es : Array MapEntry) (E : List (ByteArray × Nat)) (ep : Int) (vlog vsubs : Value) (log : List En) (s : ByteArray) (hs : okN s = true) (W : World) (hb : W.heap[b]? = some (svc m0 m1 m2)) (hm : W.heap[m1]? = some (.map es clock)) (hE : MapIs es E) (hl : look E s = some bg) (hg : W.heap[bg]? = some (grp ep vlog vsubs))
    (hlog : W.ownsRow B 33 3 vlog log.length (log.flatMap En.cells)) (hok : ∀ x ∈ log, x.Ok W) (hn : log.length ≤ 2000000000000) :
    Calls Try.prog 15 #[.pointer (some ⟨b, 0, none⟩), .string s] W (LogR log W) := by
  obtain ⟨i0, hi0, hz0, hz1, hz2⟩ := info_of infoE3
  obtain ⟨p, cap, rfl⟩ := own_any hlog
  have hbel : Below W.heap.size W (W.alloc (.cells #[.string s] 9)) := (Below.refl _ _).alloc (Nat.le_refl _) _
  have hb1 := blk_stay hbel hb
  have hm1 := blk_stay hbel hm
  have hg1 := blk_stay hbel hg
  have cb1 : (W.alloc (.cells #[.string s] 9)).cell? ⟨b, 1, none⟩ = some (.map (some m1)) := (cell_of_row _ b 1 _ _ _ hb1).trans rfl
  have cg : (W.alloc (.cells #[.string s] 9)).cell? ⟨bg, 1, none⟩ = some (.slice p log.length cap) := (cell_of_row _ bg 1 _ _ _ hg1).trans rfl
  have hmay := mayA_one (c := 1) hb1 (alloc_at W (.cells #[.string s] 9))
  rw [hs] at hmay
  obtain ⟨y, hy, hv, _⟩ := find_names s es.toList E 0 hE
  rw [hl] at hv
  have hv : lookV (.pointer none) y = .pointer (some ⟨bg, 0, none⟩) := hv
  have HV := Lib.hid hv
  have HY := Lib.hid hy
  have HB := Lib.hid hbel
  have HLG := Lib.hid hlog
  have HOK := Lib.hid hok
  have HN := Lib.hid hn
  clear hl hv hy hb hm hg hb1 hg1 hE hbel hlog hok hn
  go_enter Try.func15, Try.ntmps15
  go_wp2_with fail
  refine hmay.mono ?_
  rintro e w' ⟨rfl, rfl⟩
  go_wp2_with (first | (at_lookup; refine wpList_lookW rfl 54 9 62 _ _ rfl Try.underlying54 Try.underlying9 m1 s rfl rfl es clock hm1 (.pointer none) zero_g y HY.out _ HV.out ?_))
  go_loopw [32, 5] (fun s32 s5 wr => ∃ (j : Nat) (q : Option Addr) (cq : Nat) (outs : List En), j ≤ log.length ∧ s32 = .int .i64 j ∧ s5 = .slice q j cq ∧ Hid (wr.ownsRow W.heap.size 33 3 (.slice q j cq) j (outs.flatMap En.cells) ∧ outs.map En.what = (log.take j).map En.what ∧ (∀ x ∈ outs, x.Ok wr ∧ W.heap.size ≤ x.q) ∧ Below W.heap.size W wr)) (fun s32 _ _ => (log.length - intOf s32).toNat)
  case atStart => exact ⟨0, none, 0, [], by omega, rfl, rfl, Lib.hid ⟨World.ownsRow_nil _ _ _ _, rfl, by simp, HB.out⟩⟩
  case round =>
    obtain ⟨j, q, cq, outs, hj, rfl, rfl, HR⟩ := hrel
    by_cases hlt : j < log.length
    · have hl : decide ((j : Int) < (log.length : Int)) = true := by simp; omega
      obtain ⟨gl, capl, hfo⟩ := own_form HLG.out (by omega)
      obtain ⟨rfl, rfl⟩ : p = some ⟨gl, 0, none⟩ ∧ cap = capl := by
        cases hfo
        exact ⟨rfl, rfl⟩
      clear hfo
      obtain ⟨x, hx⟩ : ∃ x, log[j]? = some x := ⟨_, List.getElem?_eq_getElem hlt⟩
      have hlr := own_ext HLG.out (W1 := wr) (fun g hg => HR.out.2.2.2.block g (HLG.out.lt g hg).2)
      have hxm := List.mem_of_getElem? hx
      have hxo := (HOK.out x hxm)
      have hxb : Bs wr (some ⟨x.q, 0, none⟩) x.n x.l := (hxo.1.stay (HR.out.2.2.2.block x.q (by obtain ⟨o, ho, _⟩ := hxo.1.blk; exact (Array.getElem?_eq_some_iff.1 ho).1))).bs
      have hxn := hxo.2
      have hrng : wr.rangeAt gl (j * 3) [.int .i64 x.ep, .int .i64 x.kd, .slice (some ⟨x.q, 0, none⟩) x.n x.c] := by
        intro t u hu
        have ht : t < 3 := by
          have := (List.getElem?_eq_some_iff.1 hu).1
          simpa using this
        rw [hlr.cellAt (j * 3 + t) (by omega), eflat_get hx t ht]
        exact hu
      have HX := Lib.hid (show log.take (j + 1) = log.take j ++ [x] by rw [List.take_add_one, hx]; rfl)
      have hin : (j : Int) < (log.length : Int) := by omega
      have HXB := Lib.hid hxo.1.2
      clear hx hlr hxm hxo
      obtain ⟨xe, xk, xq, xn, xc, xl⟩ := x
      have e1 := alloc_at wr (.cells #[.int .i64 0, .int .i64 0, .slice none 0 0] 33)
      have hone : (#[Value.int .i64 xe, .int .i64 xk, .slice (some ⟨xq, 0, none⟩) xn xc]).all (·.oneCell') = true := by
        rw [Array.all_eq_true_iff_forall_mem]
        intro v hv
        simp at hv
        rcases hv with rfl | rfl | rfl <;> rfl
      have e2 := setRow_here e1 #[.int .i64 xe, .int .i64 xk, .slice (some ⟨xq, 0, none⟩) xn xc]
      have hb2 : Below wr.heap.size wr ((wr.alloc (.cells #[.int .i64 0, .int .i64 0, .slice none 0 0] 33)).setRow wr.heap.size #[.int .i64 xe, .int .i64 xk, .slice (some ⟨xq, 0, none⟩) xn xc]) := setRow_below ((Below.refl _ _).alloc (Nat.le_refl _) _) (Nat.le_refl _) _
      have hown := entry_own xe xk (some ⟨xq, 0, none⟩) xn xc xl _ (hxb.keep hb2) hxn
      have HB2 := Lib.hid hb2
      clear hb2 hxb
      go_wp2_with (first | (refine wpList_load_mid rfl 33 (.tmp 34) rfl gl (j * 3) rfl [.int .i64 xe, .int .i64 xk, .slice (some ⟨xq, 0, none⟩) xn xc] _ hrng Try.underlying33 rfl infoE ?_) | (refine wpList_store_row rfl 33 (.tmp 7) (.tmp 35) rfl wr.heap.size #[.int .i64 xe, .int .i64 xk, .slice (some ⟨xq, 0, none⟩) xn xc] rfl rfl 33 #[.int .i64 0, .int .i64 0, .slice none 0 0] e1 infoE rfl hone ?_) | (refine wpList_load_row rfl 33 (.tmp 7) rfl wr.heap.size rfl 33 #[.int .i64 xe, .int .i64 xk, .slice (some ⟨xq, 0, none⟩) xn xc] (0, 0) _ e2 Try.underlying33 rfl infoE ?_))
      refine hown.mono ?_
      rintro e w3 ⟨q', c', rfl, _, hbd, hb3⟩
      have hb4 : Below w3.heap.size w3 (w3.alloc (.cells #[.int .i64 xe, .int .i64 xk, .slice (some ⟨q', 0, none⟩) xn c'] 33)) := (Below.refl _ _).alloc (Nat.le_refl _) _
      have hnw := alloc_at w3 (.cells #[.int .i64 xe, .int .i64 xk, .slice (some ⟨q', 0, none⟩) xn c'] 33)
      have hb234 := below_thru HB2.out (below_thru hb3 hb4)
      have hso := own_ext HR.out.1 (W1 := w3.alloc (.cells #[.int .i64 xe, .int .i64 xk, .slice (some ⟨q', 0, none⟩) xn c'] 33)) (fun g hg => hb234.block g (HR.out.1.lt g hg).2)
      have lsz := HR.out.2.2.2.size
      have lsz4 := hb234.size
      have lsz2 := HB2.out.size
      have lsz3 := hb3.size
      have hnn := HN.out
      have HSO := Lib.hid hso
      have HB4 := Lib.hid hb4
      have HB34 := Lib.hid hb234
      have HBD := Lib.hid hbd
      have HB3 := Lib.hid hb3
      clear hso hb4 hb234 hbd hb3 hrng hown e1 e2
      go_wp2_with (at_builtin; refine Stp.go ?_)
      refine Stp.mk ?_
      refine wpList_append_own_at _ rfl _ _ 35 rfl W.heap.size 33 i0 _ 3 40 Try.underlying35 hi0 hz0 hz1 hz2 rfl (by omega) (.slice q j cq) j (outs.flatMap En.cells) rfl HSO.out ⟨w3.heap.size, 0, none⟩ 1 1 [.int .i64 xe, .int .i64 xk, .slice (some ⟨q', 0, none⟩) xn c'] rfl rfl (fun j u hu => by
        rw [addr_add, Nat.zero_add, cell_at hnw]
        simpa using hu) (by simp [Value.oneCell']) (by unfold maxLen; omega) (by omega) (by omega) ?_
      intro v' w5 hown5 hgr _ hat
      obtain ⟨g5, c5, rfl⟩ := own_form hown5 (by omega)
      have hch0 : Chg (Value.slice q j cq).ownBlock.toList wr w5 := (Chg.of_below HB34.out).grown hgr (fun k hk => .inl (by rw [hk]; simp))
      have hnu : NoU (Value.slice q j cq).ownBlock.toList wr := by
        intro i hi o ho
        obtain ⟨cur, hc⟩ := own_blk HR.out.1 (g := i) (by simpa using hi)
        rw [hc] at ho
        cases ho
        rfl
      have hq' : Body w5 q' xn c' xl := by
        have h3 : Body w3 q' xn c' xl := ⟨⟨_, HBD.out⟩, HXB.out⟩
        have lq := (HBD.out.lt q' rfl)
        refine (h3.stay (HB4.out.block q' lq.2)).stay (hgr.block q' (by have := HB4.out.size; omega) (fun h => ?_))
        have := (HSO.out.lt q' h.symm).2
        have := (HR.out.1.lt q' h.symm).2
        omega
      have hbw : Below W.heap.size W w5 := (below_thru HR.out.2.2.2 HB34.out).grown hgr (by omega) (fun k hk => (HR.out.1.lt k hk).1)
      have HNX : Hid (w5.ownsRow W.heap.size 33 3 (.slice (some ⟨g5, 0, none⟩) (j + 1) c5) (j + 1) ((outs ++ [(⟨xe, xk, q', xn, c', xl⟩ : En)]).flatMap En.cells) ∧ (outs ++ [(⟨xe, xk, q', xn, c', xl⟩ : En)]).map En.what = (log.take (j + 1)).map En.what ∧ (∀ x ∈ (outs ++ [(⟨xe, xk, q', xn, c', xl⟩ : En)]), x.Ok w5 ∧ W.heap.size ≤ x.q) ∧ Below W.heap.size W w5) := Lib.hid (by
        refine ⟨by rw [List.flatMap_append]; exact hown5, by rw [HX.out, List.map_append, List.map_append, HR.out.2.1]; rfl, fun x hx => ?_, hbw⟩
        rcases List.mem_append.1 hx with hx | hx
        · exact ⟨(HR.out.2.2.1 x hx).1.chg hch0 hnu, (HR.out.2.2.1 x hx).2⟩
        · obtain rfl : x = _ := by simpa using hx
          exact ⟨⟨hq', hxn⟩, by have := (HBD.out.lt q' rfl).1; show W.heap.size ≤ q'; omega⟩)
      clear hown5 hgr hat hch0 hnu hq' hbw hnw
      go_wp2_with fail
      go_roundw
      case rel => exact ⟨j + 1, _, _, _, by omega, rfl, rfl, HNX⟩
      case measure => simp [intOf]; omega
    · obtain rfl : j = log.length := by omega
      have hl : decide ((log.length : Int) < (log.length : Int)) = false := by simp
      go_wp2_with fail
      go_ret
      exact ⟨_, outs, rfl, HR.out.1, by rw [HR.out.2.1, List.take_length], HR.out.2.2.1, HR.out.2.2.2⟩
end Go.Proofs.Ytiebggfpjkhlaaa
