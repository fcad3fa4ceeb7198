/- service.Offer at any service that is known. No condition. -/
import Derived.Test.YtiebggfpjkhlaaaYg
import Derived.Test.YtiebggfpjkhlaaaYh
namespace Go.Proofs.Ytiebggfpjkhlaaa
open Go Go.RowKit
set_option linter.unusedSimpArgs false
attribute [local go_sem] map_neq_some map_neq_nil
theorem sized_any (q : Option Addr) (n c : Nat) (hn : 1 ≤ n ∧ n ≤ 65536) (w : World) : Calls Try.prog 25 #[.slice q n c] w fun e w' => e = .returned (.bool true) ∧ w' = w := by
  have h1 : decide ((n : Int) ≥ 1) = true := by simp; omega
  have h2 : decide ((n : Int) ≤ 65536) = true := by simp; omega
  go_enter Try.func25, Try.ntmps25
  go_wp2
  go_ret
  exact ⟨rfl, rfl⟩
theorem ChgP.below {m : Nat} {W W' : World} (h : Below W.heap.size W W') : ChgP m W W' := ChgP.of_chg (Chg.of_below (ws := []) h) (by simp)
/-- What Offer tells and leaves. -/
def OfferR (B m0 n : Nat) (l : List Int) (L : List PRow) (s : ByteArray) (W : World) (e : Ending) (W' : World) : Prop :=
  ∃ L', PRep B m0 L' W' ∧ (ChgP m0 W W' ∧ Kept (blkP m0 L) (blkP m0 L') W W') ∧
    ((256 ≤ (pf L s).1 ∧ e = .returned (.int .i64 64) ∧ pf L' = pf L) ∨
     ((pf L s).1 < 256 ∧ e = .returned (.int .i64 0) ∧ ∃ q' c', pf L' = setF (pf L) s ((pf L s).1 + 1, (pf L s).2 ++ [.slice (some ⟨q', 0, none⟩) n c']) ∧ Body W' q' n c' l))
set_option maxRecDepth 100000 in
set_option maxHeartbeats 4000000 in
theorem offer_any (B b m0 m1 m2 n c : Nat) (q : Option Addr) (l : List Int) (L : List PRow) (s : ByteArray) (hs : 1 ≤ s.size ∧ s.size ≤ 255) (W : World) (hB : B ≤ W.heap.size) (hb : W.heap[b]? = some (svc m0 m1 m2)) (hp : PRep B m0 L W) (hx : ∀ W', Chg (blkP m0 L) W W' → Bs W' q n l) (hn : 1 ≤ n ∧ n ≤ 65536) :
    Calls Try.prog 14 #[.pointer (some ⟨b, 0, none⟩), .string s, .slice q n c] W (OfferR B m0 n l L s W) := by
  have hbel : Below W.heap.size W (W.alloc (.cells #[.string s] 9)) := (Below.refl _ _).alloc (Nat.le_refl _) _
  have hb1 := blk_stay hbel hb
  have hp1 := hp.keep hbel
  have cb1 : (W.alloc (.cells #[.string s] 9)).cell? ⟨b, 0, none⟩ = some (.map (some m0)) := (cell_of_row _ b 0 _ _ _ hb1).trans rfl
  have hmay := may_one (c := 1) hb1 (alloc_at W (.cells #[.string s] 9)) hs
  have lsz : (W.alloc (.cells #[.string s] 9)).heap.size = W.heap.size + 1 := by simp
  obtain ⟨es, clock, hm, hE⟩ := hp1.map
  have hof := ofP_any m0 clock es (L.map fun e => (e.name, e.r)) s (W.alloc (.cells #[.string s] 9)) hm hE
  have HP := Lib.hid hp1
  have HX := Lib.hid hx
  have HBEL := Lib.hid hbel
  have HNN := Lib.hid hn
  clear hp hx hbel hb hb1 hp1 hm hE hn
  go_enter Try.func14, Try.ntmps14
  go_wp2_with fail
  refine hmay.mono ?_
  rintro e w' ⟨rfl, rfl⟩
  go_wp2_with fail
  refine (sized_any q n c HNN.out _).mono ?_
  rintro e w' ⟨rfl, hw⟩
  subst hw
  go_wp2_with fail
  refine hof.mono ?_
  intro e w2 hr
  obtain ⟨L1, row, hR, hrow, hname, rfl, ⟨hch, hkp⟩, hcase⟩ := HP.out.of (by rw [lsz]; omega) hr
  obtain ⟨hpf, hrw⟩ := PRep.pf_of hR hrow hname hcase
  have HK := Lib.hid (show Kept (blkP m0 L) (blkP m0 L1) W w2 from (Kept.below HBEL.out).trans hkp)
  have HPF := Lib.hid hpf
  have HRW : Hid (row.n = (pf L s).1 ∧ row.xs = (pf L s).2) := Lib.hid ⟨congrArg Prod.fst hrw, congrArg Prod.snd hrw⟩
  clear hr hof hkp hpf hrw
  have hr2 := hR.row row hrow
  have ho2 := hR.own row hrow
  obtain ⟨p, cap, hv⟩ := own_any ho2
  have cq : w2.cell? ⟨row.r, 0, none⟩ = some (.slice p row.n cap) := by
    rw [hv] at hr2
    exact (cell_of_row _ row.r 0 _ _ _ hr2).trans rfl
  have hlt2 := hch.size
  have hc2 : ChgP m0 W w2 := (ChgP.below HBEL.out).trans hch
  have hx2 := HX.out w2 HK.out.chg
  have hB2 : B ≤ w2.heap.size := by omega
  have HR := Lib.hid hR
  have HCASE := Lib.hid hcase
  have HMEM := Lib.hid hrow
  have HNAME := Lib.hid hname
  have HC2 := Lib.hid hc2
  clear hR hcase hrow hname hch hc2 ho2 hr2
  by_cases h256 : 256 ≤ row.n
  · have hge : decide ((row.n : Int) ≥ 256) = true := by simp; omega
    clear hx2
    go_wp2_with fail
    go_ret
    exact ⟨L1, HR.out, ⟨HC2.out, HK.out⟩, .inl ⟨by rw [← HRW.out.1]; exact h256, rfl, HPF.out⟩⟩
  · have hge : decide ((row.n : Int) ≥ 256) = false := by simp; omega
    have hcl := clone_any q n c l w2 (by have := HNN.out; omega) (by have := HNN.out; omega) hx2
    clear hx2
    go_wp2_with fail
    refine hcl.mono ?_
    rintro e w3 ⟨g, c3, rfl, hc3, _, hgg, hown, hb3⟩
    have hR3 := HR.out.keep hb3
    have hput := putP_any B row.r row.n row.v row.xs g n c3 w3 (by omega) (by have := hb3.size; omega) (hR3.row row HMEM.out) (hR3.own row HMEM.out) (hR3.own_ne HMEM.out HMEM.out)
    have HK3 : Hid (Kept (blkP m0 L) (blkP m0 L1) W w3) := Lib.hid (HK.out.trans (Kept.below hb3))
    have HC3 : Hid (ChgP m0 W w3) := Lib.hid (HC2.out.trans (ChgP.below hb3))
    have HR3 := Lib.hid hR3
    have HOWN := Lib.hid hown
    have HIN := Lib.hid (HX.out W (Chg.refl _ _)).2.1
    clear hR3 hown hb3 hcl hgg hc3 cq
    go_wp2_with fail
    refine hput.mono ?_
    rintro e w4 ⟨⟨vv, rfl⟩, hpr⟩
    obtain ⟨v', hR4, hc4, hk4⟩ := HR3.out.put HMEM.out hpr
    have hpf4 := HR3.out.pf_updP HMEM.out v' (row.n + 1) (row.xs ++ [.slice (some ⟨g, 0, none⟩) n c3])
    rw [HPF.out, HNAME.out, HRW.out.1, HRW.out.2] at hpf4
    have hbs : Body w4 g n c3 l := by
      refine ⟨⟨_, own_ext HOWN.out (fun g' hg' => ?_)⟩, HIN.out⟩
      cases hg'
      obtain ⟨cur, hcur⟩ := own_blk HOWN.out (g := g) rfl
      rw [hcur]
      refine hc4.block g _ hcur (fun hm => ?_) rfl
      obtain ⟨es, clock, h5, _⟩ := HR3.out.map
      rw [← hm, hcur] at h5
      cases h5
    have HEND : Hid (OfferR B m0 n l L s W (.returned (.int .i64 0)) w4) := Lib.hid ⟨_, hR4, ⟨HC3.out.trans hc4, HK3.out.trans hk4⟩, .inr ⟨by rw [← HRW.out.1]; omega, rfl, g, c3, by rw [HRW.out.1, HRW.out.2]; exact hpf4, hbs⟩⟩
    clear hpr hpf4 hk4 hR4 hc4 hbs hput
    go_wp2_with fail
    go_ret
    exact HEND.out
end Go.Proofs.Ytiebggfpjkhlaaa
