/- The walk of ServiceOne. No condition. -/
import Derived.Test.YtiebggfpjkhlaaaDs
namespace Go.Proofs.Ytiebggfpjkhlaaa
open Go Go.RowKit
set_option linter.unusedSimpArgs false
/-- The epoch behind entries. -/
def nextE (e : Int) (kd : Int) : Int := if kd = 3 then e + 1 else e
def ends (e : Int) : List En → Int
  | [] => e
  | x :: r => ends (nextE e x.kd) r
def Good (e : Int) : List En → Prop
  | [] => True
  | x :: r => x.ep = e ∧ Good (nextE e x.kd) r
theorem ends_snoc (x : En) : ∀ (l : List En) (e : Int), ends e (l ++ [x]) = nextE (ends e l) x.kd
  | [], _ => rfl
  | y :: r, e => by rw [List.cons_append, ends, ends, ends_snoc x r]
theorem good_snoc (x : En) : ∀ (l : List En) (e : Int), Good e l → x.ep = ends e l → Good e (l ++ [x])
  | [], _, _, h => ⟨h, trivial⟩
  | _ :: r, _, h, hx => ⟨h.1, good_snoc x r _ h.2 hx⟩
theorem good_get : ∀ (l : List En) (e : Int) (j : Nat) (x : En), Good e l → l[j]? = some x → x.ep = ends e (l.take j)
  | [], _, _, _, _, h => by simp at h
  | y :: r, e, 0, x, h, hx => by
    have : y = x := by simpa using hx
    rw [← this]
    exact h.1
  | y :: r, e, j + 1, x, h, hx => by
    rw [List.take_succ_cons, ends]
    exact good_get r _ j x h.2 (by simpa using hx)
theorem ends_bound : ∀ (l : List En) (e : Int), e ≤ ends e l ∧ ends e l ≤ e + l.length
  | [], e => by simp [ends]
  | y :: r, e => by
    have h := ends_bound r (nextE e y.kd)
    have h2 : e ≤ nextE e y.kd ∧ nextE e y.kd ≤ e + 1 := by unfold nextE; split <;> omega
    rw [ends]
    simp only [List.length_cons]
    omega
theorem what_ends : ∀ (l m : List En) (e : Int), l.map En.what = m.map En.what → ends e l = ends e m ∧ (Good e l ↔ Good e m)
  | [], [], _, _ => ⟨rfl, Iff.rfl⟩
  | [], _ :: _, _, h => by cases h
  | _ :: _, [], _, h => by cases h
  | x :: l, y :: m, e, h => by
    simp only [List.map_cons, List.cons.injEq, En.what, Prod.mk.injEq] at h
    obtain ⟨⟨h1, h2, _⟩, h3⟩ := h
    have ih := what_ends l m (nextE e x.kd) h3
    rw [ends, ends, Good, Good, ← h2, ← h1]
    exact ⟨ih.1, by rw [ih.2]⟩
/-- After so many operations. -/
def O1 (e : Int) (i : Nat) (A : Abs) : Prop := ∃ g, A.gq sG = some g ∧ Good e g.log ∧ g.ep = ends e g.log ∧ g.log.length ≤ i
theorem O1.le {e : Int} {i j : Nat} {A : Abs} (h : O1 e i A) (hij : i ≤ j) : O1 e j A := by
  obtain ⟨g, h1, h2, h3, h4⟩ := h
  exact ⟨g, h1, h2, h3, by omega⟩
theorem one_step {e : Int} {i : Nat} {A A' : Abs} {o : OpS} {r : Int} (hg : o.g = sG) (h : O1 e i A) (hd : DoA A o r A') : O1 e (i + 1) A' := by
  have h0 := h.le (j := i + 1) (by omega)
  obtain ⟨g, h1, h2, h3, h4⟩ := h
  rcases hd with ⟨_, hd⟩ | ⟨_, v, hd⟩ | ⟨_, hd⟩ | ⟨_, hd⟩ | ⟨_, hd⟩ | ⟨_, k, hd⟩ | ⟨_, v, W', hd⟩ | ⟨_, _, rfl⟩
  · rcases hd with ⟨_, _, rfl⟩ | ⟨_, _, _, rfl⟩ | ⟨_, _, _, p, _, _, rfl⟩
    · exact h0
    · exact h0
    · exact h0
  · rcases hd with ⟨_, _, _, rfl⟩ | ⟨_, _, _, _, rfl⟩ | ⟨_, p, rest, _, _, _, rfl⟩
    · exact h0
    · exact h0
    · exact h0
  · rcases hd with ⟨_, _, rfl⟩ | ⟨_, _, _, rfl⟩ | ⟨_, hn, _, rfl⟩
    · exact h0
    · exact h0
    · rw [hg, h1] at hn
      cases hn
  · rcases hd with ⟨_, _, rfl⟩ | ⟨_, _, _, rfl⟩ | ⟨_, g', hg', ⟨_, _, rfl⟩ | ⟨_, _, _, rfl⟩ | ⟨_, _, _, rfl⟩⟩
    · exact h0
    · exact h0
    · exact h0
    · exact h0
    · rw [hg, h1] at hg'
      cases hg'
      exact ⟨⟨g.ep, g.log, g.subs ++ [o.n]⟩, by rw [hg]; simp [setQ], h2, h3, by show g.log.length ≤ i + 1; omega⟩
  · rcases hd with ⟨_, _, rfl⟩ | ⟨_, _, _, rfl⟩ | ⟨_, g', hg', ⟨_, _, rfl⟩ | ⟨_, _, rfl⟩⟩
    · exact h0
    · exact h0
    · exact h0
    · rw [hg, h1] at hg'
      cases hg'
      exact ⟨⟨g.ep, g.log, struck g.subs o.n⟩, by rw [hg]; simp [setQ], h2, h3, by show g.log.length ≤ i + 1; omega⟩
  · rcases hd with ⟨_, _, _, rfl⟩ | ⟨_, _, _, _, rfl⟩ | ⟨_, g', hg', ⟨_, _, _, rfl⟩ | ⟨_, _, _, _, rfl⟩ | ⟨_, _, _, _, _, rfl⟩ | ⟨he, _, _, _, _, en, h5, h6, _, _, rfl⟩⟩
    · exact h0
    · exact h0
    · exact h0
    · exact h0
    · exact h0
    · rw [hg, h1] at hg'
      cases hg'
      refine ⟨⟨if o.kd = 3 then o.ep + 1 else o.ep, g.log ++ [en], g.subs⟩, by rw [hg]; simp [setQ], good_snoc en _ _ h2 (by rw [h5, he, h3]), ?_, by show (g.log ++ [en]).length ≤ i + 1; rw [List.length_append]; simp only [List.length_cons, List.length_nil]; omega⟩
      show (if o.kd = 3 then o.ep + 1 else o.ep) = ends e (g.log ++ [en])
      rw [ends_snoc, nextE, h6, ← h3, he]
  · rcases hd with ⟨_, _, _, rfl⟩ | ⟨_, _, _, _, rfl⟩ | ⟨_, j, wt, q', c', _, _, _, _, _, rfl⟩
    · exact h0
    · exact h0
    · exact h0
  · exact h0
theorem one_open {e r : Int} {A' : Abs} (he : 0 ≤ e ∧ e < 1000) (h : ∃ A, A = ⟨fun _ => [], fun _ => none, fun _ => []⟩ ∧ OpnA A sG e r A') : r = 0 ∧ O1 e 0 A' := by
  obtain ⟨A, rfl, h⟩ := h
  have hok : okN sG = true ∧ 0 ≤ e ∧ e < 4294967296 := ⟨by decide, by omega, by omega⟩
  rcases h with ⟨h, _⟩ | ⟨_, h, _⟩ | ⟨_, h, rfl, rfl⟩
  · exact absurd hok h
  · exact absurd rfl h
  · exact ⟨rfl, ⟨e, [], []⟩, by simp [setQ], trivial, rfl, Nat.le_refl _⟩
theorem one_log {e : Int} {i : Nat} {A : Abs} (h : O1 e i A) : Good e (logA A sG) ∧ (logA A sG).length ≤ i ∧ epoA A sG = (ends e (logA A sG), 0) := by
  obtain ⟨g, h1, h2, h3, h4⟩ := h
  have h5 : logA A sG = g.log := by
    unfold logA
    rw [if_pos (by decide), h1]
  refine ⟨by rw [h5]; exact h2, by rw [h5]; exact h4, ?_⟩
  unfold epoA
  rw [if_pos (by decide), h1, h5]
  show (g.ep, (0 : Int)) = _
  rw [h3]
theorem infoO : (Try.prog.info? 48).map (·.size) = some 7 := by kernel_rfl
theorem wrap_mod (x m : Int) (hm : 0 < m) (h2 : m ≤ 1000) : ∃ N : Nat, (wrap64 (x.tmod m + m)).tmod m = N ∧ (N : Int) < m := by
  have h3 := Int.tmod_lt_of_pos x hm
  have h4 := Int.lt_tmod_of_pos x hm
  have h5 : wrap64 (x.tmod m + m) = x.tmod m + m := by unfold wrap64; omega
  rw [h5, Int.tmod_eq_emod_of_nonneg (by omega)]
  have h6 := Int.emod_nonneg (x.tmod m + m) (by omega : m ≠ 0)
  have h7 := Int.emod_lt_of_pos (x.tmod m + m) hm
  exact ⟨((x.tmod m + m) % m).toNat, by omega, by omega⟩
theorem op_one (o : OpS) : (#[Value.int .i64 o.kind, .int .i64 o.N, .string o.g, .string o.n, .int .i64 o.ep, .int .i64 o.kd, .slice o.q o.nb o.c] : Array Value).all (·.oneCell') = true := by
  rw [Array.all_eq_true_iff_forall_mem]
  intro v hv
  simp at hv
  rcases hv with rfl | rfl | rfl | rfl | rfl | rfl | rfl <;> rfl
theorem range_keep {w W : World} (h : Below w.heap.size w W) {b o : Nat} {cs : List Value} (hr : w.rangeAt b o cs) : W.rangeAt b o cs := fun j v hv =>
  (h.cell (p := ⟨b, o + j, none⟩) (World.block_lt_of_cell? w _ (hr j v hv))).trans (hr j v hv)
set_option maxRecDepth 100000 in
set_option maxHeartbeats 8000000 in
theorem serviceOne_walk (x0 : Int) (a : Option Addr) (n c : Nat) (D : List OpS) (w : World) (hb0 : -9223372036854775808 ≤ x0 ∧ x0 ≤ 9223372036854775807) (hD : OpsAt w a n D) (hnc : n ≤ c) (hc : c ≤ 1600000000000) :
    Calls Try.prog 6 #[.int .i64 x0, .slice a n c] w fun e w' => e = .returned (.bool true) ∧ Below w.heap.size w w' := by
  obtain ⟨E, hE, hE2⟩ := wrap_mod x0 1000 (by omega) (by omega)
  have _ := hb0
  have HD := Lib.hid hD
  clear hb0 hD
  go_enter Try.func6, Try.ntmps6
  go_wp2_with fail
  refine (new_I _).mono ?_
  rintro e w1 ⟨b, rfl, hi⟩
  go_wp2_with fail
  refine (open_I hi sG E).mono ?_
  rintro e w2 ⟨r, rfl, hi2⟩
  obtain ⟨A', hA'⟩ := hi2.ex
  obtain rfl := (one_open (by omega) hA').1
  have hi2 := hi2.imp (fun A h => (one_open (by omega) h).2)
  clear hA' A' hi
  go_wp2_with (go_at_call 9; refine (num22_any _ _).mono ?_; rintro e w' ⟨rfl, rfl⟩)
  refine (knows22_yes _).mono ?_
  rintro e w4 ⟨rfl, hb4⟩
  have hi4 := hi2.keep hb4
  clear hi2 hb4
  go_wp2_with fail
  clear hE
  go_loopw [6] (fun s6 wr => ∃ i : Nat, i ≤ n ∧ s6 = .int .i64 i ∧ Hid (Inv w b (O1 E i) wr)) (fun s6 _ => (n - intOf s6).toNat)
  case atStart => exact ⟨0, by omega, rfl, Lib.hid hi4⟩
  case round =>
    obtain ⟨i, hi, rfl, HI⟩ := hrel
    clear hi4
    by_cases hlt : i < n
    · have hl : decide ((i : Int) < (n : Int)) = true := by simp; omega
      have hin : (i : Int) < (n : Int) := by omega
      obtain ⟨B, off, rfl, hr⟩ := HD.out.2.1 (by omega)
      have hlen := HD.out.1
      have hrg := range_keep HI.out.below (hr i (by omega))
      have hbs := HD.out.2.2 D[i] (List.getElem_mem (by omega))
      generalize D[i] = o at hrg hbs
      have hone := op_one o
      have hone2 := op_one { o with g := sG }
      obtain ⟨kind, N, g, nm, ep, kd, q, nb, cc, l⟩ := o
      have hrg : wr.rangeAt B (off + i * 7) [.int .i64 kind, .int .i64 N, .string g, .string nm, .int .i64 ep, .int .i64 kd, .slice q nb cc] := hrg
      dsimp only at hone hone2 hbs
      have e1 := alloc_at wr (.cells #[.int .i64 0, .int .i64 0, .string { data := #[] }, .string { data := #[] }, .int .i64 0, .int .i64 0, .slice none 0 0] 48)
      have e2 := setRow_here e1 #[.int .i64 kind, .int .i64 N, .string g, .string nm, .int .i64 ep, .int .i64 kd, .slice q nb cc]
      have cg : ((wr.alloc (.cells #[.int .i64 0, .int .i64 0, .string { data := #[] }, .string { data := #[] }, .int .i64 0, .int .i64 0, .slice none 0 0] 48)).setRow wr.heap.size #[.int .i64 kind, .int .i64 N, .string g, .string nm, .int .i64 ep, .int .i64 kd, .slice q nb cc]).cell? ⟨wr.heap.size, 2, none⟩ = some (.string g) := (cell_of_row _ _ 2 _ _ _ e2).trans rfl
      have fg : ((wr.alloc (.cells #[.int .i64 0, .int .i64 0, .string { data := #[] }, .string { data := #[] }, .int .i64 0, .int .i64 0, .slice none 0 0] 48)).setRow wr.heap.size #[.int .i64 kind, .int .i64 N, .string g, .string nm, .int .i64 ep, .int .i64 kd, .slice q nb cc]).frozen? ⟨wr.heap.size, 2, none⟩ = false := frozen_of_row _ _ 2 _ _ e2
      have e3 : (((wr.alloc (.cells #[.int .i64 0, .int .i64 0, .string { data := #[] }, .string { data := #[] }, .int .i64 0, .int .i64 0, .slice none 0 0] 48)).setRow wr.heap.size #[.int .i64 kind, .int .i64 N, .string g, .string nm, .int .i64 ep, .int .i64 kd, .slice q nb cc]).setCell ⟨wr.heap.size, 2, none⟩ (.string { data := #[103] })).heap[wr.heap.size]? = some (.cells #[.int .i64 kind, .int .i64 N, .string { data := #[103] }, .string nm, .int .i64 ep, .int .i64 kd, .slice q nb cc] 48 (0, 0)) := heap_setCell_same _ _ 2 _ _ _ e2
      have hb3 : Below wr.heap.size wr (((wr.alloc (.cells #[.int .i64 0, .int .i64 0, .string { data := #[] }, .string { data := #[] }, .int .i64 0, .int .i64 0, .slice none 0 0] 48)).setRow wr.heap.size #[.int .i64 kind, .int .i64 N, .string g, .string nm, .int .i64 ep, .int .i64 kd, .slice q nb cc]).setCell ⟨wr.heap.size, 2, none⟩ (.string { data := #[103] })) :=
        (setRow_below ((Below.refl _ _).alloc (Nat.le_refl _) _) (Nat.le_refl _) _).setCell (p := ⟨wr.heap.size, 2, none⟩) (Nat.le_refl _) _
      have hdo := do_I (HI.out.keep hb3) ⟨kind, N, sG, nm, ep, kd, q, nb, cc, l⟩ hbs (fun A gs hA hg => by
        obtain ⟨g', h1, _, _, h4⟩ := hA
        have hg : A.gq sG = some gs := hg
        rw [h1] at hg
        cases hg
        omega)
      clear hr hbs hb3 hlen
      go_wp2_with (first | (refine wpList_load_mid rfl 48 (.tmp 39) rfl B (off + i * 7) rfl [.int .i64 kind, .int .i64 N, .string g, .string nm, .int .i64 ep, .int .i64 kd, .slice q nb cc] _ hrg Try.underlying48 rfl infoO ?_) | (refine wpList_store_row rfl 48 (.tmp 7) (.tmp 40) rfl wr.heap.size #[.int .i64 kind, .int .i64 N, .string g, .string nm, .int .i64 ep, .int .i64 kd, .slice q nb cc] rfl rfl 48 #[.int .i64 0, .int .i64 0, .string { data := #[] }, .string { data := #[] }, .int .i64 0, .int .i64 0, .slice none 0 0] e1 infoO rfl hone ?_) | (refine wpList_load_row rfl 48 (.tmp 7) rfl wr.heap.size rfl 48 #[.int .i64 kind, .int .i64 N, .string { data := #[103] }, .string nm, .int .i64 ep, .int .i64 kd, .slice q nb cc] (0, 0) _ e3 Try.underlying48 rfl infoO ?_))
      refine hdo.mono ?_
      rintro e w5 ⟨r, rfl, hi5⟩
      have HI5 := Lib.hid (hi5.imp (Q := O1 E (i + 1)) (fun A' h => by obtain ⟨A, h1, h2⟩ := h; exact one_step rfl h1 h2))
      clear hi5 hdo cg fg e1 e2 e3 hrg HI
      go_wp2_with fail
      go_roundw
      case rel => exact ⟨i + 1, by omega, rfl, HI5⟩
      case measure => simp [intOf]; omega
    · obtain rfl : i = n := by omega
      have hl : decide ((i : Int) < (i : Int)) = false := by simp
      go_wp2_with fail
      refine (log_I HI.out sG (fun A h => by have := (one_log h).2.1; omega)).mono ?_
      rintro e w7 ⟨log, hi7, vout, outs, rfl, hown, hwhat, _, hb7⟩
      obtain ⟨A', hA', hlog⟩ := hi7.ex
      have hol : outs.length = log.length := by have := congrArg List.length hwhat; simpa using this
      obtain ⟨hw1, hw2⟩ := what_ends outs log E hwhat
      have hgood : Good E outs := by rw [hw2, ← hlog]; exact (one_log hA').1
      have hle : outs.length ≤ i := by rw [hol, ← hlog]; exact (one_log hA').2.1
      have HI7 := Lib.hid (hi7.imp (Q := fun A => epoA A sG = (ends E outs, 0)) (fun A h => by rw [(one_log h.1).2.2, h.2, hw1]))
      have HG := Lib.hid hgood
      rw [← hol] at hown
      clear hA' hlog A' hi7 hwhat hb7 HI hw1 hw2 hgood hol
      obtain ⟨pl, cl, hvo⟩ := own_any hown
      rw [hvo] at hown ⊢
      clear hvo
      have HOW := Lib.hid hown
      clear hown
      go_wp2_with fail
      go_loopw [10, 8] (fun s10 s8 wr => ∃ j : Nat, j ≤ outs.length ∧ s10 = .int .i64 j ∧ s8 = .int .i64 (ends E (outs.take j)) ∧ wr = w7) (fun s10 _ _ => (outs.length - intOf s10).toNat)
      case atStart => exact ⟨0, by omega, rfl, rfl, rfl⟩
      case round =>
      obtain ⟨j, hj, rfl, rfl, rfl⟩ := hrel
      by_cases hlt2 : j < outs.length
      · have hl2 : decide ((j : Int) < (outs.length : Int)) = true := by simp; omega
        have hin2 : (j : Int) < (outs.length : Int) := by omega
        obtain ⟨g, cap, hfo⟩ := own_form HOW.out (by omega)
        obtain ⟨rfl, rfl⟩ : pl = some ⟨g, 0, none⟩ ∧ cl = cap := by
          cases hfo
          exact ⟨rfl, rfl⟩
        clear hfo
        obtain ⟨x, hx⟩ : ∃ x, outs[j]? = some x := ⟨_, List.getElem?_eq_getElem hlt2⟩
        have hfl := eflat_len outs
        have c0 : wr.cell? ⟨g, j * 3, none⟩ = some (.int .i64 x.ep) := by
          have h := HOW.out.cellAt (j * 3 + 0) (by omega)
          rw [eflat_get hx 0 (by omega)] at h
          exact h
        have c1 : wr.cell? ⟨g, j * 3 + 1, none⟩ = some (.int .i64 x.kd) := by
          rw [HOW.out.cellAt (j * 3 + 1) (by omega), eflat_get hx 1 (by omega)]
          rfl
        have hep := good_get outs E j x HG.out hx
        have HT := Lib.hid (show outs.take (j + 1) = outs.take j ++ [x] by rw [List.take_add_one, hx]; rfl)
        have hbd := ends_bound (outs.take j) E
        rw [List.length_take] at hbd
        rw [hep] at c0
        clear hx hfl hep
        by_cases hk3 : x.kd = 3
        · have HNX : Hid (ends E (outs.take (j + 1)) = ends E (outs.take j) + 1) := Lib.hid (by rw [HT.out, ends_snoc, nextE, if_pos hk3])
          have hkd : (x.kd == 3) = true := by simpa using hk3
          have hkd2 : decide (x.kd = 3) = true := by simpa using hk3
          have hww : wrap64 (ends E (outs.take j) + 1) = ends E (outs.take j) + 1 := by unfold wrap64; omega
          clear hk3 hbd HT
          generalize ends E (outs.take j) = z at *
          generalize x.kd = xk at *
          obtain rfl : xk = 3 := by simpa using hkd
          go_wp2_with fail
          go_roundw
          case rel => exact ⟨j + 1, by omega, rfl, by rw [HNX.out, hww], by trivial⟩
          case measure => simp [intOf]; omega
        · have HNX : Hid (ends E (outs.take (j + 1)) = ends E (outs.take j)) := Lib.hid (by rw [HT.out, ends_snoc, nextE, if_neg hk3])
          have hkd : (x.kd == 3) = false := by simpa using hk3
          have hkd2 : decide (x.kd = 3) = false := by simpa using hk3
          have _ := hbd
          clear hk3 hbd HT
          generalize ends E (outs.take j) = z at *
          generalize x.kd = xk at *
          skip
          go_wp2_with fail
          go_roundw
          case rel => exact ⟨j + 1, by omega, rfl, by rw [HNX.out], by trivial⟩
          case measure => simp [intOf]; omega
      · obtain rfl : j = outs.length := by omega
        have hl2 : decide ((outs.length : Int) < (outs.length : Int)) = false := by simp
        rw [List.take_length]
        go_wp2_with fail
        refine (epoch_I HI7.out sG).mono ?_
        rintro e w8 ⟨x, rfl, hi8⟩
        obtain ⟨A', hA', hx⟩ := hi8.ex
        rw [hA'] at hx
        subst hx
        have HB := Lib.hid hi8.below
        clear hA' A' hi8 HI7
        go_wp2_with (go_at_call 9; refine (num22_any _ _).mono ?_; rintro e w' ⟨rfl, rfl⟩)
        go_ret
        exact ⟨rfl, HB.out⟩
end Go.Proofs.Ytiebggfpjkhlaaa
