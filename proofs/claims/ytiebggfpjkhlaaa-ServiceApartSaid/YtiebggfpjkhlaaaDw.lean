/- The walk of ServiceApart. No condition. -/
import Derived.Test.YtiebggfpjkhlaaaDv
import Derived.Test.YtiebggfpjkhlaaaDx
import Derived.BigQuiet
namespace Go.Proofs.Ytiebggfpjkhlaaa
open Go Go.RowKit
set_option linter.unusedSimpArgs false
theorem wpList_loadW {P : Program} {ops : Array Oper} {Q : Exit → Act → World → Prop} {a : Act} {w : World} {rest : List Oper} {o : Oper} (hw : Region.wanted o (yielded ops a.tmps) = true) (ty : TypeId) (x : Operand) (ho : o.op = .load ty x)
    (g : Nat) (hx : a.eval x = .pointer (some ⟨g, 0, none⟩)) (t : TypeId) (cs : Array Value) (fr : Nat × Nat) (d : TypeDesc) (hg : w.heap[g]? = some (.cells cs t fr))
    (hu : P.underlying ty = some d) (hd : (match d with | .struct _ | .array _ _ => true | _ => false) = true) (hi : (P.info? ty).map (·.size) = some cs.size)
    (h : wpList P ops Q rest (a.put o.dst (.agg cs)) w) : wpList P ops Q (o :: rest) a w :=
  wpList_want hw fun _ hK => wp_load_row ty x ho g hx t cs fr d hg hu hd hi (hK _ _ h)
theorem geq_out {A C : Abs} (h : GEq (A.gq sG) (C.gq sG)) : (logA A sG).map En.what = (logA C sG).map En.what ∧ epoA A sG = epoA C sG := by
  unfold logA epoA
  rw [if_pos (by decide), if_pos (by decide), if_pos (by decide), if_pos (by decide)]
  rcases geq_cases h with ⟨x1, x2⟩ | ⟨g, k, x1, x2, y1, y2, y3⟩
  · rw [x1, x2]
    exact ⟨rfl, rfl⟩
  · rw [x1, x2]
    exact ⟨y3, by dsimp only; rw [y1]⟩
theorem ap_log {i : Nat} {A C : Abs} (h : Ap i A C) : (logA A sG).length ≤ i := by
  unfold logA
  rw [if_pos (by decide)]
  cases hq : A.gq sG with
  | none => simp
  | some g => exact (h.2.1.2 sG g hq).2
theorem conv_str {w : World} {p : Option Addr} {n cap : Nat} {l : List Int} (h : Bs w p n l) : (convert 29 9 (.slice p n cap)).run Try.prog w = .ok (.string (strOfNums l)) w := h.string _ 5 _ cap Try.underlying29 Try.underlying5 Try.underlying9
theorem bel_dr {w w1 : World} {B : Nat} (h : Below B w w1) (k : Nat) : Below B w (w1.drewN k) := ⟨h.os, h.tape, h.output, h.size, h.block⟩
theorem bs_drewN {w : World} {p : Option Addr} {n : Nat} {l : List Int} (h : Bs w p n l) (k : Nat) : Bs (w.drewN k) p n l :=
  ⟨h.1, h.2.1, fun hn => by
    obtain ⟨B, off, e, hc⟩ := h.2.2 hn
    exact ⟨B, off, e, fun i hi => hc i hi⟩⟩
theorem sG_list : sG.toList = [103] := by simp [sG]
theorem infoO : (Try.prog.info? 48).map (·.size) = some 7 := by kernel_rfl
theorem op_one (o : OpS) : (#[Value.int .i64 o.kind, .int .i64 o.N, .string o.g, .string o.n, .int .i64 o.ep, .int .i64 o.kd, .slice o.q o.nb o.c] : Array Value).all (·.oneCell') = true := by
  rw [Array.all_eq_true_iff_forall_mem]
  intro v hv
  simp at hv
  rcases hv with rfl | rfl | rfl | rfl | rfl | rfl | rfl <;> rfl
theorem range_keep {w W : World} (h : Below w.heap.size w W) {b o : Nat} {cs : List Value} (hr : w.rangeAt b o cs) : W.rangeAt b o cs := fun j v hv =>
  (h.cell (p := ⟨b, o + j, none⟩) (World.block_lt_of_cell? w _ (hr j v hv))).trans (hr j v hv)
/-- An operation that lies in a block of its own. -/
def opB (o : OpS) : Obj := .cells #[.int .i64 o.kind, .int .i64 o.N, .string o.g, .string o.n, .int .i64 o.ep, .int .i64 o.kd, .slice o.q o.nb o.c] 48 (0, 0)
theorem ap_len {i : Nat} {A C : Abs} {s : ByteArray} {gs : GS} (h : Ap i A C) (hi : i ≤ 100) (hg : A.gq s = some gs) : gs.log.length ≤ 2000000000000 := by
  have := (h.2.1.2 s gs hg).2
  omega
set_option maxRecDepth 100000 in
set_option maxHeartbeats 8000000 in
theorem serviceApart_walk (a : Option Addr) (n c : Nat) (D : List OpS) (w : World) (hD : OpsAt w a n D) (hgz : ∀ o ∈ D, o.g.size ≤ 140737488351232) (hnc : n ≤ c) (hc : c ≤ 1600000000000) :
    Calls Try.prog 7 #[.slice a n c] w fun e w' => e = .returned (.bool true) ∧ Below w.heap.size w w' := by
  have _ := hc
  have HD := Lib.hid hD
  have HGZ := Lib.hid hgz
  clear hD hgz
  go_enter Try.func7, Try.ntmps7
  go_wp2_with fail
  refine (new_S _).mono ?_
  rintro e w1 ⟨b, m0, m1, m2, os, rfl, hs1, hk1⟩
  have hbel1 : Below w.heap.size w w1 := hk1.chg.below (Below.refl _ _) (by simp) (Nat.le_refl _)
  clear hk1
  go_wp2_with fail
  refine (new_two w hs1 hbel1).mono ?_
  rintro e w2 ⟨b', rfl, ht2⟩
  clear hs1 hbel1
  go_wp2_with fail
  refine (knows22_yes _).mono ?_
  rintro e w4 ⟨rfl, hb4⟩
  have HT := Lib.hid ((ht2.keep hb4).imp (Q := Ap 0) (fun A C h => by
    obtain ⟨rfl, rfl⟩ := h
    exact ⟨trivial, ⟨fun _ => Nat.le_refl _, fun s g hg => by cases hg⟩, ⟨fun _ => Nat.le_refl _, fun s g hg => by cases hg⟩⟩))
  clear ht2 hb4
  go_wp2_with fail
  go_loopw [5] (fun s5 wr => ∃ i : Nat, i ≤ n ∧ i ≤ 100 ∧ s5 = .int .i64 i ∧ Hid (Two w b b' [] (Ap i) wr)) (fun s5 _ => (n - intOf s5).toNat)
  case atStart => exact ⟨0, by omega, by omega, rfl, HT⟩
  case round =>
    obtain ⟨i, hi, hi2, rfl, HI⟩ := hrel
    clear HT
    by_cases hlt : i < n ∧ i < 100
    · have hl : decide ((i : Int) < (n : Int)) = true := by simp; omega
      have hl2 : decide ((i : Int) < 100) = true := by simp; omega
      have hin : (i : Int) < (n : Int) := by omega
      obtain ⟨B, off, rfl, hr⟩ := HD.out.2.1 (by omega)
      have hlen := HD.out.1
      have hrg := range_keep HI.out.below (hr i (by omega))
      have hbs := HD.out.2.2 D[i] (List.getElem_mem (by omega))
      have hgs := HGZ.out D[i] (List.getElem_mem (by omega))
      generalize D[i] = o at hrg hbs hgs
      have hone := op_one o
      obtain ⟨kind, N, g, nm, ep, kd, q, nb, cc, l⟩ := o
      have hrg : wr.rangeAt B (off + i * 7) [.int .i64 kind, .int .i64 N, .string g, .string nm, .int .i64 ep, .int .i64 kd, .slice q nb cc] := hrg
      dsimp only at hone hbs hgs
      have hcat : ¬ 9223372036854775807 < 1 + g.size := by omega
      clear hgs
      have e1 := alloc_at wr (.cells #[.int .i64 0, .int .i64 0, .string { data := #[] }, .string { data := #[] }, .int .i64 0, .int .i64 0, .slice none 0 0] 48)
      have hb2 : Below wr.heap.size wr ((wr.alloc (.cells #[.int .i64 0, .int .i64 0, .string { data := #[] }, .string { data := #[] }, .int .i64 0, .int .i64 0, .slice none 0 0] 48)).setRow wr.heap.size #[.int .i64 kind, .int .i64 N, .string g, .string nm, .int .i64 ep, .int .i64 kd, .slice q nb cc]) := setRow_below ((Below.refl _ _).alloc (Nat.le_refl _) _) (Nat.le_refl _) _
      have e2 := setRow_here e1 #[.int .i64 kind, .int .i64 N, .string g, .string nm, .int .i64 ep, .int .i64 kd, .slice q nb cc]
      have HX := Lib.hid hbs
      have HB2 := Lib.hid hb2
      clear hr hbs hlen hb2
      go_wp2_with (first | (refine wpList_load_mid rfl 48 (.tmp 40) rfl B (off + i * 7) rfl [.int .i64 kind, .int .i64 N, .string g, .string nm, .int .i64 ep, .int .i64 kd, .slice q nb cc] _ hrg Try.underlying48 rfl infoO ?_) | (refine wpList_store_row rfl 48 (.tmp 6) (.tmp 41) rfl wr.heap.size #[.int .i64 kind, .int .i64 N, .string g, .string nm, .int .i64 ep, .int .i64 kd, .slice q nb cc] rfl rfl 48 #[.int .i64 0, .int .i64 0, .string { data := #[] }, .string { data := #[] }, .int .i64 0, .int .i64 0, .slice none 0 0] e1 infoO rfl hone ?_; refine Stp.go ?_))
      generalize (wr.alloc (.cells #[.int .i64 0, .int .i64 0, .string { data := #[] }, .string { data := #[] }, .int .i64 0, .int .i64 0, .slice none 0 0] 48)).setRow wr.heap.size #[.int .i64 kind, .int .i64 N, .string g, .string nm, .int .i64 ep, .int .i64 kd, .slice q nb cc] = W1 at HB2 e2 ⊢
      have ca0 : W1.cell? ⟨wr.heap.size, 0, none⟩ = some (.int .i64 kind) := (cell_of_row _ _ 0 _ _ _ e2).trans rfl
      have ca2 : W1.cell? ⟨wr.heap.size, 2, none⟩ = some (.string g) := (cell_of_row _ _ 2 _ _ _ e2).trans rfl
      have ca3 : W1.cell? ⟨wr.heap.size, 3, none⟩ = some (.string nm) := (cell_of_row _ _ 3 _ _ _ e2).trans rfl
      have fa3 : W1.frozen? ⟨wr.heap.size, 3, none⟩ = false := frozen_of_row _ _ 3 _ _ e2
      refine Stp.mk ?_
      clear e1 hrg hone
      by_cases hg : g = sG
      · obtain rfl : g = { data := #[103] } := hg
        rcases (show kind < 2 ∨ 5 < kind ∨ kind = 2 ∨ kind = 3 ∨ kind = 4 ∨ kind = 5 by omega) with hkd | hkd | hkd | hkd | hkd | hkd
        · have k1 : decide (kind ≥ 2) = false := by simp; omega
          have k2 : (kind != 5) = true := by simp; omega
          have k3 : (kind != 2) = true := by simp; omega
          have HKD := Lib.hid hkd
          clear hkd
          have e3 : (W1.setCell ⟨wr.heap.size, 3, none⟩ (.string ({ data := #[110, 103] } : ByteArray))).heap[wr.heap.size]? = some (.cells #[.int .i64 kind, .int .i64 N, .string { data := #[103] }, .string ({ data := #[110, 103] } : ByteArray), .int .i64 ep, .int .i64 kd, .slice q nb cc] 48 (0, 0)) := heap_setCell_same _ _ 3 _ _ _ e2
          have hbn : Below wr.heap.size wr (W1.setCell ⟨wr.heap.size, 3, none⟩ (.string ({ data := #[110, 103] } : ByteArray))) := HB2.out.setCell (p := ⟨wr.heap.size, 3, none⟩) (Nat.le_refl _) _
          have d0 : (W1.setCell ⟨wr.heap.size, 3, none⟩ (.string ({ data := #[110, 103] } : ByteArray))).cell? ⟨wr.heap.size, 0, none⟩ = some (.int .i64 kind) := (cell_of_row _ _ 0 _ _ _ e3).trans rfl
          have d3 : (W1.setCell ⟨wr.heap.size, 3, none⟩ (.string ({ data := #[110, 103] } : ByteArray))).cell? ⟨wr.heap.size, 3, none⟩ = some (.string ({ data := #[110, 103] } : ByteArray)) := (cell_of_row _ _ 3 _ _ _ e3).trans rfl
          have lad := (Array.getElem?_eq_some_iff.1 e3).1
          have HTN := Lib.hid (HI.out.spare hbn (Nat.le_refl _) lad)
          have hdo := do_two HTN.out ⟨kind, N, { data := #[103] }, ({ data := #[110, 103] } : ByteArray), ep, kd, q, nb, cc, l⟩ HX.out (fun A C gs h hg => ap_len h hi2 hg)
          clear hbn e2 lad
          go_wp2_with (refine wpList_load_row rfl 48 (.tmp 6) rfl wr.heap.size rfl 48 #[.int .i64 kind, .int .i64 N, .string { data := #[103] }, .string ({ data := #[110, 103] } : ByteArray), .int .i64 ep, .int .i64 kd, .slice q nb cc] (0, 0) _ e3 Try.underlying48 rfl infoO ?_)
          refine hdo.mono ?_
          rintro e w5 ⟨r, rfl, ht5, hst5⟩
          have HN : Hid (Two w b b' [] (Ap (i + 1)) w5) := Lib.hid (ht5.drop.imp (fun A' C h => by
            obtain ⟨A, ⟨h1, h2, h3⟩, h4⟩ := h
            exact ⟨by rw [other_step (fun h => by have := HKD.out; have h1 := h.2.1; have h2 := h.2.2; dsimp only at h1 h2; omega) h4]; exact h1, thin_step h2 h4, h3.le (by omega)⟩))
          clear ht5 hst5 hdo e3 d0 d3
          go_wp2_with fail
          go_roundw
          case rel => exact ⟨i + 1, by omega, by omega, rfl, HN⟩
          case measure => simp [intOf]; omega
        · have k1 : decide (kind ≥ 2) = true := by simp; omega
          have k2 : (kind != 5) = true := by simp; omega
          have k3 : (kind != 2) = true := by simp; omega
          have k4 : decide (kind ≤ 5) = false := by simp; omega
          have HKD := Lib.hid hkd
          clear hkd
          have e3 : (W1.setCell ⟨wr.heap.size, 3, none⟩ (.string ({ data := #[110, 103] } : ByteArray))).heap[wr.heap.size]? = some (.cells #[.int .i64 kind, .int .i64 N, .string { data := #[103] }, .string ({ data := #[110, 103] } : ByteArray), .int .i64 ep, .int .i64 kd, .slice q nb cc] 48 (0, 0)) := heap_setCell_same _ _ 3 _ _ _ e2
          have hbn : Below wr.heap.size wr (W1.setCell ⟨wr.heap.size, 3, none⟩ (.string ({ data := #[110, 103] } : ByteArray))) := HB2.out.setCell (p := ⟨wr.heap.size, 3, none⟩) (Nat.le_refl _) _
          have d0 : (W1.setCell ⟨wr.heap.size, 3, none⟩ (.string ({ data := #[110, 103] } : ByteArray))).cell? ⟨wr.heap.size, 0, none⟩ = some (.int .i64 kind) := (cell_of_row _ _ 0 _ _ _ e3).trans rfl
          have d3 : (W1.setCell ⟨wr.heap.size, 3, none⟩ (.string ({ data := #[110, 103] } : ByteArray))).cell? ⟨wr.heap.size, 3, none⟩ = some (.string ({ data := #[110, 103] } : ByteArray)) := (cell_of_row _ _ 3 _ _ _ e3).trans rfl
          have lad := (Array.getElem?_eq_some_iff.1 e3).1
          have HTN := Lib.hid (HI.out.spare hbn (Nat.le_refl _) lad)
          have hdo := do_two HTN.out ⟨kind, N, { data := #[103] }, ({ data := #[110, 103] } : ByteArray), ep, kd, q, nb, cc, l⟩ HX.out (fun A C gs h hg => ap_len h hi2 hg)
          clear hbn e2 lad
          go_wp2_with (refine wpList_load_row rfl 48 (.tmp 6) rfl wr.heap.size rfl 48 #[.int .i64 kind, .int .i64 N, .string { data := #[103] }, .string ({ data := #[110, 103] } : ByteArray), .int .i64 ep, .int .i64 kd, .slice q nb cc] (0, 0) _ e3 Try.underlying48 rfl infoO ?_)
          refine hdo.mono ?_
          rintro e w5 ⟨r, rfl, ht5, hst5⟩
          have HN : Hid (Two w b b' [] (Ap (i + 1)) w5) := Lib.hid (ht5.drop.imp (fun A' C h => by
            obtain ⟨A, ⟨h1, h2, h3⟩, h4⟩ := h
            exact ⟨by rw [other_step (fun h => by have := HKD.out; have h1 := h.2.1; have h2 := h.2.2; dsimp only at h1 h2; omega) h4]; exact h1, thin_step h2 h4, h3.le (by omega)⟩))
          clear ht5 hst5 hdo e3 d0 d3
          go_wp2_with fail
          go_roundw
          case rel => exact ⟨i + 1, by omega, by omega, rfl, HN⟩
          case measure => simp [intOf]; omega
        · subst hkd
          have hkd : True := trivial
          by_cases hlg : (nm.size : Int) ≤ 200
          · have hlg2 : decide ((nm.size : Int) > 200) = false := by simp; omega
            have HKD := Lib.hid hkd
            clear hkd
            have e3 := e2
            have hbn := HB2.out
            have d0 : W1.cell? ⟨wr.heap.size, 0, none⟩ = some (.int .i64 2) := (cell_of_row _ _ 0 _ _ _ e3).trans rfl
            have d3 : W1.cell? ⟨wr.heap.size, 3, none⟩ = some (.string nm) := (cell_of_row _ _ 3 _ _ _ e3).trans rfl
            have lad := (Array.getElem?_eq_some_iff.1 e3).1
            have HTN := Lib.hid (HI.out.spare hbn (Nat.le_refl _) lad)
            have hdo := do_two HTN.out ⟨2, N, { data := #[103] }, nm, ep, kd, q, nb, cc, l⟩ HX.out (fun A C gs h hg => ap_len h hi2 hg)
            clear hbn e2 lad
            go_wp2_with (refine wpList_load_row rfl 48 (.tmp 6) rfl wr.heap.size rfl 48 #[.int .i64 2, .int .i64 N, .string { data := #[103] }, .string nm, .int .i64 ep, .int .i64 kd, .slice q nb cc] (0, 0) _ e3 Try.underlying48 rfl infoO ?_)
            refine hdo.mono ?_
            rintro e w5 ⟨r, rfl, ht5, hst5⟩
            have e5 := (hst5 _ (by simp)).trans e3
            have d50 : w5.cell? ⟨wr.heap.size, 0, none⟩ = some (.int .i64 2) := (cell_of_row _ _ 0 _ _ _ e5).trans rfl
            have hdo2 := do_two ht5.swap ⟨2, N, { data := #[103] }, nm, ep, kd, q, nb, cc, l⟩ HX.out (fun C A' gs h hg => by
              obtain ⟨A, h1, _⟩ := h
              have := (h1.2.2.2 _ gs hg).2
              omega)
            clear ht5 hst5 hdo e3 d0 d3 HTN
            go_wp2_with (refine wpList_loadW rfl 48 (.tmp 6) rfl wr.heap.size rfl 48 #[.int .i64 2, .int .i64 N, .string { data := #[103] }, .string nm, .int .i64 ep, .int .i64 kd, .slice q nb cc] (0, 0) _ e5 Try.underlying48 rfl infoO ?_)
            refine hdo2.mono ?_
            rintro e w6 ⟨r2, rfl, ht6, _⟩
            obtain ⟨C1, A1, C0, ⟨A0, hap, hd1⟩, hd2⟩ := ht6.some
            obtain ⟨rfl, _⟩ := same_step (i := i) (by omega) rfl (by dsimp only; omega) hap.1 hap.2.1 hap.2.2 hd1 hd2
            have HN : Hid (Two w b b' [] (Ap (i + 1)) w6) := Lib.hid (ht6.swap.drop.imp (fun A' C' h => by
              obtain ⟨C, ⟨A, ⟨h1, h2, h3⟩, h4⟩, h5⟩ := h
              exact ⟨(same_step (i := i) (by omega) rfl (by dsimp only; omega) h1 h2 h3 h4 h5).2, thin_step h2 h4, thin_step h3 h5⟩))
            clear ht6 hdo2 e5 d50 hap hd1 hd2
            go_wp2_with fail
            go_roundw
            case rel => exact ⟨i + 1, by omega, by omega, rfl, HN⟩
            case measure => simp [intOf]; omega
          · have hlg2 : decide ((nm.size : Int) > 200) = true := by simp; omega
            have hlg : 200 < (nm.size : Int) := by omega
            have HKD := Lib.hid hkd
            clear hkd
            have e3 := e2
            have hbn := HB2.out
            have d0 : W1.cell? ⟨wr.heap.size, 0, none⟩ = some (.int .i64 2) := (cell_of_row _ _ 0 _ _ _ e3).trans rfl
            have d3 : W1.cell? ⟨wr.heap.size, 3, none⟩ = some (.string nm) := (cell_of_row _ _ 3 _ _ _ e3).trans rfl
            have HN : Hid (Two w b b' [] (Ap (i + 1)) W1) := Lib.hid ((HI.out.keep hbn).imp (fun A C h => ⟨h.1, h.2.1.le (by omega), h.2.2.le (by omega)⟩))
            clear hbn e2 e3
            go_wp2_with fail
            go_roundw
            case rel => exact ⟨i + 1, by omega, by omega, rfl, HN⟩
            case measure => simp [intOf]; omega
        · subst hkd
          have hkd : True := trivial
          have HKD := Lib.hid hkd
          clear hkd
          have e3 : (W1.setCell ⟨wr.heap.size, 3, none⟩ (.string ({ data := #[110, 103] } : ByteArray))).heap[wr.heap.size]? = some (.cells #[.int .i64 3, .int .i64 N, .string { data := #[103] }, .string ({ data := #[110, 103] } : ByteArray), .int .i64 ep, .int .i64 kd, .slice q nb cc] 48 (0, 0)) := heap_setCell_same _ _ 3 _ _ _ e2
          have hbn : Below wr.heap.size wr (W1.setCell ⟨wr.heap.size, 3, none⟩ (.string ({ data := #[110, 103] } : ByteArray))) := HB2.out.setCell (p := ⟨wr.heap.size, 3, none⟩) (Nat.le_refl _) _
          have d0 : (W1.setCell ⟨wr.heap.size, 3, none⟩ (.string ({ data := #[110, 103] } : ByteArray))).cell? ⟨wr.heap.size, 0, none⟩ = some (.int .i64 3) := (cell_of_row _ _ 0 _ _ _ e3).trans rfl
          have d3 : (W1.setCell ⟨wr.heap.size, 3, none⟩ (.string ({ data := #[110, 103] } : ByteArray))).cell? ⟨wr.heap.size, 3, none⟩ = some (.string ({ data := #[110, 103] } : ByteArray)) := (cell_of_row _ _ 3 _ _ _ e3).trans rfl
          have lad := (Array.getElem?_eq_some_iff.1 e3).1
          have HTN := Lib.hid (HI.out.spare hbn (Nat.le_refl _) lad)
          have hdo := do_two HTN.out ⟨3, N, { data := #[103] }, ({ data := #[110, 103] } : ByteArray), ep, kd, q, nb, cc, l⟩ HX.out (fun A C gs h hg => ap_len h hi2 hg)
          clear hbn e2 lad
          go_wp2_with (refine wpList_load_row rfl 48 (.tmp 6) rfl wr.heap.size rfl 48 #[.int .i64 3, .int .i64 N, .string { data := #[103] }, .string ({ data := #[110, 103] } : ByteArray), .int .i64 ep, .int .i64 kd, .slice q nb cc] (0, 0) _ e3 Try.underlying48 rfl infoO ?_)
          refine hdo.mono ?_
          rintro e w5 ⟨r, rfl, ht5, hst5⟩
          have e5 := (hst5 _ (by simp)).trans e3
          have d50 : w5.cell? ⟨wr.heap.size, 0, none⟩ = some (.int .i64 3) := (cell_of_row _ _ 0 _ _ _ e5).trans rfl
          have hdo2 := do_two ht5.swap ⟨3, N, { data := #[103] }, ({ data := #[110, 103] } : ByteArray), ep, kd, q, nb, cc, l⟩ HX.out (fun C A' gs h hg => by
            obtain ⟨A, h1, _⟩ := h
            have := (h1.2.2.2 _ gs hg).2
            omega)
          clear ht5 hst5 hdo e3 d0 d3 HTN
          go_wp2_with (refine wpList_loadW rfl 48 (.tmp 6) rfl wr.heap.size rfl 48 #[.int .i64 3, .int .i64 N, .string { data := #[103] }, .string ({ data := #[110, 103] } : ByteArray), .int .i64 ep, .int .i64 kd, .slice q nb cc] (0, 0) _ e5 Try.underlying48 rfl infoO ?_)
          refine hdo2.mono ?_
          rintro e w6 ⟨r2, rfl, ht6, _⟩
          obtain ⟨C1, A1, C0, ⟨A0, hap, hd1⟩, hd2⟩ := ht6.some
          obtain ⟨rfl, _⟩ := same_step (i := i) (by omega) rfl (by dsimp only; omega) hap.1 hap.2.1 hap.2.2 hd1 hd2
          have HN : Hid (Two w b b' [] (Ap (i + 1)) w6) := Lib.hid (ht6.swap.drop.imp (fun A' C' h => by
            obtain ⟨C, ⟨A, ⟨h1, h2, h3⟩, h4⟩, h5⟩ := h
            exact ⟨(same_step (i := i) (by omega) rfl (by dsimp only; omega) h1 h2 h3 h4 h5).2, thin_step h2 h4, thin_step h3 h5⟩))
          clear ht6 hdo2 e5 d50 hap hd1 hd2
          go_wp2_with fail
          go_roundw
          case rel => exact ⟨i + 1, by omega, by omega, rfl, HN⟩
          case measure => simp [intOf]; omega
        · subst hkd
          have hkd : True := trivial
          have HKD := Lib.hid hkd
          clear hkd
          have e3 : (W1.setCell ⟨wr.heap.size, 3, none⟩ (.string ({ data := #[110, 103] } : ByteArray))).heap[wr.heap.size]? = some (.cells #[.int .i64 4, .int .i64 N, .string { data := #[103] }, .string ({ data := #[110, 103] } : ByteArray), .int .i64 ep, .int .i64 kd, .slice q nb cc] 48 (0, 0)) := heap_setCell_same _ _ 3 _ _ _ e2
          have hbn : Below wr.heap.size wr (W1.setCell ⟨wr.heap.size, 3, none⟩ (.string ({ data := #[110, 103] } : ByteArray))) := HB2.out.setCell (p := ⟨wr.heap.size, 3, none⟩) (Nat.le_refl _) _
          have d0 : (W1.setCell ⟨wr.heap.size, 3, none⟩ (.string ({ data := #[110, 103] } : ByteArray))).cell? ⟨wr.heap.size, 0, none⟩ = some (.int .i64 4) := (cell_of_row _ _ 0 _ _ _ e3).trans rfl
          have d3 : (W1.setCell ⟨wr.heap.size, 3, none⟩ (.string ({ data := #[110, 103] } : ByteArray))).cell? ⟨wr.heap.size, 3, none⟩ = some (.string ({ data := #[110, 103] } : ByteArray)) := (cell_of_row _ _ 3 _ _ _ e3).trans rfl
          have lad := (Array.getElem?_eq_some_iff.1 e3).1
          have HTN := Lib.hid (HI.out.spare hbn (Nat.le_refl _) lad)
          have hdo := do_two HTN.out ⟨4, N, { data := #[103] }, ({ data := #[110, 103] } : ByteArray), ep, kd, q, nb, cc, l⟩ HX.out (fun A C gs h hg => ap_len h hi2 hg)
          clear hbn e2 lad
          go_wp2_with (refine wpList_load_row rfl 48 (.tmp 6) rfl wr.heap.size rfl 48 #[.int .i64 4, .int .i64 N, .string { data := #[103] }, .string ({ data := #[110, 103] } : ByteArray), .int .i64 ep, .int .i64 kd, .slice q nb cc] (0, 0) _ e3 Try.underlying48 rfl infoO ?_)
          refine hdo.mono ?_
          rintro e w5 ⟨r, rfl, ht5, hst5⟩
          have e5 := (hst5 _ (by simp)).trans e3
          have d50 : w5.cell? ⟨wr.heap.size, 0, none⟩ = some (.int .i64 4) := (cell_of_row _ _ 0 _ _ _ e5).trans rfl
          have hdo2 := do_two ht5.swap ⟨4, N, { data := #[103] }, ({ data := #[110, 103] } : ByteArray), ep, kd, q, nb, cc, l⟩ HX.out (fun C A' gs h hg => by
            obtain ⟨A, h1, _⟩ := h
            have := (h1.2.2.2 _ gs hg).2
            omega)
          clear ht5 hst5 hdo e3 d0 d3 HTN
          go_wp2_with (refine wpList_loadW rfl 48 (.tmp 6) rfl wr.heap.size rfl 48 #[.int .i64 4, .int .i64 N, .string { data := #[103] }, .string ({ data := #[110, 103] } : ByteArray), .int .i64 ep, .int .i64 kd, .slice q nb cc] (0, 0) _ e5 Try.underlying48 rfl infoO ?_)
          refine hdo2.mono ?_
          rintro e w6 ⟨r2, rfl, ht6, _⟩
          obtain ⟨C1, A1, C0, ⟨A0, hap, hd1⟩, hd2⟩ := ht6.some
          obtain ⟨rfl, _⟩ := same_step (i := i) (by omega) rfl (by dsimp only; omega) hap.1 hap.2.1 hap.2.2 hd1 hd2
          have HN : Hid (Two w b b' [] (Ap (i + 1)) w6) := Lib.hid (ht6.swap.drop.imp (fun A' C' h => by
            obtain ⟨C, ⟨A, ⟨h1, h2, h3⟩, h4⟩, h5⟩ := h
            exact ⟨(same_step (i := i) (by omega) rfl (by dsimp only; omega) h1 h2 h3 h4 h5).2, thin_step h2 h4, thin_step h3 h5⟩))
          clear ht6 hdo2 e5 d50 hap hd1 hd2
          go_wp2_with fail
          go_roundw
          case rel => exact ⟨i + 1, by omega, by omega, rfl, HN⟩
          case measure => simp [intOf]; omega
        · subst hkd
          have hkd : True := trivial
          by_cases hlg : (nm.size : Int) ≤ 200
          · have hlg2 : decide ((nm.size : Int) > 200) = false := by simp; omega
            have HKD := Lib.hid hkd
            clear hkd
            have e3 := e2
            have hbn := HB2.out
            have d0 : W1.cell? ⟨wr.heap.size, 0, none⟩ = some (.int .i64 5) := (cell_of_row _ _ 0 _ _ _ e3).trans rfl
            have d3 : W1.cell? ⟨wr.heap.size, 3, none⟩ = some (.string nm) := (cell_of_row _ _ 3 _ _ _ e3).trans rfl
            have lad := (Array.getElem?_eq_some_iff.1 e3).1
            have HTN := Lib.hid (HI.out.spare hbn (Nat.le_refl _) lad)
            have hdo := do_two HTN.out ⟨5, N, { data := #[103] }, nm, ep, kd, q, nb, cc, l⟩ HX.out (fun A C gs h hg => ap_len h hi2 hg)
            clear hbn e2 lad
            go_wp2_with (refine wpList_load_row rfl 48 (.tmp 6) rfl wr.heap.size rfl 48 #[.int .i64 5, .int .i64 N, .string { data := #[103] }, .string nm, .int .i64 ep, .int .i64 kd, .slice q nb cc] (0, 0) _ e3 Try.underlying48 rfl infoO ?_)
            refine hdo.mono ?_
            rintro e w5 ⟨r, rfl, ht5, hst5⟩
            have e5 := (hst5 _ (by simp)).trans e3
            have d50 : w5.cell? ⟨wr.heap.size, 0, none⟩ = some (.int .i64 5) := (cell_of_row _ _ 0 _ _ _ e5).trans rfl
            have hdo2 := do_two ht5.swap ⟨5, N, { data := #[103] }, nm, ep, kd, q, nb, cc, l⟩ HX.out (fun C A' gs h hg => by
              obtain ⟨A, h1, _⟩ := h
              have := (h1.2.2.2 _ gs hg).2
              omega)
            clear ht5 hst5 hdo e3 d0 d3 HTN
            go_wp2_with (refine wpList_loadW rfl 48 (.tmp 6) rfl wr.heap.size rfl 48 #[.int .i64 5, .int .i64 N, .string { data := #[103] }, .string nm, .int .i64 ep, .int .i64 kd, .slice q nb cc] (0, 0) _ e5 Try.underlying48 rfl infoO ?_)
            refine hdo2.mono ?_
            rintro e w6 ⟨r2, rfl, ht6, _⟩
            obtain ⟨C1, A1, C0, ⟨A0, hap, hd1⟩, hd2⟩ := ht6.some
            obtain ⟨rfl, _⟩ := same_step (i := i) (by omega) rfl (by dsimp only; omega) hap.1 hap.2.1 hap.2.2 hd1 hd2
            have HN : Hid (Two w b b' [] (Ap (i + 1)) w6) := Lib.hid (ht6.swap.drop.imp (fun A' C' h => by
              obtain ⟨C, ⟨A, ⟨h1, h2, h3⟩, h4⟩, h5⟩ := h
              exact ⟨(same_step (i := i) (by omega) rfl (by dsimp only; omega) h1 h2 h3 h4 h5).2, thin_step h2 h4, thin_step h3 h5⟩))
            clear ht6 hdo2 e5 d50 hap hd1 hd2
            go_wp2_with fail
            go_roundw
            case rel => exact ⟨i + 1, by omega, by omega, rfl, HN⟩
            case measure => simp [intOf]; omega
          · have hlg2 : decide ((nm.size : Int) > 200) = true := by simp; omega
            have hlg : 200 < (nm.size : Int) := by omega
            have HKD := Lib.hid hkd
            clear hkd
            have e3 := e2
            have hbn := HB2.out
            have d0 : W1.cell? ⟨wr.heap.size, 0, none⟩ = some (.int .i64 5) := (cell_of_row _ _ 0 _ _ _ e3).trans rfl
            have d3 : W1.cell? ⟨wr.heap.size, 3, none⟩ = some (.string nm) := (cell_of_row _ _ 3 _ _ _ e3).trans rfl
            have HN : Hid (Two w b b' [] (Ap (i + 1)) W1) := Lib.hid ((HI.out.keep hbn).imp (fun A C h => ⟨h.1, h.2.1.le (by omega), h.2.2.le (by omega)⟩))
            clear hbn e2 e3
            go_wp2_with fail
            go_roundw
            case rel => exact ⟨i + 1, by omega, by omega, rfl, HN⟩
            case measure => simp [intOf]; omega
      · have hge : (g.toList == [103]) = false := by rw [← sG_list, str_beq]; simpa using hg
        have hge2 : ¬ g.toList = [103] := by simpa using hge
        have HG := Lib.hid hg
        clear hg
        rcases (show kind < 2 ∨ 5 < kind ∨ kind = 2 ∨ kind = 3 ∨ kind = 4 ∨ kind = 5 by omega) with hkd | hkd | hkd | hkd | hkd | hkd
        · by_cases hlg : 1 + (g.size : Int) ≤ 200
          · have hlg2 : decide (1 + (g.size : Int) > 200) = false := by simp; omega
            have k1 : decide (kind ≥ 2) = false := by simp; omega
            have k2 : (kind != 5) = true := by simp; omega
            have k3 : (kind != 2) = true := by simp; omega
            have HKD := Lib.hid hkd
            clear hkd
            have e3 : (W1.setCell ⟨wr.heap.size, 3, none⟩ (.string ({ data := #[110] } ++ g : ByteArray))).heap[wr.heap.size]? = some (.cells #[.int .i64 kind, .int .i64 N, .string g, .string ({ data := #[110] } ++ g : ByteArray), .int .i64 ep, .int .i64 kd, .slice q nb cc] 48 (0, 0)) := heap_setCell_same _ _ 3 _ _ _ e2
            have hbn : Below wr.heap.size wr (W1.setCell ⟨wr.heap.size, 3, none⟩ (.string ({ data := #[110] } ++ g : ByteArray))) := HB2.out.setCell (p := ⟨wr.heap.size, 3, none⟩) (Nat.le_refl _) _
            have d0 : (W1.setCell ⟨wr.heap.size, 3, none⟩ (.string ({ data := #[110] } ++ g : ByteArray))).cell? ⟨wr.heap.size, 0, none⟩ = some (.int .i64 kind) := (cell_of_row _ _ 0 _ _ _ e3).trans rfl
            have d3 : (W1.setCell ⟨wr.heap.size, 3, none⟩ (.string ({ data := #[110] } ++ g : ByteArray))).cell? ⟨wr.heap.size, 3, none⟩ = some (.string ({ data := #[110] } ++ g : ByteArray)) := (cell_of_row _ _ 3 _ _ _ e3).trans rfl
            have lad := (Array.getElem?_eq_some_iff.1 e3).1
            have HTN := Lib.hid (HI.out.spare hbn (Nat.le_refl _) lad)
            have hdo := do_two HTN.out ⟨kind, N, g, ({ data := #[110] } ++ g : ByteArray), ep, kd, q, nb, cc, l⟩ HX.out (fun A C gs h hg => ap_len h hi2 hg)
            clear hbn e2 lad
            go_wp2_with (refine wpList_load_row rfl 48 (.tmp 6) rfl wr.heap.size rfl 48 #[.int .i64 kind, .int .i64 N, .string g, .string ({ data := #[110] } ++ g : ByteArray), .int .i64 ep, .int .i64 kd, .slice q nb cc] (0, 0) _ e3 Try.underlying48 rfl infoO ?_)
            refine hdo.mono ?_
            rintro e w5 ⟨r, rfl, ht5, hst5⟩
            have HN : Hid (Two w b b' [] (Ap (i + 1)) w5) := Lib.hid (ht5.drop.imp (fun A' C h => by
              obtain ⟨A, ⟨h1, h2, h3⟩, h4⟩ := h
              exact ⟨by rw [other_step (fun h => HG.out h.1) h4]; exact h1, thin_step h2 h4, h3.le (by omega)⟩))
            clear ht5 hst5 hdo e3 d0 d3
            go_wp2_with fail
            go_roundw
            case rel => exact ⟨i + 1, by omega, by omega, rfl, HN⟩
            case measure => simp [intOf]; omega
          · have hlg2 : decide (1 + (g.size : Int) > 200) = true := by simp; omega
            have hlg : 200 < 1 + (g.size : Int) := by omega
            have k1 : decide (kind ≥ 2) = false := by simp; omega
            have k2 : (kind != 5) = true := by simp; omega
            have k3 : (kind != 2) = true := by simp; omega
            have HKD := Lib.hid hkd
            clear hkd
            have e3 : (W1.setCell ⟨wr.heap.size, 3, none⟩ (.string ({ data := #[110] } ++ g : ByteArray))).heap[wr.heap.size]? = some (.cells #[.int .i64 kind, .int .i64 N, .string g, .string ({ data := #[110] } ++ g : ByteArray), .int .i64 ep, .int .i64 kd, .slice q nb cc] 48 (0, 0)) := heap_setCell_same _ _ 3 _ _ _ e2
            have hbn : Below wr.heap.size wr (W1.setCell ⟨wr.heap.size, 3, none⟩ (.string ({ data := #[110] } ++ g : ByteArray))) := HB2.out.setCell (p := ⟨wr.heap.size, 3, none⟩) (Nat.le_refl _) _
            have d0 : (W1.setCell ⟨wr.heap.size, 3, none⟩ (.string ({ data := #[110] } ++ g : ByteArray))).cell? ⟨wr.heap.size, 0, none⟩ = some (.int .i64 kind) := (cell_of_row _ _ 0 _ _ _ e3).trans rfl
            have d3 : (W1.setCell ⟨wr.heap.size, 3, none⟩ (.string ({ data := #[110] } ++ g : ByteArray))).cell? ⟨wr.heap.size, 3, none⟩ = some (.string ({ data := #[110] } ++ g : ByteArray)) := (cell_of_row _ _ 3 _ _ _ e3).trans rfl
            have HN : Hid (Two w b b' [] (Ap (i + 1)) (W1.setCell ⟨wr.heap.size, 3, none⟩ (.string ({ data := #[110] } ++ g : ByteArray)))) := Lib.hid ((HI.out.keep hbn).imp (fun A C h => ⟨h.1, h.2.1.le (by omega), h.2.2.le (by omega)⟩))
            clear hbn e2 e3
            go_wp2_with fail
            go_roundw
            case rel => exact ⟨i + 1, by omega, by omega, rfl, HN⟩
            case measure => simp [intOf]; omega
        · by_cases hlg : 1 + (g.size : Int) ≤ 200
          · have hlg2 : decide (1 + (g.size : Int) > 200) = false := by simp; omega
            have k1 : decide (kind ≥ 2) = true := by simp; omega
            have k2 : (kind != 5) = true := by simp; omega
            have k3 : (kind != 2) = true := by simp; omega
            have k4 : decide (kind ≤ 5) = false := by simp; omega
            have HKD := Lib.hid hkd
            clear hkd
            have e3 : (W1.setCell ⟨wr.heap.size, 3, none⟩ (.string ({ data := #[110] } ++ g : ByteArray))).heap[wr.heap.size]? = some (.cells #[.int .i64 kind, .int .i64 N, .string g, .string ({ data := #[110] } ++ g : ByteArray), .int .i64 ep, .int .i64 kd, .slice q nb cc] 48 (0, 0)) := heap_setCell_same _ _ 3 _ _ _ e2
            have hbn : Below wr.heap.size wr (W1.setCell ⟨wr.heap.size, 3, none⟩ (.string ({ data := #[110] } ++ g : ByteArray))) := HB2.out.setCell (p := ⟨wr.heap.size, 3, none⟩) (Nat.le_refl _) _
            have d0 : (W1.setCell ⟨wr.heap.size, 3, none⟩ (.string ({ data := #[110] } ++ g : ByteArray))).cell? ⟨wr.heap.size, 0, none⟩ = some (.int .i64 kind) := (cell_of_row _ _ 0 _ _ _ e3).trans rfl
            have d3 : (W1.setCell ⟨wr.heap.size, 3, none⟩ (.string ({ data := #[110] } ++ g : ByteArray))).cell? ⟨wr.heap.size, 3, none⟩ = some (.string ({ data := #[110] } ++ g : ByteArray)) := (cell_of_row _ _ 3 _ _ _ e3).trans rfl
            have lad := (Array.getElem?_eq_some_iff.1 e3).1
            have HTN := Lib.hid (HI.out.spare hbn (Nat.le_refl _) lad)
            have hdo := do_two HTN.out ⟨kind, N, g, ({ data := #[110] } ++ g : ByteArray), ep, kd, q, nb, cc, l⟩ HX.out (fun A C gs h hg => ap_len h hi2 hg)
            clear hbn e2 lad
            go_wp2_with (refine wpList_load_row rfl 48 (.tmp 6) rfl wr.heap.size rfl 48 #[.int .i64 kind, .int .i64 N, .string g, .string ({ data := #[110] } ++ g : ByteArray), .int .i64 ep, .int .i64 kd, .slice q nb cc] (0, 0) _ e3 Try.underlying48 rfl infoO ?_)
            refine hdo.mono ?_
            rintro e w5 ⟨r, rfl, ht5, hst5⟩
            have HN : Hid (Two w b b' [] (Ap (i + 1)) w5) := Lib.hid (ht5.drop.imp (fun A' C h => by
              obtain ⟨A, ⟨h1, h2, h3⟩, h4⟩ := h
              exact ⟨by rw [other_step (fun h => HG.out h.1) h4]; exact h1, thin_step h2 h4, h3.le (by omega)⟩))
            clear ht5 hst5 hdo e3 d0 d3
            go_wp2_with fail
            go_roundw
            case rel => exact ⟨i + 1, by omega, by omega, rfl, HN⟩
            case measure => simp [intOf]; omega
          · have hlg2 : decide (1 + (g.size : Int) > 200) = true := by simp; omega
            have hlg : 200 < 1 + (g.size : Int) := by omega
            have k1 : decide (kind ≥ 2) = true := by simp; omega
            have k2 : (kind != 5) = true := by simp; omega
            have k3 : (kind != 2) = true := by simp; omega
            have k4 : decide (kind ≤ 5) = false := by simp; omega
            have HKD := Lib.hid hkd
            clear hkd
            have e3 : (W1.setCell ⟨wr.heap.size, 3, none⟩ (.string ({ data := #[110] } ++ g : ByteArray))).heap[wr.heap.size]? = some (.cells #[.int .i64 kind, .int .i64 N, .string g, .string ({ data := #[110] } ++ g : ByteArray), .int .i64 ep, .int .i64 kd, .slice q nb cc] 48 (0, 0)) := heap_setCell_same _ _ 3 _ _ _ e2
            have hbn : Below wr.heap.size wr (W1.setCell ⟨wr.heap.size, 3, none⟩ (.string ({ data := #[110] } ++ g : ByteArray))) := HB2.out.setCell (p := ⟨wr.heap.size, 3, none⟩) (Nat.le_refl _) _
            have d0 : (W1.setCell ⟨wr.heap.size, 3, none⟩ (.string ({ data := #[110] } ++ g : ByteArray))).cell? ⟨wr.heap.size, 0, none⟩ = some (.int .i64 kind) := (cell_of_row _ _ 0 _ _ _ e3).trans rfl
            have d3 : (W1.setCell ⟨wr.heap.size, 3, none⟩ (.string ({ data := #[110] } ++ g : ByteArray))).cell? ⟨wr.heap.size, 3, none⟩ = some (.string ({ data := #[110] } ++ g : ByteArray)) := (cell_of_row _ _ 3 _ _ _ e3).trans rfl
            have HN : Hid (Two w b b' [] (Ap (i + 1)) (W1.setCell ⟨wr.heap.size, 3, none⟩ (.string ({ data := #[110] } ++ g : ByteArray)))) := Lib.hid ((HI.out.keep hbn).imp (fun A C h => ⟨h.1, h.2.1.le (by omega), h.2.2.le (by omega)⟩))
            clear hbn e2 e3
            go_wp2_with fail
            go_roundw
            case rel => exact ⟨i + 1, by omega, by omega, rfl, HN⟩
            case measure => simp [intOf]; omega
        · subst hkd
          have hkd : True := trivial
          by_cases hlg : (nm.size : Int) ≤ 200
          · have hlg2 : decide ((nm.size : Int) > 200) = false := by simp; omega
            have HKD := Lib.hid hkd
            clear hkd
            have e3 := e2
            have hbn := HB2.out
            have d0 : W1.cell? ⟨wr.heap.size, 0, none⟩ = some (.int .i64 2) := (cell_of_row _ _ 0 _ _ _ e3).trans rfl
            have d3 : W1.cell? ⟨wr.heap.size, 3, none⟩ = some (.string nm) := (cell_of_row _ _ 3 _ _ _ e3).trans rfl
            have lad := (Array.getElem?_eq_some_iff.1 e3).1
            have HTN := Lib.hid (HI.out.spare hbn (Nat.le_refl _) lad)
            have hdo := do_two HTN.out ⟨2, N, g, nm, ep, kd, q, nb, cc, l⟩ HX.out (fun A C gs h hg => ap_len h hi2 hg)
            clear hbn e2 lad
            go_wp2_with (refine wpList_load_row rfl 48 (.tmp 6) rfl wr.heap.size rfl 48 #[.int .i64 2, .int .i64 N, .string g, .string nm, .int .i64 ep, .int .i64 kd, .slice q nb cc] (0, 0) _ e3 Try.underlying48 rfl infoO ?_)
            refine hdo.mono ?_
            rintro e w5 ⟨r, rfl, ht5, hst5⟩
            have HN : Hid (Two w b b' [] (Ap (i + 1)) w5) := Lib.hid (ht5.drop.imp (fun A' C h => by
              obtain ⟨A, ⟨h1, h2, h3⟩, h4⟩ := h
              exact ⟨by rw [other_step (fun h => HG.out h.1) h4]; exact h1, thin_step h2 h4, h3.le (by omega)⟩))
            clear ht5 hst5 hdo e3 d0 d3
            go_wp2_with fail
            go_roundw
            case rel => exact ⟨i + 1, by omega, by omega, rfl, HN⟩
            case measure => simp [intOf]; omega
          · have hlg2 : decide ((nm.size : Int) > 200) = true := by simp; omega
            have hlg : 200 < (nm.size : Int) := by omega
            have HKD := Lib.hid hkd
            clear hkd
            have e3 := e2
            have hbn := HB2.out
            have d0 : W1.cell? ⟨wr.heap.size, 0, none⟩ = some (.int .i64 2) := (cell_of_row _ _ 0 _ _ _ e3).trans rfl
            have d3 : W1.cell? ⟨wr.heap.size, 3, none⟩ = some (.string nm) := (cell_of_row _ _ 3 _ _ _ e3).trans rfl
            have HN : Hid (Two w b b' [] (Ap (i + 1)) W1) := Lib.hid ((HI.out.keep hbn).imp (fun A C h => ⟨h.1, h.2.1.le (by omega), h.2.2.le (by omega)⟩))
            clear hbn e2 e3
            go_wp2_with fail
            go_roundw
            case rel => exact ⟨i + 1, by omega, by omega, rfl, HN⟩
            case measure => simp [intOf]; omega
        · subst hkd
          have hkd : True := trivial
          by_cases hlg : 1 + (g.size : Int) ≤ 200
          · have hlg2 : decide (1 + (g.size : Int) > 200) = false := by simp; omega
            have HKD := Lib.hid hkd
            clear hkd
            have e3 : (W1.setCell ⟨wr.heap.size, 3, none⟩ (.string ({ data := #[110] } ++ g : ByteArray))).heap[wr.heap.size]? = some (.cells #[.int .i64 3, .int .i64 N, .string g, .string ({ data := #[110] } ++ g : ByteArray), .int .i64 ep, .int .i64 kd, .slice q nb cc] 48 (0, 0)) := heap_setCell_same _ _ 3 _ _ _ e2
            have hbn : Below wr.heap.size wr (W1.setCell ⟨wr.heap.size, 3, none⟩ (.string ({ data := #[110] } ++ g : ByteArray))) := HB2.out.setCell (p := ⟨wr.heap.size, 3, none⟩) (Nat.le_refl _) _
            have d0 : (W1.setCell ⟨wr.heap.size, 3, none⟩ (.string ({ data := #[110] } ++ g : ByteArray))).cell? ⟨wr.heap.size, 0, none⟩ = some (.int .i64 3) := (cell_of_row _ _ 0 _ _ _ e3).trans rfl
            have d3 : (W1.setCell ⟨wr.heap.size, 3, none⟩ (.string ({ data := #[110] } ++ g : ByteArray))).cell? ⟨wr.heap.size, 3, none⟩ = some (.string ({ data := #[110] } ++ g : ByteArray)) := (cell_of_row _ _ 3 _ _ _ e3).trans rfl
            have lad := (Array.getElem?_eq_some_iff.1 e3).1
            have HTN := Lib.hid (HI.out.spare hbn (Nat.le_refl _) lad)
            have hdo := do_two HTN.out ⟨3, N, g, ({ data := #[110] } ++ g : ByteArray), ep, kd, q, nb, cc, l⟩ HX.out (fun A C gs h hg => ap_len h hi2 hg)
            clear hbn e2 lad
            go_wp2_with (refine wpList_load_row rfl 48 (.tmp 6) rfl wr.heap.size rfl 48 #[.int .i64 3, .int .i64 N, .string g, .string ({ data := #[110] } ++ g : ByteArray), .int .i64 ep, .int .i64 kd, .slice q nb cc] (0, 0) _ e3 Try.underlying48 rfl infoO ?_)
            refine hdo.mono ?_
            rintro e w5 ⟨r, rfl, ht5, hst5⟩
            have HN : Hid (Two w b b' [] (Ap (i + 1)) w5) := Lib.hid (ht5.drop.imp (fun A' C h => by
              obtain ⟨A, ⟨h1, h2, h3⟩, h4⟩ := h
              exact ⟨by rw [other_step (fun h => HG.out h.1) h4]; exact h1, thin_step h2 h4, h3.le (by omega)⟩))
            clear ht5 hst5 hdo e3 d0 d3
            go_wp2_with fail
            go_roundw
            case rel => exact ⟨i + 1, by omega, by omega, rfl, HN⟩
            case measure => simp [intOf]; omega
          · have hlg2 : decide (1 + (g.size : Int) > 200) = true := by simp; omega
            have hlg : 200 < 1 + (g.size : Int) := by omega
            have HKD := Lib.hid hkd
            clear hkd
            have e3 : (W1.setCell ⟨wr.heap.size, 3, none⟩ (.string ({ data := #[110] } ++ g : ByteArray))).heap[wr.heap.size]? = some (.cells #[.int .i64 3, .int .i64 N, .string g, .string ({ data := #[110] } ++ g : ByteArray), .int .i64 ep, .int .i64 kd, .slice q nb cc] 48 (0, 0)) := heap_setCell_same _ _ 3 _ _ _ e2
            have hbn : Below wr.heap.size wr (W1.setCell ⟨wr.heap.size, 3, none⟩ (.string ({ data := #[110] } ++ g : ByteArray))) := HB2.out.setCell (p := ⟨wr.heap.size, 3, none⟩) (Nat.le_refl _) _
            have d0 : (W1.setCell ⟨wr.heap.size, 3, none⟩ (.string ({ data := #[110] } ++ g : ByteArray))).cell? ⟨wr.heap.size, 0, none⟩ = some (.int .i64 3) := (cell_of_row _ _ 0 _ _ _ e3).trans rfl
            have d3 : (W1.setCell ⟨wr.heap.size, 3, none⟩ (.string ({ data := #[110] } ++ g : ByteArray))).cell? ⟨wr.heap.size, 3, none⟩ = some (.string ({ data := #[110] } ++ g : ByteArray)) := (cell_of_row _ _ 3 _ _ _ e3).trans rfl
            have HN : Hid (Two w b b' [] (Ap (i + 1)) (W1.setCell ⟨wr.heap.size, 3, none⟩ (.string ({ data := #[110] } ++ g : ByteArray)))) := Lib.hid ((HI.out.keep hbn).imp (fun A C h => ⟨h.1, h.2.1.le (by omega), h.2.2.le (by omega)⟩))
            clear hbn e2 e3
            go_wp2_with fail
            go_roundw
            case rel => exact ⟨i + 1, by omega, by omega, rfl, HN⟩
            case measure => simp [intOf]; omega
        · subst hkd
          have hkd : True := trivial
          by_cases hlg : 1 + (g.size : Int) ≤ 200
          · have hlg2 : decide (1 + (g.size : Int) > 200) = false := by simp; omega
            have HKD := Lib.hid hkd
            clear hkd
            have e3 : (W1.setCell ⟨wr.heap.size, 3, none⟩ (.string ({ data := #[110] } ++ g : ByteArray))).heap[wr.heap.size]? = some (.cells #[.int .i64 4, .int .i64 N, .string g, .string ({ data := #[110] } ++ g : ByteArray), .int .i64 ep, .int .i64 kd, .slice q nb cc] 48 (0, 0)) := heap_setCell_same _ _ 3 _ _ _ e2
            have hbn : Below wr.heap.size wr (W1.setCell ⟨wr.heap.size, 3, none⟩ (.string ({ data := #[110] } ++ g : ByteArray))) := HB2.out.setCell (p := ⟨wr.heap.size, 3, none⟩) (Nat.le_refl _) _
            have d0 : (W1.setCell ⟨wr.heap.size, 3, none⟩ (.string ({ data := #[110] } ++ g : ByteArray))).cell? ⟨wr.heap.size, 0, none⟩ = some (.int .i64 4) := (cell_of_row _ _ 0 _ _ _ e3).trans rfl
            have d3 : (W1.setCell ⟨wr.heap.size, 3, none⟩ (.string ({ data := #[110] } ++ g : ByteArray))).cell? ⟨wr.heap.size, 3, none⟩ = some (.string ({ data := #[110] } ++ g : ByteArray)) := (cell_of_row _ _ 3 _ _ _ e3).trans rfl
            have lad := (Array.getElem?_eq_some_iff.1 e3).1
            have HTN := Lib.hid (HI.out.spare hbn (Nat.le_refl _) lad)
            have hdo := do_two HTN.out ⟨4, N, g, ({ data := #[110] } ++ g : ByteArray), ep, kd, q, nb, cc, l⟩ HX.out (fun A C gs h hg => ap_len h hi2 hg)
            clear hbn e2 lad
            go_wp2_with (refine wpList_load_row rfl 48 (.tmp 6) rfl wr.heap.size rfl 48 #[.int .i64 4, .int .i64 N, .string g, .string ({ data := #[110] } ++ g : ByteArray), .int .i64 ep, .int .i64 kd, .slice q nb cc] (0, 0) _ e3 Try.underlying48 rfl infoO ?_)
            refine hdo.mono ?_
            rintro e w5 ⟨r, rfl, ht5, hst5⟩
            have HN : Hid (Two w b b' [] (Ap (i + 1)) w5) := Lib.hid (ht5.drop.imp (fun A' C h => by
              obtain ⟨A, ⟨h1, h2, h3⟩, h4⟩ := h
              exact ⟨by rw [other_step (fun h => HG.out h.1) h4]; exact h1, thin_step h2 h4, h3.le (by omega)⟩))
            clear ht5 hst5 hdo e3 d0 d3
            go_wp2_with fail
            go_roundw
            case rel => exact ⟨i + 1, by omega, by omega, rfl, HN⟩
            case measure => simp [intOf]; omega
          · have hlg2 : decide (1 + (g.size : Int) > 200) = true := by simp; omega
            have hlg : 200 < 1 + (g.size : Int) := by omega
            have HKD := Lib.hid hkd
            clear hkd
            have e3 : (W1.setCell ⟨wr.heap.size, 3, none⟩ (.string ({ data := #[110] } ++ g : ByteArray))).heap[wr.heap.size]? = some (.cells #[.int .i64 4, .int .i64 N, .string g, .string ({ data := #[110] } ++ g : ByteArray), .int .i64 ep, .int .i64 kd, .slice q nb cc] 48 (0, 0)) := heap_setCell_same _ _ 3 _ _ _ e2
            have hbn : Below wr.heap.size wr (W1.setCell ⟨wr.heap.size, 3, none⟩ (.string ({ data := #[110] } ++ g : ByteArray))) := HB2.out.setCell (p := ⟨wr.heap.size, 3, none⟩) (Nat.le_refl _) _
            have d0 : (W1.setCell ⟨wr.heap.size, 3, none⟩ (.string ({ data := #[110] } ++ g : ByteArray))).cell? ⟨wr.heap.size, 0, none⟩ = some (.int .i64 4) := (cell_of_row _ _ 0 _ _ _ e3).trans rfl
            have d3 : (W1.setCell ⟨wr.heap.size, 3, none⟩ (.string ({ data := #[110] } ++ g : ByteArray))).cell? ⟨wr.heap.size, 3, none⟩ = some (.string ({ data := #[110] } ++ g : ByteArray)) := (cell_of_row _ _ 3 _ _ _ e3).trans rfl
            have HN : Hid (Two w b b' [] (Ap (i + 1)) (W1.setCell ⟨wr.heap.size, 3, none⟩ (.string ({ data := #[110] } ++ g : ByteArray)))) := Lib.hid ((HI.out.keep hbn).imp (fun A C h => ⟨h.1, h.2.1.le (by omega), h.2.2.le (by omega)⟩))
            clear hbn e2 e3
            go_wp2_with fail
            go_roundw
            case rel => exact ⟨i + 1, by omega, by omega, rfl, HN⟩
            case measure => simp [intOf]; omega
        · subst hkd
          have hkd : True := trivial
          by_cases hlg : (nm.size : Int) ≤ 200
          · have hlg2 : decide ((nm.size : Int) > 200) = false := by simp; omega
            have HKD := Lib.hid hkd
            clear hkd
            have e3 := e2
            have hbn := HB2.out
            have d0 : W1.cell? ⟨wr.heap.size, 0, none⟩ = some (.int .i64 5) := (cell_of_row _ _ 0 _ _ _ e3).trans rfl
            have d3 : W1.cell? ⟨wr.heap.size, 3, none⟩ = some (.string nm) := (cell_of_row _ _ 3 _ _ _ e3).trans rfl
            have lad := (Array.getElem?_eq_some_iff.1 e3).1
            have HTN := Lib.hid (HI.out.spare hbn (Nat.le_refl _) lad)
            have hdo := do_two HTN.out ⟨5, N, g, nm, ep, kd, q, nb, cc, l⟩ HX.out (fun A C gs h hg => ap_len h hi2 hg)
            clear hbn e2 lad
            go_wp2_with (refine wpList_load_row rfl 48 (.tmp 6) rfl wr.heap.size rfl 48 #[.int .i64 5, .int .i64 N, .string g, .string nm, .int .i64 ep, .int .i64 kd, .slice q nb cc] (0, 0) _ e3 Try.underlying48 rfl infoO ?_)
            refine hdo.mono ?_
            rintro e w5 ⟨r, rfl, ht5, hst5⟩
            have HN : Hid (Two w b b' [] (Ap (i + 1)) w5) := Lib.hid (ht5.drop.imp (fun A' C h => by
              obtain ⟨A, ⟨h1, h2, h3⟩, h4⟩ := h
              exact ⟨by rw [other_step (fun h => HG.out h.1) h4]; exact h1, thin_step h2 h4, h3.le (by omega)⟩))
            clear ht5 hst5 hdo e3 d0 d3
            go_wp2_with fail
            go_roundw
            case rel => exact ⟨i + 1, by omega, by omega, rfl, HN⟩
            case measure => simp [intOf]; omega
          · have hlg2 : decide ((nm.size : Int) > 200) = true := by simp; omega
            have hlg : 200 < (nm.size : Int) := by omega
            have HKD := Lib.hid hkd
            clear hkd
            have e3 := e2
            have hbn := HB2.out
            have d0 : W1.cell? ⟨wr.heap.size, 0, none⟩ = some (.int .i64 5) := (cell_of_row _ _ 0 _ _ _ e3).trans rfl
            have d3 : W1.cell? ⟨wr.heap.size, 3, none⟩ = some (.string nm) := (cell_of_row _ _ 3 _ _ _ e3).trans rfl
            have HN : Hid (Two w b b' [] (Ap (i + 1)) W1) := Lib.hid ((HI.out.keep hbn).imp (fun A C h => ⟨h.1, h.2.1.le (by omega), h.2.2.le (by omega)⟩))
            clear hbn e2 e3
            go_wp2_with fail
            go_roundw
            case rel => exact ⟨i + 1, by omega, by omega, rfl, HN⟩
            case measure => simp [intOf]; omega
    · by_cases hltn : i < n
      · have hi100 : i = 100 := by omega
        subst hi100
        have hl : decide ((100 : Int) < (n : Int)) = true := by simp; omega
        have hl2 : decide ((100 : Int) < 100) = false := by simp
        go_wp2_with fail
        refine (log_two HI.out sG (fun A C h => by
          have h1 := h.2.1.2 sG
          unfold logA
          rw [if_pos (by decide)]
          cases hq : A.gq sG with
          | none => simp
          | some g => have := (h1 g hq).2; dsimp only; omega)).mono ?_
        rintro e w5 ⟨log1, ht1, vout1, outs1, rfl, hown1, hwh1, hok1, hb1⟩
        obtain ⟨p1, c1, hv1⟩ := own_any hown1
        rw [hv1] at hown1 ⊢
        clear hv1 HI
        have ht1 := ht1.swap
        go_wp2_with fail
        refine (log_two ht1 sG (fun C A h => by
          have h1 := h.1.2.2.2 sG
          unfold logA
          rw [if_pos (by decide)]
          cases hq : C.gq sG with
          | none => simp
          | some g => have := (h1 g hq).2; dsimp only; omega)).mono ?_
        rintro e w6 ⟨log2, ht2, vout2, outs2, rfl, hown2, hwh2, hok2, hb2⟩
        obtain ⟨p2, c2, hv2⟩ := own_any hown2
        rw [hv2] at hown2 ⊢
        have ht2 := ht2.swap
        have hown1 := own_ext hown1 (W1 := w6) (fun g hg => hb2.block g (hown1.lt g hg).2)
        have hok1 : ∀ x ∈ outs1, x.Ok w6 := fun x hx => ((hok1 x hx).1).chg (Chg.of_below (ws := []) hb2) (by intro i hi; cases hi)
        have hok2 : ∀ x ∈ outs2, x.Ok w6 := fun x hx => (hok2 x hx).1
        clear hv2 hb1 hb2 ht1
        go_wp2_with fail
        refine (epoch_two ht2 sG).mono ?_
        rintro e w7 ⟨x, rfl, hb7, ht7⟩
        have hown1 := own_ext hown1 (W1 := w7) (fun g hg => hb7.block g (hown1.lt g hg).2)
        have hown2 := own_ext hown2 (W1 := w7) (fun g hg => hb7.block g (hown2.lt g hg).2)
        have hok1 : ∀ x ∈ outs1, x.Ok w7 := fun x hx => (hok1 x hx).chg (Chg.of_below (ws := []) hb7) (by intro i hi; cases hi)
        have hok2 : ∀ x ∈ outs2, x.Ok w7 := fun x hx => (hok2 x hx).chg (Chg.of_below (ws := []) hb7) (by intro i hi; cases hi)
        have ht7 := ht7.swap
        clear ht2 hb7
        go_wp2_with fail
        refine (epoch_two ht7 sG).mono ?_
        rintro e w8 ⟨y, rfl, hb8, ht8⟩
        have hown1 := own_ext hown1 (W1 := w8) (fun g hg => hb8.block g (hown1.lt g hg).2)
        have hown2 := own_ext hown2 (W1 := w8) (fun g hg => hb8.block g (hown2.lt g hg).2)
        have hok1 : ∀ x ∈ outs1, x.Ok w8 := fun x hx => (hok1 x hx).chg (Chg.of_below (ws := []) hb8) (by intro i hi; cases hi)
        have hok2 : ∀ x ∈ outs2, x.Ok w8 := fun x hx => (hok2 x hx).chg (Chg.of_below (ws := []) hb8) (by intro i hi; cases hi)
        have HB := Lib.hid ht8.below
        obtain ⟨C0, A0, ⟨⟨⟨hap, hl1⟩, hl2⟩, hx⟩, hy⟩ := ht8.some
        obtain ⟨hlw, hep⟩ := geq_out hap.1
        have hm100 : log1.length ≤ 2000000000000 := by
          have := ap_log hap
          rw [hl1] at this
          omega
        rw [hl1, hl2] at hlw
        rw [hx, hy] at hep
        subst hep
        have hww : outs1.map En.what = outs2.map En.what := by rw [hwh1, hwh2, hlw]
        have hlen : log1.length = log2.length := by have := congrArg List.length hlw; simpa using this
        have hol1 : outs1.length = log1.length := by have := congrArg List.length hwh1; simpa using this
        have hol2 : outs2.length = log1.length := by have := congrArg List.length hwh2; rw [hlen]; simpa using this
        rw [← hlen] at hown2
        rw [← hlen]
        generalize log1.length = m at *
        have HO1 := Lib.hid hown1
        have HO2 := Lib.hid hown2
        have HK1 := Lib.hid hok1
        have HK2 := Lib.hid hok2
        have HWW := Lib.hid hww
        clear hown1 hown2 hok1 hok2 hww ht7 ht8 hb8 hap hl1 hl2 hx hy hlw hwh1 hwh2 hlen
        obtain ⟨y1, y2⟩ := x
        dsimp only
        go_wp2_with fail
        go_loopw [15] (fun s15 wr => ∃ j : Nat, j ≤ m ∧ s15 = .int .i64 j ∧ Hid (Below w8.heap.size w8 wr)) (fun s15 _ => (m - intOf s15).toNat)
        case atStart => exact ⟨0, by omega, rfl, Lib.hid (Below.refl _ _)⟩
        case round =>
        obtain ⟨j, hj, rfl, HJ⟩ := hrel
        by_cases hjm : j < m
        · have hlj : decide ((j : Int) < (m : Int)) = true := by simp; omega
          have hjn : (j : Int) < (m : Int) := by omega
          obtain ⟨g1, k1, hf1⟩ := own_form HO1.out (by omega)
          obtain ⟨rfl, rfl⟩ : p1 = some ⟨g1, 0, none⟩ ∧ c1 = k1 := by
            cases hf1
            exact ⟨rfl, rfl⟩
          obtain ⟨g2, k2, hf2⟩ := own_form HO2.out (by omega)
          obtain ⟨rfl, rfl⟩ : p2 = some ⟨g2, 0, none⟩ ∧ c2 = k2 := by
            cases hf2
            exact ⟨rfl, rfl⟩
          clear hf1 hf2
          obtain ⟨x1, hx1⟩ : ∃ x, outs1[j]? = some x := ⟨_, List.getElem?_eq_getElem (by omega)⟩
          obtain ⟨x2, hx2⟩ : ∃ x, outs2[j]? = some x := ⟨_, List.getElem?_eq_getElem (by omega)⟩
          have hwx : x1.what = x2.what := by
            have h := congrArg (fun l => l[j]?) HWW.out
            simpa [hx1, hx2] using h
          have ow1 := own_ext HO1.out (W1 := wr) (fun g hg => HJ.out.block g (HO1.out.lt g hg).2)
          have ow2 := own_ext HO2.out (W1 := wr) (fun g hg => HJ.out.block g (HO2.out.lt g hg).2)
          have hf1 := eflat_len outs1
          have hf2 := eflat_len outs2
          have b1 := (((HK1.out x1 (List.mem_of_getElem? hx1)).chg (Chg.of_below (ws := []) HJ.out) (by intro i hi; cases hi)).1).bs
          have b2 := (((HK2.out x2 (List.mem_of_getElem? hx2)).chg (Chg.of_below (ws := []) HJ.out) (by intro i hi; cases hi)).1).bs
          have e10 : wr.cell? ⟨g1, j * 3, none⟩ = some (.int .i64 x1.ep) := by
            have h := ow1.cellAt (j * 3 + 0) (by omega)
            rw [eflat_get hx1 0 (by omega)] at h
            exact h
          have e12 : wr.cell? ⟨g1, j * 3 + 2, none⟩ = some (.slice (some ⟨x1.q, 0, none⟩) x1.n x1.c) := by
            rw [ow1.cellAt (j * 3 + 2) (by omega), eflat_get hx1 2 (by omega)]
            rfl
          have e20 : wr.cell? ⟨g2, j * 3, none⟩ = some (.int .i64 x2.ep) := by
            have h := ow2.cellAt (j * 3 + 0) (by omega)
            rw [eflat_get hx2 0 (by omega)] at h
            exact h
          have e22 : wr.cell? ⟨g2, j * 3 + 2, none⟩ = some (.slice (some ⟨x2.q, 0, none⟩) x2.n x2.c) := by
            rw [ow2.cellAt (j * 3 + 2) (by omega), eflat_get hx2 2 (by omega)]
            rfl
          obtain ⟨e1, d1, q1, n1, c1', l1⟩ := x1
          obtain ⟨e2, d2, q2, n2, c2', l2⟩ := x2
          simp only [En.what, Prod.mk.injEq] at hwx
          obtain ⟨rfl, _, rfl⟩ := hwx
          dsimp only at b1 b2 e10 e12 e20 e22
          have cv1 := fun k => conv_str (cap := c1') (bs_drewN b1 k)
          have cv2 := fun k => conv_str (cap := c2') (bs_drewN b2 k)
          clear hx1 hx2 ow1 ow2 hf1 hf2
          go_wp2_with fail
          go_quiet (fail)
          go_wp2_with fail
          go_roundw
          case rel => exact ⟨j + 1, by omega, rfl, Lib.hid (bel_dr HJ.out _)⟩
          case measure => simp [intOf]; omega
        · obtain rfl : j = m := by omega
          have hlj : decide ((j : Int) < (j : Int)) = false := by simp
          go_wp2_with fail
          go_ret
          exact ⟨rfl, below_thru HB.out HJ.out⟩
      · obtain rfl : i = n := by omega
        have hl : decide ((i : Int) < (i : Int)) = false := by simp
        go_wp2_with fail
        refine (log_two HI.out sG (fun A C h => by
          have h1 := h.2.1.2 sG
          unfold logA
          rw [if_pos (by decide)]
          cases hq : A.gq sG with
          | none => simp
          | some g => have := (h1 g hq).2; dsimp only; omega)).mono ?_
        rintro e w5 ⟨log1, ht1, vout1, outs1, rfl, hown1, hwh1, hok1, hb1⟩
        obtain ⟨p1, c1, hv1⟩ := own_any hown1
        rw [hv1] at hown1 ⊢
        clear hv1 HI
        have ht1 := ht1.swap
        go_wp2_with fail
        refine (log_two ht1 sG (fun C A h => by
          have h1 := h.1.2.2.2 sG
          unfold logA
          rw [if_pos (by decide)]
          cases hq : C.gq sG with
          | none => simp
          | some g => have := (h1 g hq).2; dsimp only; omega)).mono ?_
        rintro e w6 ⟨log2, ht2, vout2, outs2, rfl, hown2, hwh2, hok2, hb2⟩
        obtain ⟨p2, c2, hv2⟩ := own_any hown2
        rw [hv2] at hown2 ⊢
        have ht2 := ht2.swap
        have hown1 := own_ext hown1 (W1 := w6) (fun g hg => hb2.block g (hown1.lt g hg).2)
        have hok1 : ∀ x ∈ outs1, x.Ok w6 := fun x hx => ((hok1 x hx).1).chg (Chg.of_below (ws := []) hb2) (by intro i hi; cases hi)
        have hok2 : ∀ x ∈ outs2, x.Ok w6 := fun x hx => (hok2 x hx).1
        clear hv2 hb1 hb2 ht1
        go_wp2_with fail
        refine (epoch_two ht2 sG).mono ?_
        rintro e w7 ⟨x, rfl, hb7, ht7⟩
        have hown1 := own_ext hown1 (W1 := w7) (fun g hg => hb7.block g (hown1.lt g hg).2)
        have hown2 := own_ext hown2 (W1 := w7) (fun g hg => hb7.block g (hown2.lt g hg).2)
        have hok1 : ∀ x ∈ outs1, x.Ok w7 := fun x hx => (hok1 x hx).chg (Chg.of_below (ws := []) hb7) (by intro i hi; cases hi)
        have hok2 : ∀ x ∈ outs2, x.Ok w7 := fun x hx => (hok2 x hx).chg (Chg.of_below (ws := []) hb7) (by intro i hi; cases hi)
        have ht7 := ht7.swap
        clear ht2 hb7
        go_wp2_with fail
        refine (epoch_two ht7 sG).mono ?_
        rintro e w8 ⟨y, rfl, hb8, ht8⟩
        have hown1 := own_ext hown1 (W1 := w8) (fun g hg => hb8.block g (hown1.lt g hg).2)
        have hown2 := own_ext hown2 (W1 := w8) (fun g hg => hb8.block g (hown2.lt g hg).2)
        have hok1 : ∀ x ∈ outs1, x.Ok w8 := fun x hx => (hok1 x hx).chg (Chg.of_below (ws := []) hb8) (by intro i hi; cases hi)
        have hok2 : ∀ x ∈ outs2, x.Ok w8 := fun x hx => (hok2 x hx).chg (Chg.of_below (ws := []) hb8) (by intro i hi; cases hi)
        have HB := Lib.hid ht8.below
        obtain ⟨C0, A0, ⟨⟨⟨hap, hl1⟩, hl2⟩, hx⟩, hy⟩ := ht8.some
        obtain ⟨hlw, hep⟩ := geq_out hap.1
        have hm100 : log1.length ≤ 2000000000000 := by
          have := ap_log hap
          rw [hl1] at this
          omega
        rw [hl1, hl2] at hlw
        rw [hx, hy] at hep
        subst hep
        have hww : outs1.map En.what = outs2.map En.what := by rw [hwh1, hwh2, hlw]
        have hlen : log1.length = log2.length := by have := congrArg List.length hlw; simpa using this
        have hol1 : outs1.length = log1.length := by have := congrArg List.length hwh1; simpa using this
        have hol2 : outs2.length = log1.length := by have := congrArg List.length hwh2; rw [hlen]; simpa using this
        rw [← hlen] at hown2
        rw [← hlen]
        generalize log1.length = m at *
        have HO1 := Lib.hid hown1
        have HO2 := Lib.hid hown2
        have HK1 := Lib.hid hok1
        have HK2 := Lib.hid hok2
        have HWW := Lib.hid hww
        clear hown1 hown2 hok1 hok2 hww ht7 ht8 hb8 hap hl1 hl2 hx hy hlw hwh1 hwh2 hlen
        obtain ⟨y1, y2⟩ := x
        dsimp only
        go_wp2_with fail
        go_loopw [15] (fun s15 wr => ∃ j : Nat, j ≤ m ∧ s15 = .int .i64 j ∧ Hid (Below w8.heap.size w8 wr)) (fun s15 _ => (m - intOf s15).toNat)
        case atStart => exact ⟨0, by omega, rfl, Lib.hid (Below.refl _ _)⟩
        case round =>
        obtain ⟨j, hj, rfl, HJ⟩ := hrel
        by_cases hjm : j < m
        · have hlj : decide ((j : Int) < (m : Int)) = true := by simp; omega
          have hjn : (j : Int) < (m : Int) := by omega
          obtain ⟨g1, k1, hf1⟩ := own_form HO1.out (by omega)
          obtain ⟨rfl, rfl⟩ : p1 = some ⟨g1, 0, none⟩ ∧ c1 = k1 := by
            cases hf1
            exact ⟨rfl, rfl⟩
          obtain ⟨g2, k2, hf2⟩ := own_form HO2.out (by omega)
          obtain ⟨rfl, rfl⟩ : p2 = some ⟨g2, 0, none⟩ ∧ c2 = k2 := by
            cases hf2
            exact ⟨rfl, rfl⟩
          clear hf1 hf2
          obtain ⟨x1, hx1⟩ : ∃ x, outs1[j]? = some x := ⟨_, List.getElem?_eq_getElem (by omega)⟩
          obtain ⟨x2, hx2⟩ : ∃ x, outs2[j]? = some x := ⟨_, List.getElem?_eq_getElem (by omega)⟩
          have hwx : x1.what = x2.what := by
            have h := congrArg (fun l => l[j]?) HWW.out
            simpa [hx1, hx2] using h
          have ow1 := own_ext HO1.out (W1 := wr) (fun g hg => HJ.out.block g (HO1.out.lt g hg).2)
          have ow2 := own_ext HO2.out (W1 := wr) (fun g hg => HJ.out.block g (HO2.out.lt g hg).2)
          have hf1 := eflat_len outs1
          have hf2 := eflat_len outs2
          have b1 := (((HK1.out x1 (List.mem_of_getElem? hx1)).chg (Chg.of_below (ws := []) HJ.out) (by intro i hi; cases hi)).1).bs
          have b2 := (((HK2.out x2 (List.mem_of_getElem? hx2)).chg (Chg.of_below (ws := []) HJ.out) (by intro i hi; cases hi)).1).bs
          have e10 : wr.cell? ⟨g1, j * 3, none⟩ = some (.int .i64 x1.ep) := by
            have h := ow1.cellAt (j * 3 + 0) (by omega)
            rw [eflat_get hx1 0 (by omega)] at h
            exact h
          have e12 : wr.cell? ⟨g1, j * 3 + 2, none⟩ = some (.slice (some ⟨x1.q, 0, none⟩) x1.n x1.c) := by
            rw [ow1.cellAt (j * 3 + 2) (by omega), eflat_get hx1 2 (by omega)]
            rfl
          have e20 : wr.cell? ⟨g2, j * 3, none⟩ = some (.int .i64 x2.ep) := by
            have h := ow2.cellAt (j * 3 + 0) (by omega)
            rw [eflat_get hx2 0 (by omega)] at h
            exact h
          have e22 : wr.cell? ⟨g2, j * 3 + 2, none⟩ = some (.slice (some ⟨x2.q, 0, none⟩) x2.n x2.c) := by
            rw [ow2.cellAt (j * 3 + 2) (by omega), eflat_get hx2 2 (by omega)]
            rfl
          obtain ⟨e1, d1, q1, n1, c1', l1⟩ := x1
          obtain ⟨e2, d2, q2, n2, c2', l2⟩ := x2
          simp only [En.what, Prod.mk.injEq] at hwx
          obtain ⟨rfl, _, rfl⟩ := hwx
          dsimp only at b1 b2 e10 e12 e20 e22
          have cv1 := fun k => conv_str (cap := c1') (bs_drewN b1 k)
          have cv2 := fun k => conv_str (cap := c2') (bs_drewN b2 k)
          clear hx1 hx2 ow1 ow2 hf1 hf2
          go_wp2_with fail
          go_quiet (fail)
          go_wp2_with fail
          go_roundw
          case rel => exact ⟨j + 1, by omega, rfl, Lib.hid (bel_dr HJ.out _)⟩
          case measure => simp [intOf]; omega
        · obtain rfl : j = m := by omega
          have hlj : decide ((j : Int) < (j : Int)) = false := by simp
          go_wp2_with fail
          go_ret
          exact ⟨rfl, below_thru HB.out HJ.out⟩
end Go.Proofs.Ytiebggfpjkhlaaa
