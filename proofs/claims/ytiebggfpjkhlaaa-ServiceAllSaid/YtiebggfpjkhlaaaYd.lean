/- Who waits: the subscribers' rows, full or not. No condition. -/
import Derived.Test.YtiebggfpjkhlaaaYc
namespace Go.Proofs.Ytiebggfpjkhlaaa
open Go Go.RowKit
set_option linter.unusedSimpArgs false
attribute [local go_sem] map_neq_some map_neq_nil
/-- So many wait for a name. -/
def Cnt (W : World) (m2 : Nat) (s : ByteArray) (n : Nat) : Prop := ∃ es clock E, W.heap[m2]? = some (.map es clock) ∧ MapIs es E ∧
  ((look E s = none ∧ n = 0) ∨ ∃ r v xs B, look E s = some r ∧ W.heap[r]? = some (rowB v) ∧ W.ownsRow B 38 5 v n xs)
theorem Cnt.keep {W W' : World} {m2 n : Nat} {s : ByteArray} (h : Cnt W m2 s n) (hb : Below W.heap.size W W') : Cnt W' m2 s n := by
  obtain ⟨es, clock, E, h1, h2, h3⟩ := h
  refine ⟨es, clock, E, blk_stay hb h1, h2, ?_⟩
  rcases h3 with h3 | ⟨r, v, xs, B, g1, g2, g3⟩
  · exact .inl h3
  · exact .inr ⟨r, v, xs, B, g1, blk_stay hb g2, own_ext g3 (fun g hg => hb.block g (g3.lt g hg).2)⟩
set_option maxRecDepth 100000 in
set_option maxHeartbeats 4000000 in
theorem waiting_cnt (b m0 m1 m2 n : Nat) (s : ByteArray) (hs : 1 ≤ s.size ∧ s.size ≤ 255) (W : World) (hb : W.heap[b]? = some (svc m0 m1 m2)) (hc : Cnt W m2 s n) :
    Calls Try.prog 18 #[.pointer (some ⟨b, 0, none⟩), .string s] W fun e W' => e = .returned (.int .i64 n) ∧ Below W.heap.size W W' := by
  obtain ⟨es, clock, E, hm, hE, ⟨hl, rfl⟩ | ⟨r, v, xs, B, hl, hr, ho⟩⟩ := hc
  · obtain ⟨y, hy, _, hno⟩ := find_names s es.toList E 0 hE
    obtain rfl := hno hl
    have hbel : Below W.heap.size W (W.alloc (.cells #[.string s] 9)) := (Below.refl _ _).alloc (Nat.le_refl _) _
    have hb1 := blk_stay hbel hb
    have hm1 := blk_stay hbel hm
    have cb1 : (W.alloc (.cells #[.string s] 9)).cell? ⟨b, 2, none⟩ = some (.map (some m2)) := (cell_of_row _ b 2 _ _ _ hb1).trans rfl
    have hmay := may_one (c := 1) hb1 (alloc_at W (.cells #[.string s] 9)) hs
    have HY := Lib.hid hy
    clear hl hE hb hm hb1 hy hno
    go_enter Try.func18, Try.ntmps18
    go_wp2_with fail
    refine hmay.mono ?_
    rintro e w' ⟨rfl, rfl⟩
    go_wp2_with (first | (at_lookup; refine wpList_lookW rfl 55 9 72 _ _ rfl Try.underlying55 Try.underlying9 m2 s rfl rfl es clock hm1 (.pointer none) zero_r none HY.out (.pointer none) rfl ?_))
    go_ret
    exact ⟨rfl, hbel⟩
  · exact waiting_any b m0 m1 m2 clock r n es E s hs W hb hm hE hl B v xs hr ho
/-- Is the row of one full? -/
theorem pred_cnt (b m0 m1 m2 p n : Nat) (s : ByteArray) (hs : 1 ≤ s.size ∧ s.size ≤ 255) (W : World) (hb : W.heap[b]? = some (svc m0 m1 m2)) (hc : Cnt W m2 s n) (hp : W.cell? ⟨p, 0, none⟩ = some (.pointer (some ⟨b, 0, none⟩))) :
    Calls Try.prog 27 #[.string s, .pointer (some ⟨p, 0, none⟩)] W fun e W' => e = .returned (.bool (decide (256 ≤ n))) ∧ Below W.heap.size W W' := by
  have hw := waiting_cnt b m0 m1 m2 n s hs W hb hc
  have hd : decide ((n : Int) ≥ 256) = decide (256 ≤ n) := by
    rw [decide_eq_decide]
    omega
  clear hc hb
  go_enter Try.func27, Try.ntmps27
  go_wp2_with fail
  refine hw.mono ?_
  rintro e w' ⟨rfl, hb⟩
  go_wp2_with fail
  go_ret
  exact ⟨by rw [← hd]; simp, hb⟩
/-- The subscribers, as the group's row holds them, and how many entries wait for each. -/
structure Subs (W : World) (b m0 m1 m2 p g k : Nat) (nm : Nat → ByteArray) (cn : Nat → Nat) : Prop where
  svc_ : W.heap[b]? = some (svc m0 m1 m2)
  ptr : W.cell? ⟨p, 0, none⟩ = some (.pointer (some ⟨b, 0, none⟩))
  names : ∀ j, j < k → W.cell? ⟨g, j, none⟩ = some (.string (nm j))
  sizes : ∀ j, j < k → 1 ≤ (nm j).size ∧ (nm j).size ≤ 255
  cnt : ∀ j, j < k → Cnt W m2 (nm j) (cn j)
theorem Subs.keep {W W' : World} {b m0 m1 m2 p g k : Nat} {nm : Nat → ByteArray} {cn : Nat → Nat} (h : Subs W b m0 m1 m2 p g k nm cn) (hb : Below W.heap.size W W') : Subs W' b m0 m1 m2 p g k nm cn :=
  ⟨blk_stay hb h.svc_, (hb.cell (p := ⟨p, 0, none⟩) (World.block_lt_of_cell? W _ h.ptr)).trans h.ptr,
    fun j hj => (hb.cell (p := ⟨g, j, none⟩) (World.block_lt_of_cell? W _ (h.names j hj))).trans (h.names j hj), h.sizes, fun j hj => (h.cnt j hj).keep hb⟩
set_option maxRecDepth 100000 in
set_option maxHeartbeats 4000000 in
theorem idx_free (b m0 m1 m2 p g c k : Nat) (nm : Nat → ByteArray) (cn : Nat → Nat) (W : World) (hk : k ≤ 100) (h : Subs W b m0 m1 m2 p g k nm cn) (hf : ∀ j, j < k → cn j < 256) :
    Calls Try.prog 40 #[.slice (some ⟨g, 0, none⟩) k c, .func (.func 27) #[] #[.pointer (some ⟨p, 0, none⟩)]] W fun e W' => e = .returned (.int .i64 (-1)) ∧ Below W.heap.size W W' := by
  have HS := Lib.hid h
  have HF := Lib.hid hf
  clear h hf
  go_enter Try.func40, Try.ntmps40
  go_wp2_with fail
  go_loopw [8] (fun i wr => ∃ j : Nat, j ≤ k ∧ i = .int .i64 j ∧ Below W.heap.size W wr) (fun i _ => (k - intOf i).toNat)
  case atStart => exact ⟨0, by omega, rfl, Below.refl _ _⟩
  case round =>
    obtain ⟨j, hj, rfl, hb⟩ := hrel
    have HB := Lib.hid hb
    clear hb
    by_cases hlt : j < k
    · have hs := HS.out.keep HB.out
      have hcell := hs.names j hlt
      have hpr := pred_cnt b m0 m1 m2 p (cn j) (nm j) (hs.sizes j hlt) wr hs.svc_ (hs.cnt j hlt) hs.ptr
      have hd : decide (256 ≤ cn j) = false := by have := HF.out j hlt; simp; omega
      rw [hd] at hpr
      have hl : decide ((j : Int) < (k : Int)) = true := by simp; omega
      clear hs hd
      generalize nm j = s at *
      go_wp2_with fail
      refine hpr.mono ?_
      rintro e w' ⟨rfl, hb2⟩
      have HB2 := Lib.hid (below_thru HB.out hb2)
      clear hb2
      go_wp2_with fail
      go_roundw
      case rel => exact ⟨j + 1, by omega, rfl, HB2.out⟩
      case measure => simp [intOf]; omega
    · obtain rfl : j = k := by omega
      have hl : decide ((j : Int) < (j : Int)) = false := by simp
      go_wp2_with fail
      go_ret
      exact ⟨rfl, HB.out⟩
set_option maxRecDepth 100000 in
set_option maxHeartbeats 4000000 in
theorem idx_full (b m0 m1 m2 p g c k : Nat) (nm : Nat → ByteArray) (cn : Nat → Nat) (W : World) (h : Subs W b m0 m1 m2 p g k nm cn) (hk : 0 < k) (hf : 256 ≤ cn 0) :
    Calls Try.prog 40 #[.slice (some ⟨g, 0, none⟩) k c, .func (.func 27) #[] #[.pointer (some ⟨p, 0, none⟩)]] W fun e W' => e = .returned (.int .i64 0) ∧ Below W.heap.size W W' := by
  have hcell := h.names 0 hk
  have hpr := pred_cnt b m0 m1 m2 p (cn 0) (nm 0) (h.sizes 0 hk) W h.svc_ (h.cnt 0 hk) h.ptr
  have hd : decide (256 ≤ cn 0) = true := by simpa using hf
  rw [hd] at hpr
  clear h hd hf
  generalize nm 0 = s at *
  have hl : decide ((0 : Int) < (k : Int)) = true := by simp; omega
  go_enter Try.func40, Try.ntmps40
  go_wp2_with fail
  go_loopw [8] (fun i wr => i = .int .i64 0 ∧ wr = W) (fun _ _ => 0)
  case atStart => exact ⟨rfl, rfl⟩
  case round =>
    obtain ⟨rfl, rfl⟩ := hrel
    go_wp2_with fail
    refine hpr.mono ?_
    rintro e w' ⟨rfl, hb2⟩
    have HB2 := Lib.hid hb2
    clear hb2
    go_wp2_with fail
    go_ret
    exact ⟨rfl, HB2.out⟩
theorem cont_of (p g c k : Nat) (r : Int) (v : Bool) (hv : decide (r ≥ 0) = v) (W : World)
    (h : Calls Try.prog 40 #[.slice (some ⟨g, 0, none⟩) k c, .func (.func 27) #[] #[.pointer (some ⟨p, 0, none⟩)]] W fun e W' => e = .returned (.int .i64 r) ∧ Below W.heap.size W W') :
    Calls Try.prog 26 #[.slice (some ⟨g, 0, none⟩) k c, .func (.func 27) #[] #[.pointer (some ⟨p, 0, none⟩)]] W fun e W' => e = .returned (.bool v) ∧ Below W.heap.size W W' := by
  go_enter Try.func26, Try.ntmps26
  go_wp2_with fail
  refine h.mono ?_
  rintro e w' ⟨rfl, hb⟩
  go_wp2_with fail
  go_ret
  exact ⟨by first | rfl | (rw [← hv]; simp), hb⟩
/-- Nobody's row is full. -/
theorem cont_free (b m0 m1 m2 p g c k : Nat) (nm : Nat → ByteArray) (cn : Nat → Nat) (W : World) (hk : k ≤ 100) (h : Subs W b m0 m1 m2 p g k nm cn) (hf : ∀ j, j < k → cn j < 256) :
    Calls Try.prog 26 #[.slice (some ⟨g, 0, none⟩) k c, .func (.func 27) #[] #[.pointer (some ⟨p, 0, none⟩)]] W fun e W' => e = .returned (.bool false) ∧ Below W.heap.size W W' :=
  cont_of p g c k (-1) false (by decide) W (idx_free b m0 m1 m2 p g c k nm cn W hk h hf)
/-- The first one's row is full. -/
theorem cont_full (b m0 m1 m2 p g c k : Nat) (nm : Nat → ByteArray) (cn : Nat → Nat) (W : World) (h : Subs W b m0 m1 m2 p g k nm cn) (hk : 0 < k) (hf : 256 ≤ cn 0) :
    Calls Try.prog 26 #[.slice (some ⟨g, 0, none⟩) k c, .func (.func 27) #[] #[.pointer (some ⟨p, 0, none⟩)]] W fun e W' => e = .returned (.bool true) ∧ Below W.heap.size W W' :=
  cont_of p g c k 0 true (by decide) W (idx_full b m0 m1 m2 p g c k nm cn W h hk hf)
end Go.Proofs.Ytiebggfpjkhlaaa
