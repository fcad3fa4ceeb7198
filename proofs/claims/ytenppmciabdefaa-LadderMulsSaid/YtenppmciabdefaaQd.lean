/- The walks of slices.Clone at bytes, ladder.Clamp, synodref05.Clamp. The bits of a key as a sequence: ladder.bits. No condition. -/
import Derived.Test.YtenppmciabdefaaJa
import Derived.Laws.OwnMore
import Derived.RangeFuncNested
import Derived.RangeFuncBound
import Derived.RangeFuncCalls
import Derived.RangeFuncLeaves
import Derived.Shelf.Abstract
import Derived.Shelf.RegionOpen
import Derived.WalkKit
import Derived.OwnWalkIn
import Derived.TacticsInMore
import Derived.LoopNIn
import Derived.LoopIn
import Derived.Test.YtenppmciabdefaaRh
namespace Go.Proofs.Ytenppmciabdefaa
open Go Go.RowKit
theorem own_slice {w : World} {base e n : Nat} {v : Value} {xs : List Value} (h : w.ownsRow base e 1 v n xs) (hn : 0 < n) :
    ∃ g cap, v = .slice (some ⟨g, 0, none⟩) n cap ∧ n ≤ cap ∧ cap ≤ maxLen ∧ base ≤ g ∧ g < w.heap.size := by
  rcases h.2 with ⟨_, h0⟩ | ⟨g, cap, cur, rfl, hg, hh, hc1, hc2, hc3, hc4⟩
  · omega
  · exact ⟨g, cap, rfl, hc1, hc2, hg, (Array.getElem?_eq_some_iff.1 hh).1⟩
theorem Bs.of_ownG {w : World} {base e n g cap : Nat} {l : List Int} (h : w.ownsRow base e 1 (.slice (some ⟨g, 0, none⟩) n cap) n (l.map (Value.int .u8))) (hl : ∀ x ∈ l, 0 ≤ x ∧ x < 256) : Bs w (some ⟨g, 0, none⟩) n l := by
  have hlen : l.length = n := by have := h.1; simpa using this
  refine ⟨hlen, hl, fun _ => ⟨g, 0, rfl, fun i hi => ?_⟩⟩
  rw [Nat.zero_add, h.cellAt i (by omega)]
  simp [List.getD, show i < l.length by omega]
set_option maxRecDepth 100000 in
set_option maxHeartbeats 1000000 in
theorem clone_any (p : Option Addr) (n cap : Nat) (l : List Int) (w : World) (hn : 0 < n) (hn2 : n ≤ 140737488351232) (hr : Bs w p n l) :
    Calls Try.prog 80 #[.slice p n cap] w fun e w' => ∃ g cap', e = .returned (.slice (some ⟨g, 0, none⟩) n cap') ∧ n ≤ cap' ∧ cap' ≤ maxLen ∧ w.heap.size ≤ g ∧ w'.ownsRow w.heap.size 5 1 (.slice (some ⟨g, 0, none⟩) n cap') n (l.map (Value.int .u8)) ∧ Below w.heap.size w w' := by
  obtain ⟨i0, hi0, hz0, hz1, hz2⟩ := info_parts infoB
  obtain ⟨B, off, rfl, _⟩ := hr.2.2 hn
  have hB : Bs (w.alloc (.cells #[] 5)) (some ⟨B, off, none⟩) n l := hr.keep ((Below.refl _ _).alloc (Nat.le_refl _) _)
  have hnil : ∀ w, (binOp .eql 22 (.slice (some ⟨B, off, none⟩) n cap) (.slice none 0 0)).run Try.prog w = .ok (.bool false) w := fun w => Lib.run_eql_slice_nil w _ 5 _ _ _ _ _ Try.underlying22
  go_enter Try.func80, Try.ntmps80
  go_wp2_with (at_builtin; refine wpList_append_bs _ rfl (.tmp 5) (.tmp 6) 22 rfl w.heap.size 5 i0 (.int .u8 0) 1 Try.underlying22 hi0 hz0 hz1 hz2 rfl _ 0 [] rfl (World.ownsRow_made w #[] 0 (Nat.le_refl _) (by unfold maxLen; omega) rfl) (some ⟨B, off, none⟩) n cap l rfl hB (by unfold maxLen; omega) (by omega) (by simp) ?_; intro v1 w1 hown1 hg1 hat1; have hb1 := ((Below.refl w.heap.size w).alloc (Nat.le_refl _) (.cells #[] 5)).grown hg1 (by simp) (fun k hk => by simp [Value.ownBlock, Act.eval] at hk; omega); rw [Nat.zero_add, List.nil_append] at hown1; obtain ⟨g, c1, rfl, hc1, hc2, hgg, hlt⟩ := own_slice hown1 hn; clear hg1 hat1)
  go_ret
  exact ⟨g, c1, rfl, hc1, hc2, hgg, hown1, hb1⟩
/-- The clamped bytes. -/
def clampL (l : List Int) : List Int := (l.set 0 (l.getD 0 0 / 8 * 8)).set 31 (l.getD 31 0 % 64 + 64)
theorem clampL_length (l : List Int) : (clampL l).length = l.length := by simp [clampL]
theorem getD_setB (L : List Int) (k : Nat) (x : Int) (j : Nat) (hk : k < L.length) : (L.set k x).getD j 0 = if j = k then x else L.getD j 0 := by
  rw [List.getD_eq_getElem?_getD, List.getElem?_set]
  by_cases h : j = k
  · subst h; simp [hk]
  · rw [if_neg (Ne.symm h), if_neg h, List.getD_eq_getElem?_getD]
theorem byte_at {l : List Int} (hb : ∀ x ∈ l, 0 ≤ x ∧ x < 256) (j : Nat) : 0 ≤ l.getD j 0 ∧ l.getD j 0 < 256 := by
  rw [List.getD_eq_getElem?_getD]
  by_cases hj : j < l.length
  · rw [List.getElem?_eq_getElem hj, Option.getD_some]; exact hb _ (List.getElem_mem hj)
  · rw [List.getElem?_eq_none (by omega), Option.getD_none]; omega
theorem clampL_in {l : List Int} (hb : ∀ x ∈ l, 0 ≤ x ∧ x < 256) : ∀ x ∈ clampL l, 0 ≤ x ∧ x < 256 := by
  have h0 := byte_at hb 0
  have h31 := byte_at hb 31
  intro x hx
  rcases List.mem_or_eq_of_mem_set hx with hx | rfl
  · rcases List.mem_or_eq_of_mem_set hx with hx | rfl
    · exact hb x hx
    · omega
  · omega
/-- Bits of a byte that go or come, by trying each byte. -/
theorem u8_facts : ∀ n : Fin 256, bits .andNot .u8 (n.val : Int) 7 = (n.val : Int) / 8 * 8 ∧ bits .or .u8 ((n.val : Int) % 128) 64 = (n.val : Int) % 64 + 64 ∧
    bits .and .u8 (n.val : Int) 248 = (n.val : Int) / 8 * 8 ∧ bits .andNot .u8 (n.val : Int) 128 = (n.val : Int) % 128 ∧ bits .and .u8 (n.val : Int) 127 = (n.val : Int) % 128 := by
  decide +kernel
theorem u8_fact (x : Int) (h : 0 ≤ x ∧ x < 256) : bits .andNot .u8 x 7 = x / 8 * 8 ∧ bits .or .u8 (x % 128) 64 = x % 64 + 64 ∧
    bits .and .u8 x 248 = x / 8 * 8 ∧ bits .andNot .u8 x 128 = x % 128 ∧ bits .and .u8 x 127 = x % 128 := by
  have := u8_facts ⟨x.toNat, by omega⟩
  simpa [Int.toNat_of_nonneg h.1] using this
theorem set_map (l : List Int) (j : Nat) (x : Int) : (l.map (Value.int .u8)).set j (.int .u8 x) = (l.set j x).map (Value.int .u8) := by rw [List.map_set]
/-- A byte of a row of the call's own is written. -/
theorem own_set {w0 w : World} {base g cap : Nat} {l : List Int} (h : w.ownsRow base 5 1 (.slice (some ⟨g, 0, none⟩) 32 cap) 32 (l.map (Value.int .u8))) (hb : Below base w0 w) (hbase : base ≤ w.heap.size) (j : Nat) (x : Int) :
    (w.setCell ⟨g, j, none⟩ (.int .u8 x)).ownsRow base 5 1 (.slice (some ⟨g, 0, none⟩) 32 cap) 32 ((l.set j x).map (Value.int .u8)) ∧ Below base w0 (w.setCell ⟨g, j, none⟩ (.int .u8 x)) := by
  obtain ⟨h1, h2⟩ := h.stored j (.int .u8 x)
  rw [set_map] at h1
  refine ⟨h1, hb.grown h2 hbase fun k hk => ?_⟩
  simp at hk
  subst hk
  exact (h.lt g rfl).1
theorem own_cell {w : World} {base g cap : Nat} {l : List Int} (h : w.ownsRow base 5 1 (.slice (some ⟨g, 0, none⟩) 32 cap) 32 (l.map (Value.int .u8))) (hl : l.length = 32) (j : Nat) (hj : j < 32) : w.cell? ⟨g, j, none⟩ = some (.int .u8 (l.getD j 0)) := by
  rw [h.cellAt j (by omega)]
  simp [List.getD, show j < l.length by omega]
theorem clamp_no (p : Option Addr) (n cap : Nat) (w : World) (hn : n ≠ 32) : Calls Try.prog 53 #[.slice p n cap] w fun e w' => e = .returned (.tuple #[.slice none 0 0, .int .i64 1]) ∧ w = w' := by
  have hd : ((n : Int) != 32) = true := by rw [bne_iff_ne]; omega
  go_enter Try.func53, Try.ntmps53
  go_wp2
  go_ret2
  exact ⟨rfl, rfl⟩
set_option maxRecDepth 100000 in
set_option maxHeartbeats 1000000 in
theorem clamp_yes (p : Option Addr) (cap : Nat) (l : List Int) (w : World) (hr : Bs w p 32 l) :
    Calls Try.prog 53 #[.slice p 32 cap] w fun e w' => ∃ g cap', e = .returned (.tuple #[.slice (some ⟨g, 0, none⟩) 32 cap', .int .i64 0]) ∧ 32 ≤ cap' ∧ cap' ≤ maxLen ∧ w.heap.size ≤ g ∧ g < w'.heap.size ∧ Bs w' (some ⟨g, 0, none⟩) 32 (clampL l) ∧ Below w.heap.size w w' := by
  have HL := Lib.hid hr.1
  have HM := Lib.hid hr.2.1
  go_enter Try.func53, Try.ntmps53
  go_wp2_with fail
  refine (clone_any p 32 cap l _ (by omega) (by omega) hr).mono ?_
  rintro e w1 ⟨g, c1, rfl, hc1, hc2, hg, hown, hb⟩
  have x0 := byte_at HM.out 0
  have x31 := byte_at HM.out 31
  have q0 := own_cell hown HL.out 0 (by omega)
  have f0 := hown.frozenAt 0
  obtain ⟨hown2, hb2⟩ := own_set hown hb hb.size 0 (l.getD 0 0 / 8 * 8)
  have q31 := own_cell hown2 (by rw [List.length_set]; exact HL.out) 31 (by omega)
  rw [getD_setB _ _ _ _ (by rw [HL.out]; omega), if_neg (by omega)] at q31
  have f31 := hown2.frozenAt 31
  obtain ⟨hown3, hb3⟩ := own_set hown2 hb2 hb2.size 31 (l.getD 31 0 % 64 + 64)
  have hcl : Hid ((l.set 0 (l.getD 0 0 / 8 * 8)).set 31 (l.getD 31 0 % 64 + 64) = clampL l) := rfl
  obtain ⟨u1, _⟩ := u8_fact _ x0
  obtain ⟨_, u2, _, u3, u4⟩ := u8_fact _ x31
  generalize l.getD 0 0 = a at *
  generalize l.getD 31 0 = c at *
  rw [hcl.out] at hown3
  have HO := Lib.hid hown3
  have HB := Lib.hid hb3
  clear hown hb hown2 hb2 hown3 hb3 hr
  go_wp2
  go_ret2
  exact ⟨g, c1, rfl, hc1, hc2, hg, (HO.out.lt g rfl).2, Bs.of_ownG HO.out (clampL_in HM.out), HB.out⟩
theorem mclamp_no (p : Option Addr) (n cap : Nat) (w : World) (hn : n ≠ 32) : Calls Try.prog 54 #[.slice p n cap] w fun e w' => e = .returned (.tuple #[.slice none 0 0, .int .i64 1]) ∧ w = w' := by
  have hd : ((n : Int) != 32) = true := by rw [bne_iff_ne]; omega
  go_enter Try.func54, Try.ntmps54
  go_wp2
  go_ret2
  exact ⟨rfl, rfl⟩
set_option maxRecDepth 100000 in
set_option maxHeartbeats 1000000 in
theorem mclamp_yes (p : Option Addr) (cap : Nat) (l : List Int) (w : World) (hr : Bs w p 32 l) :
    Calls Try.prog 54 #[.slice p 32 cap] w fun e w' => ∃ g cap', e = .returned (.tuple #[.slice (some ⟨g, 0, none⟩) 32 cap', .int .i64 0]) ∧ 32 ≤ cap' ∧ cap' ≤ maxLen ∧ w.heap.size ≤ g ∧ g < w'.heap.size ∧ Bs w' (some ⟨g, 0, none⟩) 32 (clampL l) ∧ Below w.heap.size w w' := by
  have HL := Lib.hid hr.1
  have HM := Lib.hid hr.2.1
  obtain ⟨i0, hi0, hz0, hz1, hz2⟩ := info_parts infoB
  have hB : Bs (w.alloc (.cells #[] 5)) p 32 l := hr.keep ((Below.refl _ _).alloc (Nat.le_refl _) _)
  go_enter Try.func54, Try.ntmps54
  go_wp2_with (at_builtin; refine wpList_append_bs _ rfl (.tmp 8) (.tmp 9) 22 rfl w.heap.size 5 i0 (.int .u8 0) 1 Try.underlying22 hi0 hz0 hz1 hz2 rfl _ 0 [] rfl (World.ownsRow_made w #[] 0 (Nat.le_refl _) (by unfold maxLen; omega) rfl) p 32 cap l rfl hB (by unfold maxLen; omega) (by omega) (by simp) ?_; intro v1 w1 hown hg1 hat1; have hb := ((Below.refl w.heap.size w).alloc (Nat.le_refl _) (.cells #[] 5)).grown hg1 (by simp) (fun k hk => by simp [Value.ownBlock, Act.eval] at hk; omega); rw [Nat.zero_add, List.nil_append] at hown; obtain ⟨g, c1, rfl, hc1, hc2, hg, hlt⟩ := own_slice hown (by omega); clear hg1 hat1; have x0 := byte_at HM.out 0; have x31 := byte_at HM.out 31; have q0 := own_cell hown HL.out 0 (by omega); have f0 := hown.frozenAt 0; obtain ⟨hown2, hb2⟩ := own_set hown hb hb.size 0 (l.getD 0 0 / 8 * 8); have q31 := own_cell hown2 (by rw [List.length_set]; exact HL.out) 31 (by omega); rw [getD_setB _ _ _ _ (by rw [HL.out]; omega), if_neg (by omega)] at q31; have f31 := hown2.frozenAt 31; obtain ⟨hown3, hb3⟩ := own_set hown2 hb2 hb2.size 31 (l.getD 31 0 % 64 + 64); have hcl : Hid ((l.set 0 (l.getD 0 0 / 8 * 8)).set 31 (l.getD 31 0 % 64 + 64) = clampL l) := rfl; obtain ⟨u1, _⟩ := u8_fact _ x0; obtain ⟨_, u2, _, u3, u4⟩ := u8_fact _ x31; generalize l.getD 0 0 = a at *; generalize l.getD 31 0 = c at *; rw [hcl.out] at hown3; have HO := Lib.hid hown3; have HB := Lib.hid hb3; clear hown hb hown2 hb2 hown3 hb3 hr hB)
  go_ret2
  exact ⟨g, c1, rfl, hc1, hc2, hg, (HO.out.lt g rfl).2, Bs.of_ownG HO.out (clampL_in HM.out), HB.out⟩
end Go.Proofs.Ytenppmciabdefaa
namespace Go.Proofs.Ytenppmciabdefaa
open Go Go.RowKit Go.Shelf
attribute [local go_sem] Oper.semAt_some
/-- Bit i of a key. -/
def bitB (kl : List Int) (i : Nat) : Bool := kl.getD (i / 8) 0 / 2 ^ (i % 8) % 2 == 1
/-- The key's bits from the top. -/
def bitL (kl : List Int) : List Bool := (List.range 255).map fun j => bitB kl (254 - j)
theorem bitL_length (kl : List Int) : (bitL kl).length = 255 := by simp [bitL]
theorem bitL_next (kl : List Int) (m : Nat) (hm : m < 255) : (bitL kl).take (m + 1) = (bitL kl).take m ++ [bitB kl (254 - m)] := by
  rw [List.take_succ_eq_append_getElem (by rw [bitL_length]; exact hm)]
  simp [bitL]
theorem and_u8_1 (x : Int) : bits .and .u8 x 1 = x % 2 := by
  have e0 : ∀ a b : Int, bits .and .u8 a b = IntKind.u8.wrap ((BitVec.ofInt 8 a &&& BitVec.ofInt 8 b).toNat : Int) := fun _ _ => rfl
  rw [e0, BitVec.toNat_and, BitVec.toNat_ofInt, BitVec.toNat_ofInt]
  have e2 : (((1 : Int) % ((2 ^ 8 : Nat) : Int)).toNat) = 2 ^ 1 - 1 := by decide
  rw [e2, Nat.and_two_pow_sub_one_eq_mod]
  have e3 : (((x % ((2 ^ 8 : Nat) : Int)).toNat % 2 ^ 1 : Nat) : Int) = x % 2 := by omega
  rw [e3]
  unfold IntKind.wrap
  simp [IntKind.signed, IntKind.bits]
  omega
/-- What a round keeps. -/
def KpB (L b : Nat) (A B : World) : Prop := ∀ i, i < L → i ≠ b → B.heap[i]? = A.heap[i]?
set_option maxRecDepth 100000 in
set_option maxHeartbeats 4000000 in
theorem bits_stops (n : Nat) (hn : 1 ≤ n) (L b box gk ck : Nat) (kl : List Int) (w : World) (hL : L ≤ w.heap.size) (hbox : box < L) (hgk : gk < L) (hbb : box ≠ b) (hgb : gk ≠ b) (hkb : ∀ x ∈ kl, 0 ≤ x ∧ x < 256)
    (hc : w.cell? ⟨box, 0, none⟩ = some (.slice (some ⟨gk, 0, none⟩) 32 ck)) (hk : ∀ i, i < 32 → w.cell? ⟨gk, i, none⟩ = some (.int .u8 (kl.getD i 0))) :
    SeqStopsK Fence.wide n Try.prog 98 #[.pointer (some ⟨box, 0, none⟩)] (fun x : Bool => #[.bool x]) (KpB L b) (fun xs => xs = bitL kl) (fun _ => True) 255 w := by
  intro l J Jx W hW hJ hJx hY h0
  have hcW : W.cell? ⟨box, 0, none⟩ = some (.slice (some ⟨gk, 0, none⟩) 32 ck) := by rw [hW.cell (p := ⟨box, 0, none⟩) (by show box < _; omega)]; exact hc
  have hkW : ∀ i, i < 32 → W.cell? ⟨gk, i, none⟩ = some (.int .u8 (kl.getD i 0)) := fun i hi => by rw [hW.cell (p := ⟨gk, i, none⟩) (by show gk < _; omega)]; exact hk i hi
  have HK := Lib.hid hkW
  have HC := Lib.hid hcW
  have HY := Lib.hid hY
  clear hc hk hkW hcW hY
  have h1 := and_u8_1
  refine callsIn_of_wp Try.func98 rfl trivial ?_ rfl
  simp only [Try.ntmps98, List.size_toArray, List.length_cons, List.length_nil, Nat.reduceAdd, Nat.reduceSub, Array.replicate_succ, Array.replicate_zero, List.push_toArray, List.append_toArray, List.nil_append, List.cons_append]
  gi_wp2
  gi_loopw [3] (fun i wr => ∃ (m : Nat) (z : Int), m ≤ 255 ∧ z = 254 - (m : Int) ∧ i = .int .i64 z ∧ J ((bitL kl).take m) wr ∧ wr.heap[box]? = W.heap[box]? ∧ wr.heap[gk]? = W.heap[gk]?) (fun i wr => (intOf i + 1).toNat)
  case atStart => exact ⟨0, 254, by omega, by omega, rfl, by simpa using h0, rfl, rfl⟩
  case round =>
    obtain ⟨m, z, hm, hz, rfl, hj, hb1, hb2⟩ := hrel
    by_cases hlt : m < 255
    · obtain ⟨i, hi⟩ : ∃ i : Nat, i = 254 - m := ⟨_, rfl⟩
      obtain rfl : z = (i : Int) := by omega
      have hi254 : i ≤ 254 := by omega
      have cb := (World.cell?_of_block (w := W) (a := ⟨box, 0, none⟩) hb1).trans HC.out
      have ck' := (World.cell?_of_block (w := W) (a := ⟨gk, i / 8, none⟩) hb2).trans (HK.out (i / 8) (by omega))
      obtain ⟨fn, tmps, assign, body, hy, hR⟩ := HY.out ((bitL kl).take m) (bitB kl i) wr hj (by rw [List.length_take, bitL_length]; omega)
      have hnx := bitL_next kl m hlt
      rw [← hi] at hnx
      have xb := byte_at hkb (i / 8)
      have hbit : bitB kl i = (kl.getD (i / 8) 0 / 2 ^ (i % 8) % 2 == 1) := rfl
      rw [hbit] at hy hR hnx
      have eq : (i : Int) / 8 = ((i / 8 : Nat) : Int) := by omega
      have er : (i : Int) % 8 = ((i % 8 : Nat) : Int) := by omega
      have hq : i / 8 < 32 := by omega
      have hr8 : i % 8 < 8 := by omega
      have hge : decide ((i : Int) ≥ 0) = true := by simp
      generalize kl.getD (i / 8) 0 = c at *
      generalize i / 8 = q at *
      generalize i % 8 = r at *
      have HNX := Lib.hid hnx
      have HI := Lib.hid hi
      have HB1 := Lib.hid hb1
      have HB2 := Lib.hid hb2
      have HZ := Lib.hid hz
      clear hnx hi hbit hb1 hb2 hz
      gi_wp2
      refine hR.mono ?_
      rintro e W3 (⟨rfl, hJ3, hk3⟩ | ⟨rfl, hJx3⟩)
      · have g1 : W3.heap[box]? = W.heap[box]? := (hk3 box hbox hbb).trans HB1.out
        have g2 : W3.heap[gk]? = W.heap[gk]? := (hk3 gk hgk hgb).trans HB2.out
        have hz := HZ.out
        have HG := Lib.hid (And.intro g1 g2)
        clear hk3 g1 g2 cb ck' hz
        gi_wp2
        have hz := HZ.out
        go_roundw
        case rel => exact ⟨m + 1, (i : Int) - 1, by omega, by omega, rfl, by rw [HNX.out]; exact hJ3, HG.out.1, HG.out.2⟩
        case measure => simp [intOf]
      · gi_wp2
        go_end0
        exact ⟨⟨_, rfl⟩, .inr ⟨_, trivial, hJx3⟩⟩
    · obtain rfl : m = 255 := by omega
      obtain rfl : z = -1 := by omega
      clear hz
      rw [List.take_of_length_le (by rw [bitL_length]; omega)] at hj
      gi_wp2
      refine ⟨fun _ h => (by cases h), ?_⟩
      gi_wp2
      go_end0
      exact ⟨⟨_, rfl⟩, .inl ⟨_, rfl, hj⟩⟩
end Go.Proofs.Ytenppmciabdefaa
