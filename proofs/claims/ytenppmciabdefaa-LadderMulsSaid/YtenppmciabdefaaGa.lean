/- Known blocks of reference numbers; the reference's functions by NumP alone; its small numbers. No condition. -/
import Derived.Test.YtenppmciabdefaaFb
namespace Go.Proofs.Ytenppmciabdefaa
open Go.RowKit
/-- The blocks of bl hold what they say; what stood in w stands. -/
def StN (w : World) (bl : List (Nat × Array Value)) (w' : World) : Prop :=
  (∀ p ∈ bl, w'.heap[p.1]? = some (.cells p.2 52 (0, 0))) ∧ Below w.heap.size w w'
theorem StN.at_ {w w' : World} {bl : List (Nat × Array Value)} (h : StN w bl w') {g : Nat} {cs : Array Value} (hm : (g, cs) ∈ bl) : w'.heap[g]? = some (.cells cs 52 (0, 0)) := h.1 _ hm
theorem StN.lt {w w' : World} {bl : List (Nat × Array Value)} (h : StN w bl w') {p : Nat × Array Value} (hm : p ∈ bl) : p.1 < w'.heap.size := (Array.getElem?_eq_some_iff.1 (h.1 _ hm)).1
theorem StN.size {w w' : World} {bl : List (Nat × Array Value)} (h : StN w bl w') : w.heap.size ≤ w'.heap.size := h.2.size
theorem StN.keep {w w1 w2 : World} {bl : List (Nat × Array Value)} (h : StN w bl w1) (hb : Below w1.heap.size w1 w2) : StN w bl w2 :=
  ⟨fun p hp => block_stay hb (h.1 p hp), h.2.trans (hb.mono h.size)⟩
theorem StN.alloc {w w1 : World} {bl : List (Nat × Array Value)} (h : StN w bl w1) (o : Obj) : StN w bl (w1.alloc o) := h.keep ((Below.refl _ _).alloc (Nat.le_refl _) _)
theorem StN.drew {w w1 : World} {bl : List (Nat × Array Value)} (h : StN w bl w1) : StN w bl w1.drew := ⟨h.1, h.2.drew⟩
theorem StN.drewN {w w1 : World} {bl : List (Nat × Array Value)} (h : StN w bl w1) (k : Nat) : StN w bl (w1.drewN k) := ⟨h.1, h.2.os, h.2.tape, h.2.output, h.2.size, h.2.block⟩
theorem StN.sub {w w1 : World} {bl bm : List (Nat × Array Value)} (h : StN w bl w1) (hs : ∀ p ∈ bm, p ∈ bl) : StN w bm w1 := ⟨fun p hp => h.1 p (hs p hp), h.2⟩
theorem StN.add {w w1 : World} {bl : List (Nat × Array Value)} (h : StN w bl w1) {g : Nat} {cs : Array Value} (hg : w1.heap[g]? = some (.cells cs 52 (0, 0))) : StN w ((g, cs) :: bl) w1 :=
  ⟨fun p hp => by
    rcases List.mem_cons.1 hp with rfl | hp
    · exact hg
    · exact h.1 p hp, h.2⟩
/-- A store into a block that is none of them. -/
theorem StN.store {w w1 : World} {bl : List (Nat × Array Value)} (h : StN w bl w1) {g : Nat} (hg : w.heap.size ≤ g) (hne : ∀ p ∈ bl, p.1 ≠ g) (cs : Array Value) : StN w bl (w1.setRow g cs) :=
  ⟨fun p hp => by rw [setRow_other _ _ _ _ (hne p hp)]; exact h.1 p hp, below_setRow h.2 hg _⟩
/-- A store into the block that a world's next one was. -/
theorem StN.storeNew {w w1 w2 : World} {bl : List (Nat × Array Value)} (h1 : StN w bl w1) (h : StN w bl w2) (cs : Array Value) : StN w bl (w2.setRow w1.heap.size cs) :=
  h.store h1.size (fun _ hp => Nat.ne_of_lt (h1.lt hp)) cs
/-- A store of what a block holds already. -/
theorem StN.storeSame {w w1 : World} {bl : List (Nat × Array Value)} (h : StN w bl w1) {g : Nat} (hg : w.heap.size ≤ g) {cs : Array Value} (hm : (g, cs) ∈ bl) : StN w bl (w1.setRow g cs) :=
  ⟨fun p hp => by
    by_cases he : p.1 = g
    · have h1 := h.1 p hp
      have h2 := h.at_ hm
      rw [he, h2] at h1
      injection h1 with h1
      injection h1 with h1
      rw [he, ← h1]
      exact setRow_here h2 cs
    · rw [setRow_other _ _ _ _ he]; exact h.1 p hp, below_setRow h.2 hg _⟩

/-- The result: a number that is N mod p. -/
def ResN (w : World) (N : Int) (e : Ending) (w' : World) : Prop := ∃ L, e = .returned (numV L) ∧ NumP L N ∧ Below w.heap.size w w'
theorem NumP.mod {L : List Int} {N M : Int} (h : NumP L N) (hm : PP ∣ N - M) : NumP L M := by
  refine ⟨h.1, h.2.1, ?_⟩
  obtain ⟨p, hp⟩ := h.2.2
  obtain ⟨q, hq⟩ := hm
  exact ⟨p + q, by grind⟩
theorem rtimes_num (A B : List Int) (N M : Int) (w : World) (hA : NumP A N) (hB : NumP B M) : Calls Try.prog 47 #[numV A, numV B] w (ResN w (N * M)) := by
  refine (times_any A B w hA.1 hB.1 hA.lim hB.lim).mono ?_
  rintro e w' ⟨C, rfl, hC, hb⟩
  exact ⟨C, rfl, hC.mod (dvd_mul hA.2.2 hB.2.2 ⟨0, by omega⟩), hb⟩
theorem rplus_num (A B : List Int) (N M : Int) (w : World) (hA : NumP A N) (hB : NumP B M) : Calls Try.prog 43 #[numV A, numV B] w (ResN w (N + M)) := by
  refine (rplus_any A B w hA.1 hB.1 hA.lim hB.lim).mono ?_
  rintro e w' ⟨C, rfl, hC, hb⟩
  exact ⟨C, rfl, hC.mod (dvd_add hA.2.2 hB.2.2 ⟨0, by omega⟩), hb⟩
theorem rminus_num (A B : List Int) (N M : Int) (w : World) (hA : NumP A N) (hB : NumP B M) : Calls Try.prog 45 #[numV A, numV B] w (ResN w (N - M)) := by
  refine (rminus_any A B w hA.1 hB.1 hA.lim hB.lim).mono ?_
  rintro e w' ⟨C, rfl, hC, hb⟩
  exact ⟨C, rfl, hC.mod (dvd_sub hA.2.2 hB.2.2 ⟨0, by omega⟩), hb⟩
theorem rfrom_num (p : Option Addr) (cap : Nat) (l : List Int) (w : World) (h : Bs w p 32 l) : Calls Try.prog 39 #[.slice p 32 cap] w (ResN w (valB l)) := by
  obtain ⟨B, off, rfl, r⟩ := h.rd
  refine (from_any B off cap l w h.1 r).mono ?_
  rintro e w' ⟨rfl, hb⟩
  exact ⟨_, rfl, limb2_num l h.1 h.2.1, hb⟩
theorem rbytes_num (A : List Int) (N : Int) (w : World) (hA : NumP A N) : Calls Try.prog 50 #[numV A] w fun e w' =>
    ∃ g cap, e = .returned (.slice (some ⟨g, 0, none⟩) 32 cap) ∧ 32 ≤ cap ∧ Bs w' (some ⟨g, 0, none⟩) 32 (leB (N % PP)) ∧ Below w.heap.size w w' := by
  refine (bytes_canon A N w hA).mono ?_
  rintro e w' ⟨g, cap, rfl, hc, _, hR, hb⟩
  exact ⟨g, cap, rfl, hc, Bs.of_rd hR rfl, hb⟩
theorem and_i64 (x : Int) : bits .and .i64 x 65535 = x % 65536 := by
  have e0 : ∀ a b : Int, bits .and .i64 a b = IntKind.i64.wrap ((BitVec.ofInt 64 a &&& BitVec.ofInt 64 b).toNat : Int) := fun _ _ => rfl
  rw [e0, BitVec.toNat_and, BitVec.toNat_ofInt, BitVec.toNat_ofInt]
  have e2 : (((65535 : Int) % ((2 ^ 64 : Nat) : Int)).toNat) = 2 ^ 16 - 1 := by decide
  rw [e2, Nat.and_two_pow_sub_one_eq_mod]
  have e3 : (((x % ((2 ^ 64 : Nat) : Int)).toNat % 2 ^ 16 : Nat) : Int) = x % 65536 := by omega
  rw [e3]
  unfold IntKind.wrap
  simp [IntKind.signed, IntKind.bits]
  omega
set_option maxRecDepth 100000 in
set_option maxHeartbeats 4000000 in
theorem rsmall_any (x : Int) (w : World) (h0 : -9223372036854775808 ≤ x) (h1 : x ≤ 9223372036854775807) : Calls Try.prog 41 #[.int .i64 x] w (ResN w x) := by
  have ha := and_i64
  go_enter Try.func41, Try.ntmps41
  go_wp2
  refine wp_loop_rounds 4 ?_
  iterate 4 (rw [rounds_succ]; go_wp2_with fail)
  refine (rcarry_any [x % 65536, x / 65536 % 65536, x / 65536 / 65536 % 65536, x / 65536 / 65536 / 65536, 0, 0, 0, 0, 0, 0, 0, 0, 0, 0, 0, 0] _ rfl (by simp; omega)).mono ?_
  rintro e w2 ⟨M, rfl, hM, hb⟩
  have hN : NumP M x := carR_once rfl (by simp; omega) hM (by
    refine ⟨0, ?_⟩
    simp only [valL]
    omega)
  have sM : (arrI M).size = 16 := by rw [arrI_size, hN.1]
  have HN := Lib.hid hN
  have hr : w2.heap[w.heap.size]? = some (.cells #[.int .i64 0, .int .i64 0, .int .i64 0, .int .i64 0, .int .i64 0, .int .i64 0, .int .i64 0, .int .i64 0, .int .i64 0, .int .i64 0, .int .i64 0, .int .i64 0, .int .i64 0, .int .i64 0, .int .i64 0, .int .i64 0] 52 (0, 0)) :=
    block_stay hb (by rw [heap_at, size_at, if_neg (by omega), heap_at, if_pos rfl])
  have hb2 := (((Below.refl w.heap.size w).alloc (Nat.le_refl _) _).alloc (by rw [size_at]; omega) _).trans (hb.mono (by rw [size_at, size_at]; omega))
  clear hN hM hb
  go_wp2_with (refine wpList_store_row rfl 52 _ _ rfl w.heap.size (arrI M) rfl rfl 52 _ hr (by rw [sM]; exact info_num) (by rw [sM]; rfl) (arrI_one M) ?_)
  refine ret_cell rfl w.heap.size _ _ _ _ rfl (setRow_self hr _) Try.underlying52 rfl (by rw [sM]; exact info_num) rfl ?_
  exact ⟨M, rfl, HN.out, below_setRow hb2 (Nat.le_refl _) _⟩
end Go.Proofs.Ytenppmciabdefaa
