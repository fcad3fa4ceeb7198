/- The laws' own helpers of the scalar seat: num, small, Fit, mul, add; bytes as numbers. No condition. -/
import Derived.Test.YtdcfpgclnhacmaaRe
import Derived.Test.YtdcfpgclnhacmaaUp
import Derived.Test.YtdcfpgclnhacmaaTf
import Derived.Laws.CopyOwn
namespace Go.Proofs.Ytdcfpgclnhacmaa
open Go Go.RowKit
theorem bel_drewN {B : Nat} {a w : World} (h : Below B a w) (k : Nat) : Below B a (w.drewN k) := ⟨h.os, h.tape, h.output, h.size, h.block⟩
theorem Bs.drew {w : World} {p : Option Addr} {n : Nat} {l : List Int} (h : Bs w p n l) : Bs w.drew p n l := h.drewN 1
theorem Bs.alloc {w : World} {p : Option Addr} {n : Nat} {l : List Int} (h : Bs w p n l) (o : Obj) : Bs (w.alloc o) p n l := h.keep ((Below.refl _ _).alloc (Nat.le_refl _) _)
theorem conv_nil (w : World) : (convert 22 9 (.slice none 0 0)).run Try.prog w = .ok (.string ByteArray.empty) w := conv_at (Bs.empty w none)
theorem Bs.head {w : World} {p : Option Addr} {n : Nat} {l : List Int} (h : Bs w p (n + 2) (l ++ [201, 202])) (hl : l.length = n) : Bs w p n l := by
  have := h.take n (by omega)
  rw [← hl, List.take_left] at this
  rw [← hl]
  exact this
section
variable {P : Program} {ops : Array Oper} {Q : Exit → Act → World → Prop} {S S' : World → Prop}
theorem wpAnyS_to (h2 : ∀ w, S' w → S w) (h3 : ∀ w w', S' w → Ext w w' → S w' → S' w') : ∀ (fuel : Nat) (listed : Array Bool) (a : Act) (w0 : World), (∀ w, S w → Ext w0 w → S' w) → wpAnyS P ops Q S' fuel listed a w0 → wpAnyS P ops Q S fuel listed a w0
  | 0, _, _, _, h0, h => ⟨h.1, fun w hS hE => h.2 w (h0 w hS hE) hE⟩
  | fuel + 1, _, _, _, h0, h => ⟨fun hr w hS hE => h.1 hr w (h0 w hS hE) hE, fun j hj w hS hE =>
      wpOp_mono (fun _ w' h' => ⟨h2 _ h'.1, wpAnyS_to h2 h3 fuel _ _ w' (fun w'' hS'' hE'' => h3 w' w'' h'.1 hE'' hS'') h'.2⟩) (h.2 j hj w (h0 w hS hE) hE)⟩
/-- More is known from here on. -/
theorem rem_to {rem : List Nat} {a : Act} {w0 : World} (S' : World → Prop) (h0 : ∀ w, S w → Ext w0 w → S' w) (h2 : ∀ w, S' w → S w) (h3 : ∀ w w', S' w → Ext w w' → S w' → S' w')
    (h : Rem P ops Q S' rem a w0) : Rem P ops Q S rem a w0 := fun h1 hq => wpAnyS_to h2 h3 _ _ _ _ h0 (h h1 hq)
end
theorem Bs.ext {w w' : World} {p : Option Addr} {n : Nat} {l : List Int} (h : Bs w p n l) (hE : Ext w w') : Bs w' p n l := by
  refine ⟨h.1, h.2.1, fun hn => ?_⟩
  obtain ⟨B, off, e, hc⟩ := h.2.2 hn
  refine ⟨B, off, e, fun i hi => ?_⟩
  have h1 := hc i hi
  unfold World.cell? at h1 ⊢
  cases hB : w.heap[B]? with
  | none => simp [hB] at h1
  | some o =>
    rw [hE B o hB]
    rw [hB] at h1
    exact h1
/-- The slices of bl read as they say; what stood in w stands. -/
def SBy (w : World) (bl : List (Option Addr × List Int)) (w' : World) : Prop := (∀ t ∈ bl, Bs w' t.1 32 t.2) ∧ Below w.heap.size w w'
theorem SBy.at_ {w w' : World} {bl : List (Option Addr × List Int)} (h : SBy w bl w') {p : Option Addr} {l : List Int} (hm : (p, l) ∈ bl) : Bs w' p 32 l := h.1 _ hm
theorem SBy.keep {w w1 w2 : World} {bl : List (Option Addr × List Int)} (h : SBy w bl w1) (hb : Below w1.heap.size w1 w2) : SBy w bl w2 := ⟨fun t ht => (h.1 t ht).keep hb, bjoin h.2 hb⟩
theorem SBy.drew {w w1 : World} {bl : List (Option Addr × List Int)} (h : SBy w bl w1) : SBy w bl w1.drew := ⟨fun t ht => (h.1 t ht).drew, h.2.drew⟩
theorem SBy.drewN {w w1 : World} {bl : List (Option Addr × List Int)} (h : SBy w bl w1) (k : Nat) : SBy w bl (w1.drewN k) := ⟨fun t ht => (h.1 t ht).drewN k, bel_drewN h.2 k⟩
theorem SBy.add {w w1 : World} {bl : List (Option Addr × List Int)} (h : SBy w bl w1) {p : Option Addr} {l : List Int} (hb : Bs w1 p 32 l) : SBy w ((p, l) :: bl) w1 :=
  ⟨fun t ht => by
    rcases List.mem_cons.1 ht with rfl | ht
    · exact hb
    · exact h.1 t ht, h.2⟩
theorem SBy.tail {w w1 : World} {bl : List (Option Addr × List Int)} {t : Option Addr × List Int} (h : SBy w (t :: bl) w1) : SBy w bl w1 := ⟨fun u hu => h.1 u (by simp [hu]), h.2⟩
theorem SBy.sub {w w1 : World} {bl bm : List (Option Addr × List Int)} (h : SBy w bl w1) (hs : ∀ t ∈ bm, t ∈ bl) : SBy w bm w1 := ⟨fun t ht => h.1 t (hs t ht), h.2⟩
/-- One more slice is known in a region. -/
theorem rem_add {P : Program} {ops : Array Oper} {Q : Exit → Act → World → Prop} {w : World} {bl : List (Option Addr × List Int)} {rem : List Nat} {a : Act} {w0 : World} {p : Option Addr} {l : List Int} (hb : Bs w0 p 32 l)
    (h : Rem P ops Q (SBy w ((p, l) :: bl)) rem a w0) : Rem P ops Q (SBy w bl) rem a w0 :=
  rem_to _ (fun _ hS hE => hS.add (hb.ext hE)) (fun _ h => h.tail) (fun _ _ h hE hS => hS.add ((h.at_ (p := p) (l := l) (by simp)).ext hE)) h

def zl31 : List Int := [0, 0, 0, 0, 0, 0, 0, 0, 0, 0, 0, 0, 0, 0, 0, 0, 0, 0, 0, 0, 0, 0, 0, 0, 0, 0, 0, 0, 0, 0, 0]
def sm (n : Int) : Array Value := #[.int .u8 n, .int .u8 0, .int .u8 0, .int .u8 0, .int .u8 0, .int .u8 0, .int .u8 0, .int .u8 0, .int .u8 0, .int .u8 0, .int .u8 0, .int .u8 0, .int .u8 0, .int .u8 0, .int .u8 0, .int .u8 0, .int .u8 0, .int .u8 0, .int .u8 0, .int .u8 0, .int .u8 0, .int .u8 0, .int .u8 0, .int .u8 0, .int .u8 0, .int .u8 0, .int .u8 0, .int .u8 0, .int .u8 0, .int .u8 0, .int .u8 0, .int .u8 0]
theorem zl31_in : ∀ x ∈ zl31, 0 ≤ x ∧ x < 256 := by decide
theorem bs_sm {w : World} {g : Nat} {n : Int} {t : TypeId} {fr : Nat × Nat} (hn : 0 ≤ n ∧ n < 256) (h : w.heap[g]? = some (.cells (sm n) t fr)) : Bs w (some ⟨g, 0, none⟩) 32 (n :: zl31) :=
  bs_block h rfl rfl fun x hx => by
    rcases List.mem_cons.1 hx with h | h
    · subst h; exact hn
    · exact zl31_in x h
set_option maxRecDepth 100000 in
theorem small_any (n : Int) (w : World) :
    Calls Try.prog 16 #[.int .u8 n] w fun e w' => e = .returned (.slice (some ⟨w.heap.size, 0, none⟩) 32 32) ∧ w.alloc (.cells (sm n) 5) = w' := by
  have hmk := make32
  go_enter Try.func16, Try.ntmps16
  go_wp2
  go_ret
  exact ⟨rfl, rfl⟩
theorem num_any (n : Int) (w : World) : Calls Try.prog 11 #[.int .i64 n] w fun e w' => e = .returned (.int .i64 n) ∧ w = w' := by
  go_enter Try.func11, Try.ntmps11
  go_wp2
  go_ret
  exact ⟨rfl, rfl⟩
/-- Fit's bytes. -/
def fitL (l : List Int) : List Int := (l ++ List.replicate 32 0).take 32
theorem fitL_length (l : List Int) : (fitL l).length = 32 := by simp [fitL]
theorem below_setCells {B b : Nat} {w0 : World} (hB : B ≤ b) : ∀ (vs : List Value) (o : Nat) (w : World), Below B w0 w → Below B w0 (w.setCells b o vs)
  | [], _, _, h => h
  | v :: vs, o, _, h => below_setCells hB vs (o + 1) _ (h.setCell (p := ⟨b, o, none⟩) hB v)
theorem infoSz : (Try.prog.info? 5).map (·.size) = some 1 := by kernel_rfl
theorem fitL_at (l : List Int) (i : Nat) (hi : i < 32) : (fitL l).getD i 0 = if i < l.length then l.getD i 0 else 0 := by
  simp only [fitL, List.getD_eq_getElem?_getD, List.getElem?_take, hi, if_true, List.getElem?_append]
  split
  · rfl
  · rw [List.getElem?_replicate]
    split <;> rfl
theorem fitL_in {l : List Int} (h : ∀ x ∈ l, 0 ≤ x ∧ x < 256) : ∀ x ∈ fitL l, 0 ≤ x ∧ x < 256 := by
  intro x hx
  rcases List.mem_append.1 (List.mem_of_mem_take hx) with hx | hx
  · exact h x hx
  · have := (List.mem_replicate.1 hx).2; omega
theorem sm_at (w : World) (i : Nat) (hi : i < 32) (t : TypeId) : (w.alloc (.cells (sm 0) t)).cell? ⟨w.heap.size, i, none⟩ = some (.int .u8 0) := by
  rw [cell_of_row _ w.heap.size i _ _ _ (heap_alloc_new w _)]
  have e : sm 0 = (List.replicate 32 (Value.int .u8 0)).toArray := rfl
  rw [e, List.getElem?_toArray, List.getElem?_replicate, if_pos hi]
theorem fit_copy (p : Option Addr) (n cap : Nat) (l : List Int) (w : World) (ty : TypeId) (hr : Bs w p n l) : ∃ k W', (Builtin.copy_ #[22, 22] ty #[.slice (some ⟨w.heap.size, 0, none⟩) 32 32, .slice p n cap]).run Try.prog (w.alloc (.cells (sm 0) 5)) = .ok k W' ∧
    Bs W' (some ⟨w.heap.size, 0, none⟩) 32 (fitL l) ∧ Below w.heap.size w W' := by
  have hb0 := (Below.refl w.heap.size w).alloc (Nat.le_refl _) (.cells (sm 0) 5)
  rcases Nat.eq_zero_or_pos n with h0 | h0
  · subst h0
    have hl : l = [] := List.eq_nil_of_length_eq_zero hr.1
    subst hl
    exact ⟨_, _, run_copy_none _ _ _ _ 5 _ _ _ _ _ _ Try.underlying22 infoSz (by simp), bs_sm (n := 0) (by omega) (heap_alloc_new w _), hb0⟩
  · have hr2 := hr.alloc (.cells (sm 0) 5)
    obtain ⟨B, off, rfl, hc⟩ := hr2.2.2 h0
    have hlen : ((l.take 32).map (Value.int .u8)).length = Nat.min n 32 := by simp [hr.1, Nat.min_comm]
    have hmin : Nat.min n 32 ≤ 32 := Nat.min_le_right _ _
    have hminn : Nat.min n 32 ≤ n := Nat.min_le_left _ _
    have hcell : ∀ j, j < ((l.take 32).map (Value.int .u8)).length → ((w.alloc (.cells (sm 0) 5)).cell? ⟨w.heap.size, 0 + j, none⟩).isSome = true := fun j hj => by
      rw [Nat.zero_add, sm_at w j (by omega)]; rfl
    refine ⟨_, _, run_copy_cells _ _ _ _ 5 w.heap.size 0 32 32 ⟨B, off, none⟩ n cap ((l.take 32).map (Value.int .u8)) Try.underlying22 infoSz hlen ?_ hcell ?_ (oneCell_u8 _), ⟨fitL_length l, fitL_in hr.2.1, fun _ => ⟨_, _, rfl, fun i hi => ?_⟩⟩, below_setCells (Nat.le_refl _) _ _ _ hb0⟩
    · intro j v hj
      rw [List.getElem?_map] at hj
      obtain ⟨x, hx, rfl⟩ := Option.map_eq_some_iff.1 hj
      have hjl := (List.getElem?_eq_some_iff.1 hx).1
      rw [List.length_take, hr.1] at hjl
      rw [addr_add, hc j (by omega)]
      rw [List.getElem?_take, if_pos (by omega)] at hx
      simp [List.getD, hx]
    · intro j _
      show World.frozen? _ ⟨w.heap.size, 0 + j, none⟩ = false
      unfold World.frozen?
      rw [heap_alloc_new]
      simp
    · rw [Nat.zero_add, fitL_at l i hi]
      by_cases h1 : i < ((l.take 32).map (Value.int .u8)).length
      · have h2 := World.cell?_setCells_in w.heap.size ((l.take 32).map (Value.int .u8)) 0 (w.alloc (.cells (sm 0) 5)) hcell i h1
        rw [Nat.zero_add] at h2
        rw [h2]
        rw [hlen] at h1
        have h3 : i < l.length := by rw [hr.1]; omega
        rw [if_pos h3]
        simp [List.getD, h3]
      · rw [World.cell?_setCells_out]
        · rw [sm_at w i hi]
          rw [hlen] at h1
          have h3 : ¬ i < l.length := by
            rw [hr.1]
            intro h4
            exact h1 (Nat.lt_min.2 ⟨h4, hi⟩)
          rw [if_neg h3]
        · intro _ _
          right
          rw [Nat.zero_add]
          exact Nat.le_of_not_lt h1
set_option maxRecDepth 100000 in
theorem fit_any (p : Option Addr) (n cap : Nat) (l : List Int) (w : World) (hr : Bs w p n l) :
    Calls Try.prog 21 #[.slice p n cap] w fun e w' => ∃ g, e = .returned (.slice (some ⟨g, 0, none⟩) 32 32) ∧ Bs w' (some ⟨g, 0, none⟩) 32 (fitL l) ∧ Below w.heap.size w w' := by
  have hmk : ∀ w, (Instr.makeSlice 22 (.int .i64 32) (.int .i64 32)).run Try.prog w = .ok (.slice (some ⟨w.heap.size, 0, none⟩) 32 32) (w.alloc (.cells (sm 0) 5)) := make32
  obtain ⟨k, W', hrun, hB, hb⟩ := fit_copy p n cap l w 3 hr
  go_enter Try.func21, Try.ntmps21
  go_wp2
  go_ret
  exact ⟨_, rfl, hB, hb⟩
/-- The bytes l are the number N mod the order. -/
def Vm (l : List Int) (N : Int) : Prop := LL ∣ vd 256 l - N
theorem Vm.self (l : List Int) : Vm l (vd 256 l) := ⟨0, by omega⟩
theorem vd_b32 {R : Int} (h : 0 ≤ R ∧ R < LL) : vd 256 (b32 R) = R := vd_dg (by omega) 32 R h.1 (by have : LL < 256 ^ 32 := by { unfold LL; decide +kernel }; have := h.2; omega)
theorem mod_of {N M : Int} (h : LL ∣ N - M) : N % LL = M % LL := Int.emod_eq_emod_iff_emod_sub_eq_zero.2 (Int.emod_eq_zero_of_dvd h)
theorem Vm.can (N : Int) : Vm (b32 (N % LL)) N := by
  unfold Vm
  rw [vd_b32 (mod_LL N)]
  have e := Int.emod_add_mul_ediv N LL
  exact ⟨-(N / LL), by rw [Int.mul_neg]; omega⟩
theorem sm_val (n : Int) : vd 256 (n :: zl31) = n := by
  have : vd 256 zl31 = 0 := by decide +kernel
  simp only [vd, this]; omega
theorem small_can0 : b32 (0 % LL) = 0 :: zl31 := by decide +kernel
theorem small_can1 : b32 (1 % LL) = 1 :: zl31 := by decide +kernel
theorem small_can10 : b32 (10 % LL) = 10 :: zl31 := by decide +kernel
theorem muladd_of {a b c A B C : Int} (ha : LL ∣ a - A) (hb : LL ∣ b - B) (hc : LL ∣ c - C) : (a * b + c) % LL = (A * B + C) % LL := by
  obtain ⟨x, hx⟩ := ha
  obtain ⟨y, hy⟩ := hb
  obtain ⟨z, hz⟩ := hc
  refine mod_of ⟨x * b + A * y + z, ?_⟩
  generalize LL = L at *
  grind
/-- MulAdd of three times 32 bytes. -/
theorem muladd_can (pa pb pc : Option Addr) (ca cb cc : Nat) (la lb lc : List Int) (A B C : Int) (w : World) (ha : Bs w pa 32 la) (hb : Bs w pb 32 lb) (hc : Bs w pc 32 lc) (vA : Vm la A) (vB : Vm lb B) (vC : Vm lc C) :
    Calls Try.prog 9 #[.slice pa 32 ca, .slice pb 32 cb, .slice pc 32 cc] w fun e w' => ∃ b, e = .returned (.tuple #[.slice (some ⟨b, 0, none⟩) 32 32, .int .i64 0]) ∧ Bs w' (some ⟨b, 0, none⟩) 32 (b32 ((A * B + C) % LL)) ∧ Below w.heap.size w w' := by
  refine (muladd_yes pa pb pc ca cb cc la lb lc w ha hb hc).mono ?_
  rintro e w' ⟨b, rfl, _, hB, hbel⟩
  exact ⟨b, rfl, by rw [← muladd_of vA vB vC]; exact hB, hbel⟩
set_option maxHeartbeats 1000000 in
theorem mul4_can (p q : Option Addr) (c d : Nat) (la lb : List Int) (A B : Int) (w : World) (ha : Bs w p 32 la) (hb : Bs w q 32 lb) (_hc : 32 ≤ c) (_hd : 32 ≤ d) (vA : Vm la A) (vB : Vm lb B) :
    Calls Try.prog 23 #[.slice p 32 c, .slice q 32 d] w fun e w' => ∃ p' c', e = .returned (.slice p' 32 c') ∧ 32 ≤ c' ∧ Bs w' p' 32 (b32 ((A * B) % LL)) ∧ Below w.heap.size w w' := by
  go_enter Try.func23, Try.ntmps23
  go_wp2_with fail
  refine (small_any 0 _).mono ?_
  rintro e w1 ⟨rfl, hu⟩
  have hb1 : Below w.heap.size w w1 := by rw [← hu]; exact (Below.refl _ _).alloc (Nat.le_refl _) _
  have hZ : Bs w1 (some ⟨w.heap.size, 0, none⟩) 32 (b32 (0 % LL)) := by rw [← hu, small_can0]; exact bs_sm (by omega) (heap_alloc_new w _)
  clear hu
  go_wp2_with fail
  refine (muladd_can p q _ c d 32 la lb _ A B 0 _ (ha.keep hb1) (hb.keep hb1) hZ vA vB (Vm.can 0)).mono ?_
  rintro e w2 ⟨b, rfl, hB, hb2⟩
  rw [Int.add_zero] at hB
  go_wp2
  go_ret
  exact ⟨_, _, rfl, Nat.le_refl _, hB, bjoin hb1 hb2⟩
set_option maxHeartbeats 1000000 in
theorem add4_can (p q : Option Addr) (c d : Nat) (la lb : List Int) (A B : Int) (w : World) (ha : Bs w p 32 la) (hb : Bs w q 32 lb) (_hc : 32 ≤ c) (_hd : 32 ≤ d) (vA : Vm la A) (vB : Vm lb B) :
    Calls Try.prog 22 #[.slice p 32 c, .slice q 32 d] w fun e w' => ∃ p' c', e = .returned (.slice p' 32 c') ∧ 32 ≤ c' ∧ Bs w' p' 32 (b32 ((A + B) % LL)) ∧ Below w.heap.size w w' := by
  go_enter Try.func22, Try.ntmps22
  go_wp2_with fail
  refine (small_any 1 _).mono ?_
  rintro e w1 ⟨rfl, hu⟩
  have hb1 : Below w.heap.size w w1 := by rw [← hu]; exact (Below.refl _ _).alloc (Nat.le_refl _) _
  have hZ : Bs w1 (some ⟨w.heap.size, 0, none⟩) 32 (b32 (1 % LL)) := by rw [← hu, small_can1]; exact bs_sm (by omega) (heap_alloc_new w _)
  clear hu
  go_wp2_with fail
  refine (muladd_can p _ q c 32 d la _ lb A 1 B _ (ha.keep hb1) hZ (hb.keep hb1) vA (Vm.can 1) vB).mono ?_
  rintro e w2 ⟨b, rfl, hB, hb2⟩
  rw [Int.mul_one] at hB
  go_wp2
  go_ret
  exact ⟨_, _, rfl, Nat.le_refl _, hB, bjoin hb1 hb2⟩
end Go.Proofs.Ytdcfpgclnhacmaa
