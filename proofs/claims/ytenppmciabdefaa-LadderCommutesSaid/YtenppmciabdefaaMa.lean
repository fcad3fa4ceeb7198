/- The laws' own mul, add, sub, Fit; bytes as numbers. No condition. -/
import Derived.Test.YtenppmciabdefaaRf
import Derived.Laws.IdiomCopy
namespace Go.Proofs.Ytenppmciabdefaa
open Go Go.RowKit
theorem valB_leB (N : Int) (h0 : 0 ≤ N) (h1 : N < 115792089237316195423570985008687907853269984665640564039457584007913129639936) : valB (leB N) = N := by
  simp only [leB, valB]
  omega
theorem valB_mod (N : Int) : valB (leB (N % PP)) = N % PP := valB_leB _ (Int.emod_nonneg _ (by decide)) (by
  have := Int.emod_lt_of_pos N (show 0 < PP by decide)
  unfold PP at *
  omega)
/-- The bytes l are N mod p. -/
def Vm (l : List Int) (N : Int) : Prop := PP ∣ valB l - N
theorem Vm.can (N : Int) : Vm (leB (N % PP)) N := by
  unfold Vm
  rw [valB_mod]
  exact ⟨-(N / PP), by have := Int.emod_add_mul_ediv N PP; grind⟩
theorem Vm.self (l : List Int) : Vm l (valB l) := ⟨0, by omega⟩
theorem oL_yes (N : Int) : oL true N = leB (N % PP) := rfl
theorem oE_yes : oE true = 0 := rfl
/-- The result: canonical bytes of N. -/
def ResC (w : World) (N : Int) (e : Ending) (w' : World) : Prop := ∃ p c, e = .returned (.slice p 32 c) ∧ 32 ≤ c ∧ Bs w' p 32 (leB (N % PP)) ∧ Below w.heap.size w w'
theorem ResB.can {w w' : World} {N M : Int} {e : Ending} (h : ResB w (oL true N) (oE true) e w') (hm : PP ∣ N - M) : ∃ p c, e = .returned (.tuple #[.slice p 32 c, .int .i64 0]) ∧ 32 ≤ c ∧ Bs w' p 32 (leB (M % PP)) ∧ Below w.heap.size w w' := by
  obtain ⟨p, n, c, rfl, hc, hB, hb⟩ := h
  rw [oL_yes, mod_of hm] at hB
  have hn : n = 32 := hB.1.symm.trans rfl
  subst hn
  exact ⟨p, c, rfl, hc, hB, hb⟩
theorem mul3_can (pa pb : Option Addr) (ca cb : Nat) (la lb : List Int) (N M : Int) (w : World) (ha : Bs w pa 32 la) (hb : Bs w pb 32 lb) (hca : 32 ≤ ca) (hcb : 32 ≤ cb) (hN : Vm la N) (hM : Vm lb M) :
    Calls Try.prog 34 #[.slice pa 32 ca, .slice pb 32 cb] w (ResC w (N * M)) := by
  go_enter Try.func34, Try.ntmps34
  go_wp2_with fail
  refine (gMul_any pa pb 32 ca 32 cb la lb _ ha hb hca hcb (by decide) (by decide)).mono ?_
  rw [both_yes ⟨ha.1, hb.1⟩]
  intro e w1 h
  obtain ⟨p, c, rfl, hc, hB, hbel⟩ := h.can (dvd_mul hN hM ⟨0, by omega⟩)
  go_wp2
  go_ret
  exact ⟨p, c, rfl, hc, hB, hbel⟩
theorem add3_can (pa pb : Option Addr) (ca cb : Nat) (la lb : List Int) (N M : Int) (w : World) (ha : Bs w pa 32 la) (hb : Bs w pb 32 lb) (hca : 32 ≤ ca) (hcb : 32 ≤ cb) (hN : Vm la N) (hM : Vm lb M) :
    Calls Try.prog 35 #[.slice pa 32 ca, .slice pb 32 cb] w (ResC w (N + M)) := by
  go_enter Try.func35, Try.ntmps35
  go_wp2_with fail
  refine (gAdd_any pa pb 32 ca 32 cb la lb _ ha hb hca hcb (by decide) (by decide)).mono ?_
  rw [both_yes ⟨ha.1, hb.1⟩]
  intro e w1 h
  obtain ⟨p, c, rfl, hc, hB, hbel⟩ := h.can (dvd_add hN hM ⟨0, by omega⟩)
  go_wp2
  go_ret
  exact ⟨p, c, rfl, hc, hB, hbel⟩
theorem sub3_can (pa pb : Option Addr) (ca cb : Nat) (la lb : List Int) (N M : Int) (w : World) (ha : Bs w pa 32 la) (hb : Bs w pb 32 lb) (hca : 32 ≤ ca) (hcb : 32 ≤ cb) (hN : Vm la N) (hM : Vm lb M) :
    Calls Try.prog 36 #[.slice pa 32 ca, .slice pb 32 cb] w (ResC w (N - M)) := by
  go_enter Try.func36, Try.ntmps36
  go_wp2_with fail
  refine (gSub_any pa pb 32 ca 32 cb la lb _ ha hb hca hcb (by decide) (by decide)).mono ?_
  rw [both_yes ⟨ha.1, hb.1⟩]
  intro e w1 h
  obtain ⟨p, c, rfl, hc, hB, hbel⟩ := h.can (dvd_sub hN hM ⟨0, by omega⟩)
  go_wp2
  go_ret
  exact ⟨p, c, rfl, hc, hB, hbel⟩
/-- Fit's bytes. -/
def fitL (l : List Int) : List Int := (l ++ List.replicate 32 0).take 32
theorem fitL_length (l : List Int) : (fitL l).length = 32 := by simp [fitL]
theorem below_setCells {B b : Nat} {w0 : World} (hB : B ≤ b) : ∀ (vs : List Value) (o : Nat) (w : World), Below B w0 w → Below B w0 (w.setCells b o vs)
  | [], _, _, h => h
  | v :: vs, o, _, h => below_setCells hB vs (o + 1) _ (h.setCell (p := ⟨b, o, none⟩) hB v)
theorem infoSz : (Try.prog.info? 5).map (·.size) = some 1 := by kernel_rfl
theorem fitL_at (l : List Int) (i : Nat) (hi : i < 32) : (fitL l).getD i 0 = if i < l.length then l.getD i 0 else 0 := by
  simp only [fitL, List.getD_eq_getElem?_getD, List.getElem?_take, hi, if_true, List.getElem?_append]
  split
  · rfl
  · rw [List.getElem?_replicate]
    split <;> rfl
theorem fitL_in {l : List Int} (h : ∀ x ∈ l, 0 ≤ x ∧ x < 256) : ∀ x ∈ fitL l, 0 ≤ x ∧ x < 256 := by
  intro x hx
  rcases List.mem_append.1 (List.mem_of_mem_take hx) with hx | hx
  · exact h x hx
  · have := (List.mem_replicate.1 hx).2; omega
theorem sm_at (w : World) (i : Nat) (hi : i < 32) (t : TypeId) : (w.alloc (.cells (sm 0) t)).cell? ⟨w.heap.size, i, none⟩ = some (.int .u8 0) := by
  rw [cell_of_row _ w.heap.size i _ _ _ (heap_alloc_new w _)]
  have e : sm 0 = (List.replicate 32 (Value.int .u8 0)).toArray := rfl
  rw [e, List.getElem?_toArray, List.getElem?_replicate, if_pos hi]
theorem fit_copy (p : Option Addr) (n cap : Nat) (l : List Int) (w : World) (ty : TypeId) (hr : Bs w p n l) : ∃ k W', (Builtin.copy_ #[22, 22] ty #[.slice (some ⟨w.heap.size, 0, none⟩) 32 32, .slice p n cap]).run Try.prog (w.alloc (.cells (sm 0) 5)) = .ok k W' ∧
    Bs W' (some ⟨w.heap.size, 0, none⟩) 32 (fitL l) ∧ Below w.heap.size w W' := by
  have hb0 := (Below.refl w.heap.size w).alloc (Nat.le_refl _) (.cells (sm 0) 5)
  rcases Nat.eq_zero_or_pos n with h0 | h0
  · subst h0
    have hl : l = [] := List.eq_nil_of_length_eq_zero hr.1
    subst hl
    exact ⟨_, _, run_copy_none _ _ _ _ 5 _ _ _ _ _ _ Try.underlying22 infoSz (by simp), bs_sm (n := 0) (by omega) (heap_alloc_new w _), hb0⟩
  · have hr2 := hr.alloc (.cells (sm 0) 5)
    obtain ⟨B, off, rfl, hc⟩ := hr2.2.2 h0
    have hlen : ((l.take 32).map (Value.int .u8)).length = Nat.min n 32 := by simp [hr.1, Nat.min_comm]
    have hmin : Nat.min n 32 ≤ 32 := Nat.min_le_right _ _
    have hminn : Nat.min n 32 ≤ n := Nat.min_le_left _ _
    have hcell : ∀ j, j < ((l.take 32).map (Value.int .u8)).length → ((w.alloc (.cells (sm 0) 5)).cell? ⟨w.heap.size, 0 + j, none⟩).isSome = true := fun j hj => by
      rw [Nat.zero_add, sm_at w j (by omega)]; rfl
    refine ⟨_, _, run_copy_cells _ _ _ _ 5 w.heap.size 0 32 32 ⟨B, off, none⟩ n cap ((l.take 32).map (Value.int .u8)) Try.underlying22 infoSz hlen ?_ hcell ?_ (oneCell_u8 _), ⟨fitL_length l, fitL_in hr.2.1, fun _ => ⟨_, _, rfl, fun i hi => ?_⟩⟩, below_setCells (Nat.le_refl _) _ _ _ hb0⟩
    · intro j v hj
      rw [List.getElem?_map] at hj
      obtain ⟨x, hx, rfl⟩ := Option.map_eq_some_iff.1 hj
      have hjl := (List.getElem?_eq_some_iff.1 hx).1
      rw [List.length_take, hr.1] at hjl
      rw [addr_add, hc j (by omega)]
      rw [List.getElem?_take, if_pos (by omega)] at hx
      simp [List.getD, hx]
    · intro j _
      show World.frozen? _ ⟨w.heap.size, 0 + j, none⟩ = false
      unfold World.frozen?
      rw [heap_alloc_new]
      simp
    · rw [Nat.zero_add, fitL_at l i hi]
      by_cases h1 : i < ((l.take 32).map (Value.int .u8)).length
      · have h2 := World.cell?_setCells_in w.heap.size ((l.take 32).map (Value.int .u8)) 0 (w.alloc (.cells (sm 0) 5)) hcell i h1
        rw [Nat.zero_add] at h2
        rw [h2]
        rw [hlen] at h1
        have h3 : i < l.length := by rw [hr.1]; omega
        rw [if_pos h3]
        simp [List.getD, h3]
      · rw [World.cell?_setCells_out]
        · rw [sm_at w i hi]
          rw [hlen] at h1
          have h3 : ¬ i < l.length := by
            rw [hr.1]
            intro h4
            exact h1 (Nat.lt_min.2 ⟨h4, hi⟩)
          rw [if_neg h3]
        · intro _ _
          right
          rw [Nat.zero_add]
          exact Nat.le_of_not_lt h1
set_option maxRecDepth 100000 in
theorem fit_any (p : Option Addr) (n cap : Nat) (l : List Int) (w : World) (hr : Bs w p n l) :
    Calls Try.prog 32 #[.slice p n cap] w fun e w' => ∃ g, e = .returned (.slice (some ⟨g, 0, none⟩) 32 32) ∧ Bs w' (some ⟨g, 0, none⟩) 32 (fitL l) ∧ Below w.heap.size w w' := by
  have hmk : ∀ w, (Instr.makeSlice 22 (.int .i64 32) (.int .i64 32)).run Try.prog w = .ok (.slice (some ⟨w.heap.size, 0, none⟩) 32 32) (w.alloc (.cells (sm 0) 5)) := make32
  obtain ⟨k, W', hrun, hB, hb⟩ := fit_copy p n cap l w 3 hr
  go_enter Try.func32, Try.ntmps32
  go_wp2
  go_ret
  exact ⟨_, rfl, hB, hb⟩
end Go.Proofs.Ytenppmciabdefaa
