/- Field elements as five words, each function by one contract; the walk of squares. No condition. -/
import Derived.Test.YtenppmciabdefaaWt
import Derived.Test.YtenppmciabdefaaRc
namespace Go.Proofs.Ytenppmciabdefaa
open Go.RowKit
/-- Five words that are N mod p, as mul, add, sub and get leave them. -/
def FeA (cs : Array Value) (N : Int) : Prop :=
  ∃ x0 x1 x2 x3 x4 : Int, cs = #[.int .u64 x0, .int .u64 x1, .int .u64 x2, .int .u64 x3, .int .u64 x4] ∧ (0 ≤ x0 ∧ x0 < 4503599627370496) ∧ (0 ≤ x1 ∧ x1 < 2251799813685248) ∧ (0 ≤ x2 ∧ x2 < 2251799813685248) ∧ (0 ≤ x3 ∧ x3 < 2251799813685248) ∧ (0 ≤ x4 ∧ x4 < 2251799813685248) ∧
    PP ∣ v5 x0 x1 x2 x3 x4 - N
theorem FeA.size {cs : Array Value} {N : Int} (h : FeA cs N) : cs.size = 5 := by
  obtain ⟨_, _, _, _, _, rfl, _⟩ := h
  rfl
theorem FeA.one {cs : Array Value} {N : Int} (h : FeA cs N) : cs.all (·.oneCell') = true := by
  obtain ⟨_, _, _, _, _, rfl, _⟩ := h
  simp [Value.oneCell']
theorem FeA.mod {cs : Array Value} {N M : Int} (h : FeA cs N) (hm : PP ∣ N - M) : FeA cs M := by
  obtain ⟨x0, x1, x2, x3, x4, rfl, h0, h1, h2, h3, h4, hd⟩ := h
  refine ⟨x0, x1, x2, x3, x4, rfl, h0, h1, h2, h3, h4, ?_⟩
  obtain ⟨p, hp⟩ := hd
  obtain ⟨q, hq⟩ := hm
  exact ⟨p + q, by grind⟩
theorem infoFe : (Try.prog.info? 44).map (·.size) = some 5 := by kernel_rfl
/-- The result: an element that is N mod p. -/
def ResF (w : World) (N : Int) (e : Ending) (w' : World) : Prop := ∃ cs, e = .returned (.agg cs) ∧ FeA cs N ∧ Below w.heap.size w w'
theorem emul_fe (X Y : Array Value) (N M : Int) (w : World) (hX : FeA X N) (hY : FeA Y M) : Calls Try.prog 65 #[.agg X, .agg Y] w (ResF w (N * M)) := by
  obtain ⟨x0, x1, x2, x3, x4, rfl, h0, h1, h2, h3, h4, hd⟩ := hX
  obtain ⟨y0, y1, y2, y3, y4, rfl, k0, k1, k2, k3, k4, kd⟩ := hY
  refine (mul_any _ _ _ _ _ _ _ _ _ _ w (by omega) (by omega) (by omega) (by omega) (by omega) (by omega) (by omega) (by omega) (by omega) (by omega)).mono ?_
  rintro e w' ⟨z0, z1, z2, z3, z4, rfl, ⟨g0, g1, g2, g3, g4, gd⟩, hb⟩
  exact ⟨_, rfl, ⟨z0, z1, z2, z3, z4, rfl, g0, g1, g2, g3, g4, dvd_mul hd kd gd⟩, hb⟩
theorem eadd_fe (X Y : Array Value) (N M : Int) (w : World) (hX : FeA X N) (hY : FeA Y M) : Calls Try.prog 70 #[.agg X, .agg Y] w (ResF w (N + M)) := by
  obtain ⟨x0, x1, x2, x3, x4, rfl, h0, h1, h2, h3, h4, hd⟩ := hX
  obtain ⟨y0, y1, y2, y3, y4, rfl, k0, k1, k2, k3, k4, kd⟩ := hY
  refine (add_any _ _ _ _ _ _ _ _ _ _ w h0 h1 h2 h3 h4 k0 k1 k2 k3 k4).mono ?_
  rintro e w' ⟨z0, z1, z2, z3, z4, rfl, ⟨g0, g1, g2, g3, g4, gd⟩, hb⟩
  exact ⟨_, rfl, ⟨z0, z1, z2, z3, z4, rfl, g0, g1, g2, g3, g4, dvd_add hd kd gd⟩, hb⟩
theorem esub_fe (X Y : Array Value) (N M : Int) (w : World) (hX : FeA X N) (hY : FeA Y M) : Calls Try.prog 72 #[.agg X, .agg Y] w (ResF w (N - M)) := by
  obtain ⟨x0, x1, x2, x3, x4, rfl, h0, h1, h2, h3, h4, hd⟩ := hX
  obtain ⟨y0, y1, y2, y3, y4, rfl, k0, k1, k2, k3, k4, kd⟩ := hY
  refine (sub_any _ _ _ _ _ _ _ _ _ _ w h0 h1 h2 h3 h4 k0 k1 k2 k3 k4).mono ?_
  rintro e w' ⟨z0, z1, z2, z3, z4, rfl, ⟨g0, g1, g2, g3, g4, gd⟩, hb⟩
  exact ⟨_, rfl, ⟨z0, z1, z2, z3, z4, rfl, g0, g1, g2, g3, g4, dvd_sub hd kd gd⟩, hb⟩
/-- Canonical bytes of an element. -/
theorem eput_fe (X : Array Value) (N : Int) (w : World) (hX : FeA X N) : Calls Try.prog 68 #[.agg X] w fun e w' =>
    ∃ b, e = .returned (.slice (some ⟨b, 0, none⟩) 32 32) ∧ w.heap.size ≤ b ∧ IsB w' b (leB (N % PP)) ∧ Below w.heap.size w w' := by
  obtain ⟨x0, x1, x2, x3, x4, rfl, h0, h1, h2, h3, h4, hd⟩ := hX
  refine (put_any _ _ _ _ _ w h0 h1 h2 h3 h4).mono ?_
  rintro e w' ⟨b, rfl, hlt, hB, hb⟩
  rw [mod_of hd] at hB
  exact ⟨b, rfl, hlt, hB, hb⟩
theorem eget_fe (p : Option Addr) (cap : Nat) (l : List Int) (w : World) (hcap : 32 ≤ cap) (hr : Bs w p 32 l) : Calls Try.prog 67 #[.slice p 32 cap] w (ResF w (valB l)) := by
  obtain ⟨B, off, rfl, r⟩ := hr.rd
  refine (get_any B off cap l w hcap hr.1 r).mono ?_
  rintro e w' ⟨z0, z1, z2, z3, z4, rfl, ⟨g0, g1, g2, g3, g4, gd⟩, hb⟩
  exact ⟨_, rfl, ⟨z0, z1, z2, z3, z4, rfl, g0, g1, g2, g3, g4, gd⟩, hb⟩
theorem below_ext {W w' : World} {b : Nat} {o : Obj} (h : Below W.heap.size W w') (hb : W.heap[b]? = some o) : w'.heap[b]? = some o := block_stay h hb
def zero5 : Array Value := #[.int .u64 0, .int .u64 0, .int .u64 0, .int .u64 0, .int .u64 0]
/-- After k squarings. -/
def SqR (w : World) (N : Int) (k : Nat) (wr : World) : Prop :=
  ∃ cs, FeA cs (N ^ 2 ^ k) ∧ wr.heap[w.heap.size]? = some (.cells cs 44 (0, 0)) ∧ wr.heap[w.heap.size + 1]? = some (.cells zero5 44 (0, 0)) ∧ Below w.heap.size w wr ∧ w.heap.size + 2 ≤ wr.heap.size
theorem setRow_other (w : World) (g b : Nat) (cs : Array Value) (h : b ≠ g) : (w.setRow g cs).heap[b]? = w.heap[b]? := by
  rcases Nat.lt_or_ge b g with h1 | h1
  · exact (below_setRow (Below.refl b.succ w) (by omega) cs).block b (by omega)
  · simp only [World.setRow, Array.getElem?_modify]
    rw [if_neg (by omega)]
set_option maxRecDepth 100000 in
set_option maxHeartbeats 4000000 in
theorem squares_fe (X : Array Value) (N : Int) (n : Nat) (w : World) (hn : n ≤ 1000) (hX : FeA X N) : Calls Try.prog 91 #[.agg X, .int .i64 n] w (ResF w (N ^ (2 ^ n))) := by
  have sX := hX.size
  obtain ⟨W0, hW0, hz, hb0, q0, q1⟩ := two_new w (.cells X 44) (.cells #[.int .u64 0, .int .u64 0, .int .u64 0, .int .u64 0, .int .u64 0] 44)
  have e0 : N ^ 2 ^ 0 = N := by simp [Int.pow_succ]
  have h0 : SqR w N 0 W0 := ⟨X, by rw [e0]; exact hX, q0, q1, hb0, by omega⟩
  clear e0
  have HW := Lib.hid hW0
  clear hz hb0 q0 q1 hW0 hX
  go_enter Try.func91, Try.ntmps91
  go_wp2
  rw [HW.out]
  go_loopw [6] (fun i wr => ∃ k : Nat, k ≤ n ∧ i = .int .i64 k ∧ SqR w N k wr) (fun i _ => n - (intOf i).toNat)
  case atStart => exact ⟨0, by omega, rfl, h0⟩
  case round =>
    obtain ⟨k, hk, rfl, cs, hcs, c0, c1, hb, hs⟩ := hrel
    have sC := hcs.size
    have HC := Lib.hid hcs
    clear hcs h0 HW sX
    by_cases hlt : k < n
    · go_wp2_with (refine wpList_load_row rfl 44 _ rfl w.heap.size rfl _ _ _ _ c0 Try.underlying44 rfl (by rw [sC]; exact infoFe) ?_)
      refine (emul_fe cs cs _ _ _ HC.out HC.out).mono ?_
      rintro e w1 ⟨ds, rfl, hd, hb1⟩
      have d0 := below_ext hb1 c0
      have d1 := below_ext hb1 c1
      have sD := hd.size
      have oD := Lib.hid hd.one
      have HD := Lib.hid hd
      have hs1 := Nat.le_trans hs hb1.size
      have hb2 := hb.trans (hb1.mono (by omega))
      clear hd
      go_wp2_with (refine wpList_store_row rfl 44 (.tmp 2) (.tmp 10) rfl w.heap.size ds rfl rfl 44 _ d0 (by rw [sD]; exact infoFe) (by rw [sD, sC]) oD.out ?_)
      go_roundw
      case rel =>
        refine ⟨k + 1, by omega, by go_num, ds, ?_, setRow_self d0 _, ?_, below_setRow hb2 (Nat.le_refl _) _, by rw [setRow_size]; exact hs1⟩
        · have e : N ^ 2 ^ (k + 1) = N ^ 2 ^ k * N ^ 2 ^ k := by rw [← Int.pow_add, ← Nat.two_mul, Nat.pow_succ, Nat.mul_comm]
          rw [e]
          exact HD.out
        · rw [setRow_other _ _ _ _ (by omega)]
          exact d1
      case measure => simp [intOf]; omega
    · obtain rfl : k = n := by omega
      go_wp2_with (first | (refine wpList_load_row rfl 44 _ rfl w.heap.size rfl _ _ _ _ c0 Try.underlying44 rfl (by rw [sC]; exact infoFe) ?_) | (refine wpList_store_row rfl 44 (.tmp 4) (.tmp 12) rfl (w.heap.size + 1) cs rfl rfl 44 _ c1 (by rw [sC]; exact infoFe) (by rw [sC]; rfl) HC.out.one ?_))
      refine ret_cell rfl (w.heap.size + 1) _ _ _ _ rfl (setRow_self c1 _) Try.underlying44 rfl (by rw [sC]; exact infoFe) rfl ?_
      exact ⟨cs, rfl, HC.out, below_setRow hb (by omega) _⟩
end Go.Proofs.Ytenppmciabdefaa
