/- The walks of scalar.Reduce, Canonical and Neg. No condition. -/
import Derived.Test.YtdcfpgclnhacmaaUm
namespace Go.Proofs.Ytdcfpgclnhacmaa
open Go Go.RowKit
theorem bjoin {w w1 w2 : World} (h1 : Below w.heap.size w w1) (h2 : Below w1.heap.size w1 w2) : Below w.heap.size w w2 := h1.trans (h2.mono h1.size)
theorem Bs.b32 {w : World} {b : Nat} {V : Int} (h : w.heap[b]? = some (.cells (arrB (b32 V)) 5 (0, 0))) : Bs w (some ⟨b, 0, none⟩) 32 (b32 V) := bs_block h rfl (b32_length V) (b32_in V)
theorem vb_in {n : Nat} {l : List Int} (hl : l.length = n) (hb : ∀ x ∈ l, 0 ≤ x ∧ x < 256) : 0 ≤ vd 256 l ∧ vd 256 l < 2 ^ (8 * n) := by
  have := vd_in (by omega) (Dr.of_mem (β := 256) (by omega) hb)
  rw [hl, pow8] at this
  exact this
theorem LL_big : (2 : Int) ^ 516 ≤ LL * 2 ^ (264 + 1) := by
  unfold LL; decide +kernel
theorem small_rest {V : Int} {m : Nat} (h : V < 2 ^ m) (hm : m ≤ 516) : V < LL * 2 ^ (264 + 1) := by
  have h1 : (2 : Int) ^ m ≤ 2 ^ 516 := pow2_le hm
  have := LL_big
  omega
theorem small_M9 {V : Int} {m : Nat} (h : V < 2 ^ m) (hm : m ≤ 516) : V < M9 := by
  have h1 : (2 : Int) ^ m ≤ 2 ^ 516 := pow2_le hm
  have h2 : (2 : Int) ^ 516 < M9 := by unfold M9; decide +kernel
  omega
theorem mod_LL (V : Int) : 0 ≤ V % LL ∧ V % LL < LL := ⟨Int.emod_nonneg _ (by unfold LL; omega), Int.emod_lt_of_pos _ LL_pos⟩
theorem LL_M9 : LL < M9 := by unfold LL M9; decide +kernel
set_option maxHeartbeats 1000000 in
theorem reduce_yes (p : Option Addr) (n cap : Nat) (l : List Int) (w : World) (hn : n ≤ 64) (hr : Bs w p n l) :
    Calls Try.prog 17 #[.slice p n cap] w fun e w' => ∃ b, e = .returned (.tuple #[.slice (some ⟨b, 0, none⟩) 32 32, .int .i64 0]) ∧ w.heap.size ≤ b ∧ Bs w' (some ⟨b, 0, none⟩) 32 (b32 (vd 256 l % LL)) ∧ Below w.heap.size w w' := by
  have hV := vb_in hr.1 hr.2.1
  have h1 := Lib.hid (small_rest hV.2 (by omega))
  have h0 := hV.1
  clear hV
  go_enter Try.func17, Try.ntmps17
  go_wp2_with fail
  refine (get_any p n cap l _ hn hr).mono ?_
  rintro e w1 ⟨rfl, hb1⟩
  go_wp2_with fail
  refine (rest_any _ _ h0 h1.out).mono ?_
  rintro e w2 ⟨rfl, hb2⟩
  go_wp2_with fail
  refine (put_any _ _).mono ?_
  rintro e w3 ⟨b, rfl, hlt, hblk, hb3⟩
  have hb12 := bjoin hb1 hb2
  have hs := hb12.size
  have hB := Bs.b32 hblk
  clear hblk hb1 hb2
  go_wp2
  go_ret2
  exact ⟨b, rfl, by omega, hB, bjoin hb12 hb3⟩
set_option maxHeartbeats 1000000 in
theorem reduce_no (p : Option Addr) (n cap : Nat) (w : World) (hn : 64 < n) (hm : n ≤ maxLen) :
    Calls Try.prog 17 #[.slice p n cap] w fun e w' => e = .returned (.tuple #[.slice none 0 0, .int .i64 1]) ∧ w = w' := by
  unfold maxLen at hm
  have hd : decide ((n : Int) > 64) = true := by simp; omega
  go_enter Try.func17, Try.ntmps17
  go_wp2
  go_ret2
  exact ⟨rfl, rfl⟩
set_option maxHeartbeats 1000000 in
theorem canonical_no (p : Option Addr) (n cap : Nat) (w : World) (hn : n ≠ 32) (_hm : n ≤ maxLen) :
    Calls Try.prog 19 #[.slice p n cap] w fun e w' => e = .returned (.bool false) ∧ w = w' := by
  have hd : ((n : Int) != 32) = true := by rw [bne_iff_ne]; omega
  go_enter Try.func19, Try.ntmps19
  go_wp2
  go_ret
  exact ⟨rfl, rfl⟩
set_option maxHeartbeats 1000000 in
theorem canonical_yes (p : Option Addr) (cap : Nat) (l : List Int) (w : World) (hr : Bs w p 32 l) :
    Calls Try.prog 19 #[.slice p 32 cap] w fun e w' => e = .returned (.bool (decide (vd 256 l < LL))) ∧ Below w.heap.size w w' := by
  have hV := vb_in hr.1 hr.2.1
  have h0 := hV.1
  have h1 := Lib.hid (small_M9 hV.2 (by omega))
  have hsh := LLn_lt 0 (by omega)
  rw [Int.pow_zero, Int.mul_one] at hsh
  have HSH := Lib.hid hsh
  clear hV hsh
  go_enter Try.func19, Try.ntmps19
  go_wp2_with fail
  refine (get_any p 32 cap l _ (by omega) hr).mono ?_
  rintro e w1 ⟨rfl, hb1⟩
  go_wp2_with fail
  refine (shifted_any 0 _ (by omega)).mono ?_
  rintro e w2 ⟨rfl, hb2⟩
  rw [Int.pow_zero, Int.mul_one]
  go_wp2_with fail
  refine (minus_num _ _ _ ⟨h0, h1.out⟩ HSH.out).mono ?_
  rintro e w3 ⟨rfl, hb3⟩
  have hb12 := bjoin hb1 hb2
  have hb13 := bjoin hb12 hb3
  have s9 : (arrU (w9 (vd 256 l - LL))).size = 9 := by rw [arrU_size, w9_length]
  have o9 := Lib.hid (arrU_one (w9 (vd 256 l - LL)))
  have S9 := Lib.hid s9
  clear hb1 hb2 hb3 hb12 s9
  have hd : (!decide (LL ≤ vd 256 l)) = decide (vd 256 l < LL) := by
    by_cases h : LL ≤ vd 256 l
    · simp [h, show ¬ vd 256 l < LL by omega]
    · simp [h, show vd 256 l < LL by omega]
  have HD := Lib.hid hd
  clear hd
  have hX := heap_alloc_new w3 (.cells #[.int .u64 0, .int .u64 0, .int .u64 0, .int .u64 0, .int .u64 0, .int .u64 0, .int .u64 0, .int .u64 0, .int .u64 0] 40)
  have hle := hb13.size
  go_wp2_with (refine wpList_store_row rfl 40 (.tmp 3) (.tmp 13) rfl w3.heap.size (arrU (w9 (vd 256 l - LL))) rfl rfl 40 _ hX (by rw [S9.out]; exact infoW) (by rw [S9.out]; rfl) o9.out ?_)
  go_ret
  exact ⟨by rw [← HD.out]; simp, below_setRow (hb13.alloc hb13.size _) hle _⟩
set_option maxHeartbeats 1000000 in
theorem neg_no (p : Option Addr) (n cap : Nat) (w : World) (hn : n ≠ 32) :
    Calls Try.prog 14 #[.slice p n cap] w fun e w' => e = .returned (.tuple #[.slice none 0 0, .int .i64 1]) ∧ w = w' := by
  have hd : ((n : Int) != 32) = true := by rw [bne_iff_ne]; omega
  go_enter Try.func14, Try.ntmps14
  go_wp2
  go_ret2
  exact ⟨rfl, rfl⟩
theorem neg_val (A : Int) : 0 ≤ LL - A % LL ∧ LL - A % LL < M9 ∧ LL - A % LL < LL * 2 ^ (264 + 1) ∧ (LL - A % LL) % LL = (-A) % LL := by
  have h1 := mod_LL A
  have h2 := LL_M9
  have h3 : LL < LL * 2 ^ (264 + 1) := by unfold LL; decide +kernel
  refine ⟨by omega, by omega, by omega, ?_⟩
  have e := Int.emod_add_mul_ediv A LL
  have : LL - A % LL = -A + LL * (1 + A / LL) := by rw [Int.mul_add]; omega
  rw [this, Int.add_mul_emod_self_left]
set_option maxRecDepth 100000 in
set_option maxHeartbeats 1000000 in
theorem neg_yes (p : Option Addr) (cap : Nat) (l : List Int) (w : World) (hr : Bs w p 32 l) :
    Calls Try.prog 14 #[.slice p 32 cap] w fun e w' => ∃ b, e = .returned (.tuple #[.slice (some ⟨b, 0, none⟩) 32 32, .int .i64 0]) ∧ w.heap.size ≤ b ∧ Bs w' (some ⟨b, 0, none⟩) 32 (b32 ((-vd 256 l) % LL)) ∧ Below w.heap.size w w' := by
  have hV := vb_in hr.1 hr.2.1
  have h0 := hV.1
  have h1 := Lib.hid (small_rest hV.2 (by omega))
  have hsh := LLn_lt 0 (by omega)
  rw [Int.pow_zero, Int.mul_one] at hsh
  have HSH := Lib.hid hsh
  have hml := mod_LL (vd 256 l)
  have HML : Hid (0 ≤ vd 256 l % LL ∧ vd 256 l % LL < M9) := ⟨hml.1, by have := LL_M9; omega⟩
  obtain ⟨n0, _, n1, n2⟩ := neg_val (vd 256 l)
  have N1 := Lib.hid n1
  have N2 := Lib.hid n2
  clear hV hsh n1 n2 hml
  go_enter Try.func14, Try.ntmps14
  go_wp2_with fail
  refine (shifted_any 0 _ (by omega)).mono ?_
  rintro e w1 ⟨rfl, hb1⟩
  rw [Int.pow_zero, Int.mul_one]
  go_wp2_with fail
  refine (get_any p 32 cap l _ (by omega) (hr.keep hb1)).mono ?_
  rintro e w2 ⟨rfl, hb2⟩
  go_wp2_with fail
  refine (rest_any _ _ h0 h1.out).mono ?_
  rintro e w3 ⟨rfl, hb3⟩
  go_wp2_with fail
  refine (minus_num _ _ _ HSH.out HML.out).mono ?_
  rintro e w4 ⟨rfl, hb4⟩
  have hb14 := bjoin (bjoin (bjoin hb1 hb2) hb3) hb4
  have s9 : (arrU (w9 (LL - vd 256 l % LL))).size = 9 := by rw [arrU_size, w9_length]
  have o9 := Lib.hid (arrU_one (w9 (LL - vd 256 l % LL)))
  have S9 := Lib.hid s9
  clear hb1 hb2 hb3 hb4 s9
  have hX := heap_alloc_new w4 (.cells #[.int .u64 0, .int .u64 0, .int .u64 0, .int .u64 0, .int .u64 0, .int .u64 0, .int .u64 0, .int .u64 0, .int .u64 0] 40)
  have hY := setRow_here hX (arrU (w9 (LL - vd 256 l % LL)))
  have hle := hb14.size
  have hb5 := below_setRow (hb14.alloc hb14.size (.cells #[.int .u64 0, .int .u64 0, .int .u64 0, .int .u64 0, .int .u64 0, .int .u64 0, .int .u64 0, .int .u64 0, .int .u64 0] 40)) hle (arrU (w9 (LL - vd 256 l % LL)))
  go_wp2_with (first | (refine wpList_store_row rfl 40 (.tmp 4) (.tmp 15) rfl w4.heap.size (arrU (w9 (LL - vd 256 l % LL))) rfl rfl 40 _ hX (by rw [S9.out]; exact infoW) (by rw [S9.out]; rfl) o9.out ?_) | (refine wpList_load_row rfl 40 _ rfl w4.heap.size rfl _ _ _ _ hY Try.underlying40 rfl (by rw [S9.out]; exact infoW) ?_) | fail)
  refine (rest_any _ _ n0 N1.out).mono ?_
  rintro e w6 ⟨rfl, hb6⟩
  rw [N2.out]
  go_wp2_with fail
  refine (put_any _ _).mono ?_
  rintro e w7 ⟨b, rfl, hlt, hblk, hb7⟩
  have hb56 := bjoin hb5 hb6
  have hs := hb56.size
  have hB := Bs.b32 hblk
  clear hblk hb5 hb6 hX hY
  go_wp2
  go_ret2
  exact ⟨b, rfl, by omega, hB, bjoin hb56 hb7⟩
end Go.Proofs.Ytdcfpgclnhacmaa
