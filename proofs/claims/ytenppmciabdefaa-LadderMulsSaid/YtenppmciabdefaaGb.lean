/- The walks of synodref03.Power, at its three uses, and of Inverse, Minus1. No condition. -/
import Derived.Test.YtenppmciabdefaaGa
import Derived.Test.YtenppmciabdefaaFd
namespace Go.Proofs.Ytenppmciabdefaa
open Go.RowKit
def pbit (low width i : Nat) : Nat := if width ≤ i then 1 else low / 2 ^ i % 2
/-- The exponent behind k rounds. -/
def pexp (bits low width : Nat) : Nat → Nat
  | 0 => 0
  | k + 1 => 2 * pexp bits low width k + pbit low width (bits - 1 - k)
theorem pw_twice (N : Int) (e : Nat) : pw N e * pw N e = pw N (2 * e) := pw_mul N e e _ (by omega)
theorem pexp_one {bits low width k : Nat} (h : width ≤ bits - 1 - k) : pexp bits low width (k + 1) = 2 * pexp bits low width k + 1 := by
  rw [pexp, pbit, if_pos h]
def zero16 : Array Value := #[.int .i64 0, .int .i64 0, .int .i64 0, .int .i64 0, .int .i64 0, .int .i64 0, .int .i64 0, .int .i64 0, .int .i64 0, .int .i64 0, .int .i64 0, .int .i64 0, .int .i64 0, .int .i64 0, .int .i64 0, .int .i64 0]
/-- The loop's state: j rounds are left. -/
def PowR (w : World) (g : Nat) (A : List Int) (N : Int) (e : Nat) (wr : World) : Prop :=
  ∃ M, NumP M (pw N e) ∧ StN w [(g, arrI M), (w.heap.size, arrI A)] wr ∧ wr.heap[w.heap.size + 1]? = some (.cells zero16 52 (0, 0))
set_option maxRecDepth 100000 in
set_option maxHeartbeats 8000000 in
theorem rpower_inv (A : List Int) (N : Int) (w : World) (hA : NumP A N) : Calls Try.prog 77 #[numV A, .int .i64 255, .int .i64 11, .int .i64 5] w (ResN w (pw N (pexp 255 11 5 255))) := by
  have en : ∀ L, numV L = .agg (arrI L) := fun _ => rfl
  rw [en]
  have sA : (arrI A).size = 16 := by rw [arrI_size, hA.1]
  have HA := Lib.hid hA
  obtain ⟨W0, hW0, hz, hb0, q0, q1⟩ := two_new w (.cells (arrI A) 52) (.cells zero16 52)
  have hst0 : StN w [] W0 := ⟨by simp, hb0⟩
  have hst : StN w [(w.heap.size, arrI A)] W0 := hst0.add q0
  have HW : Hid ((w.alloc (.cells (arrI A) 52)).alloc (.cells #[.int .i64 0, .int .i64 0, .int .i64 0, .int .i64 0, .int .i64 0, .int .i64 0, .int .i64 0, .int .i64 0, .int .i64 0, .int .i64 0, .int .i64 0, .int .i64 0, .int .i64 0, .int .i64 0, .int .i64 0, .int .i64 0] 52) = W0) := hW0
  have HZ := Lib.hid hz
  clear hz hb0 q0 hW0 hst0 hA
  go_enter Try.func77, Try.ntmps77
  go_wp2_with fail
  rw [HW.out]
  refine (rsmall_any 1 _ (by omega) (by omega)).mono ?_
  rintro e w3 ⟨M, rfl, hM, hb3⟩
  rw [en]
  have hst := hst.keep hb3
  have c1 := block_stay hb3 q1
  have hl1 : w.heap.size + 2 ≤ w3.heap.size := by have := hb3.size; have := HZ.out; omega
  have sM : (arrI M).size = 16 := by rw [arrI_size, hM.1]
  clear q1 hb3 HW
  have d0 : (w3.alloc (.cells zero16 52)).heap[w3.heap.size]? = some (.cells zero16 52 (0, 0)) := heap_alloc_new w3 _
  have h0 : PowR w w3.heap.size A N (pexp 255 11 5 (255 - 255)) ((w3.alloc (.cells zero16 52)).setRow w3.heap.size (arrI M)) :=
    ⟨M, by show NumP M (pw N 0); unfold pw; rw [Int.pow_zero]; exact hM, ((hst.alloc _).store (by omega) (by simp; omega) _).add (setRow_here d0 _), by rw [setRow_other _ _ _ _ (by omega)]; exact Ext.alloc _ _ _ _ c1⟩
  have H0 := Lib.hid h0
  clear h0 hst c1 hM
  go_wp2_with (refine wpList_store_row rfl 52 _ _ rfl w3.heap.size (arrI M) rfl rfl 52 _ d0 (by rw [sM]; exact info_num) (by rw [sM]; rfl) (arrI_one M) ?_)
  rw [show (#[.int .i64 0, .int .i64 0, .int .i64 0, .int .i64 0, .int .i64 0, .int .i64 0, .int .i64 0, .int .i64 0, .int .i64 0, .int .i64 0, .int .i64 0, .int .i64 0, .int .i64 0, .int .i64 0, .int .i64 0, .int .i64 0] : Array Value) = zero16 from rfl]
  generalize (w3.alloc (.cells zero16 52)).setRow w3.heap.size (arrI M) = w4 at *
  generalize w3.heap.size = g at *
  clear d0 sM
  go_loopw [10] (fun i wr => ∃ j : Nat, j ≤ 255 ∧ i = .int .i64 ((j : Int) - 1) ∧ PowR w g A N (pexp 255 11 5 (255 - j)) wr) (fun i _ => (intOf i + 1).toNat)
  case atStart => exact ⟨255, by omega, rfl, H0.out⟩
  case round =>
    obtain ⟨j, hj, rfl, M, hM, hst, c1⟩ := hrel
    have sM : (arrI M).size = 16 := by rw [arrI_size, hM.1]
    have HM := Lib.hid hM
    clear hM H0 HZ
    rcases Nat.eq_zero_or_pos j with hj0 | hj0
    · subst hj0
      have cM := hst.at_ (g := g) (cs := arrI M) (by simp)
      go_wp2_with (first | (refine wpList_load_row rfl 52 (.tmp 9) rfl g rfl _ _ _ _ cM Try.underlying52 rfl (by rw [sM]; exact info_num) ?_) | (refine wpList_store_row rfl 52 (.tmp 8) (.tmp 35) rfl (w.heap.size + 1) (arrI M) rfl rfl 52 _ c1 (by rw [sM]; exact info_num) (by rw [sM]; rfl) (arrI_one M) ?_))
      refine ret_cell rfl (w.heap.size + 1) _ _ _ _ rfl (setRow_self c1 _) Try.underlying52 rfl (by rw [sM]; exact info_num) rfl ?_
      exact ⟨M, rfl, HM.out, below_setRow hst.2 (by omega) _⟩
    · have cM := hst.at_ (g := g) (cs := arrI M) (by simp)
      have hi0 : (0 : Int) ≤ (j : Int) - 1 := by omega
      go_wp2_with (first | (refine wpList_load_row rfl 52 (.tmp 9) rfl g rfl _ _ _ _ cM Try.underlying52 rfl (by rw [sM]; exact info_num) ?_))
      refine (rtimes_num M M _ _ _ HM.out HM.out).mono ?_
      rintro e w5 ⟨M1, rfl, hM1, hb5⟩
      rw [pw_twice] at hM1
      rw [en]
      have sM1 : (arrI M1).size = 16 := by rw [arrI_size, hM1.1]
      have HM1 := Lib.hid hM1
      have hst5 := hst.keep hb5
      have c5 := block_stay hb5 c1
      have cM5 := block_stay hb5 cM
      have hst6 := ((hst5.sub (bm := [(w.heap.size, arrI A)]) (by simp)).store (g := g) (by omega) (by simp; omega) (arrI M1)).add (setRow_here cM5 (arrI M1))
      have c6 : (w5.setRow g (arrI M1)).heap[w.heap.size + 1]? = some (.cells zero16 52 (0, 0)) := by rw [setRow_other _ _ _ _ (by omega)]; exact c5
      have cM6 := setRow_here cM5 (arrI M1)
      have cA6 := hst6.at_ (g := w.heap.size) (cs := arrI A) (by simp)
      have HC6 := Lib.hid c6
      have HS6 := Lib.hid hst6
      clear hM1 hst hst5 c5 c1 cM c6 hst6 hb5 HM
      by_cases hw : 5 < j
      · have hw1 : (5 : Int) ≤ (j : Int) - 1 := by omega
        go_wp2_with (first | (refine wpList_store_row rfl 52 (.tmp 9) (.tmp 20) rfl g (arrI M1) rfl rfl 52 _ cM5 (by rw [sM1]; exact info_num) (by rw [sM, sM1]) (arrI_one M1) ?_) | (refine wpList_load_row rfl 52 (.tmp 9) rfl g rfl _ _ _ _ cM6 Try.underlying52 rfl (by rw [sM1]; exact info_num) ?_) | (refine wpList_load_row rfl 52 (.tmp 4) rfl w.heap.size rfl _ _ _ _ cA6 Try.underlying52 rfl (by rw [sA]; exact info_num) ?_))
        refine (rtimes_num M1 A _ _ _ HM1.out HA.out).mono ?_
        rintro e w7 ⟨M2, rfl, hM2, hb7⟩
        rw [en]
        have sM2 : (arrI M2).size = 16 := by rw [arrI_size, hM2.1]
        have HM2 := Lib.hid hM2
        have hst7 := HS6.out.keep hb7
        have c7 := block_stay hb7 HC6.out
        have cM7 := block_stay hb7 cM6
        have hst8 := ((hst7.sub (bm := [(w.heap.size, arrI A)]) (by simp)).store (g := g) (by omega) (by simp; omega) (arrI M2)).add (setRow_here cM7 (arrI M2))
        have c8 : (w7.setRow g (arrI M2)).heap[w.heap.size + 1]? = some (.cells zero16 52 (0, 0)) := by rw [setRow_other _ _ _ _ (by omega)]; exact c7
        have HC8 := Lib.hid c8
        have HS8 := Lib.hid hst8
        clear hM2 hst7 c7 hb7 cM6 cA6 cM5 c8 hst8
        go_wp2_with (refine wpList_store_row rfl 52 (.tmp 9) (.tmp 34) rfl g (arrI M2) rfl rfl 52 _ cM7 (by rw [sM2]; exact info_num) (by rw [sM1, sM2]) (arrI_one M2) ?_)
        go_roundw
        case rel =>
          refine ⟨j - 1, by omega, by have e : ((j - 1 : Nat) : Int) = (j : Int) - 1 := (by omega); rw [e], M2, ?_, HS8.out, HC8.out⟩
          have e1 : 255 - (j - 1) = (255 - j) + 1 := by omega
          rw [e1, pexp_one (by omega), ← pw_mul N (2 * pexp 255 11 5 (255 - j)) 1 _ rfl, pw_one]
          exact HM2.out
        case measure => simp [intOf]; omega
      · have hcase : j = 1 ∨ j = 2 ∨ j = 3 ∨ j = 4 ∨ j = 5 := by omega
        clear hw
        rcases hcase with rfl | rfl | rfl | rfl | rfl
        · go_wp2_with (first | (refine wpList_store_row rfl 52 (.tmp 9) (.tmp 20) rfl g (arrI M1) rfl rfl 52 _ cM5 (by rw [sM1]; exact info_num) (by rw [sM, sM1]) (arrI_one M1) ?_) | (refine wpList_load_row rfl 52 (.tmp 9) rfl g rfl _ _ _ _ cM6 Try.underlying52 rfl (by rw [sM1]; exact info_num) ?_) | (refine wpList_load_row rfl 52 (.tmp 4) rfl w.heap.size rfl _ _ _ _ cA6 Try.underlying52 rfl (by rw [sA]; exact info_num) ?_))
          refine (rtimes_num M1 A _ _ _ HM1.out HA.out).mono ?_
          rintro e w7 ⟨M2, rfl, hM2, hb7⟩
          rw [en]
          have sM2 : (arrI M2).size = 16 := by rw [arrI_size, hM2.1]
          have HM2 := Lib.hid hM2
          have hst7 := HS6.out.keep hb7
          have c7 := block_stay hb7 HC6.out
          have cM7 := block_stay hb7 cM6
          have hst8 := ((hst7.sub (bm := [(w.heap.size, arrI A)]) (by simp)).store (g := g) (by omega) (by simp; omega) (arrI M2)).add (setRow_here cM7 (arrI M2))
          have c8 : (w7.setRow g (arrI M2)).heap[w.heap.size + 1]? = some (.cells zero16 52 (0, 0)) := by rw [setRow_other _ _ _ _ (by omega)]; exact c7
          have HC8 := Lib.hid c8
          have HS8 := Lib.hid hst8
          clear hM2 hst7 c7 hb7 cM6 cA6 cM5 c8 hst8
          go_wp2_with (refine wpList_store_row rfl 52 (.tmp 9) (.tmp 34) rfl g (arrI M2) rfl rfl 52 _ cM7 (by rw [sM2]; exact info_num) (by rw [sM1, sM2]) (arrI_one M2) ?_)
          go_roundw
          case rel =>
            refine ⟨0, by omega, by first | rfl | simp, M2, ?_, HS8.out, HC8.out⟩
            have e1 : pexp 255 11 5 (255 - 0) = 2 * pexp 255 11 5 (255 - 1) + 1 := rfl
            rw [e1, ← pw_mul N (2 * pexp 255 11 5 (255 - 1)) 1 _ rfl, pw_one]
            exact HM2.out
          case measure => simp [intOf]
        · go_wp2_with (first | (refine wpList_store_row rfl 52 (.tmp 9) (.tmp 20) rfl g (arrI M1) rfl rfl 52 _ cM5 (by rw [sM1]; exact info_num) (by rw [sM, sM1]) (arrI_one M1) ?_) | (refine wpList_load_row rfl 52 (.tmp 9) rfl g rfl _ _ _ _ cM6 Try.underlying52 rfl (by rw [sM1]; exact info_num) ?_) | (refine wpList_load_row rfl 52 (.tmp 4) rfl w.heap.size rfl _ _ _ _ cA6 Try.underlying52 rfl (by rw [sA]; exact info_num) ?_))
          refine (rtimes_num M1 A _ _ _ HM1.out HA.out).mono ?_
          rintro e w7 ⟨M2, rfl, hM2, hb7⟩
          rw [en]
          have sM2 : (arrI M2).size = 16 := by rw [arrI_size, hM2.1]
          have HM2 := Lib.hid hM2
          have hst7 := HS6.out.keep hb7
          have c7 := block_stay hb7 HC6.out
          have cM7 := block_stay hb7 cM6
          have hst8 := ((hst7.sub (bm := [(w.heap.size, arrI A)]) (by simp)).store (g := g) (by omega) (by simp; omega) (arrI M2)).add (setRow_here cM7 (arrI M2))
          have c8 : (w7.setRow g (arrI M2)).heap[w.heap.size + 1]? = some (.cells zero16 52 (0, 0)) := by rw [setRow_other _ _ _ _ (by omega)]; exact c7
          have HC8 := Lib.hid c8
          have HS8 := Lib.hid hst8
          clear hM2 hst7 c7 hb7 cM6 cA6 cM5 c8 hst8
          go_wp2_with (refine wpList_store_row rfl 52 (.tmp 9) (.tmp 34) rfl g (arrI M2) rfl rfl 52 _ cM7 (by rw [sM2]; exact info_num) (by rw [sM1, sM2]) (arrI_one M2) ?_)
          go_roundw
          case rel =>
            refine ⟨1, by omega, by first | rfl | simp, M2, ?_, HS8.out, HC8.out⟩
            have e1 : pexp 255 11 5 (255 - 1) = 2 * pexp 255 11 5 (255 - 2) + 1 := rfl
            rw [e1, ← pw_mul N (2 * pexp 255 11 5 (255 - 2)) 1 _ rfl, pw_one]
            exact HM2.out
          case measure => simp [intOf]
        · go_wp2_with (first | (refine wpList_store_row rfl 52 (.tmp 9) (.tmp 20) rfl g (arrI M1) rfl rfl 52 _ cM5 (by rw [sM1]; exact info_num) (by rw [sM, sM1]) (arrI_one M1) ?_))
          go_roundw
          case rel =>
            refine ⟨2, by omega, by first | rfl | simp, M1, ?_, HS6.out, HC6.out⟩
            have e1 : pexp 255 11 5 (255 - 2) = 2 * pexp 255 11 5 (255 - 3) := rfl
            rw [e1]
            exact HM1.out
          case measure => simp [intOf]
        · go_wp2_with (first | (refine wpList_store_row rfl 52 (.tmp 9) (.tmp 20) rfl g (arrI M1) rfl rfl 52 _ cM5 (by rw [sM1]; exact info_num) (by rw [sM, sM1]) (arrI_one M1) ?_) | (refine wpList_load_row rfl 52 (.tmp 9) rfl g rfl _ _ _ _ cM6 Try.underlying52 rfl (by rw [sM1]; exact info_num) ?_) | (refine wpList_load_row rfl 52 (.tmp 4) rfl w.heap.size rfl _ _ _ _ cA6 Try.underlying52 rfl (by rw [sA]; exact info_num) ?_))
          refine (rtimes_num M1 A _ _ _ HM1.out HA.out).mono ?_
          rintro e w7 ⟨M2, rfl, hM2, hb7⟩
          rw [en]
          have sM2 : (arrI M2).size = 16 := by rw [arrI_size, hM2.1]
          have HM2 := Lib.hid hM2
          have hst7 := HS6.out.keep hb7
          have c7 := block_stay hb7 HC6.out
          have cM7 := block_stay hb7 cM6
          have hst8 := ((hst7.sub (bm := [(w.heap.size, arrI A)]) (by simp)).store (g := g) (by omega) (by simp; omega) (arrI M2)).add (setRow_here cM7 (arrI M2))
          have c8 : (w7.setRow g (arrI M2)).heap[w.heap.size + 1]? = some (.cells zero16 52 (0, 0)) := by rw [setRow_other _ _ _ _ (by omega)]; exact c7
          have HC8 := Lib.hid c8
          have HS8 := Lib.hid hst8
          clear hM2 hst7 c7 hb7 cM6 cA6 cM5 c8 hst8
          go_wp2_with (refine wpList_store_row rfl 52 (.tmp 9) (.tmp 34) rfl g (arrI M2) rfl rfl 52 _ cM7 (by rw [sM2]; exact info_num) (by rw [sM1, sM2]) (arrI_one M2) ?_)
          go_roundw
          case rel =>
            refine ⟨3, by omega, by first | rfl | simp, M2, ?_, HS8.out, HC8.out⟩
            have e1 : pexp 255 11 5 (255 - 3) = 2 * pexp 255 11 5 (255 - 4) + 1 := rfl
            rw [e1, ← pw_mul N (2 * pexp 255 11 5 (255 - 4)) 1 _ rfl, pw_one]
            exact HM2.out
          case measure => simp [intOf]
        · go_wp2_with (first | (refine wpList_store_row rfl 52 (.tmp 9) (.tmp 20) rfl g (arrI M1) rfl rfl 52 _ cM5 (by rw [sM1]; exact info_num) (by rw [sM, sM1]) (arrI_one M1) ?_))
          go_roundw
          case rel =>
            refine ⟨4, by omega, by first | rfl | simp, M1, ?_, HS6.out, HC6.out⟩
            have e1 : pexp 255 11 5 (255 - 4) = 2 * pexp 255 11 5 (255 - 5) := rfl
            rw [e1]
            exact HM1.out
          case measure => simp [intOf]
set_option maxRecDepth 100000 in
set_option maxHeartbeats 8000000 in
theorem rpower_minus1 (A : List Int) (N : Int) (w : World) (hA : NumP A N) : Calls Try.prog 77 #[numV A, .int .i64 253, .int .i64 3, .int .i64 3] w (ResN w (pw N (pexp 253 3 3 253))) := by
  have en : ∀ L, numV L = .agg (arrI L) := fun _ => rfl
  rw [en]
  have sA : (arrI A).size = 16 := by rw [arrI_size, hA.1]
  have HA := Lib.hid hA
  obtain ⟨W0, hW0, hz, hb0, q0, q1⟩ := two_new w (.cells (arrI A) 52) (.cells zero16 52)
  have hst0 : StN w [] W0 := ⟨by simp, hb0⟩
  have hst : StN w [(w.heap.size, arrI A)] W0 := hst0.add q0
  have HW : Hid ((w.alloc (.cells (arrI A) 52)).alloc (.cells #[.int .i64 0, .int .i64 0, .int .i64 0, .int .i64 0, .int .i64 0, .int .i64 0, .int .i64 0, .int .i64 0, .int .i64 0, .int .i64 0, .int .i64 0, .int .i64 0, .int .i64 0, .int .i64 0, .int .i64 0, .int .i64 0] 52) = W0) := hW0
  have HZ := Lib.hid hz
  clear hz hb0 q0 hW0 hst0 hA
  go_enter Try.func77, Try.ntmps77
  go_wp2_with fail
  rw [HW.out]
  refine (rsmall_any 1 _ (by omega) (by omega)).mono ?_
  rintro e w3 ⟨M, rfl, hM, hb3⟩
  rw [en]
  have hst := hst.keep hb3
  have c1 := block_stay hb3 q1
  have hl1 : w.heap.size + 2 ≤ w3.heap.size := by have := hb3.size; have := HZ.out; omega
  have sM : (arrI M).size = 16 := by rw [arrI_size, hM.1]
  clear q1 hb3 HW
  have d0 : (w3.alloc (.cells zero16 52)).heap[w3.heap.size]? = some (.cells zero16 52 (0, 0)) := heap_alloc_new w3 _
  have h0 : PowR w w3.heap.size A N (pexp 253 3 3 (253 - 253)) ((w3.alloc (.cells zero16 52)).setRow w3.heap.size (arrI M)) :=
    ⟨M, by show NumP M (pw N 0); unfold pw; rw [Int.pow_zero]; exact hM, ((hst.alloc _).store (by omega) (by simp; omega) _).add (setRow_here d0 _), by rw [setRow_other _ _ _ _ (by omega)]; exact Ext.alloc _ _ _ _ c1⟩
  have H0 := Lib.hid h0
  clear h0 hst c1 hM
  go_wp2_with (refine wpList_store_row rfl 52 _ _ rfl w3.heap.size (arrI M) rfl rfl 52 _ d0 (by rw [sM]; exact info_num) (by rw [sM]; rfl) (arrI_one M) ?_)
  rw [show (#[.int .i64 0, .int .i64 0, .int .i64 0, .int .i64 0, .int .i64 0, .int .i64 0, .int .i64 0, .int .i64 0, .int .i64 0, .int .i64 0, .int .i64 0, .int .i64 0, .int .i64 0, .int .i64 0, .int .i64 0, .int .i64 0] : Array Value) = zero16 from rfl]
  generalize (w3.alloc (.cells zero16 52)).setRow w3.heap.size (arrI M) = w4 at *
  generalize w3.heap.size = g at *
  clear d0 sM
  go_loopw [10] (fun i wr => ∃ j : Nat, j ≤ 253 ∧ i = .int .i64 ((j : Int) - 1) ∧ PowR w g A N (pexp 253 3 3 (253 - j)) wr) (fun i _ => (intOf i + 1).toNat)
  case atStart => exact ⟨253, by omega, rfl, H0.out⟩
  case round =>
    obtain ⟨j, hj, rfl, M, hM, hst, c1⟩ := hrel
    have sM : (arrI M).size = 16 := by rw [arrI_size, hM.1]
    have HM := Lib.hid hM
    clear hM H0 HZ
    rcases Nat.eq_zero_or_pos j with hj0 | hj0
    · subst hj0
      have cM := hst.at_ (g := g) (cs := arrI M) (by simp)
      go_wp2_with (first | (refine wpList_load_row rfl 52 (.tmp 9) rfl g rfl _ _ _ _ cM Try.underlying52 rfl (by rw [sM]; exact info_num) ?_) | (refine wpList_store_row rfl 52 (.tmp 8) (.tmp 35) rfl (w.heap.size + 1) (arrI M) rfl rfl 52 _ c1 (by rw [sM]; exact info_num) (by rw [sM]; rfl) (arrI_one M) ?_))
      refine ret_cell rfl (w.heap.size + 1) _ _ _ _ rfl (setRow_self c1 _) Try.underlying52 rfl (by rw [sM]; exact info_num) rfl ?_
      exact ⟨M, rfl, HM.out, below_setRow hst.2 (by omega) _⟩
    · have cM := hst.at_ (g := g) (cs := arrI M) (by simp)
      have hi0 : (0 : Int) ≤ (j : Int) - 1 := by omega
      go_wp2_with (first | (refine wpList_load_row rfl 52 (.tmp 9) rfl g rfl _ _ _ _ cM Try.underlying52 rfl (by rw [sM]; exact info_num) ?_))
      refine (rtimes_num M M _ _ _ HM.out HM.out).mono ?_
      rintro e w5 ⟨M1, rfl, hM1, hb5⟩
      rw [pw_twice] at hM1
      rw [en]
      have sM1 : (arrI M1).size = 16 := by rw [arrI_size, hM1.1]
      have HM1 := Lib.hid hM1
      have hst5 := hst.keep hb5
      have c5 := block_stay hb5 c1
      have cM5 := block_stay hb5 cM
      have hst6 := ((hst5.sub (bm := [(w.heap.size, arrI A)]) (by simp)).store (g := g) (by omega) (by simp; omega) (arrI M1)).add (setRow_here cM5 (arrI M1))
      have c6 : (w5.setRow g (arrI M1)).heap[w.heap.size + 1]? = some (.cells zero16 52 (0, 0)) := by rw [setRow_other _ _ _ _ (by omega)]; exact c5
      have cM6 := setRow_here cM5 (arrI M1)
      have cA6 := hst6.at_ (g := w.heap.size) (cs := arrI A) (by simp)
      have HC6 := Lib.hid c6
      have HS6 := Lib.hid hst6
      clear hM1 hst hst5 c5 c1 cM c6 hst6 hb5 HM
      by_cases hw : 3 < j
      · have hw1 : (3 : Int) ≤ (j : Int) - 1 := by omega
        go_wp2_with (first | (refine wpList_store_row rfl 52 (.tmp 9) (.tmp 20) rfl g (arrI M1) rfl rfl 52 _ cM5 (by rw [sM1]; exact info_num) (by rw [sM, sM1]) (arrI_one M1) ?_) | (refine wpList_load_row rfl 52 (.tmp 9) rfl g rfl _ _ _ _ cM6 Try.underlying52 rfl (by rw [sM1]; exact info_num) ?_) | (refine wpList_load_row rfl 52 (.tmp 4) rfl w.heap.size rfl _ _ _ _ cA6 Try.underlying52 rfl (by rw [sA]; exact info_num) ?_))
        refine (rtimes_num M1 A _ _ _ HM1.out HA.out).mono ?_
        rintro e w7 ⟨M2, rfl, hM2, hb7⟩
        rw [en]
        have sM2 : (arrI M2).size = 16 := by rw [arrI_size, hM2.1]
        have HM2 := Lib.hid hM2
        have hst7 := HS6.out.keep hb7
        have c7 := block_stay hb7 HC6.out
        have cM7 := block_stay hb7 cM6
        have hst8 := ((hst7.sub (bm := [(w.heap.size, arrI A)]) (by simp)).store (g := g) (by omega) (by simp; omega) (arrI M2)).add (setRow_here cM7 (arrI M2))
        have c8 : (w7.setRow g (arrI M2)).heap[w.heap.size + 1]? = some (.cells zero16 52 (0, 0)) := by rw [setRow_other _ _ _ _ (by omega)]; exact c7
        have HC8 := Lib.hid c8
        have HS8 := Lib.hid hst8
        clear hM2 hst7 c7 hb7 cM6 cA6 cM5 c8 hst8
        go_wp2_with (refine wpList_store_row rfl 52 (.tmp 9) (.tmp 34) rfl g (arrI M2) rfl rfl 52 _ cM7 (by rw [sM2]; exact info_num) (by rw [sM1, sM2]) (arrI_one M2) ?_)
        go_roundw
        case rel =>
          refine ⟨j - 1, by omega, by have e : ((j - 1 : Nat) : Int) = (j : Int) - 1 := (by omega); rw [e], M2, ?_, HS8.out, HC8.out⟩
          have e1 : 253 - (j - 1) = (253 - j) + 1 := by omega
          rw [e1, pexp_one (by omega), ← pw_mul N (2 * pexp 253 3 3 (253 - j)) 1 _ rfl, pw_one]
          exact HM2.out
        case measure => simp [intOf]; omega
      · have hcase : j = 1 ∨ j = 2 ∨ j = 3 := by omega
        clear hw
        rcases hcase with rfl | rfl | rfl
        · go_wp2_with (first | (refine wpList_store_row rfl 52 (.tmp 9) (.tmp 20) rfl g (arrI M1) rfl rfl 52 _ cM5 (by rw [sM1]; exact info_num) (by rw [sM, sM1]) (arrI_one M1) ?_) | (refine wpList_load_row rfl 52 (.tmp 9) rfl g rfl _ _ _ _ cM6 Try.underlying52 rfl (by rw [sM1]; exact info_num) ?_) | (refine wpList_load_row rfl 52 (.tmp 4) rfl w.heap.size rfl _ _ _ _ cA6 Try.underlying52 rfl (by rw [sA]; exact info_num) ?_))
          refine (rtimes_num M1 A _ _ _ HM1.out HA.out).mono ?_
          rintro e w7 ⟨M2, rfl, hM2, hb7⟩
          rw [en]
          have sM2 : (arrI M2).size = 16 := by rw [arrI_size, hM2.1]
          have HM2 := Lib.hid hM2
          have hst7 := HS6.out.keep hb7
          have c7 := block_stay hb7 HC6.out
          have cM7 := block_stay hb7 cM6
          have hst8 := ((hst7.sub (bm := [(w.heap.size, arrI A)]) (by simp)).store (g := g) (by omega) (by simp; omega) (arrI M2)).add (setRow_here cM7 (arrI M2))
          have c8 : (w7.setRow g (arrI M2)).heap[w.heap.size + 1]? = some (.cells zero16 52 (0, 0)) := by rw [setRow_other _ _ _ _ (by omega)]; exact c7
          have HC8 := Lib.hid c8
          have HS8 := Lib.hid hst8
          clear hM2 hst7 c7 hb7 cM6 cA6 cM5 c8 hst8
          go_wp2_with (refine wpList_store_row rfl 52 (.tmp 9) (.tmp 34) rfl g (arrI M2) rfl rfl 52 _ cM7 (by rw [sM2]; exact info_num) (by rw [sM1, sM2]) (arrI_one M2) ?_)
          go_roundw
          case rel =>
            refine ⟨0, by omega, by first | rfl | simp, M2, ?_, HS8.out, HC8.out⟩
            have e1 : pexp 253 3 3 (253 - 0) = 2 * pexp 253 3 3 (253 - 1) + 1 := rfl
            rw [e1, ← pw_mul N (2 * pexp 253 3 3 (253 - 1)) 1 _ rfl, pw_one]
            exact HM2.out
          case measure => simp [intOf]
        · go_wp2_with (first | (refine wpList_store_row rfl 52 (.tmp 9) (.tmp 20) rfl g (arrI M1) rfl rfl 52 _ cM5 (by rw [sM1]; exact info_num) (by rw [sM, sM1]) (arrI_one M1) ?_) | (refine wpList_load_row rfl 52 (.tmp 9) rfl g rfl _ _ _ _ cM6 Try.underlying52 rfl (by rw [sM1]; exact info_num) ?_) | (refine wpList_load_row rfl 52 (.tmp 4) rfl w.heap.size rfl _ _ _ _ cA6 Try.underlying52 rfl (by rw [sA]; exact info_num) ?_))
          refine (rtimes_num M1 A _ _ _ HM1.out HA.out).mono ?_
          rintro e w7 ⟨M2, rfl, hM2, hb7⟩
          rw [en]
          have sM2 : (arrI M2).size = 16 := by rw [arrI_size, hM2.1]
          have HM2 := Lib.hid hM2
          have hst7 := HS6.out.keep hb7
          have c7 := block_stay hb7 HC6.out
          have cM7 := block_stay hb7 cM6
          have hst8 := ((hst7.sub (bm := [(w.heap.size, arrI A)]) (by simp)).store (g := g) (by omega) (by simp; omega) (arrI M2)).add (setRow_here cM7 (arrI M2))
          have c8 : (w7.setRow g (arrI M2)).heap[w.heap.size + 1]? = some (.cells zero16 52 (0, 0)) := by rw [setRow_other _ _ _ _ (by omega)]; exact c7
          have HC8 := Lib.hid c8
          have HS8 := Lib.hid hst8
          clear hM2 hst7 c7 hb7 cM6 cA6 cM5 c8 hst8
          go_wp2_with (refine wpList_store_row rfl 52 (.tmp 9) (.tmp 34) rfl g (arrI M2) rfl rfl 52 _ cM7 (by rw [sM2]; exact info_num) (by rw [sM1, sM2]) (arrI_one M2) ?_)
          go_roundw
          case rel =>
            refine ⟨1, by omega, by first | rfl | simp, M2, ?_, HS8.out, HC8.out⟩
            have e1 : pexp 253 3 3 (253 - 1) = 2 * pexp 253 3 3 (253 - 2) + 1 := rfl
            rw [e1, ← pw_mul N (2 * pexp 253 3 3 (253 - 2)) 1 _ rfl, pw_one]
            exact HM2.out
          case measure => simp [intOf]
        · go_wp2_with (first | (refine wpList_store_row rfl 52 (.tmp 9) (.tmp 20) rfl g (arrI M1) rfl rfl 52 _ cM5 (by rw [sM1]; exact info_num) (by rw [sM, sM1]) (arrI_one M1) ?_))
          go_roundw
          case rel =>
            refine ⟨2, by omega, by first | rfl | simp, M1, ?_, HS6.out, HC6.out⟩
            have e1 : pexp 253 3 3 (253 - 2) = 2 * pexp 253 3 3 (253 - 3) := rfl
            rw [e1]
            exact HM1.out
          case measure => simp [intOf]
set_option maxRecDepth 100000 in
set_option maxHeartbeats 8000000 in
theorem rpower_eighth (A : List Int) (N : Int) (w : World) (hA : NumP A N) : Calls Try.prog 77 #[numV A, .int .i64 252, .int .i64 14, .int .i64 4] w (ResN w (pw N (pexp 252 14 4 252))) := by
  have en : ∀ L, numV L = .agg (arrI L) := fun _ => rfl
  rw [en]
  have sA : (arrI A).size = 16 := by rw [arrI_size, hA.1]
  have HA := Lib.hid hA
  obtain ⟨W0, hW0, hz, hb0, q0, q1⟩ := two_new w (.cells (arrI A) 52) (.cells zero16 52)
  have hst0 : StN w [] W0 := ⟨by simp, hb0⟩
  have hst : StN w [(w.heap.size, arrI A)] W0 := hst0.add q0
  have HW : Hid ((w.alloc (.cells (arrI A) 52)).alloc (.cells #[.int .i64 0, .int .i64 0, .int .i64 0, .int .i64 0, .int .i64 0, .int .i64 0, .int .i64 0, .int .i64 0, .int .i64 0, .int .i64 0, .int .i64 0, .int .i64 0, .int .i64 0, .int .i64 0, .int .i64 0, .int .i64 0] 52) = W0) := hW0
  have HZ := Lib.hid hz
  clear hz hb0 q0 hW0 hst0 hA
  go_enter Try.func77, Try.ntmps77
  go_wp2_with fail
  rw [HW.out]
  refine (rsmall_any 1 _ (by omega) (by omega)).mono ?_
  rintro e w3 ⟨M, rfl, hM, hb3⟩
  rw [en]
  have hst := hst.keep hb3
  have c1 := block_stay hb3 q1
  have hl1 : w.heap.size + 2 ≤ w3.heap.size := by have := hb3.size; have := HZ.out; omega
  have sM : (arrI M).size = 16 := by rw [arrI_size, hM.1]
  clear q1 hb3 HW
  have d0 : (w3.alloc (.cells zero16 52)).heap[w3.heap.size]? = some (.cells zero16 52 (0, 0)) := heap_alloc_new w3 _
  have h0 : PowR w w3.heap.size A N (pexp 252 14 4 (252 - 252)) ((w3.alloc (.cells zero16 52)).setRow w3.heap.size (arrI M)) :=
    ⟨M, by show NumP M (pw N 0); unfold pw; rw [Int.pow_zero]; exact hM, ((hst.alloc _).store (by omega) (by simp; omega) _).add (setRow_here d0 _), by rw [setRow_other _ _ _ _ (by omega)]; exact Ext.alloc _ _ _ _ c1⟩
  have H0 := Lib.hid h0
  clear h0 hst c1 hM
  go_wp2_with (refine wpList_store_row rfl 52 _ _ rfl w3.heap.size (arrI M) rfl rfl 52 _ d0 (by rw [sM]; exact info_num) (by rw [sM]; rfl) (arrI_one M) ?_)
  rw [show (#[.int .i64 0, .int .i64 0, .int .i64 0, .int .i64 0, .int .i64 0, .int .i64 0, .int .i64 0, .int .i64 0, .int .i64 0, .int .i64 0, .int .i64 0, .int .i64 0, .int .i64 0, .int .i64 0, .int .i64 0, .int .i64 0] : Array Value) = zero16 from rfl]
  generalize (w3.alloc (.cells zero16 52)).setRow w3.heap.size (arrI M) = w4 at *
  generalize w3.heap.size = g at *
  clear d0 sM
  go_loopw [10] (fun i wr => ∃ j : Nat, j ≤ 252 ∧ i = .int .i64 ((j : Int) - 1) ∧ PowR w g A N (pexp 252 14 4 (252 - j)) wr) (fun i _ => (intOf i + 1).toNat)
  case atStart => exact ⟨252, by omega, rfl, H0.out⟩
  case round =>
    obtain ⟨j, hj, rfl, M, hM, hst, c1⟩ := hrel
    have sM : (arrI M).size = 16 := by rw [arrI_size, hM.1]
    have HM := Lib.hid hM
    clear hM H0 HZ
    rcases Nat.eq_zero_or_pos j with hj0 | hj0
    · subst hj0
      have cM := hst.at_ (g := g) (cs := arrI M) (by simp)
      go_wp2_with (first | (refine wpList_load_row rfl 52 (.tmp 9) rfl g rfl _ _ _ _ cM Try.underlying52 rfl (by rw [sM]; exact info_num) ?_) | (refine wpList_store_row rfl 52 (.tmp 8) (.tmp 35) rfl (w.heap.size + 1) (arrI M) rfl rfl 52 _ c1 (by rw [sM]; exact info_num) (by rw [sM]; rfl) (arrI_one M) ?_))
      refine ret_cell rfl (w.heap.size + 1) _ _ _ _ rfl (setRow_self c1 _) Try.underlying52 rfl (by rw [sM]; exact info_num) rfl ?_
      exact ⟨M, rfl, HM.out, below_setRow hst.2 (by omega) _⟩
    · have cM := hst.at_ (g := g) (cs := arrI M) (by simp)
      have hi0 : (0 : Int) ≤ (j : Int) - 1 := by omega
      go_wp2_with (first | (refine wpList_load_row rfl 52 (.tmp 9) rfl g rfl _ _ _ _ cM Try.underlying52 rfl (by rw [sM]; exact info_num) ?_))
      refine (rtimes_num M M _ _ _ HM.out HM.out).mono ?_
      rintro e w5 ⟨M1, rfl, hM1, hb5⟩
      rw [pw_twice] at hM1
      rw [en]
      have sM1 : (arrI M1).size = 16 := by rw [arrI_size, hM1.1]
      have HM1 := Lib.hid hM1
      have hst5 := hst.keep hb5
      have c5 := block_stay hb5 c1
      have cM5 := block_stay hb5 cM
      have hst6 := ((hst5.sub (bm := [(w.heap.size, arrI A)]) (by simp)).store (g := g) (by omega) (by simp; omega) (arrI M1)).add (setRow_here cM5 (arrI M1))
      have c6 : (w5.setRow g (arrI M1)).heap[w.heap.size + 1]? = some (.cells zero16 52 (0, 0)) := by rw [setRow_other _ _ _ _ (by omega)]; exact c5
      have cM6 := setRow_here cM5 (arrI M1)
      have cA6 := hst6.at_ (g := w.heap.size) (cs := arrI A) (by simp)
      have HC6 := Lib.hid c6
      have HS6 := Lib.hid hst6
      clear hM1 hst hst5 c5 c1 cM c6 hst6 hb5 HM
      by_cases hw : 4 < j
      · have hw1 : (4 : Int) ≤ (j : Int) - 1 := by omega
        go_wp2_with (first | (refine wpList_store_row rfl 52 (.tmp 9) (.tmp 20) rfl g (arrI M1) rfl rfl 52 _ cM5 (by rw [sM1]; exact info_num) (by rw [sM, sM1]) (arrI_one M1) ?_) | (refine wpList_load_row rfl 52 (.tmp 9) rfl g rfl _ _ _ _ cM6 Try.underlying52 rfl (by rw [sM1]; exact info_num) ?_) | (refine wpList_load_row rfl 52 (.tmp 4) rfl w.heap.size rfl _ _ _ _ cA6 Try.underlying52 rfl (by rw [sA]; exact info_num) ?_))
        refine (rtimes_num M1 A _ _ _ HM1.out HA.out).mono ?_
        rintro e w7 ⟨M2, rfl, hM2, hb7⟩
        rw [en]
        have sM2 : (arrI M2).size = 16 := by rw [arrI_size, hM2.1]
        have HM2 := Lib.hid hM2
        have hst7 := HS6.out.keep hb7
        have c7 := block_stay hb7 HC6.out
        have cM7 := block_stay hb7 cM6
        have hst8 := ((hst7.sub (bm := [(w.heap.size, arrI A)]) (by simp)).store (g := g) (by omega) (by simp; omega) (arrI M2)).add (setRow_here cM7 (arrI M2))
        have c8 : (w7.setRow g (arrI M2)).heap[w.heap.size + 1]? = some (.cells zero16 52 (0, 0)) := by rw [setRow_other _ _ _ _ (by omega)]; exact c7
        have HC8 := Lib.hid c8
        have HS8 := Lib.hid hst8
        clear hM2 hst7 c7 hb7 cM6 cA6 cM5 c8 hst8
        go_wp2_with (refine wpList_store_row rfl 52 (.tmp 9) (.tmp 34) rfl g (arrI M2) rfl rfl 52 _ cM7 (by rw [sM2]; exact info_num) (by rw [sM1, sM2]) (arrI_one M2) ?_)
        go_roundw
        case rel =>
          refine ⟨j - 1, by omega, by have e : ((j - 1 : Nat) : Int) = (j : Int) - 1 := (by omega); rw [e], M2, ?_, HS8.out, HC8.out⟩
          have e1 : 252 - (j - 1) = (252 - j) + 1 := by omega
          rw [e1, pexp_one (by omega), ← pw_mul N (2 * pexp 252 14 4 (252 - j)) 1 _ rfl, pw_one]
          exact HM2.out
        case measure => simp [intOf]; omega
      · have hcase : j = 1 ∨ j = 2 ∨ j = 3 ∨ j = 4 := by omega
        clear hw
        rcases hcase with rfl | rfl | rfl | rfl
        · go_wp2_with (first | (refine wpList_store_row rfl 52 (.tmp 9) (.tmp 20) rfl g (arrI M1) rfl rfl 52 _ cM5 (by rw [sM1]; exact info_num) (by rw [sM, sM1]) (arrI_one M1) ?_))
          go_roundw
          case rel =>
            refine ⟨0, by omega, by first | rfl | simp, M1, ?_, HS6.out, HC6.out⟩
            have e1 : pexp 252 14 4 (252 - 0) = 2 * pexp 252 14 4 (252 - 1) := rfl
            rw [e1]
            exact HM1.out
          case measure => simp [intOf]
        · go_wp2_with (first | (refine wpList_store_row rfl 52 (.tmp 9) (.tmp 20) rfl g (arrI M1) rfl rfl 52 _ cM5 (by rw [sM1]; exact info_num) (by rw [sM, sM1]) (arrI_one M1) ?_) | (refine wpList_load_row rfl 52 (.tmp 9) rfl g rfl _ _ _ _ cM6 Try.underlying52 rfl (by rw [sM1]; exact info_num) ?_) | (refine wpList_load_row rfl 52 (.tmp 4) rfl w.heap.size rfl _ _ _ _ cA6 Try.underlying52 rfl (by rw [sA]; exact info_num) ?_))
          refine (rtimes_num M1 A _ _ _ HM1.out HA.out).mono ?_
          rintro e w7 ⟨M2, rfl, hM2, hb7⟩
          rw [en]
          have sM2 : (arrI M2).size = 16 := by rw [arrI_size, hM2.1]
          have HM2 := Lib.hid hM2
          have hst7 := HS6.out.keep hb7
          have c7 := block_stay hb7 HC6.out
          have cM7 := block_stay hb7 cM6
          have hst8 := ((hst7.sub (bm := [(w.heap.size, arrI A)]) (by simp)).store (g := g) (by omega) (by simp; omega) (arrI M2)).add (setRow_here cM7 (arrI M2))
          have c8 : (w7.setRow g (arrI M2)).heap[w.heap.size + 1]? = some (.cells zero16 52 (0, 0)) := by rw [setRow_other _ _ _ _ (by omega)]; exact c7
          have HC8 := Lib.hid c8
          have HS8 := Lib.hid hst8
          clear hM2 hst7 c7 hb7 cM6 cA6 cM5 c8 hst8
          go_wp2_with (refine wpList_store_row rfl 52 (.tmp 9) (.tmp 34) rfl g (arrI M2) rfl rfl 52 _ cM7 (by rw [sM2]; exact info_num) (by rw [sM1, sM2]) (arrI_one M2) ?_)
          go_roundw
          case rel =>
            refine ⟨1, by omega, by first | rfl | simp, M2, ?_, HS8.out, HC8.out⟩
            have e1 : pexp 252 14 4 (252 - 1) = 2 * pexp 252 14 4 (252 - 2) + 1 := rfl
            rw [e1, ← pw_mul N (2 * pexp 252 14 4 (252 - 2)) 1 _ rfl, pw_one]
            exact HM2.out
          case measure => simp [intOf]
        · go_wp2_with (first | (refine wpList_store_row rfl 52 (.tmp 9) (.tmp 20) rfl g (arrI M1) rfl rfl 52 _ cM5 (by rw [sM1]; exact info_num) (by rw [sM, sM1]) (arrI_one M1) ?_) | (refine wpList_load_row rfl 52 (.tmp 9) rfl g rfl _ _ _ _ cM6 Try.underlying52 rfl (by rw [sM1]; exact info_num) ?_) | (refine wpList_load_row rfl 52 (.tmp 4) rfl w.heap.size rfl _ _ _ _ cA6 Try.underlying52 rfl (by rw [sA]; exact info_num) ?_))
          refine (rtimes_num M1 A _ _ _ HM1.out HA.out).mono ?_
          rintro e w7 ⟨M2, rfl, hM2, hb7⟩
          rw [en]
          have sM2 : (arrI M2).size = 16 := by rw [arrI_size, hM2.1]
          have HM2 := Lib.hid hM2
          have hst7 := HS6.out.keep hb7
          have c7 := block_stay hb7 HC6.out
          have cM7 := block_stay hb7 cM6
          have hst8 := ((hst7.sub (bm := [(w.heap.size, arrI A)]) (by simp)).store (g := g) (by omega) (by simp; omega) (arrI M2)).add (setRow_here cM7 (arrI M2))
          have c8 : (w7.setRow g (arrI M2)).heap[w.heap.size + 1]? = some (.cells zero16 52 (0, 0)) := by rw [setRow_other _ _ _ _ (by omega)]; exact c7
          have HC8 := Lib.hid c8
          have HS8 := Lib.hid hst8
          clear hM2 hst7 c7 hb7 cM6 cA6 cM5 c8 hst8
          go_wp2_with (refine wpList_store_row rfl 52 (.tmp 9) (.tmp 34) rfl g (arrI M2) rfl rfl 52 _ cM7 (by rw [sM2]; exact info_num) (by rw [sM1, sM2]) (arrI_one M2) ?_)
          go_roundw
          case rel =>
            refine ⟨2, by omega, by first | rfl | simp, M2, ?_, HS8.out, HC8.out⟩
            have e1 : pexp 252 14 4 (252 - 2) = 2 * pexp 252 14 4 (252 - 3) + 1 := rfl
            rw [e1, ← pw_mul N (2 * pexp 252 14 4 (252 - 3)) 1 _ rfl, pw_one]
            exact HM2.out
          case measure => simp [intOf]
        · go_wp2_with (first | (refine wpList_store_row rfl 52 (.tmp 9) (.tmp 20) rfl g (arrI M1) rfl rfl 52 _ cM5 (by rw [sM1]; exact info_num) (by rw [sM, sM1]) (arrI_one M1) ?_) | (refine wpList_load_row rfl 52 (.tmp 9) rfl g rfl _ _ _ _ cM6 Try.underlying52 rfl (by rw [sM1]; exact info_num) ?_) | (refine wpList_load_row rfl 52 (.tmp 4) rfl w.heap.size rfl _ _ _ _ cA6 Try.underlying52 rfl (by rw [sA]; exact info_num) ?_))
          refine (rtimes_num M1 A _ _ _ HM1.out HA.out).mono ?_
          rintro e w7 ⟨M2, rfl, hM2, hb7⟩
          rw [en]
          have sM2 : (arrI M2).size = 16 := by rw [arrI_size, hM2.1]
          have HM2 := Lib.hid hM2
          have hst7 := HS6.out.keep hb7
          have c7 := block_stay hb7 HC6.out
          have cM7 := block_stay hb7 cM6
          have hst8 := ((hst7.sub (bm := [(w.heap.size, arrI A)]) (by simp)).store (g := g) (by omega) (by simp; omega) (arrI M2)).add (setRow_here cM7 (arrI M2))
          have c8 : (w7.setRow g (arrI M2)).heap[w.heap.size + 1]? = some (.cells zero16 52 (0, 0)) := by rw [setRow_other _ _ _ _ (by omega)]; exact c7
          have HC8 := Lib.hid c8
          have HS8 := Lib.hid hst8
          clear hM2 hst7 c7 hb7 cM6 cA6 cM5 c8 hst8
          go_wp2_with (refine wpList_store_row rfl 52 (.tmp 9) (.tmp 34) rfl g (arrI M2) rfl rfl 52 _ cM7 (by rw [sM2]; exact info_num) (by rw [sM1, sM2]) (arrI_one M2) ?_)
          go_roundw
          case rel =>
            refine ⟨3, by omega, by first | rfl | simp, M2, ?_, HS8.out, HC8.out⟩
            have e1 : pexp 252 14 4 (252 - 3) = 2 * pexp 252 14 4 (252 - 4) + 1 := rfl
            rw [e1, ← pw_mul N (2 * pexp 252 14 4 (252 - 4)) 1 _ rfl, pw_one]
            exact HM2.out
          case measure => simp [intOf]
end Go.Proofs.Ytenppmciabdefaa
