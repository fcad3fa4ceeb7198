/- The walk of synodref04.MulAdd. No condition. -/
import Derived.Test.YtdcfpgclnhacmaaTe
namespace Go.Proofs.Ytdcfpgclnhacmaa
open Go Go.RowKit
/-- Numbers that are not below 0 and not above K. -/
def Bd (D : List Int) (K : Int) : Prop := ∀ j, 0 ≤ D.getD j 0 ∧ D.getD j 0 ≤ K
theorem Bd.set {D : List Int} {K K' x : Int} {k : Nat} (h : Bd D K) (hK : K ≤ K') (hx : 0 ≤ x ∧ x ≤ K') (hk : k < D.length) : Bd (D.set k x) K' := by
  intro j
  rw [getD_set _ _ _ _ hk]
  split
  · exact hx
  · have := h j; omega
def z66 : List Int := [0, 0, 0, 0, 0, 0, 0, 0, 0, 0, 0, 0, 0, 0, 0, 0, 0, 0, 0, 0, 0, 0, 0, 0, 0, 0, 0, 0, 0, 0, 0, 0, 0, 0, 0, 0, 0, 0, 0, 0, 0, 0, 0, 0, 0, 0, 0, 0, 0, 0, 0, 0, 0, 0, 0, 0, 0, 0, 0, 0, 0, 0, 0, 0, 0, 0]
def Z66 : Array Value := #[.int .i64 0, .int .i64 0, .int .i64 0, .int .i64 0, .int .i64 0, .int .i64 0, .int .i64 0, .int .i64 0, .int .i64 0, .int .i64 0, .int .i64 0, .int .i64 0, .int .i64 0, .int .i64 0, .int .i64 0, .int .i64 0, .int .i64 0, .int .i64 0, .int .i64 0, .int .i64 0, .int .i64 0, .int .i64 0, .int .i64 0, .int .i64 0, .int .i64 0, .int .i64 0, .int .i64 0, .int .i64 0, .int .i64 0, .int .i64 0, .int .i64 0, .int .i64 0, .int .i64 0, .int .i64 0, .int .i64 0, .int .i64 0, .int .i64 0, .int .i64 0, .int .i64 0, .int .i64 0, .int .i64 0, .int .i64 0, .int .i64 0, .int .i64 0, .int .i64 0, .int .i64 0, .int .i64 0, .int .i64 0, .int .i64 0, .int .i64 0, .int .i64 0, .int .i64 0, .int .i64 0, .int .i64 0, .int .i64 0, .int .i64 0, .int .i64 0, .int .i64 0, .int .i64 0, .int .i64 0, .int .i64 0, .int .i64 0, .int .i64 0, .int .i64 0, .int .i64 0, .int .i64 0]
theorem z66_arr : Z66 = arrI z66 := rfl
theorem z66_val : vd 256 z66 = 0 := by decide +kernel
theorem z66_bd : Bd z66 0 := by
  intro j
  have : ∀ x ∈ z66, 0 ≤ x ∧ x < 1 := by decide +kernel
  have := Dr.of_mem (by omega) this j
  omega
theorem make66 (w : World) : (Instr.makeSlice 47 (.int .i64 66) (.int .i64 66)).run Try.prog w = .ok (.slice (some ⟨w.heap.size, 0, none⟩) 66 66) (w.alloc (.cells Z66 3)) := by kernel_rfl
/-- What is reached behind i rows. -/
def dmu (A B C : List Int) (i : Nat) : Int := vd 256 (C.take i) + vd 256 (A.take i) * vd 256 B
def dmi (A B C : List Int) (i m : Nat) : Int := dmu A B C i + 256 ^ i * C.getD i 0 + 256 ^ i * (A.getD i 0 * vd 256 (B.take m))
theorem dmi_zero (A B C : List Int) (i : Nat) : dmi A B C i 0 = dmu A B C i + 256 ^ i * C.getD i 0 := by simp [dmi, vd]
theorem dmi_next (A B C : List Int) (i m : Nat) (hm : m < B.length) : dmi A B C i (m + 1) = dmi A B C i m + 256 ^ (i + m) * (A.getD i 0 * B.getD m 0) := by
  unfold dmi
  rw [vd_take_succ _ _ _ hm, Int.pow_add]
  grind
theorem dmi_all (A B C : List Int) (i : Nat) (hA : i < A.length) (hC : i < C.length) : dmi A B C i B.length = dmu A B C (i + 1) := by
  unfold dmi dmu
  rw [vd_take_succ _ _ _ hA, vd_take_succ _ _ _ hC, List.take_length]
  grind
theorem norm_last {D : List Int} {T : Int} (hl : D.length = 66) (hb : ∀ j, 0 ≤ D.getD j 0) (h : ∀ j, j < 65 → D.getD j 0 < 256) (hT : vd 256 D = T) (hT1 : T < 256 ^ 65) : Dr 256 D := by
  have h1 := vd_take_succ 256 D 65 (by omega)
  rw [List.take_of_length_le (by omega), hT] at h1
  have hd : Dr 256 (D.take 65) := by
    intro j
    rw [List.getD_eq_getElem?_getD, List.getElem?_take]
    split
    · rw [← List.getD_eq_getElem?_getD]; exact ⟨hb j, h j (by omega)⟩
    · simp
  have h0 := (vd_in (by omega) hd).1
  have h65 := hb 65
  have hz : D.getD 65 0 = 0 := by
    by_cases h2 : D.getD 65 0 < 1
    · omega
    · have h3 : (256 : Int) ^ 65 * 1 ≤ 256 ^ 65 * D.getD 65 0 := Int.mul_le_mul_of_nonneg_left (by omega) (by decide)
      omega
  intro j
  rcases Nat.lt_or_ge j 65 with hj | hj
  · exact ⟨hb j, h j hj⟩
  · rcases Nat.lt_or_ge j 66 with h4 | h4
    · obtain rfl : j = 65 := by omega
      omega
    · rw [List.getD_eq_getElem?_getD, List.getElem?_eq_none (by omega), Option.getD_none]; omega
/-- The state of the carries. -/
structure NP (T : Int) (D : List Int) (k : Nat) : Prop where
  len : D.length = 66
  val : vd 256 D = T
  low : ∀ j, 0 ≤ D.getD j 0
  done : ∀ j, j < k → D.getD j 0 < 256
  here : D.getD k 0 ≤ 137873472
  more : ∀ j, k < j → D.getD j 0 ≤ 68936736
theorem NP.next {T : Int} {D : List Int} {k : Nat} (h : NP T D k) (hk : k < 65) : NP T ((D.set (k + 1) (D.getD (k + 1) 0 + D.getD k 0 / 256)).set k (D.getD k 0 % 256)) (k + 1) := by
  have hl := h.len
  have h0 := h.low k
  have h1 := h.low (k + 1)
  have hh := h.here
  have hm := h.more (k + 1) (by omega)
  have g1 := getD_set D (k + 1) (D.getD (k + 1) 0 + D.getD k 0 / 256)
  have g2 := getD_set (D.set (k + 1) (D.getD (k + 1) 0 + D.getD k 0 / 256)) k (D.getD k 0 % 256)
  have gk : (D.set (k + 1) (D.getD (k + 1) 0 + D.getD k 0 / 256)).getD k 0 = D.getD k 0 := by rw [g1 _ (by omega), if_neg (by omega)]
  refine ⟨by rw [List.length_set, List.length_set]; exact hl, ?_, fun j => ?_, fun j hj => ?_, ?_, fun j hj => ?_⟩
  · rw [vd_set _ _ _ _ (by rw [List.length_set]; omega), gk, vd_set _ _ _ _ (by omega), h.val, Int.pow_succ]
    have e := Int.emod_add_mul_ediv (D.getD k 0) 256
    generalize D.getD k 0 = x at *
    generalize D.getD (k + 1) 0 = y at *
    generalize (256 : Int) ^ k = p at *
    have : x = x % 256 + 256 * (x / 256) := by omega
    generalize x % 256 = r at *
    generalize x / 256 = q at *
    subst this
    grind
  · rw [g2 _ (by rw [List.length_set]; omega)]
    split
    · omega
    · rw [g1 _ (by omega)]
      split
      · omega
      · exact h.low j
  · rw [g2 _ (by rw [List.length_set]; omega)]
    split
    · omega
    · rw [g1 _ (by omega), if_neg (by omega)]
      exact h.done j (by omega)
  · rw [g2 _ (by rw [List.length_set]; omega), if_neg (by omega), g1 _ (by omega), if_pos rfl]
    omega
  · rw [g2 _ (by rw [List.length_set]; omega), if_neg (by omega), g1 _ (by omega), if_neg (by omega)]
    exact h.more j (by omega)
theorem tmuladd_no (pa pb pc : Option Addr) (na ca nb cb nc cc : Nat) (w : World) (h : ¬ (na = 32 ∧ nb = 32 ∧ nc = 32)) :
    Calls Try.prog 10 #[.slice pa na ca, .slice pb nb cb, .slice pc nc cc] w fun e w' => e = .returned (.tuple #[.slice none 0 0, .int .i64 1]) ∧ w = w' := by
  by_cases h1 : na = 32
  · subst h1
    by_cases h2 : nb = 32
    · subst h2
      have h3 : ((nc : Int) != 32) = true := by rw [bne_iff_ne]; omega
      clear h
      go_enter Try.func10, Try.ntmps10
      go_wp2
      go_ret2
      exact ⟨rfl, rfl⟩
    · have h3 : ((nb : Int) != 32) = true := by rw [bne_iff_ne]; omega
      clear h h2
      go_enter Try.func10, Try.ntmps10
      go_wp2
      go_ret2
      exact ⟨rfl, rfl⟩
  · have h3 : ((na : Int) != 32) = true := by rw [bne_iff_ne]; omega
    clear h h1
    go_enter Try.func10, Try.ntmps10
    go_wp2
    go_ret2
    exact ⟨rfl, rfl⟩
theorem bytes_at {w wr W0 : World} {p : Option Addr} {l : List Int} {b : Nat} {t : TypeId} {cs : Array Value} (h : Bs w p 32 l) (hb0 : Below w.heap.size w W0) (hI : OneBlk W0 b t cs wr) (hge : w.heap.size ≤ b) : ∃ B off, p = some ⟨B, off, none⟩ ∧ ∀ j, j < 32 → wr.cell? ⟨B, off + j, none⟩ = some (.int .u8 (l.getD j 0)) := by
  obtain ⟨B, off, e, hc⟩ := h.2.2 (by omega)
  refine ⟨B, off, e, fun j hj => ?_⟩
  have h1 := hc j hj
  rw [(hI.below hb0 hge).cell (p := ⟨B, off + j, none⟩) (World.block_lt_of_cell? w _ h1)]
  exact h1
set_option maxRecDepth 100000 in
set_option maxHeartbeats 16000000 in
theorem tmuladd_yes (pa pb pc : Option Addr) (ca cb cc : Nat) (la lb lc : List Int) (w : World) (ha : Bs w pa 32 la) (hb : Bs w pb 32 lb) (hc : Bs w pc 32 lc) :
    Calls Try.prog 10 #[.slice pa 32 ca, .slice pb 32 cb, .slice pc 32 cc] w fun e w' => ∃ g cap', e = .returned (.tuple #[.slice (some ⟨g, 0, none⟩) 32 cap', .int .i64 0]) ∧ w.heap.size ≤ g ∧ 32 ≤ cap' ∧ Bs w' (some ⟨g, 0, none⟩) 32 (b32 ((vd 256 la * vd 256 lb + vd 256 lc) % LL)) ∧ Below w.heap.size w w' := by
  have hmk := make66
  have h255 := and_i64_255
  have HA := Lib.hid ha
  have HB := Lib.hid hb
  have HC := Lib.hid hc
  obtain ⟨Ba, oa, rfl, _⟩ := ha.2.2 (by omega)
  obtain ⟨Bb, ob, rfl, _⟩ := hb.2.2 (by omega)
  obtain ⟨Bc, oc, rfl, _⟩ := hc.2.2 (by omega)
  clear ha hb hc
  go_enter Try.func10, Try.ntmps10
  go_wp2
  obtain ⟨W0, hW0, hz, hb0, q0⟩ := one_new w (.cells (arrI z66) 3)
  rw [z66_arr, hW0]
  have HZ := Lib.hid hz
  clear hW0 hz hmk
  go_loopw [9] (fun i wr => ∃ (n : Nat) (D : List Int), n ≤ 32 ∧ i = .int .i64 n ∧ Hid (D.length = 66 ∧ vd 256 D = dmu la lb lc n ∧ Bd D (65281 * (33 * n))) ∧ OneBlk W0 w.heap.size 3 (arrI D) wr) (fun i _ => 32 - (intOf i).toNat)
  case atStart => exact ⟨0, z66, by omega, rfl, ⟨rfl, by rw [z66_val]; simp [dmu, vd], by simpa using z66_bd⟩, OneBlk.start q0⟩
  case round =>
    obtain ⟨n, D, hn, rfl, hD, hI⟩ := hrel
    by_cases hlt : n < 32
    · have hdl : decide ((n : Int) < 32) = true := by simp; omega
      obtain ⟨wo, rfl⟩ : ∃ wo : World, wo = wr := ⟨_, rfl⟩
      obtain ⟨D1, D2, D3⟩ := hD.out
      obtain ⟨_, _, e1, hcc⟩ := bytes_at HC.out hb0 hI (Nat.le_refl _)
      simp at e1
      obtain ⟨rfl, rfl⟩ := e1
      have cC := hcc n hlt
      have cD := (hI.cell n).trans (arrI_at _ _ (by omega))
      have fD := hI.free n
      have hh0 : (0 : Int) ≤ (n : Int) := by omega
      have hh1 : (n : Int) < 66 := by omega
      have hh2 : (n : Int) < 32 := by omega
      have xc : 0 ≤ lc.getD n 0 ∧ lc.getD n 0 < 256 := Dr.of_mem (by omega) HC.out.2.1 n
      have xd := D3 n
      have hst : Hid ((arrI D).setIfInBounds n (.int .i64 (D.getD n 0 + lc.getD n 0)) = arrI (D.set n (D.getD n 0 + lc.getD n 0))) := arrI_set _ _ _
      have hv : Hid ((D.set n (D.getD n 0 + lc.getD n 0)).length = 66 ∧ vd 256 (D.set n (D.getD n 0 + lc.getD n 0)) = dmi la lb lc n 0 ∧ Bd (D.set n (D.getD n 0 + lc.getD n 0)) (65281 * (33 * n + 1 + (0 : Nat)))) := by
        refine ⟨by rw [List.length_set]; exact D1, ?_, D3.set (by omega) (by omega) (by omega)⟩
        rw [vd_set _ _ _ _ (by omega), D2, dmi_zero]
        congr 2; omega
      generalize D.set n (D.getD n 0 + lc.getD n 0) = E at *
      generalize lc.getD n 0 = c at *
      generalize D.getD n 0 = d at *
      have HI := Lib.hid hI
      clear hI hD D1 D2 D3 hcc
      go_wp2
      go_region
      have hI2 := (HI.out.setCell n (.int .i64 (d + c))).drew
      rw [hst.out] at hI2
      generalize (wo.setCell ⟨w.heap.size, n, none⟩ (.int .i64 (d + c))).drew = wp at *
      clear cC cD fD xc xd hst HI hdl
      go_wp2
      go_loopw [10] (fun k wr => ∃ (m : Nat) (D : List Int), m ≤ 32 ∧ k = .int .i64 m ∧ Hid (D.length = 66 ∧ vd 256 D = dmi la lb lc n m ∧ Bd D (65281 * (33 * n + 1 + m))) ∧ OneBlk W0 w.heap.size 3 (arrI D) wr) (fun k _ => 32 - (intOf k).toNat)
      case atStart => exact ⟨0, E, by omega, rfl, hv, hI2⟩
      case round =>
        clear hv hI2
        obtain ⟨m, D, hm, rfl, hD, hI⟩ := hrel
        obtain ⟨D1, D2, D3⟩ := hD.out
        by_cases hmlt : m < 32
        · have hdl : decide ((m : Int) < 32) = true := by simp; omega
          obtain ⟨_, _, e1, hca⟩ := bytes_at HA.out hb0 hI (Nat.le_refl _)
          obtain ⟨_, _, e2, hcb⟩ := bytes_at HB.out hb0 hI (Nat.le_refl _)
          simp at e1 e2
          obtain ⟨rfl, rfl⟩ := e1
          obtain ⟨rfl, rfl⟩ := e2
          have cA := hca n hlt
          have cB := hcb m hmlt
          have cD := (hI.cell (n + m)).trans (arrI_at _ _ (by omega))
          have fD := hI.free (n + m)
          have hm0 : (0 : Int) ≤ (m : Int) := by omega
          have hm1 : (m : Int) < 32 := by omega
          have hm2 : (n : Int) + m < 66 := by omega
          have xa : 0 ≤ la.getD n 0 ∧ la.getD n 0 < 256 := Dr.of_mem (by omega) HA.out.2.1 n
          have xb : 0 ≤ lb.getD m 0 ∧ lb.getD m 0 < 256 := Dr.of_mem (by omega) HB.out.2.1 m
          have xd := D3 (n + m)
          have xp : 0 ≤ la.getD n 0 * lb.getD m 0 ∧ la.getD n 0 * lb.getD m 0 ≤ 65025 := by
            refine ⟨Int.mul_nonneg xa.1 xb.1, ?_⟩
            have := Int.mul_le_mul (by omega : la.getD n 0 ≤ 255) (by omega : lb.getD m 0 ≤ 255) xb.1 (by omega : (0 : Int) ≤ 255)
            simpa using this
          have hst : Hid ((arrI D).setIfInBounds (n + m) (.int .i64 (D.getD (n + m) 0 + la.getD n 0 * lb.getD m 0)) = arrI (D.set (n + m) (D.getD (n + m) 0 + la.getD n 0 * lb.getD m 0))) := arrI_set _ _ _
          have hv : Hid ((D.set (n + m) (D.getD (n + m) 0 + la.getD n 0 * lb.getD m 0)).length = 66 ∧ vd 256 (D.set (n + m) (D.getD (n + m) 0 + la.getD n 0 * lb.getD m 0)) = dmi la lb lc n (m + 1) ∧ Bd (D.set (n + m) (D.getD (n + m) 0 + la.getD n 0 * lb.getD m 0)) (65281 * (33 * n + 1 + ((m + 1 : Nat) : Int)))) := by
            refine ⟨by rw [List.length_set]; exact D1, ?_, D3.set (by omega) (by omega) (by omega)⟩
            rw [vd_set _ _ _ _ (by omega), D2, dmi_next la lb lc n m (by rw [HB.out.1]; exact hmlt)]
            congr 2; omega
          generalize D.set (n + m) (D.getD (n + m) 0 + la.getD n 0 * lb.getD m 0) = E at *
          generalize la.getD n 0 = a at *
          generalize lb.getD m 0 = b at *
          generalize D.getD (n + m) 0 = d at *
          have HI := Lib.hid hI
          clear hI hD D1 D2 D3 hca hcb
          go_wp2
          go_region
          go_wp2
          go_roundw
          case rel => exact ⟨m + 1, E, by omega, by go_num, hv, by rw [← hst.out]; exact (HI.out.setCell (n + m) _).drew⟩
          case measure => simp [intOf]; omega
        · obtain rfl : m = 32 := by omega
          have hdl : decide ((32 : Int) < 32) = false := rfl
          have hv : Hid (D.length = 66 ∧ vd 256 D = dmu la lb lc (n + 1) ∧ Bd D (65281 * (33 * ((n + 1 : Nat) : Int)))) := by
            refine ⟨D1, ?_, ?_⟩
            · rw [D2, ← dmi_all la lb lc n (by rw [HA.out.1]; exact hlt) (by rw [HC.out.1]; exact hlt), HB.out.1]
            · intro j; have := D3 j; omega
          clear hD D1 D2 D3
          go_wp2
          go_roundw
          case rel => exact ⟨n + 1, D, by omega, by go_num, hv, hI⟩
          case measure => simp [intOf]; omega
    · obtain rfl : n = 32 := by omega
      have hdl : decide ((32 : Int) < 32) = false := rfl
      obtain ⟨D1, D2, D3⟩ := hD.out
      have hT : dmu la lb lc 32 = vd 256 la * vd 256 lb + vd 256 lc := by
        unfold dmu
        rw [List.take_of_length_le (by rw [HC.out.1]; omega), List.take_of_length_le (by rw [HA.out.1]; omega)]
        omega
      have hT1 : vd 256 la * vd 256 lb + vd 256 lc < 256 ^ 65 := by
        have v1 := vb_in HA.out.1 HA.out.2.1
        have v2 := vb_in HB.out.1 HB.out.2.1
        have v3 := vb_in HC.out.1 HC.out.2.1
        have h2 := Int.mul_le_mul (show vd 256 la ≤ 2 ^ (8 * 32) by omega) (show vd 256 lb ≤ 2 ^ (8 * 32) by omega) v2.1 (by decide)
        have h3 : (2 : Int) ^ (8 * 32) * 2 ^ (8 * 32) + 2 ^ (8 * 32) < 256 ^ 65 := by decide +kernel
        omega
      have hN : Hid (NP (vd 256 la * vd 256 lb + vd 256 lc) D 0) := ⟨D1, by rw [D2, hT], fun j => (D3 j).1, fun j hj => by omega, by have := D3 0; omega, fun j _ => by have := D3 j; omega⟩
      generalize hTT : vd 256 la * vd 256 lb + vd 256 lc = T at *
      have HTT := Lib.hid hTT
      have HT1 := Lib.hid hT1
      clear hD D1 D2 D3 hT hT1 hTT
      go_wp2
      go_loopw [11] (fun i wr => ∃ (k : Nat) (D : List Int), k ≤ 65 ∧ i = .int .i64 k ∧ Hid (NP T D k) ∧ OneBlk W0 w.heap.size 3 (arrI D) wr) (fun i _ => 65 - (intOf i).toNat)
      case atStart => exact ⟨0, D, by omega, rfl, hN, hI⟩
      case round =>
        clear hN hI
        obtain ⟨k, D, hk, rfl, hN, hI⟩ := hrel
        have hl := hN.out.len
        by_cases hklt : k < 65
        · have hdk : decide ((k : Int) < 65) = true := by simp; omega
          have c0 := (hI.cell k).trans (arrI_at _ _ (by omega))
          have c1 := (hI.cell (k + 1)).trans (arrI_at _ _ (by omega))
          have f1 := hI.free (k + 1)
          have hh0 : (0 : Int) ≤ (k : Int) := by omega
          have hh1 : (k : Int) < 65 := by omega
          have x0 := hN.out.low k
          have x1 := hN.out.low (k + 1)
          have x2 := hN.out.here
          have x3 := hN.out.more (k + 1) (by omega)
          have hnx : Hid (NP T ((D.set (k + 1) (D.getD (k + 1) 0 + D.getD k 0 / 256)).set k (D.getD k 0 % 256)) (k + 1)) := hN.out.next hklt
          have hs1 : Hid ((arrI D).setIfInBounds (k + 1) (.int .i64 (D.getD (k + 1) 0 + D.getD k 0 / 256)) = arrI (D.set (k + 1) (D.getD (k + 1) 0 + D.getD k 0 / 256))) := arrI_set _ _ _
          have hs2 : Hid ((arrI (D.set (k + 1) (D.getD (k + 1) 0 + D.getD k 0 / 256))).setIfInBounds k (.int .i64 (D.getD k 0 % 256)) = arrI ((D.set (k + 1) (D.getD (k + 1) 0 + D.getD k 0 / 256)).set k (D.getD k 0 % 256))) := arrI_set _ _ _
          have ck : (arrI (D.set (k + 1) (D.getD (k + 1) 0 + D.getD k 0 / 256)))[k]? = some (.int .i64 (D.getD k 0)) := by
            rw [arrI_at _ _ (by rw [List.length_set]; omega), getD_set _ _ _ _ (by omega), if_neg (by omega)]
          have CK := Lib.hid ck
          clear ck
          generalize (D.set (k + 1) (D.getD (k + 1) 0 + D.getD k 0 / 256)).set k (D.getD k 0 % 256) = E2 at *
          generalize D.set (k + 1) (D.getD (k + 1) 0 + D.getD k 0 / 256) = E1 at *
          generalize D.getD k 0 = x at *
          generalize D.getD (k + 1) 0 = y at *
          have HI := Lib.hid hI
          clear hI hN hl
          go_wp2
          go_region
          have hI2 := (HI.out.setCell (k + 1) (.int .i64 (y + x / 256))).drew
          rw [hs1.out] at hI2
          generalize (wr.setCell ⟨w.heap.size, k + 1, none⟩ (.int .i64 (y + x / 256))).drew = wp at *
          clear c0 c1 f1 HI
          have c2 := (hI2.cell k).trans CK.out
          have f2 := hI2.free k
          have HI2 := Lib.hid hI2
          clear hI2
          go_wp2
          go_roundw
          case rel => exact ⟨k + 1, E2, by omega, by go_num, hnx, by rw [← hs2.out]; exact HI2.out.setCell k _⟩
          case measure => simp [intOf]; omega
        · obtain rfl : k = 65 := by omega
          have hdk : decide ((65 : Int) < 65) = false := rfl
          have hDr : Dr 256 D := norm_last hl hN.out.low hN.out.done hN.out.val HT1.out
          have hbel := hI.below hb0 (Nat.le_refl _)
          have hIs := Is.of_block hI.blk hl
          have hval := Lib.hid hN.out.val
          clear hI hN hl
          go_wp2_with fail
          refine (trest_any _ 66 66 D _ (by omega) hIs hDr).mono ?_
          rintro e w5 ⟨g, cg, rfl, hg, hcg, hB5, hb5⟩
          rw [hval.out] at hB5
          have hs := hbel.size
          go_wp2
          go_ret2
          exact ⟨g, cg, rfl, by omega, hcg, by rw [HTT.out]; exact hB5, bjoin hbel hb5⟩
end Go.Proofs.Ytdcfpgclnhacmaa
