/- Sixteen limbs of 16 bits, and their carry. No condition. -/
import Derived.Test.YtenppmciabdefaaWi
namespace Go.Proofs.Ytenppmciabdefaa
open Go.RowKit
/-- The number that limbs are. -/
def valL : List Int → Int
  | [] => 0
  | x :: l => x + 65536 * valL l
theorem list16 {l : List Int} (h : l.length = 16) : ∃ L0 L1 L2 L3 L4 L5 L6 L7 L8 L9 L10 L11 L12 L13 L14 L15 : Int, l = [L0, L1, L2, L3, L4, L5, L6, L7, L8, L9, L10, L11, L12, L13, L14, L15] := by
  match l, h with
  | [L0, L1, L2, L3, L4, L5, L6, L7, L8, L9, L10, L11, L12, L13, L14, L15], _ => exact ⟨_, _, _, _, _, _, _, _, _, _, _, _, _, _, _, _, rfl⟩
theorem carr_step (x : Int) (hx : -1152956688978935808 ≤ x ∧ x ≤ 1152956688978935808) : ∃ c r : Int, x / 65536 = c ∧ x - c * 65536 = r ∧ (-35184372088832 ≤ c ∧ c ≤ 35184372088832) ∧ (0 ≤ r ∧ r < 65536) :=
  ⟨_, _, rfl, rfl, by omega, by omega⟩
/-- All limbs carried: what is above 2^256 comes back 38-fold. -/
def CarR (L M : List Int) : Prop := ∃ q r : Int, ∃ T : List Int, M = (r + 38 * q) :: T ∧ T.length = 15 ∧ (0 ≤ r ∧ r < 65536) ∧ (∀ x ∈ T, 0 ≤ x ∧ x < 65536) ∧ valL (r :: T) + 115792089237316195423570985008687907853269984665640564039457584007913129639936 * q = valL L ∧ (-35184372088832 ≤ q ∧ q ≤ 35184372088832)
set_option maxRecDepth 100000 in
set_option maxHeartbeats 16000000 in
theorem rcarry_any (L : List Int) (w : World) (hL : L.length = 16) (hb : ∀ x ∈ L, -1152921504606846976 ≤ x ∧ x ≤ 1152921504606846976) :
    Calls Try.prog 76 #[numV L] w fun e w' => ∃ M : List Int, e = .returned (numV M) ∧ CarR L M ∧ Below w.heap.size w w' := by
  obtain ⟨L0, L1, L2, L3, L4, L5, L6, L7, L8, L9, L10, L11, L12, L13, L14, L15, rfl⟩ := list16 hL
  have h0 := hb L0 (by simp)
  have h1 := hb L1 (by simp)
  have h2 := hb L2 (by simp)
  have h3 := hb L3 (by simp)
  have h4 := hb L4 (by simp)
  have h5 := hb L5 (by simp)
  have h6 := hb L6 (by simp)
  have h7 := hb L7 (by simp)
  have h8 := hb L8 (by simp)
  have h9 := hb L9 (by simp)
  have h10 := hb L10 (by simp)
  have h11 := hb L11 (by simp)
  have h12 := hb L12 (by simp)
  have h13 := hb L13 (by simp)
  have h14 := hb L14 (by simp)
  have h15 := hb L15 (by simp)
  clear hb hL
  obtain ⟨c0, r0, e0, s0, k0, g0⟩ := carr_step L0 (by omega)
  obtain ⟨a1, n1⟩ : ∃ a, L1 + c0 = a := ⟨_, rfl⟩
  obtain ⟨c1, r1, e1, s1, k1, g1⟩ := carr_step a1 (by omega)
  obtain ⟨a2, n2⟩ : ∃ a, L2 + c1 = a := ⟨_, rfl⟩
  obtain ⟨c2, r2, e2, s2, k2, g2⟩ := carr_step a2 (by omega)
  obtain ⟨a3, n3⟩ : ∃ a, L3 + c2 = a := ⟨_, rfl⟩
  obtain ⟨c3, r3, e3, s3, k3, g3⟩ := carr_step a3 (by omega)
  obtain ⟨a4, n4⟩ : ∃ a, L4 + c3 = a := ⟨_, rfl⟩
  obtain ⟨c4, r4, e4, s4, k4, g4⟩ := carr_step a4 (by omega)
  obtain ⟨a5, n5⟩ : ∃ a, L5 + c4 = a := ⟨_, rfl⟩
  obtain ⟨c5, r5, e5, s5, k5, g5⟩ := carr_step a5 (by omega)
  obtain ⟨a6, n6⟩ : ∃ a, L6 + c5 = a := ⟨_, rfl⟩
  obtain ⟨c6, r6, e6, s6, k6, g6⟩ := carr_step a6 (by omega)
  obtain ⟨a7, n7⟩ : ∃ a, L7 + c6 = a := ⟨_, rfl⟩
  obtain ⟨c7, r7, e7, s7, k7, g7⟩ := carr_step a7 (by omega)
  obtain ⟨a8, n8⟩ : ∃ a, L8 + c7 = a := ⟨_, rfl⟩
  obtain ⟨c8, r8, e8, s8, k8, g8⟩ := carr_step a8 (by omega)
  obtain ⟨a9, n9⟩ : ∃ a, L9 + c8 = a := ⟨_, rfl⟩
  obtain ⟨c9, r9, e9, s9, k9, g9⟩ := carr_step a9 (by omega)
  obtain ⟨a10, n10⟩ : ∃ a, L10 + c9 = a := ⟨_, rfl⟩
  obtain ⟨c10, r10, e10, s10, k10, g10⟩ := carr_step a10 (by omega)
  obtain ⟨a11, n11⟩ : ∃ a, L11 + c10 = a := ⟨_, rfl⟩
  obtain ⟨c11, r11, e11, s11, k11, g11⟩ := carr_step a11 (by omega)
  obtain ⟨a12, n12⟩ : ∃ a, L12 + c11 = a := ⟨_, rfl⟩
  obtain ⟨c12, r12, e12, s12, k12, g12⟩ := carr_step a12 (by omega)
  obtain ⟨a13, n13⟩ : ∃ a, L13 + c12 = a := ⟨_, rfl⟩
  obtain ⟨c13, r13, e13, s13, k13, g13⟩ := carr_step a13 (by omega)
  obtain ⟨a14, n14⟩ : ∃ a, L14 + c13 = a := ⟨_, rfl⟩
  obtain ⟨c14, r14, e14, s14, k14, g14⟩ := carr_step a14 (by omega)
  obtain ⟨a15, n15⟩ : ∃ a, L15 + c14 = a := ⟨_, rfl⟩
  obtain ⟨c15, r15, e15, s15, k15, g15⟩ := carr_step a15 (by omega)
  obtain ⟨z0, y0⟩ : ∃ z, r0 + 38 * c15 = z := ⟨_, rfl⟩
  have HV : Hid (valL [r0, r1, r2, r3, r4, r5, r6, r7, r8, r9, r10, r11, r12, r13, r14, r15] + 115792089237316195423570985008687907853269984665640564039457584007913129639936 * c15 = valL [L0, L1, L2, L3, L4, L5, L6, L7, L8, L9, L10, L11, L12, L13, L14, L15]) := by
    show _ = _
    simp only [valL]
    subst y0
    omega
  have E0 := Lib.hid (And.intro e0 (And.intro s0 n1))
  have K0 := Lib.hid (And.intro k0 (And.intro g0 h0))
  have E1 := Lib.hid (And.intro e1 (And.intro s1 n2))
  have K1 := Lib.hid (And.intro k1 (And.intro g1 h1))
  have A1 : Hid (-1152956688978935808 ≤ a1 ∧ a1 ≤ 1152956688978935808) := by show _ ∧ _; omega
  have E2 := Lib.hid (And.intro e2 (And.intro s2 n3))
  have K2 := Lib.hid (And.intro k2 (And.intro g2 h2))
  have A2 : Hid (-1152956688978935808 ≤ a2 ∧ a2 ≤ 1152956688978935808) := by show _ ∧ _; omega
  have E3 := Lib.hid (And.intro e3 (And.intro s3 n4))
  have K3 := Lib.hid (And.intro k3 (And.intro g3 h3))
  have A3 : Hid (-1152956688978935808 ≤ a3 ∧ a3 ≤ 1152956688978935808) := by show _ ∧ _; omega
  have E4 := Lib.hid (And.intro e4 (And.intro s4 n5))
  have K4 := Lib.hid (And.intro k4 (And.intro g4 h4))
  have A4 : Hid (-1152956688978935808 ≤ a4 ∧ a4 ≤ 1152956688978935808) := by show _ ∧ _; omega
  have E5 := Lib.hid (And.intro e5 (And.intro s5 n6))
  have K5 := Lib.hid (And.intro k5 (And.intro g5 h5))
  have A5 : Hid (-1152956688978935808 ≤ a5 ∧ a5 ≤ 1152956688978935808) := by show _ ∧ _; omega
  have E6 := Lib.hid (And.intro e6 (And.intro s6 n7))
  have K6 := Lib.hid (And.intro k6 (And.intro g6 h6))
  have A6 : Hid (-1152956688978935808 ≤ a6 ∧ a6 ≤ 1152956688978935808) := by show _ ∧ _; omega
  have E7 := Lib.hid (And.intro e7 (And.intro s7 n8))
  have K7 := Lib.hid (And.intro k7 (And.intro g7 h7))
  have A7 : Hid (-1152956688978935808 ≤ a7 ∧ a7 ≤ 1152956688978935808) := by show _ ∧ _; omega
  have E8 := Lib.hid (And.intro e8 (And.intro s8 n9))
  have K8 := Lib.hid (And.intro k8 (And.intro g8 h8))
  have A8 : Hid (-1152956688978935808 ≤ a8 ∧ a8 ≤ 1152956688978935808) := by show _ ∧ _; omega
  have E9 := Lib.hid (And.intro e9 (And.intro s9 n10))
  have K9 := Lib.hid (And.intro k9 (And.intro g9 h9))
  have A9 : Hid (-1152956688978935808 ≤ a9 ∧ a9 ≤ 1152956688978935808) := by show _ ∧ _; omega
  have E10 := Lib.hid (And.intro e10 (And.intro s10 n11))
  have K10 := Lib.hid (And.intro k10 (And.intro g10 h10))
  have A10 : Hid (-1152956688978935808 ≤ a10 ∧ a10 ≤ 1152956688978935808) := by show _ ∧ _; omega
  have E11 := Lib.hid (And.intro e11 (And.intro s11 n12))
  have K11 := Lib.hid (And.intro k11 (And.intro g11 h11))
  have A11 : Hid (-1152956688978935808 ≤ a11 ∧ a11 ≤ 1152956688978935808) := by show _ ∧ _; omega
  have E12 := Lib.hid (And.intro e12 (And.intro s12 n13))
  have K12 := Lib.hid (And.intro k12 (And.intro g12 h12))
  have A12 : Hid (-1152956688978935808 ≤ a12 ∧ a12 ≤ 1152956688978935808) := by show _ ∧ _; omega
  have E13 := Lib.hid (And.intro e13 (And.intro s13 n14))
  have K13 := Lib.hid (And.intro k13 (And.intro g13 h13))
  have A13 : Hid (-1152956688978935808 ≤ a13 ∧ a13 ≤ 1152956688978935808) := by show _ ∧ _; omega
  have E14 := Lib.hid (And.intro e14 (And.intro s14 n15))
  have K14 := Lib.hid (And.intro k14 (And.intro g14 h14))
  have A14 : Hid (-1152956688978935808 ≤ a14 ∧ a14 ≤ 1152956688978935808) := by show _ ∧ _; omega
  have E15 := Lib.hid (And.intro e15 (And.intro s15 y0))
  have K15 := Lib.hid (And.intro k15 (And.intro g15 h15))
  have A15 : Hid (-1152956688978935808 ≤ a15 ∧ a15 ≤ 1152956688978935808) := by show _ ∧ _; omega
  clear e0 s0 k0 g0 h0 e1 s1 k1 g1 h1 e2 s2 k2 g2 h2 e3 s3 k3 g3 h3 e4 s4 k4 g4 h4 e5 s5 k5 g5 h5 e6 s6 k6 g6 h6 e7 s7 k7 g7 h7 e8 s8 k8 g8 h8 e9 s9 k9 g9 h9 e10 s10 k10 g10 h10 e11 s11 k11 g11 h11 e12 s12 k12 g12 h12 e13 s13 k13 g13 h13 e14 s14 k14 g14 h14 e15 s15 k15 g15 h15 n1 n2 n3 n4 n5 n6 n7 n8 n9 n10 n11 n12 n13 n14 n15 y0
  have en : numV [L0, L1, L2, L3, L4, L5, L6, L7, L8, L9, L10, L11, L12, L13, L14, L15] = .agg #[.int .i64 L0, .int .i64 L1, .int .i64 L2, .int .i64 L3, .int .i64 L4, .int .i64 L5, .int .i64 L6, .int .i64 L7, .int .i64 L8, .int .i64 L9, .int .i64 L10, .int .i64 L11, .int .i64 L12, .int .i64 L13, .int .i64 L14, .int .i64 L15] := rfl
  rw [en]
  clear en
  go_enter Try.func76, Try.ntmps76
  go_wp2
  obtain ⟨W0, hW0, hz, hb0, hr0, hr1⟩ := two_new w (.cells #[.int .i64 L0, .int .i64 L1, .int .i64 L2, .int .i64 L3, .int .i64 L4, .int .i64 L5, .int .i64 L6, .int .i64 L7, .int .i64 L8, .int .i64 L9, .int .i64 L10, .int .i64 L11, .int .i64 L12, .int .i64 L13, .int .i64 L14, .int .i64 L15] 52) (.cells #[.int .i64 0, .int .i64 0, .int .i64 0, .int .i64 0, .int .i64 0, .int .i64 0, .int .i64 0, .int .i64 0, .int .i64 0, .int .i64 0, .int .i64 0, .int .i64 0, .int .i64 0, .int .i64 0, .int .i64 0, .int .i64 0] 52)
  rw [hW0]
  have HZ := Lib.hid hz
  clear hW0 hz
  go_loopw [3] (fun i wr => ∃ k : Nat, k ≤ 16 ∧ i = .int .i64 k ∧ OneBlk W0 w.heap.size 52 (([#[.int .i64 L0, .int .i64 L1, .int .i64 L2, .int .i64 L3, .int .i64 L4, .int .i64 L5, .int .i64 L6, .int .i64 L7, .int .i64 L8, .int .i64 L9, .int .i64 L10, .int .i64 L11, .int .i64 L12, .int .i64 L13, .int .i64 L14, .int .i64 L15], #[.int .i64 r0, .int .i64 a1, .int .i64 L2, .int .i64 L3, .int .i64 L4, .int .i64 L5, .int .i64 L6, .int .i64 L7, .int .i64 L8, .int .i64 L9, .int .i64 L10, .int .i64 L11, .int .i64 L12, .int .i64 L13, .int .i64 L14, .int .i64 L15], #[.int .i64 r0, .int .i64 r1, .int .i64 a2, .int .i64 L3, .int .i64 L4, .int .i64 L5, .int .i64 L6, .int .i64 L7, .int .i64 L8, .int .i64 L9, .int .i64 L10, .int .i64 L11, .int .i64 L12, .int .i64 L13, .int .i64 L14, .int .i64 L15], #[.int .i64 r0, .int .i64 r1, .int .i64 r2, .int .i64 a3, .int .i64 L4, .int .i64 L5, .int .i64 L6, .int .i64 L7, .int .i64 L8, .int .i64 L9, .int .i64 L10, .int .i64 L11, .int .i64 L12, .int .i64 L13, .int .i64 L14, .int .i64 L15], #[.int .i64 r0, .int .i64 r1, .int .i64 r2, .int .i64 r3, .int .i64 a4, .int .i64 L5, .int .i64 L6, .int .i64 L7, .int .i64 L8, .int .i64 L9, .int .i64 L10, .int .i64 L11, .int .i64 L12, .int .i64 L13, .int .i64 L14, .int .i64 L15], #[.int .i64 r0, .int .i64 r1, .int .i64 r2, .int .i64 r3, .int .i64 r4, .int .i64 a5, .int .i64 L6, .int .i64 L7, .int .i64 L8, .int .i64 L9, .int .i64 L10, .int .i64 L11, .int .i64 L12, .int .i64 L13, .int .i64 L14, .int .i64 L15], #[.int .i64 r0, .int .i64 r1, .int .i64 r2, .int .i64 r3, .int .i64 r4, .int .i64 r5, .int .i64 a6, .int .i64 L7, .int .i64 L8, .int .i64 L9, .int .i64 L10, .int .i64 L11, .int .i64 L12, .int .i64 L13, .int .i64 L14, .int .i64 L15], #[.int .i64 r0, .int .i64 r1, .int .i64 r2, .int .i64 r3, .int .i64 r4, .int .i64 r5, .int .i64 r6, .int .i64 a7, .int .i64 L8, .int .i64 L9, .int .i64 L10, .int .i64 L11, .int .i64 L12, .int .i64 L13, .int .i64 L14, .int .i64 L15], #[.int .i64 r0, .int .i64 r1, .int .i64 r2, .int .i64 r3, .int .i64 r4, .int .i64 r5, .int .i64 r6, .int .i64 r7, .int .i64 a8, .int .i64 L9, .int .i64 L10, .int .i64 L11, .int .i64 L12, .int .i64 L13, .int .i64 L14, .int .i64 L15], #[.int .i64 r0, .int .i64 r1, .int .i64 r2, .int .i64 r3, .int .i64 r4, .int .i64 r5, .int .i64 r6, .int .i64 r7, .int .i64 r8, .int .i64 a9, .int .i64 L10, .int .i64 L11, .int .i64 L12, .int .i64 L13, .int .i64 L14, .int .i64 L15], #[.int .i64 r0, .int .i64 r1, .int .i64 r2, .int .i64 r3, .int .i64 r4, .int .i64 r5, .int .i64 r6, .int .i64 r7, .int .i64 r8, .int .i64 r9, .int .i64 a10, .int .i64 L11, .int .i64 L12, .int .i64 L13, .int .i64 L14, .int .i64 L15], #[.int .i64 r0, .int .i64 r1, .int .i64 r2, .int .i64 r3, .int .i64 r4, .int .i64 r5, .int .i64 r6, .int .i64 r7, .int .i64 r8, .int .i64 r9, .int .i64 r10, .int .i64 a11, .int .i64 L12, .int .i64 L13, .int .i64 L14, .int .i64 L15], #[.int .i64 r0, .int .i64 r1, .int .i64 r2, .int .i64 r3, .int .i64 r4, .int .i64 r5, .int .i64 r6, .int .i64 r7, .int .i64 r8, .int .i64 r9, .int .i64 r10, .int .i64 r11, .int .i64 a12, .int .i64 L13, .int .i64 L14, .int .i64 L15], #[.int .i64 r0, .int .i64 r1, .int .i64 r2, .int .i64 r3, .int .i64 r4, .int .i64 r5, .int .i64 r6, .int .i64 r7, .int .i64 r8, .int .i64 r9, .int .i64 r10, .int .i64 r11, .int .i64 r12, .int .i64 a13, .int .i64 L14, .int .i64 L15], #[.int .i64 r0, .int .i64 r1, .int .i64 r2, .int .i64 r3, .int .i64 r4, .int .i64 r5, .int .i64 r6, .int .i64 r7, .int .i64 r8, .int .i64 r9, .int .i64 r10, .int .i64 r11, .int .i64 r12, .int .i64 r13, .int .i64 a14, .int .i64 L15], #[.int .i64 r0, .int .i64 r1, .int .i64 r2, .int .i64 r3, .int .i64 r4, .int .i64 r5, .int .i64 r6, .int .i64 r7, .int .i64 r8, .int .i64 r9, .int .i64 r10, .int .i64 r11, .int .i64 r12, .int .i64 r13, .int .i64 r14, .int .i64 a15], #[.int .i64 z0, .int .i64 r1, .int .i64 r2, .int .i64 r3, .int .i64 r4, .int .i64 r5, .int .i64 r6, .int .i64 r7, .int .i64 r8, .int .i64 r9, .int .i64 r10, .int .i64 r11, .int .i64 r12, .int .i64 r13, .int .i64 r14, .int .i64 r15]] : List (Array Value)).getD k #[]) wr) (fun i _ => 16 - (intOf i).toNat)
  case atStart => exact ⟨0, by omega, rfl, OneBlk.start hr0⟩
  case round =>
    obtain ⟨k, hk, rfl, hG⟩ := hrel
    rcases (show k = 0 ∨ k = 1 ∨ k = 2 ∨ k = 3 ∨ k = 4 ∨ k = 5 ∨ k = 6 ∨ k = 7 ∨ k = 8 ∨ k = 9 ∨ k = 10 ∨ k = 11 ∨ k = 12 ∨ k = 13 ∨ k = 14 ∨ k = 15 ∨ k = 16 by omega) with rfl | rfl | rfl | rfl | rfl | rfl | rfl | rfl | rfl | rfl | rfl | rfl | rfl | rfl | rfl | rfl | rfl
    · obtain ⟨e, s, n⟩ := E0.out
      obtain ⟨k1, g1, h1⟩ := K0.out
      have h3 := K1.out.2.2
      have h4 := A1.out
      have d : wr.cell? ⟨w.heap.size, 0, none⟩ = some (.int .i64 L0) := hG.cell 0
      have f := hG.free 0
      have d' : wr.cell? ⟨w.heap.size, 1, none⟩ = some (.int .i64 L1) := hG.cell 1
      have f' := hG.free 1
      have HG := Lib.hid hG
      clear hG
      go_wp2
      go_roundw
      case rel => exact ⟨1, by omega, by go_num, (HG.out.setCell 0 (.int .i64 r0)).setCell 1 (.int .i64 a1)⟩
      case measure => simp [intOf]
    · obtain ⟨e, s, n⟩ := E1.out
      obtain ⟨k1, g1, h1⟩ := K1.out
      have h2 := A1.out
      have h3 := K2.out.2.2
      have h4 := A2.out
      have d : wr.cell? ⟨w.heap.size, 1, none⟩ = some (.int .i64 a1) := hG.cell 1
      have f := hG.free 1
      have d' : wr.cell? ⟨w.heap.size, 2, none⟩ = some (.int .i64 L2) := hG.cell 2
      have f' := hG.free 2
      have HG := Lib.hid hG
      clear hG
      go_wp2
      go_roundw
      case rel => exact ⟨2, by omega, by go_num, (HG.out.setCell 1 (.int .i64 r1)).setCell 2 (.int .i64 a2)⟩
      case measure => simp [intOf]
    · obtain ⟨e, s, n⟩ := E2.out
      obtain ⟨k1, g1, h1⟩ := K2.out
      have h2 := A2.out
      have h3 := K3.out.2.2
      have h4 := A3.out
      have d : wr.cell? ⟨w.heap.size, 2, none⟩ = some (.int .i64 a2) := hG.cell 2
      have f := hG.free 2
      have d' : wr.cell? ⟨w.heap.size, 3, none⟩ = some (.int .i64 L3) := hG.cell 3
      have f' := hG.free 3
      have HG := Lib.hid hG
      clear hG
      go_wp2
      go_roundw
      case rel => exact ⟨3, by omega, by go_num, (HG.out.setCell 2 (.int .i64 r2)).setCell 3 (.int .i64 a3)⟩
      case measure => simp [intOf]
    · obtain ⟨e, s, n⟩ := E3.out
      obtain ⟨k1, g1, h1⟩ := K3.out
      have h2 := A3.out
      have h3 := K4.out.2.2
      have h4 := A4.out
      have d : wr.cell? ⟨w.heap.size, 3, none⟩ = some (.int .i64 a3) := hG.cell 3
      have f := hG.free 3
      have d' : wr.cell? ⟨w.heap.size, 4, none⟩ = some (.int .i64 L4) := hG.cell 4
      have f' := hG.free 4
      have HG := Lib.hid hG
      clear hG
      go_wp2
      go_roundw
      case rel => exact ⟨4, by omega, by go_num, (HG.out.setCell 3 (.int .i64 r3)).setCell 4 (.int .i64 a4)⟩
      case measure => simp [intOf]
    · obtain ⟨e, s, n⟩ := E4.out
      obtain ⟨k1, g1, h1⟩ := K4.out
      have h2 := A4.out
      have h3 := K5.out.2.2
      have h4 := A5.out
      have d : wr.cell? ⟨w.heap.size, 4, none⟩ = some (.int .i64 a4) := hG.cell 4
      have f := hG.free 4
      have d' : wr.cell? ⟨w.heap.size, 5, none⟩ = some (.int .i64 L5) := hG.cell 5
      have f' := hG.free 5
      have HG := Lib.hid hG
      clear hG
      go_wp2
      go_roundw
      case rel => exact ⟨5, by omega, by go_num, (HG.out.setCell 4 (.int .i64 r4)).setCell 5 (.int .i64 a5)⟩
      case measure => simp [intOf]
    · obtain ⟨e, s, n⟩ := E5.out
      obtain ⟨k1, g1, h1⟩ := K5.out
      have h2 := A5.out
      have h3 := K6.out.2.2
      have h4 := A6.out
      have d : wr.cell? ⟨w.heap.size, 5, none⟩ = some (.int .i64 a5) := hG.cell 5
      have f := hG.free 5
      have d' : wr.cell? ⟨w.heap.size, 6, none⟩ = some (.int .i64 L6) := hG.cell 6
      have f' := hG.free 6
      have HG := Lib.hid hG
      clear hG
      go_wp2
      go_roundw
      case rel => exact ⟨6, by omega, by go_num, (HG.out.setCell 5 (.int .i64 r5)).setCell 6 (.int .i64 a6)⟩
      case measure => simp [intOf]
    · obtain ⟨e, s, n⟩ := E6.out
      obtain ⟨k1, g1, h1⟩ := K6.out
      have h2 := A6.out
      have h3 := K7.out.2.2
      have h4 := A7.out
      have d : wr.cell? ⟨w.heap.size, 6, none⟩ = some (.int .i64 a6) := hG.cell 6
      have f := hG.free 6
      have d' : wr.cell? ⟨w.heap.size, 7, none⟩ = some (.int .i64 L7) := hG.cell 7
      have f' := hG.free 7
      have HG := Lib.hid hG
      clear hG
      go_wp2
      go_roundw
      case rel => exact ⟨7, by omega, by go_num, (HG.out.setCell 6 (.int .i64 r6)).setCell 7 (.int .i64 a7)⟩
      case measure => simp [intOf]
    · obtain ⟨e, s, n⟩ := E7.out
      obtain ⟨k1, g1, h1⟩ := K7.out
      have h2 := A7.out
      have h3 := K8.out.2.2
      have h4 := A8.out
      have d : wr.cell? ⟨w.heap.size, 7, none⟩ = some (.int .i64 a7) := hG.cell 7
      have f := hG.free 7
      have d' : wr.cell? ⟨w.heap.size, 8, none⟩ = some (.int .i64 L8) := hG.cell 8
      have f' := hG.free 8
      have HG := Lib.hid hG
      clear hG
      go_wp2
      go_roundw
      case rel => exact ⟨8, by omega, by go_num, (HG.out.setCell 7 (.int .i64 r7)).setCell 8 (.int .i64 a8)⟩
      case measure => simp [intOf]
    · obtain ⟨e, s, n⟩ := E8.out
      obtain ⟨k1, g1, h1⟩ := K8.out
      have h2 := A8.out
      have h3 := K9.out.2.2
      have h4 := A9.out
      have d : wr.cell? ⟨w.heap.size, 8, none⟩ = some (.int .i64 a8) := hG.cell 8
      have f := hG.free 8
      have d' : wr.cell? ⟨w.heap.size, 9, none⟩ = some (.int .i64 L9) := hG.cell 9
      have f' := hG.free 9
      have HG := Lib.hid hG
      clear hG
      go_wp2
      go_roundw
      case rel => exact ⟨9, by omega, by go_num, (HG.out.setCell 8 (.int .i64 r8)).setCell 9 (.int .i64 a9)⟩
      case measure => simp [intOf]
    · obtain ⟨e, s, n⟩ := E9.out
      obtain ⟨k1, g1, h1⟩ := K9.out
      have h2 := A9.out
      have h3 := K10.out.2.2
      have h4 := A10.out
      have d : wr.cell? ⟨w.heap.size, 9, none⟩ = some (.int .i64 a9) := hG.cell 9
      have f := hG.free 9
      have d' : wr.cell? ⟨w.heap.size, 10, none⟩ = some (.int .i64 L10) := hG.cell 10
      have f' := hG.free 10
      have HG := Lib.hid hG
      clear hG
      go_wp2
      go_roundw
      case rel => exact ⟨10, by omega, by go_num, (HG.out.setCell 9 (.int .i64 r9)).setCell 10 (.int .i64 a10)⟩
      case measure => simp [intOf]
    · obtain ⟨e, s, n⟩ := E10.out
      obtain ⟨k1, g1, h1⟩ := K10.out
      have h2 := A10.out
      have h3 := K11.out.2.2
      have h4 := A11.out
      have d : wr.cell? ⟨w.heap.size, 10, none⟩ = some (.int .i64 a10) := hG.cell 10
      have f := hG.free 10
      have d' : wr.cell? ⟨w.heap.size, 11, none⟩ = some (.int .i64 L11) := hG.cell 11
      have f' := hG.free 11
      have HG := Lib.hid hG
      clear hG
      go_wp2
      go_roundw
      case rel => exact ⟨11, by omega, by go_num, (HG.out.setCell 10 (.int .i64 r10)).setCell 11 (.int .i64 a11)⟩
      case measure => simp [intOf]
    · obtain ⟨e, s, n⟩ := E11.out
      obtain ⟨k1, g1, h1⟩ := K11.out
      have h2 := A11.out
      have h3 := K12.out.2.2
      have h4 := A12.out
      have d : wr.cell? ⟨w.heap.size, 11, none⟩ = some (.int .i64 a11) := hG.cell 11
      have f := hG.free 11
      have d' : wr.cell? ⟨w.heap.size, 12, none⟩ = some (.int .i64 L12) := hG.cell 12
      have f' := hG.free 12
      have HG := Lib.hid hG
      clear hG
      go_wp2
      go_roundw
      case rel => exact ⟨12, by omega, by go_num, (HG.out.setCell 11 (.int .i64 r11)).setCell 12 (.int .i64 a12)⟩
      case measure => simp [intOf]
    · obtain ⟨e, s, n⟩ := E12.out
      obtain ⟨k1, g1, h1⟩ := K12.out
      have h2 := A12.out
      have h3 := K13.out.2.2
      have h4 := A13.out
      have d : wr.cell? ⟨w.heap.size, 12, none⟩ = some (.int .i64 a12) := hG.cell 12
      have f := hG.free 12
      have d' : wr.cell? ⟨w.heap.size, 13, none⟩ = some (.int .i64 L13) := hG.cell 13
      have f' := hG.free 13
      have HG := Lib.hid hG
      clear hG
      go_wp2
      go_roundw
      case rel => exact ⟨13, by omega, by go_num, (HG.out.setCell 12 (.int .i64 r12)).setCell 13 (.int .i64 a13)⟩
      case measure => simp [intOf]
    · obtain ⟨e, s, n⟩ := E13.out
      obtain ⟨k1, g1, h1⟩ := K13.out
      have h2 := A13.out
      have h3 := K14.out.2.2
      have h4 := A14.out
      have d : wr.cell? ⟨w.heap.size, 13, none⟩ = some (.int .i64 a13) := hG.cell 13
      have f := hG.free 13
      have d' : wr.cell? ⟨w.heap.size, 14, none⟩ = some (.int .i64 L14) := hG.cell 14
      have f' := hG.free 14
      have HG := Lib.hid hG
      clear hG
      go_wp2
      go_roundw
      case rel => exact ⟨14, by omega, by go_num, (HG.out.setCell 13 (.int .i64 r13)).setCell 14 (.int .i64 a14)⟩
      case measure => simp [intOf]
    · obtain ⟨e, s, n⟩ := E14.out
      obtain ⟨k1, g1, h1⟩ := K14.out
      have h2 := A14.out
      have h3 := K15.out.2.2
      have h4 := A15.out
      have d : wr.cell? ⟨w.heap.size, 14, none⟩ = some (.int .i64 a14) := hG.cell 14
      have f := hG.free 14
      have d' : wr.cell? ⟨w.heap.size, 15, none⟩ = some (.int .i64 L15) := hG.cell 15
      have f' := hG.free 15
      have HG := Lib.hid hG
      clear hG
      go_wp2
      go_roundw
      case rel => exact ⟨15, by omega, by go_num, (HG.out.setCell 14 (.int .i64 r14)).setCell 15 (.int .i64 a15)⟩
      case measure => simp [intOf]
    · obtain ⟨e, s, n⟩ := E15.out
      obtain ⟨k1, g1, h1⟩ := K15.out
      have h2 := A15.out
      have h3 := K0.out.2.1
      have d : wr.cell? ⟨w.heap.size, 15, none⟩ = some (.int .i64 a15) := hG.cell 15
      have f := hG.free 15
      have d' : wr.cell? ⟨w.heap.size, 0, none⟩ = some (.int .i64 r0) := hG.cell 0
      have f' := hG.free 0
      have HG := Lib.hid hG
      clear hG
      go_wp2
      go_roundw
      case rel => exact ⟨16, by omega, by go_num, (HG.out.setCell 15 (.int .i64 r15)).setCell 0 (.int .i64 z0)⟩
      case measure => simp [intOf]
    · have hF : wr.heap[w.heap.size]? = some (.cells #[.int .i64 z0, .int .i64 r1, .int .i64 r2, .int .i64 r3, .int .i64 r4, .int .i64 r5, .int .i64 r6, .int .i64 r7, .int .i64 r8, .int .i64 r9, .int .i64 r10, .int .i64 r11, .int .i64 r12, .int .i64 r13, .int .i64 r14, .int .i64 r15] 52 (0, 0)) := hG.blk
      have hR := hG.far (i := w.heap.size + 1) (by omega) hr1
      go_wp2_with (first | (refine wpList_load_row rfl 52 _ rfl w.heap.size rfl _ _ _ _ hF Try.underlying52 rfl (by kernel_rfl) ?_) | (refine wpList_store_row rfl 52 (.tmp 2) (.tmp 45) rfl (w.heap.size + 1) #[.int .i64 z0, .int .i64 r1, .int .i64 r2, .int .i64 r3, .int .i64 r4, .int .i64 r5, .int .i64 r6, .int .i64 r7, .int .i64 r8, .int .i64 r9, .int .i64 r10, .int .i64 r11, .int .i64 r12, .int .i64 r13, .int .i64 r14, .int .i64 r15] rfl rfl 52 _ hR (by kernel_rfl) (by kernel_rfl) (by kernel_rfl) ?_))
      refine ret_cell rfl (w.heap.size + 1) _ _ _ _ rfl (setRow_self hR _) Try.underlying52 rfl (by kernel_rfl) rfl ?_
      refine ⟨[z0, r1, r2, r3, r4, r5, r6, r7, r8, r9, r10, r11, r12, r13, r14, r15], rfl, ⟨c15, r0, [r1, r2, r3, r4, r5, r6, r7, r8, r9, r10, r11, r12, r13, r14, r15], by rw [E15.out.2.2], rfl, K0.out.2.1, ?_, HV.out, K15.out.1⟩, below_setRow (hG.below hb0 (Nat.le_refl _)) (by omega) _⟩
      intro x hx
      simp only [List.mem_cons, List.not_mem_nil, or_false] at hx
      rcases hx with rfl | rfl | rfl | rfl | rfl | rfl | rfl | rfl | rfl | rfl | rfl | rfl | rfl | rfl | rfl
      · exact K1.out.2.1
      · exact K2.out.2.1
      · exact K3.out.2.1
      · exact K4.out.2.1
      · exact K5.out.2.1
      · exact K6.out.2.1
      · exact K7.out.2.1
      · exact K8.out.2.1
      · exact K9.out.2.1
      · exact K10.out.2.1
      · exact K11.out.2.1
      · exact K12.out.2.1
      · exact K13.out.2.1
      · exact K14.out.2.1
      · exact K15.out.2.1
end Go.Proofs.Ytenppmciabdefaa
