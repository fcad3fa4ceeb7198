/- The bytes of limbs are the number's bytes. No condition. -/
import Derived.Test.YtenppmciabdefaaPf
namespace Go.Proofs.Ytenppmciabdefaa
open Go.RowKit
theorem two_bytes (x R : Int) (h : 0 ≤ x ∧ x < 65536) : (x + 65536 * R) % 256 = x % 256 ∧ (x + 65536 * R) / 256 % 256 = x / 256 ∧ (x + 65536 * R) / 65536 = R := ⟨by omega, by omega, by omega⟩
theorem div_256 (V : Int) : V / 16777216 = V / 65536 / 256 ∧ V / 1099511627776 = V / 4294967296 / 256 ∧ V / 72057594037927936 = V / 281474976710656 / 256 ∧ V / 4722366482869645213696 = V / 18446744073709551616 / 256 ∧ V / 309485009821345068724781056 = V / 1208925819614629174706176 / 256 ∧ V / 20282409603651670423947251286016 = V / 79228162514264337593543950336 / 256 ∧ V / 1329227995784915872903807060280344576 = V / 5192296858534827628530496329220096 / 256 ∧ V / 87112285931760246646623899502532662132736 = V / 340282366920938463463374607431768211456 / 256 ∧ V / 5708990770823839524233143877797980545530986496 = V / 22300745198530623141535718272648361505980416 / 256 ∧ V / 374144419156711147060143317175368453031918731001856 = V / 1461501637330902918203684832716283019655932542976 / 256 ∧ V / 24519928653854221733733552434404946937899825954937634816 = V / 95780971304118053647396689196894323976171195136475136 / 256 ∧ V / 1606938044258990275541962092341162602522202993782792835301376 = V / 6277101735386680763835789423207666416102355444464034512896 / 256 ∧ V / 105312291668557186697918027683670432318895095400549111254310977536 = V / 411376139330301510538742295639337626245683966408394965837152256 / 256 ∧ V / 6901746346790563787434755862277025452451108972170386555162524223799296 = V / 26959946667150639794667015087019630673637144422540572481103610249216 / 256 ∧ V / 452312848583266388373324160190187140051835877600158453279131187530910662656 = V / 1766847064778384329583297500742918515827483896875618958121606201292619776 / 256 :=
  ⟨by omega, by omega, by omega, by omega, by omega, by omega, by omega, by omega, by omega, by omega, by omega, by omega, by omega, by omega, by omega⟩
theorem step_div (N : Int) : ∀ i : Nat, N / 65536 ^ (i + 1) = N / 65536 ^ i / 65536 := fun i => by
  rw [Int.pow_succ, Int.ediv_ediv_of_nonneg (Int.pow_nonneg (by omega))]
theorem bytesL_leB (N : List Int) (h : Fit16 N) : bytesL N = leB (valL N) := by
  obtain ⟨hl, hb⟩ := h
  obtain ⟨x0, x1, x2, x3, x4, x5, x6, x7, x8, x9, x10, x11, x12, x13, x14, x15, rfl⟩ := list16 hl
  have h0 := hb x0 (by simp)
  have h1 := hb x1 (by simp)
  have h2 := hb x2 (by simp)
  have h3 := hb x3 (by simp)
  have h4 := hb x4 (by simp)
  have h5 := hb x5 (by simp)
  have h6 := hb x6 (by simp)
  have h7 := hb x7 (by simp)
  have h8 := hb x8 (by simp)
  have h9 := hb x9 (by simp)
  have h10 := hb x10 (by simp)
  have h11 := hb x11 (by simp)
  have h12 := hb x12 (by simp)
  have h13 := hb x13 (by simp)
  have h14 := hb x14 (by simp)
  have h15 := hb x15 (by simp)
  clear hb hl
  obtain ⟨a0, b0, d0⟩ := two_bytes x0 (valL [x1, x2, x3, x4, x5, x6, x7, x8, x9, x10, x11, x12, x13, x14, x15]) h0
  change (valL [x0, x1, x2, x3, x4, x5, x6, x7, x8, x9, x10, x11, x12, x13, x14, x15]) % 256 = _ at a0
  change (valL [x0, x1, x2, x3, x4, x5, x6, x7, x8, x9, x10, x11, x12, x13, x14, x15]) / 256 % 256 = _ at b0
  change (valL [x0, x1, x2, x3, x4, x5, x6, x7, x8, x9, x10, x11, x12, x13, x14, x15]) / 65536 = _ at d0
  obtain ⟨a1, b1, d1⟩ := two_bytes x1 (valL [x2, x3, x4, x5, x6, x7, x8, x9, x10, x11, x12, x13, x14, x15]) h1
  change (valL [x1, x2, x3, x4, x5, x6, x7, x8, x9, x10, x11, x12, x13, x14, x15]) % 256 = _ at a1
  change (valL [x1, x2, x3, x4, x5, x6, x7, x8, x9, x10, x11, x12, x13, x14, x15]) / 256 % 256 = _ at b1
  change (valL [x1, x2, x3, x4, x5, x6, x7, x8, x9, x10, x11, x12, x13, x14, x15]) / 65536 = _ at d1
  obtain ⟨a2, b2, d2⟩ := two_bytes x2 (valL [x3, x4, x5, x6, x7, x8, x9, x10, x11, x12, x13, x14, x15]) h2
  change (valL [x2, x3, x4, x5, x6, x7, x8, x9, x10, x11, x12, x13, x14, x15]) % 256 = _ at a2
  change (valL [x2, x3, x4, x5, x6, x7, x8, x9, x10, x11, x12, x13, x14, x15]) / 256 % 256 = _ at b2
  change (valL [x2, x3, x4, x5, x6, x7, x8, x9, x10, x11, x12, x13, x14, x15]) / 65536 = _ at d2
  obtain ⟨a3, b3, d3⟩ := two_bytes x3 (valL [x4, x5, x6, x7, x8, x9, x10, x11, x12, x13, x14, x15]) h3
  change (valL [x3, x4, x5, x6, x7, x8, x9, x10, x11, x12, x13, x14, x15]) % 256 = _ at a3
  change (valL [x3, x4, x5, x6, x7, x8, x9, x10, x11, x12, x13, x14, x15]) / 256 % 256 = _ at b3
  change (valL [x3, x4, x5, x6, x7, x8, x9, x10, x11, x12, x13, x14, x15]) / 65536 = _ at d3
  obtain ⟨a4, b4, d4⟩ := two_bytes x4 (valL [x5, x6, x7, x8, x9, x10, x11, x12, x13, x14, x15]) h4
  change (valL [x4, x5, x6, x7, x8, x9, x10, x11, x12, x13, x14, x15]) % 256 = _ at a4
  change (valL [x4, x5, x6, x7, x8, x9, x10, x11, x12, x13, x14, x15]) / 256 % 256 = _ at b4
  change (valL [x4, x5, x6, x7, x8, x9, x10, x11, x12, x13, x14, x15]) / 65536 = _ at d4
  obtain ⟨a5, b5, d5⟩ := two_bytes x5 (valL [x6, x7, x8, x9, x10, x11, x12, x13, x14, x15]) h5
  change (valL [x5, x6, x7, x8, x9, x10, x11, x12, x13, x14, x15]) % 256 = _ at a5
  change (valL [x5, x6, x7, x8, x9, x10, x11, x12, x13, x14, x15]) / 256 % 256 = _ at b5
  change (valL [x5, x6, x7, x8, x9, x10, x11, x12, x13, x14, x15]) / 65536 = _ at d5
  obtain ⟨a6, b6, d6⟩ := two_bytes x6 (valL [x7, x8, x9, x10, x11, x12, x13, x14, x15]) h6
  change (valL [x6, x7, x8, x9, x10, x11, x12, x13, x14, x15]) % 256 = _ at a6
  change (valL [x6, x7, x8, x9, x10, x11, x12, x13, x14, x15]) / 256 % 256 = _ at b6
  change (valL [x6, x7, x8, x9, x10, x11, x12, x13, x14, x15]) / 65536 = _ at d6
  obtain ⟨a7, b7, d7⟩ := two_bytes x7 (valL [x8, x9, x10, x11, x12, x13, x14, x15]) h7
  change (valL [x7, x8, x9, x10, x11, x12, x13, x14, x15]) % 256 = _ at a7
  change (valL [x7, x8, x9, x10, x11, x12, x13, x14, x15]) / 256 % 256 = _ at b7
  change (valL [x7, x8, x9, x10, x11, x12, x13, x14, x15]) / 65536 = _ at d7
  obtain ⟨a8, b8, d8⟩ := two_bytes x8 (valL [x9, x10, x11, x12, x13, x14, x15]) h8
  change (valL [x8, x9, x10, x11, x12, x13, x14, x15]) % 256 = _ at a8
  change (valL [x8, x9, x10, x11, x12, x13, x14, x15]) / 256 % 256 = _ at b8
  change (valL [x8, x9, x10, x11, x12, x13, x14, x15]) / 65536 = _ at d8
  obtain ⟨a9, b9, d9⟩ := two_bytes x9 (valL [x10, x11, x12, x13, x14, x15]) h9
  change (valL [x9, x10, x11, x12, x13, x14, x15]) % 256 = _ at a9
  change (valL [x9, x10, x11, x12, x13, x14, x15]) / 256 % 256 = _ at b9
  change (valL [x9, x10, x11, x12, x13, x14, x15]) / 65536 = _ at d9
  obtain ⟨a10, b10, d10⟩ := two_bytes x10 (valL [x11, x12, x13, x14, x15]) h10
  change (valL [x10, x11, x12, x13, x14, x15]) % 256 = _ at a10
  change (valL [x10, x11, x12, x13, x14, x15]) / 256 % 256 = _ at b10
  change (valL [x10, x11, x12, x13, x14, x15]) / 65536 = _ at d10
  obtain ⟨a11, b11, d11⟩ := two_bytes x11 (valL [x12, x13, x14, x15]) h11
  change (valL [x11, x12, x13, x14, x15]) % 256 = _ at a11
  change (valL [x11, x12, x13, x14, x15]) / 256 % 256 = _ at b11
  change (valL [x11, x12, x13, x14, x15]) / 65536 = _ at d11
  obtain ⟨a12, b12, d12⟩ := two_bytes x12 (valL [x13, x14, x15]) h12
  change (valL [x12, x13, x14, x15]) % 256 = _ at a12
  change (valL [x12, x13, x14, x15]) / 256 % 256 = _ at b12
  change (valL [x12, x13, x14, x15]) / 65536 = _ at d12
  obtain ⟨a13, b13, d13⟩ := two_bytes x13 (valL [x14, x15]) h13
  change (valL [x13, x14, x15]) % 256 = _ at a13
  change (valL [x13, x14, x15]) / 256 % 256 = _ at b13
  change (valL [x13, x14, x15]) / 65536 = _ at d13
  obtain ⟨a14, b14, d14⟩ := two_bytes x14 (valL [x15]) h14
  change (valL [x14, x15]) % 256 = _ at a14
  change (valL [x14, x15]) / 256 % 256 = _ at b14
  change (valL [x14, x15]) / 65536 = _ at d14
  obtain ⟨a15, b15, d15⟩ := two_bytes x15 (valL []) h15
  change (valL [x15]) % 256 = _ at a15
  change (valL [x15]) / 256 % 256 = _ at b15
  change (valL [x15]) / 65536 = _ at d15
  generalize valL [x0, x1, x2, x3, x4, x5, x6, x7, x8, x9, x10, x11, x12, x13, x14, x15] = V at *
  have e1 : V / 65536 = valL [x1, x2, x3, x4, x5, x6, x7, x8, x9, x10, x11, x12, x13, x14, x15] := by
    rw [← d0]
  have e2 : V / 4294967296 = valL [x2, x3, x4, x5, x6, x7, x8, x9, x10, x11, x12, x13, x14, x15] := by
    rw [← d1, ← e1]
    clear a0 b0 a1 b1 a2 b2 a3 b3 a4 b4 a5 b5 a6 b6 a7 b7 a8 b8 a9 b9 a10 b10 a11 b11 a12 b12 a13 b13 a14 b14 a15 b15
    omega
  have e3 : V / 281474976710656 = valL [x3, x4, x5, x6, x7, x8, x9, x10, x11, x12, x13, x14, x15] := by
    rw [← d2, ← e2]
    clear a0 b0 a1 b1 a2 b2 a3 b3 a4 b4 a5 b5 a6 b6 a7 b7 a8 b8 a9 b9 a10 b10 a11 b11 a12 b12 a13 b13 a14 b14 a15 b15
    omega
  have e4 : V / 18446744073709551616 = valL [x4, x5, x6, x7, x8, x9, x10, x11, x12, x13, x14, x15] := by
    rw [← d3, ← e3]
    clear a0 b0 a1 b1 a2 b2 a3 b3 a4 b4 a5 b5 a6 b6 a7 b7 a8 b8 a9 b9 a10 b10 a11 b11 a12 b12 a13 b13 a14 b14 a15 b15
    omega
  have e5 : V / 1208925819614629174706176 = valL [x5, x6, x7, x8, x9, x10, x11, x12, x13, x14, x15] := by
    rw [← d4, ← e4]
    clear a0 b0 a1 b1 a2 b2 a3 b3 a4 b4 a5 b5 a6 b6 a7 b7 a8 b8 a9 b9 a10 b10 a11 b11 a12 b12 a13 b13 a14 b14 a15 b15
    omega
  have e6 : V / 79228162514264337593543950336 = valL [x6, x7, x8, x9, x10, x11, x12, x13, x14, x15] := by
    rw [← d5, ← e5]
    clear a0 b0 a1 b1 a2 b2 a3 b3 a4 b4 a5 b5 a6 b6 a7 b7 a8 b8 a9 b9 a10 b10 a11 b11 a12 b12 a13 b13 a14 b14 a15 b15
    omega
  have e7 : V / 5192296858534827628530496329220096 = valL [x7, x8, x9, x10, x11, x12, x13, x14, x15] := by
    rw [← d6, ← e6]
    clear a0 b0 a1 b1 a2 b2 a3 b3 a4 b4 a5 b5 a6 b6 a7 b7 a8 b8 a9 b9 a10 b10 a11 b11 a12 b12 a13 b13 a14 b14 a15 b15
    omega
  have e8 : V / 340282366920938463463374607431768211456 = valL [x8, x9, x10, x11, x12, x13, x14, x15] := by
    rw [← d7, ← e7]
    clear a0 b0 a1 b1 a2 b2 a3 b3 a4 b4 a5 b5 a6 b6 a7 b7 a8 b8 a9 b9 a10 b10 a11 b11 a12 b12 a13 b13 a14 b14 a15 b15
    omega
  have e9 : V / 22300745198530623141535718272648361505980416 = valL [x9, x10, x11, x12, x13, x14, x15] := by
    rw [← d8, ← e8]
    clear a0 b0 a1 b1 a2 b2 a3 b3 a4 b4 a5 b5 a6 b6 a7 b7 a8 b8 a9 b9 a10 b10 a11 b11 a12 b12 a13 b13 a14 b14 a15 b15
    omega
  have e10 : V / 1461501637330902918203684832716283019655932542976 = valL [x10, x11, x12, x13, x14, x15] := by
    rw [← d9, ← e9]
    clear a0 b0 a1 b1 a2 b2 a3 b3 a4 b4 a5 b5 a6 b6 a7 b7 a8 b8 a9 b9 a10 b10 a11 b11 a12 b12 a13 b13 a14 b14 a15 b15
    omega
  have e11 : V / 95780971304118053647396689196894323976171195136475136 = valL [x11, x12, x13, x14, x15] := by
    rw [← d10, ← e10]
    clear a0 b0 a1 b1 a2 b2 a3 b3 a4 b4 a5 b5 a6 b6 a7 b7 a8 b8 a9 b9 a10 b10 a11 b11 a12 b12 a13 b13 a14 b14 a15 b15
    omega
  have e12 : V / 6277101735386680763835789423207666416102355444464034512896 = valL [x12, x13, x14, x15] := by
    rw [← d11, ← e11]
    clear a0 b0 a1 b1 a2 b2 a3 b3 a4 b4 a5 b5 a6 b6 a7 b7 a8 b8 a9 b9 a10 b10 a11 b11 a12 b12 a13 b13 a14 b14 a15 b15
    omega
  have e13 : V / 411376139330301510538742295639337626245683966408394965837152256 = valL [x13, x14, x15] := by
    rw [← d12, ← e12]
    clear a0 b0 a1 b1 a2 b2 a3 b3 a4 b4 a5 b5 a6 b6 a7 b7 a8 b8 a9 b9 a10 b10 a11 b11 a12 b12 a13 b13 a14 b14 a15 b15
    omega
  have e14 : V / 26959946667150639794667015087019630673637144422540572481103610249216 = valL [x14, x15] := by
    rw [← d13, ← e13]
    clear a0 b0 a1 b1 a2 b2 a3 b3 a4 b4 a5 b5 a6 b6 a7 b7 a8 b8 a9 b9 a10 b10 a11 b11 a12 b12 a13 b13 a14 b14 a15 b15
    omega
  have e15 : V / 1766847064778384329583297500742918515827483896875618958121606201292619776 = valL [x15] := by
    rw [← d14, ← e14]
    clear a0 b0 a1 b1 a2 b2 a3 b3 a4 b4 a5 b5 a6 b6 a7 b7 a8 b8 a9 b9 a10 b10 a11 b11 a12 b12 a13 b13 a14 b14 a15 b15
    omega
  clear d0 d1 d2 d3 d4 d5 d6 d7 d8 d9 d10 d11 d12 d13 d14 d15
  obtain ⟨f1, f2, f3, f4, f5, f6, f7, f8, f9, f10, f11, f12, f13, f14, f15⟩ := div_256 V
  unfold leB
  rw [a0, b0, f1, e1, a1, b1, f2, e2, a2, b2, f3, e3, a3, b3, f4, e4, a4, b4, f5, e5, a5, b5, f6, e6, a6, b6, f7, e7, a7, b7, f8, e8, a8, b8, f9, e9, a9, b9, f10, e10, a10, b10, f11, e11, a11, b11, f12, e12, a12, b12, f13, e13, a13, b13, f14, e14, a14, b14, f15, e15, a15, b15]
  rfl
end Go.Proofs.Ytenppmciabdefaa
