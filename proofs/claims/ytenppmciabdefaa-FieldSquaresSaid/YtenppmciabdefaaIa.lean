/- Roots of squares mod p. No condition. -/
import Derived.Test.YtenppmciabdefaaHe
namespace Go.Proofs.Ytenppmciabdefaa
open Go Go.RowKit
/-- a and b are the same mod p. -/
def Cg (a b : Int) : Prop := PP ∣ a - b
theorem Cg.refl (a : Int) : Cg a a := ⟨0, by omega⟩
theorem Cg.symm {a b : Int} (h : Cg a b) : Cg b a := by obtain ⟨k, hk⟩ := h; exact ⟨-k, by grind⟩
theorem Cg.trans {a b c : Int} (h : Cg a b) (k : Cg b c) : Cg a c := by obtain ⟨x, hx⟩ := h; obtain ⟨y, hy⟩ := k; exact ⟨x + y, by grind⟩
theorem Cg.mul {a b c d : Int} (h : Cg a b) (k : Cg c d) : Cg (a * c) (b * d) := by
  obtain ⟨x, hx⟩ := h
  obtain ⟨y, hy⟩ := k
  exact ⟨x * c + b * y, by grind⟩
theorem Cg.pw {a b : Int} (h : Cg a b) (k : Nat) : Cg (pw a k) (pw b k) := pw_cong a b h k
theorem pw_prod (a b : Int) (k : Nat) : pw (a * b) k = pw a k * pw b k := by
  unfold Go.Proofs.Ytenppmciabdefaa.pw
  rw [Int.mul_pow]
theorem pw_of_pw (a : Int) (k m n : Nat) (h : k * m = n) : pw (pw a k) m = pw a n := by
  unfold Go.Proofs.Ytenppmciabdefaa.pw
  rw [← Int.pow_mul, h]
/-- rootM1 is a root of -1: reckoned. -/
theorem rootM1_sq : Cg (rootM1 * rootM1) (-1) := by
  have h1 : Nt.powm 57896044618658097711785492504343953926634992332820282019728792003956564819949 255 2 14474011154664524427946373126085988481658748083205070504932198000989141204987 = 19681161376707505956807079304988542015446066515923890162744021073123829784752 := by decide +kernel
  have h2 := Nt.powm_eq 57896044618658097711785492504343953926634992332820282019728792003956564819949 255 2 14474011154664524427946373126085988481658748083205070504932198000989141204987 (by decide +kernel)
  rw [h1] at h2
  have h3 : Cg rootM1 19681161376707505956807079304988542015446066515923890162744021073123829784752 := by
    have e : rootM1 = ((2 ^ 14474011154664524427946373126085988481658748083205070504932198000989141204987 : Nat) : Int) := pw_nat 2 _
    rw [e]
    generalize 2 ^ 14474011154664524427946373126085988481658748083205070504932198000989141204987 = X at *
    refine ⟨((X / 57896044618658097711785492504343953926634992332820282019728792003956564819949 : Nat) : Int), ?_⟩
    have := Nat.mod_add_div X 57896044618658097711785492504343953926634992332820282019728792003956564819949
    unfold PP
    omega
  refine (h3.mul h3).trans ?_
  exact Int.dvd_of_emod_eq_zero (by decide +kernel)
theorem sameB_iff {N M : Int} : sameB N M = true ↔ Cg N M := by
  by_cases h : PP ∣ N - M
  · exact ⟨fun _ => h, fun _ => sameB_yes h⟩
  · rw [sameB_no h]
    exact ⟨fun hh => (by cases hh), fun hh => absurd hh h⟩
theorem pw_oneI (k : Nat) : pw 1 k = 1 := by
  unfold Go.Proofs.Ytenppmciabdefaa.pw
  exact Int.one_pow
/-- The square root's square, where U is a square and V is 1. -/
theorem rX_square (A U : Int) (hU : Cg U (A * A)) : Cg (rX U 1 * rX U 1) (rQ U 1) := by
  have hq : rQ U 1 = U := by unfold rQ pinv; rw [pw_oneI, Int.mul_one]
  have hx0 : Cg (peighth U) (pw A 14474011154664524427946373126085988481658748083205070504932198000989141204988) := by
    refine (Cg.pw hU _).trans ?_
    have e : A * A = pw A 2 := by rw [← pw_mul A 1 1 2 rfl, pw_one]
    rw [e, pw_of_pw A 2 _ 14474011154664524427946373126085988481658748083205070504932198000989141204988 (by decide +kernel)]
    exact Cg.refl _
  have hsq := hx0.mul hx0
  rw [pw_mul A _ _ 28948022309329048855892746252171976963317496166410141009864396001978282409976 (by decide +kernel), ← pw_mul A 2 28948022309329048855892746252171976963317496166410141009864396001978282409974 _ (by decide +kernel)] at hsq
  have e2 : pw A 2 = A * A := by rw [← pw_mul A 1 1 2 rfl, pw_one]
  rw [e2] at hsq
  have hh : PP ∣ A ∨ Cg (pw A 28948022309329048855892746252171976963317496166410141009864396001978282409974) 1 ∨ Cg (pw A 28948022309329048855892746252171976963317496166410141009864396001978282409974) (-1) := by
    by_cases hA : PP ∣ A
    · exact .inl hA
    · right
      have h1 := inv_mul hA
      unfold pinv at h1
      have e3 := pw_mul A 1 57896044618658097711785492504343953926634992332820282019728792003956564819947 57896044618658097711785492504343953926634992332820282019728792003956564819948 (by decide +kernel)
      have e4 := pw_mul A 28948022309329048855892746252171976963317496166410141009864396001978282409974 28948022309329048855892746252171976963317496166410141009864396001978282409974 57896044618658097711785492504343953926634992332820282019728792003956564819948 (by decide +kernel)
      rw [pw_one] at e3
      rw [e3, ← e4] at h1
      clear e3 e4
      generalize pw A 28948022309329048855892746252171976963317496166410141009864396001978282409974 = h at *
      have h2 : PP ∣ (h - 1) * (h - (-1)) := by
        obtain ⟨k, hk⟩ := h1
        exact ⟨k, by grind⟩
      exact euclid_PP h2
  have hrt := rootM1_sq
  unfold rX
  rw [hq]
  generalize peighth U = x at *
  generalize pw A 28948022309329048855892746252171976963317496166410141009864396001978282409974 = h at *
  cases c : sameB (x * x) U with
  | true => exact sameB_iff.1 c
  | false =>
    have hc : ¬ Cg (x * x) U := fun hh => by rw [sameB_iff.2 hh] at c; cases c
    have hm : Cg (x * x) (-U) := by
      rcases hh with hA | h1 | h1
      · exfalso
        refine hc (hsq.trans ?_)
        obtain ⟨k, hk⟩ := hA
        obtain ⟨m, hm⟩ := hU
        exact ⟨A * h * k - m - A * k, by grind⟩
      · exfalso
        refine hc (hsq.trans ?_)
        obtain ⟨k, hk⟩ := h1
        obtain ⟨m, hm⟩ := hU
        exact ⟨A * A * k - m, by grind⟩
      · refine hsq.trans ?_
        obtain ⟨k, hk⟩ := h1
        obtain ⟨m, hm⟩ := hU
        exact ⟨A * A * k + m, by grind⟩
    simp only [Bool.false_eq_true, if_false]
    obtain ⟨k, hk⟩ := hm
    obtain ⟨m, hm⟩ := hrt
    exact ⟨-k + x * x * m, by grind⟩
theorem one_nonzero : sameB 1 0 = false := sameB_no (by decide)
theorem rOk_square (A U : Int) (hU : Cg U (A * A)) : rOk U 1 = true := by
  unfold rOk
  rw [sameB_iff.2 (rX_square A U hU), one_nonzero]
  rfl
theorem rR_sq (U V : Int) (h : rOk U V = true) : rR U V * rR U V = rX U V * rX U V := by
  unfold rR
  rw [if_pos h]
  split
  · grind
  · rfl
theorem rR_square (A U : Int) (hU : Cg U (A * A)) : Cg (rR U 1 * rR U 1) (A * A) := by
  rw [rR_sq U 1 (rOk_square A U hU)]
  refine (rX_square A U hU).trans ?_
  have hq : rQ U 1 = U := by unfold rQ pinv; rw [pw_oneI, Int.mul_one]
  rw [hq]
  exact hU
/-- A root that is told is one. -/
theorem rR_root (U V : Int) (h : rOk U V = true) : Cg (rR U V * rR U V * V) U := by
  have hs := rR_sq U V h
  rw [hs]
  unfold rOk at h
  simp only [Bool.and_eq_true, Bool.not_eq_true', Bool.and_eq_false_iff] at h
  have h1 := sameB_iff.1 h.1
  unfold rQ at h1
  by_cases hV : PP ∣ V
  · have h2 : sameB V 0 = true := sameB_yes (by simpa using hV)
    rw [h2] at h
    have h3 : sameB U 0 = true := by
      rcases h.2 with h3 | h3
      · cases h3
      · simpa using h3
    have h4 := sameB_iff.1 h3
    obtain ⟨k, hk⟩ := h4
    obtain ⟨m, hm⟩ := hV
    exact ⟨rX U V * rX U V * m - k, by grind⟩
  · have h2 := inv_mul hV
    obtain ⟨k, hk⟩ := h1
    obtain ⟨m, hm⟩ := h2
    exact ⟨k * V + U * m, by grind⟩
/-- It is even. -/
theorem rR_even (U V : Int) : rR U V % PP % 2 = 0 := by
  unfold rR
  split
  · split
    · rename_i h
      have h0 := Int.emod_nonneg (rX U V) (show PP ≠ 0 by decide)
      have h1 := Int.emod_lt_of_pos (rX U V) (show 0 < PP by decide)
      have e : (0 - rX U V) % PP = PP - rX U V % PP := by
        have h2 : (0 - rX U V) % PP = (PP - rX U V % PP) % PP := by
          refine Int.emod_eq_emod_iff_emod_sub_eq_zero.2 (Int.emod_eq_zero_of_dvd ?_)
          have := Int.emod_add_mul_ediv (rX U V) PP
          exact ⟨-(rX U V / PP) - 1, by grind⟩
        rw [h2, Int.emod_eq_of_lt (by omega) (by omega)]
      rw [e]
      unfold PP at *
      omega
    · rename_i h
      omega
  · decide
end Go.Proofs.Ytenppmciabdefaa
