/- The numbers mod p as a ring; points on Edwards' curve, their sums. Square roots mod p, and a point for each u. The ladder on Edwards' points. The ladder's value: both ways the same; of the base point it is never 0. No condition. -/
import Derived.Test.YtenppmciabdefaaRf
namespace Go.Proofs.Ytenppmciabdefaa
namespace Ed
abbrev Zp := Fin 57896044618658097711785492504343953926634992332820282019728792003956564819949
theorem val_dvd {a : Zp} (h : 57896044618658097711785492504343953926634992332820282019728792003956564819949 ∣ a.val) : a = 0 := by
  have := a.isLt
  apply Fin.ext
  show a.val = 0
  exact Nat.eq_zero_of_dvd_of_lt h this
theorem mul_zero' {a b : Zp} (h : a * b = 0) : a = 0 ∨ b = 0 := by
  have h1 : (a * b).val = 0 := by rw [h]; rfl
  rw [Fin.val_mul] at h1
  rcases Nt.pP.euclid (Nat.dvd_of_mod_eq_zero h1) with h2 | h2
  · exact .inl (val_dvd h2)
  · exact .inr (val_dvd h2)
theorem mul_ne {a b : Zp} (ha : a ≠ 0) (hb : b ≠ 0) : a * b ≠ 0 := fun h => (mul_zero' h).elim ha hb
theorem cancel {c a b : Zp} (hc : c ≠ 0) (h : c * a = c * b) : a = b := by
  have h1 : c * (a - b) = 0 := by grobner
  rcases mul_zero' h1 with h2 | h2
  · exact absurd h2 hc
  · grobner
def ziN (n a : Nat) : Nat := a ^ (n - 2)
theorem inv_ex {n a : Nat} (h : Nt.Pr n) (ha : ¬ n ∣ a) : a * (ziN n a % n) % n = 1 := by
  have h1 := Nt.fermat h ha
  have h2 := h.1
  have h3 : a * a ^ (n - 2) = a ^ (n - 1) := by
    rw [Nat.mul_comm, ← Nat.pow_succ]
    congr 1
    omega
  rw [Nat.mul_mod, Nat.mod_mod, ← Nat.mul_mod, ziN, h3, h1]
/-- What undoes a product. -/
def zi (a : Zp) : Zp := Fin.ofNat _ (ziN 57896044618658097711785492504343953926634992332820282019728792003956564819949 a.val)
theorem zi_mul {a : Zp} (h : a ≠ 0) : a * zi a = 1 := by
  have h1 : ¬ 57896044618658097711785492504343953926634992332820282019728792003956564819949 ∣ a.val := fun hd => h (val_dvd hd)
  have h2 := inv_ex Nt.pP h1
  apply Fin.ext
  rw [Fin.val_mul, zi, Fin.val_ofNat]
  exact h2
theorem two_ne : (2 : Zp) ≠ 0 := by decide
/-- No square: d r r is a square for r = 0 alone. -/
def NS (d : Zp) : Prop := ∀ r s : Zp, d * (r * r) = s * s → r = 0
/-- Points. -/
structure Pt (d : Zp) where
  x : Zp
  y : Zp
  on : d*x*x*y*y-x*x-y*y+1 = 0
theorem complete {d : Zp} (hd : NS d) {x1 y1 x2 y2 : Zp} (h1 : d*x1*x1*y1*y1-x1*x1-y1*y1+1 = 0) (h2 : d*x2*x2*y2*y2-x2*x2-y2*y2+1 = 0) (h : (d*x1*x2*y1*y2) * (d*x1*x2*y1*y2) = 1) : False := by
  have e1 : d * ((x1*y1*(x2+y2)) * (x1*y1*(x2+y2))) = (x1 + d*x1*x2*y1*y2*y1) * (x1 + d*x1*x2*y1*y2*y1) := by grobner
  have e2 : d * ((x1*y1*(x2-y2)) * (x1*y1*(x2-y2))) = (x1 - d*x1*x2*y1*y2*y1) * (x1 - d*x1*x2*y1*y2*y1) := by grobner
  have g1 := hd _ _ e1
  have g2 := hd _ _ e2
  have hxy : x1 * y1 ≠ 0 := fun h0 => by
    have : (1 : Zp) = 0 := by grobner
    exact absurd this (by decide)
  rcases mul_zero' g1 with g | g
  · exact hxy g
  rcases mul_zero' g2 with g' | g'
  · exact hxy g'
  have h4 : 2 * x2 = 0 := by grobner
  rcases mul_zero' h4 with h5 | h5
  · exact two_ne h5
  · rw [h5] at h
    have : (1 : Zp) = 0 := by grobner
    exact absurd this (by decide)
theorem den_p {d : Zp} (hd : NS d) (P Q : Pt d) : 1 + d*P.x*Q.x*P.y*Q.y ≠ 0 := fun h => complete hd P.on Q.on (by grobner)
theorem den_m {d : Zp} (hd : NS d) (P Q : Pt d) : 1 - d*P.x*Q.x*P.y*Q.y ≠ 0 := fun h => complete hd P.on Q.on (by grobner)
theorem sub_zero_eq {a b : Zp} (h : a - b = 0) : a = b := by grobner
theorem mul_zero3 (a b c : Zp) : a * 0 + b * 0 + c * 0 = 0 := by grobner
theorem as_x (d x1 y1 x2 y2 x3 y3 : Zp) (h1 : d*x1*x1*y1*y1-x1*x1-y1*y1+1 = 0) (h2 : d*x2*x2*y2*y2-x2*x2-y2*y2+1 = 0) (h3 : d*x3*x3*y3*y3-x3*x3-y3*y3+1 = 0) : ((x1*y2+y1*x2)*(1-d*x1*x2*y1*y2)*y3+(y1*y2-x1*x2)*(1+d*x1*x2*y1*y2)*x3) * ((1-d*x2*x3*y2*y3)*(1+d*x2*x3*y2*y3)+d*(x2*y3+y2*x3)*(y2*y3-x2*x3)*x1*y1) = ((x2*y3+y2*x3)*(1-d*x2*x3*y2*y3)*y1+(y2*y3-x2*x3)*(1+d*x2*x3*y2*y3)*x1) * ((1-d*x1*x2*y1*y2)*(1+d*x1*x2*y1*y2)+d*(x1*y2+y1*x2)*(y1*y2-x1*x2)*x3*y3) := by
  have h : ((x1*y2+y1*x2)*(1-d*x1*x2*y1*y2)*y3+(y1*y2-x1*x2)*(1+d*x1*x2*y1*y2)*x3) * ((1-d*x2*x3*y2*y3)*(1+d*x2*x3*y2*y3)+d*(x2*y3+y2*x3)*(y2*y3-x2*x3)*x1*y1) - ((x2*y3+y2*x3)*(1-d*x2*x3*y2*y3)*y1+(y2*y3-x2*x3)*(1+d*x2*x3*y2*y3)*x1) * ((1-d*x1*x2*y1*y2)*(1+d*x1*x2*y1*y2)+d*(x1*y2+y1*x2)*(y1*y2-x1*x2)*x3*y3) = (-d*d*x1*x2*x2*x2*x2*y2*y2*y2*x3*x3*y3 +d*d*x1*x2*x2*x2*y2*y2*y2*y2*x3*y3*y3 -d*d*y1*x2*x2*x2*x2*y2*y2*y2*x3*y3*y3 -d*d*y1*x2*x2*x2*y2*y2*y2*y2*x3*x3*y3 +d*x1*x2*x2*x2*x2*y2*x3*x3*y3 +d*x1*x2*x2*x2*y2*y2*x3*x3*x3 -d*x1*x2*x2*x2*y2*y2*x3 -d*x1*x2*x2*y2*y2*y2*y3*y3*y3 +d*x1*x2*x2*y2*y2*y2*y3 -d*x1*x2*y2*y2*y2*y2*x3*y3*y3 +d*y1*x2*x2*x2*x2*y2*x3*y3*y3 -d*y1*x2*x2*x2*y2*y2*y3*y3*y3 +d*y1*x2*x2*x2*y2*y2*y3 -d*y1*x2*x2*y2*y2*y2*x3*x3*x3 +d*y1*x2*x2*y2*y2*y2*x3 +d*y1*x2*y2*y2*y2*y2*x3*x3*y3) * (d*x1*x1*y1*y1-x1*x1-y1*y1+1) + (d*d*x1*x1*y1*x2*x2*y2*x3*x3*x3*y3*y3 +d*d*x1*x1*y1*x2*y2*y2*x3*x3*y3*y3*y3 +d*d*x1*y1*y1*x2*x2*y2*x3*x3*y3*y3*y3 -d*d*x1*y1*y1*x2*y2*y2*x3*x3*x3*y3*y3 -d*x1*x1*x1*x2*x2*y2*x3*x3*y3 +d*x1*x1*x1*x2*y2*y2*x3*y3*y3 -d*x1*x1*x1*x2*x3*x3*x3*y3*y3 +d*x1*x1*x1*y2*x3*x3*y3*y3*y3 -d*x1*x1*y1*x2*x2*y2*x3*y3*y3 -d*x1*x1*y1*x2*y2*y2*x3*x3*y3 +d*x1*x1*y1*x2*x3*x3*y3*y3*y3 +d*x1*x1*y1*y2*x3*x3*x3*y3*y3 -d*x1*y1*y1*x2*x2*y2*x3*x3*y3 +d*x1*y1*y1*x2*y2*y2*x3*y3*y3 -d*x1*y1*y1*x2*x3*x3*x3*y3*y3 +d*x1*y1*y1*y2*x3*x3*y3*y3*y3 +d*x1*x2*x2*y2*x3*x3*y3 -d*x1*x2*y2*y2*x3*y3*y3 +d*x1*x2*x3*x3*x3*y3*y3 -d*x1*y2*x3*x3*y3*y3*y3 -d*y1*y1*y1*x2*x2*y2*x3*y3*y3 -d*y1*y1*y1*x2*y2*y2*x3*x3*y3 +d*y1*y1*y1*x2*x3*x3*y3*y3*y3 +d*y1*y1*y1*y2*x3*x3*x3*y3*y3 +d*y1*x2*x2*y2*x3*y3*y3 +d*y1*x2*y2*y2*x3*x3*y3 -d*y1*x2*x3*x3*y3*y3*y3 -d*y1*y2*x3*x3*x3*y3*y3 +x1*x1*x1*x2*x3*x3*x3 +x1*x1*x1*x2*x3*y3*y3 -x1*x1*x1*x2*x3 -x1*x1*x1*y2*x3*x3*y3 -x1*x1*x1*y2*y3*y3*y3 +x1*x1*x1*y2*y3 -x1*x1*y1*x2*x3*x3*y3 -x1*x1*y1*x2*y3*y3*y3 +x1*x1*y1*x2*y3 -x1*x1*y1*y2*x3*x3*x3 -x1*x1*y1*y2*x3*y3*y3 +x1*x1*y1*y2*x3 +x1*y1*y1*x2*x3*x3*x3 +x1*y1*y1*x2*x3*y3*y3 -x1*y1*y1*x2*x3 -x1*y1*y1*y2*x3*x3*y3 -x1*y1*y1*y2*y3*y3*y3 +x1*y1*y1*y2*y3 -x1*x2*x3*x3*x3 -x1*x2*x3*y3*y3 +x1*x2*x3 +x1*y2*x3*x3*y3 +x1*y2*y3*y3*y3 -x1*y2*y3 -y1*y1*y1*x2*x3*x3*y3 -y1*y1*y1*x2*y3*y3*y3 +y1*y1*y1*x2*y3 -y1*y1*y1*y2*x3*x3*x3 -y1*y1*y1*y2*x3*y3*y3 +y1*y1*y1*y2*x3 +y1*x2*x3*x3*y3 +y1*x2*y3*y3*y3 -y1*x2*y3 +y1*y2*x3*x3*x3 +y1*y2*x3*y3*y3 -y1*y2*x3) * (d*x2*x2*y2*y2-x2*x2-y2*y2+1) + (-d*x1*x1*y1*x2*x2*y2*x3 -d*x1*x1*y1*x2*y2*y2*y3 -d*x1*y1*y1*x2*x2*y2*y3 +d*x1*y1*y1*x2*y2*y2*x3 -x1*x1*x1*x2*x2*x2*x3 +x1*x1*x1*x2*x2*y2*y3 -x1*x1*x1*x2*y2*y2*x3 +x1*x1*x1*x2*x3 +x1*x1*x1*y2*y2*y2*y3 -x1*x1*x1*y2*y3 +x1*x1*y1*x2*x2*x2*y3 +x1*x1*y1*x2*x2*y2*x3 +x1*x1*y1*x2*y2*y2*y3 -x1*x1*y1*x2*y3 +x1*x1*y1*y2*y2*y2*x3 -x1*x1*y1*y2*x3 -x1*y1*y1*x2*x2*x2*x3 +x1*y1*y1*x2*x2*y2*y3 -x1*y1*y1*x2*y2*y2*x3 +x1*y1*y1*x2*x3 +x1*y1*y1*y2*y2*y2*y3 -x1*y1*y1*y2*y3 +x1*x2*x2*x2*x3 -x1*x2*x2*y2*y3 +x1*x2*y2*y2*x3 -x1*x2*x3 -x1*y2*y2*y2*y3 +x1*y2*y3 +y1*y1*y1*x2*x2*x2*y3 +y1*y1*y1*x2*x2*y2*x3 +y1*y1*y1*x2*y2*y2*y3 -y1*y1*y1*x2*y3 +y1*y1*y1*y2*y2*y2*x3 -y1*y1*y1*y2*x3 -y1*x2*x2*x2*y3 -y1*x2*x2*y2*x3 -y1*x2*y2*y2*y3 +y1*x2*y3 -y1*y2*y2*y2*x3 +y1*y2*x3) * (d*x3*x3*y3*y3-x3*x3-y3*y3+1) := by grobner
  rw [h1, h2, h3] at h
  exact sub_zero_eq (by rw [h]; exact mul_zero3 _ _ _)
theorem as_y (d x1 y1 x2 y2 x3 y3 : Zp) (h1 : d*x1*x1*y1*y1-x1*x1-y1*y1+1 = 0) (h2 : d*x2*x2*y2*y2-x2*x2-y2*y2+1 = 0) (h3 : d*x3*x3*y3*y3-x3*x3-y3*y3+1 = 0) : ((y1*y2-x1*x2)*(1+d*x1*x2*y1*y2)*y3-(x1*y2+y1*x2)*(1-d*x1*x2*y1*y2)*x3) * ((1-d*x2*x3*y2*y3)*(1+d*x2*x3*y2*y3)-d*(x2*y3+y2*x3)*(y2*y3-x2*x3)*x1*y1) = ((y2*y3-x2*x3)*(1+d*x2*x3*y2*y3)*y1-(x2*y3+y2*x3)*(1-d*x2*x3*y2*y3)*x1) * ((1-d*x1*x2*y1*y2)*(1+d*x1*x2*y1*y2)-d*(x1*y2+y1*x2)*(y1*y2-x1*x2)*x3*y3) := by
  have h : ((y1*y2-x1*x2)*(1+d*x1*x2*y1*y2)*y3-(x1*y2+y1*x2)*(1-d*x1*x2*y1*y2)*x3) * ((1-d*x2*x3*y2*y3)*(1+d*x2*x3*y2*y3)-d*(x2*y3+y2*x3)*(y2*y3-x2*x3)*x1*y1) - ((y2*y3-x2*x3)*(1+d*x2*x3*y2*y3)*y1-(x2*y3+y2*x3)*(1-d*x2*x3*y2*y3)*x1) * ((1-d*x1*x2*y1*y2)*(1+d*x1*x2*y1*y2)-d*(x1*y2+y1*x2)*(y1*y2-x1*x2)*x3*y3) = (d*d*x1*x2*x2*x2*x2*y2*y2*y2*x3*y3*y3 +d*d*x1*x2*x2*x2*y2*y2*y2*y2*x3*x3*y3 -d*d*y1*x2*x2*x2*x2*y2*y2*y2*x3*x3*y3 +d*d*y1*x2*x2*x2*y2*y2*y2*y2*x3*y3*y3 -d*x1*x2*x2*x2*x2*y2*x3*y3*y3 +d*x1*x2*x2*x2*y2*y2*y3*y3*y3 -d*x1*x2*x2*x2*y2*y2*y3 +d*x1*x2*x2*y2*y2*y2*x3*x3*x3 -d*x1*x2*x2*y2*y2*y2*x3 -d*x1*x2*y2*y2*y2*y2*x3*x3*y3 +d*y1*x2*x2*x2*x2*y2*x3*x3*y3 +d*y1*x2*x2*x2*y2*y2*x3*x3*x3 -d*y1*x2*x2*x2*y2*y2*x3 -d*y1*x2*x2*y2*y2*y2*y3*y3*y3 +d*y1*x2*x2*y2*y2*y2*y3 -d*y1*x2*y2*y2*y2*y2*x3*y3*y3) * (d*x1*x1*y1*y1-x1*x1-y1*y1+1) + (d*d*x1*x1*y1*x2*x2*y2*x3*x3*y3*y3*y3 -d*d*x1*x1*y1*x2*y2*y2*x3*x3*x3*y3*y3 -d*d*x1*y1*y1*x2*x2*y2*x3*x3*x3*y3*y3 -d*d*x1*y1*y1*x2*y2*y2*x3*x3*y3*y3*y3 +d*x1*x1*x1*x2*x2*y2*x3*y3*y3 +d*x1*x1*x1*x2*y2*y2*x3*x3*y3 -d*x1*x1*x1*x2*x3*x3*y3*y3*y3 -d*x1*x1*x1*y2*x3*x3*x3*y3*y3 -d*x1*x1*y1*x2*x2*y2*x3*x3*y3 +d*x1*x1*y1*x2*y2*y2*x3*y3*y3 -d*x1*x1*y1*x2*x3*x3*x3*y3*y3 +d*x1*x1*y1*y2*x3*x3*y3*y3*y3 +d*x1*y1*y1*x2*x2*y2*x3*y3*y3 +d*x1*y1*y1*x2*y2*y2*x3*x3*y3 -d*x1*y1*y1*x2*x3*x3*y3*y3*y3 -d*x1*y1*y1*y2*x3*x3*x3*y3*y3 -d*x1*x2*x2*y2*x3*y3*y3 -d*x1*x2*y2*y2*x3*x3*y3 +d*x1*x2*x3*x3*y3*y3*y3 +d*x1*y2*x3*x3*x3*y3*y3 -d*y1*y1*y1*x2*x2*y2*x3*x3*y3 +d*y1*y1*y1*x2*y2*y2*x3*y3*y3 -d*y1*y1*y1*x2*x3*x3*x3*y3*y3 +d*y1*y1*y1*y2*x3*x3*y3*y3*y3 +d*y1*x2*x2*y2*x3*x3*y3 -d*y1*x2*y2*y2*x3*y3*y3 +d*y1*x2*x3*x3*x3*y3*y3 -d*y1*y2*x3*x3*y3*y3*y3 +x1*x1*x1*x2*x3*x3*y3 +x1*x1*x1*x2*y3*y3*y3 -x1*x1*x1*x2*y3 +x1*x1*x1*y2*x3*x3*x3 +x1*x1*x1*y2*x3*y3*y3 -x1*x1*x1*y2*x3 +x1*x1*y1*x2*x3*x3*x3 +x1*x1*y1*x2*x3*y3*y3 -x1*x1*y1*x2*x3 -x1*x1*y1*y2*x3*x3*y3 -x1*x1*y1*y2*y3*y3*y3 +x1*x1*y1*y2*y3 +x1*y1*y1*x2*x3*x3*y3 +x1*y1*y1*x2*y3*y3*y3 -x1*y1*y1*x2*y3 +x1*y1*y1*y2*x3*x3*x3 +x1*y1*y1*y2*x3*y3*y3 -x1*y1*y1*y2*x3 -x1*x2*x3*x3*y3 -x1*x2*y3*y3*y3 +x1*x2*y3 -x1*y2*x3*x3*x3 -x1*y2*x3*y3*y3 +x1*y2*x3 +y1*y1*y1*x2*x3*x3*x3 +y1*y1*y1*x2*x3*y3*y3 -y1*y1*y1*x2*x3 -y1*y1*y1*y2*x3*x3*y3 -y1*y1*y1*y2*y3*y3*y3 +y1*y1*y1*y2*y3 -y1*x2*x3*x3*x3 -y1*x2*x3*y3*y3 +y1*x2*x3 +y1*y2*x3*x3*y3 +y1*y2*y3*y3*y3 -y1*y2*y3) * (d*x2*x2*y2*y2-x2*x2-y2*y2+1) + (-d*x1*x1*y1*x2*x2*y2*y3 +d*x1*x1*y1*x2*y2*y2*x3 +d*x1*y1*y1*x2*x2*y2*x3 +d*x1*y1*y1*x2*y2*y2*y3 -x1*x1*x1*x2*x2*x2*y3 -x1*x1*x1*x2*x2*y2*x3 -x1*x1*x1*x2*y2*y2*y3 +x1*x1*x1*x2*y3 -x1*x1*x1*y2*y2*y2*x3 +x1*x1*x1*y2*x3 -x1*x1*y1*x2*x2*x2*x3 +x1*x1*y1*x2*x2*y2*y3 -x1*x1*y1*x2*y2*y2*x3 +x1*x1*y1*x2*x3 +x1*x1*y1*y2*y2*y2*y3 -x1*x1*y1*y2*y3 -x1*y1*y1*x2*x2*x2*y3 -x1*y1*y1*x2*x2*y2*x3 -x1*y1*y1*x2*y2*y2*y3 +x1*y1*y1*x2*y3 -x1*y1*y1*y2*y2*y2*x3 +x1*y1*y1*y2*x3 +x1*x2*x2*x2*y3 +x1*x2*x2*y2*x3 +x1*x2*y2*y2*y3 -x1*x2*y3 +x1*y2*y2*y2*x3 -x1*y2*x3 -y1*y1*y1*x2*x2*x2*x3 +y1*y1*y1*x2*x2*y2*y3 -y1*y1*y1*x2*y2*y2*x3 +y1*y1*y1*x2*x3 +y1*y1*y1*y2*y2*y2*y3 -y1*y1*y1*y2*y3 +y1*x2*x2*x2*x3 -y1*x2*x2*y2*y3 +y1*x2*y2*y2*x3 -y1*x2*x3 -y1*y2*y2*y2*y3 +y1*y2*y3) * (d*x3*x3*y3*y3-x3*x3-y3*y3+1) := by grobner
  rw [h1, h2, h3] at h
  exact sub_zero_eq (by rw [h]; exact mul_zero3 _ _ _)
theorem closed {d x1 y1 x2 y2 a b : Zp} (h1 : d*x1*x1*y1*y1-x1*x1-y1*y1+1 = 0) (h2 : d*x2*x2*y2*y2-x2*x2-y2*y2+1 = 0) (hp : 1 + d*x1*x2*y1*y2 ≠ 0) (hm : 1 - d*x1*x2*y1*y2 ≠ 0)
    (ha : (1 + d*x1*x2*y1*y2) * a = x1*y2+y1*x2) (hb : (1 - d*x1*x2*y1*y2) * b = y1*y2-x1*x2) : d*a*a*b*b-a*a-b*b+1 = 0 := by
  have k : (d*(x1*y2+y1*x2)*(x1*y2+y1*x2)*(y1*y2-x1*x2)*(y1*y2-x1*x2) - (x1*y2+y1*x2)*(x1*y2+y1*x2)*(1 - d*x1*x2*y1*y2)*(1 - d*x1*x2*y1*y2) - (y1*y2-x1*x2)*(y1*y2-x1*x2)*(1 + d*x1*x2*y1*y2)*(1 + d*x1*x2*y1*y2) + (1 + d*x1*x2*y1*y2)*(1 + d*x1*x2*y1*y2)*(1 - d*x1*x2*y1*y2)*(1 - d*x1*x2*y1*y2)) = 0 := by
    have h : (d*(x1*y2+y1*x2)*(x1*y2+y1*x2)*(y1*y2-x1*x2)*(y1*y2-x1*x2) - (x1*y2+y1*x2)*(x1*y2+y1*x2)*(1 - d*x1*x2*y1*y2)*(1 - d*x1*x2*y1*y2) - (y1*y2-x1*x2)*(y1*y2-x1*x2)*(1 + d*x1*x2*y1*y2)*(1 + d*x1*x2*y1*y2) + (1 + d*x1*x2*y1*y2)*(1 + d*x1*x2*y1*y2)*(1 - d*x1*x2*y1*y2)*(1 - d*x1*x2*y1*y2)) = (d*d*d*x1*x1*y1*y1*x2*x2*x2*x2*y2*y2*y2*y2 +d*d*x1*x1*x2*x2*x2*x2*y2*y2*y2*y2 +d*d*y1*y1*x2*x2*x2*x2*y2*y2*y2*y2 -d*d*x2*x2*x2*x2*y2*y2*y2*y2 -d*x1*x1*x2*x2*x2*x2*y2*y2 -d*x1*x1*x2*x2*y2*y2*y2*y2 -d*y1*y1*x2*x2*x2*x2*y2*y2 -d*y1*y1*x2*x2*y2*y2*y2*y2 +2*d*x2*x2*x2*x2*y2*y2*y2*y2 -2*d*x2*x2*y2*y2 -2*x2*x2*x2*x2*y2*y2 +x2*x2*x2*x2 -2*x2*x2*y2*y2*y2*y2 +4*x2*x2*y2*y2 +y2*y2*y2*y2) * (d*x1*x1*y1*y1-x1*x1-y1*y1+1) + (d*x1*x1*x1*x1*x2*x2*y2*y2 -2*d*x1*x1*x2*x2*y2*y2 +d*y1*y1*y1*y1*x2*x2*y2*y2 -2*d*y1*y1*x2*x2*y2*y2 +d*x2*x2*y2*y2 +2*x1*x1*x2*x2*y2*y2 -x1*x1*x2*x2 -x1*x1*y2*y2 +2*y1*y1*x2*x2*y2*y2 -y1*y1*x2*x2 -y1*y1*y2*y2 -2*x2*x2*y2*y2 +x2*x2 +y2*y2 +1) * (d*x2*x2*y2*y2-x2*x2-y2*y2+1) + 0 * 0 := by grobner
    rw [h1, h2] at h
    rw [h]
    exact mul_zero3 _ _ _
  rw [← ha, ← hb] at k
  generalize 1 + d*x1*x2*y1*y2 = u at *
  generalize 1 - d*x1*x2*y1*y2 = v at *
  clear h1 h2 ha hb
  have k2 : (u * v) * (u * v) * (d*a*a*b*b-a*a-b*b+1) = 0 := by
    rw [← k]
    grobner
  rcases mul_zero' k2 with k3 | k3
  · exact absurd k3 (mul_ne (mul_ne hp hm) (mul_ne hp hm))
  · exact k3
/-- The sum of two points. -/
def add {d : Zp} (hd : NS d) (P Q : Pt d) : Pt d :=
  ⟨(P.x*Q.y+P.y*Q.x) * zi (1 + d*P.x*Q.x*P.y*Q.y), (P.y*Q.y-P.x*Q.x) * zi (1 - d*P.x*Q.x*P.y*Q.y),
    closed P.on Q.on (den_p hd P Q) (den_m hd P Q) (by have := zi_mul (den_p hd P Q); grobner) (by have := zi_mul (den_m hd P Q); grobner)⟩
theorem add_x {d : Zp} (hd : NS d) (P Q : Pt d) : (1 + d*P.x*Q.x*P.y*Q.y) * (add hd P Q).x = P.x*Q.y+P.y*Q.x := by
  have := zi_mul (den_p hd P Q)
  show (1 + d*P.x*Q.x*P.y*Q.y) * ((P.x*Q.y+P.y*Q.x) * zi (1 + d*P.x*Q.x*P.y*Q.y)) = _
  grobner
theorem add_y {d : Zp} (hd : NS d) (P Q : Pt d) : (1 - d*P.x*Q.x*P.y*Q.y) * (add hd P Q).y = P.y*Q.y-P.x*Q.x := by
  have := zi_mul (den_m hd P Q)
  show (1 - d*P.x*Q.x*P.y*Q.y) * ((P.y*Q.y-P.x*Q.x) * zi (1 - d*P.x*Q.x*P.y*Q.y)) = _
  grobner
theorem pt_ext {d : Zp} {P Q : Pt d} (hx : P.x = Q.x) (hy : P.y = Q.y) : P = Q := by
  cases P
  cases Q
  simp only at hx hy
  subst hx
  subst hy
  rfl
theorem add_comm {d : Zp} (hd : NS d) (P Q : Pt d) : add hd P Q = add hd Q P := by
  refine pt_ext (cancel (den_p hd P Q) ?_) (cancel (den_m hd P Q) ?_)
  · have a := add_x hd P Q
    have b := add_x hd Q P
    grobner
  · have a := add_y hd P Q
    have b := add_y hd Q P
    grobner
theorem add_assoc {d : Zp} (hd : NS d) (P Q R : Pt d) : add hd (add hd P Q) R = add hd P (add hd Q R) := by
  have a1 := add_x hd P Q
  have a2 := add_y hd P Q
  have b1 := add_x hd Q R
  have b2 := add_y hd Q R
  have l1 := add_x hd (add hd P Q) R
  have l2 := add_y hd (add hd P Q) R
  have m1 := add_x hd P (add hd Q R)
  have m2 := add_y hd P (add hd Q R)
  have n1 := den_p hd P Q
  have n2 := den_m hd P Q
  have n3 := den_p hd Q R
  have n4 := den_m hd Q R
  have n5 := den_p hd (add hd P Q) R
  have n6 := den_m hd (add hd P Q) R
  have n7 := den_p hd P (add hd Q R)
  have n8 := den_m hd P (add hd Q R)
  have ix := as_x d P.x P.y Q.x Q.y R.x R.y P.on Q.on R.on
  have iy := as_y d P.x P.y Q.x Q.y R.x R.y P.on Q.on R.on
  generalize add hd (add hd P Q) R = L at *
  generalize add hd P (add hd Q R) = M at *
  generalize add hd P Q = A at *
  generalize add hd Q R = B at *
  obtain ⟨x1, y1, o1⟩ := P
  obtain ⟨x2, y2, o2⟩ := Q
  obtain ⟨x3, y3, o3⟩ := R
  obtain ⟨p, q, o4⟩ := A
  obtain ⟨r, s, o5⟩ := B
  obtain ⟨lx, ly, o6⟩ := L
  obtain ⟨mx, my, o7⟩ := M
  simp only at *
  clear o1 o2 o3 o4 o5
  have c1 : (1 + d*x1*x2*y1*y2) * (1 - d*x1*x2*y1*y2) ≠ 0 := mul_ne n1 n2
  have c2 : (1 + d*x2*x3*y2*y3) * (1 - d*x2*x3*y2*y3) ≠ 0 := mul_ne n3 n4
  have q1 : (1-d*x1*x2*y1*y2)*(1+d*x1*x2*y1*y2)+d*(x1*y2+y1*x2)*(y1*y2-x1*x2)*x3*y3 = (1 + d*x1*x2*y1*y2) * (1 - d*x1*x2*y1*y2) * (1 + d*p*x3*q*y3) := by
    rw [← a1, ← a2]
    grobner
  have q2 : (1-d*x2*x3*y2*y3)*(1+d*x2*x3*y2*y3)+d*(x2*y3+y2*x3)*(y2*y3-x2*x3)*x1*y1 = (1 + d*x2*x3*y2*y3) * (1 - d*x2*x3*y2*y3) * (1 + d*x1*r*y1*s) := by
    rw [← b1, ← b2]
    grobner
  have q3 : (1-d*x1*x2*y1*y2)*(1+d*x1*x2*y1*y2)-d*(x1*y2+y1*x2)*(y1*y2-x1*x2)*x3*y3 = (1 + d*x1*x2*y1*y2) * (1 - d*x1*x2*y1*y2) * (1 - d*p*x3*q*y3) := by
    rw [← a1, ← a2]
    grobner
  have q4 : (1-d*x2*x3*y2*y3)*(1+d*x2*x3*y2*y3)-d*(x2*y3+y2*x3)*(y2*y3-x2*x3)*x1*y1 = (1 + d*x2*x3*y2*y3) * (1 - d*x2*x3*y2*y3) * (1 - d*x1*r*y1*s) := by
    rw [← b1, ← b2]
    grobner
  rw [q1, q2] at ix
  rw [q3, q4] at iy
  rw [← a1, ← a2, ← b1, ← b2] at ix iy
  generalize 1 + d*x1*x2*y1*y2 = u at *
  generalize 1 - d*x1*x2*y1*y2 = v at *
  generalize 1 + d*x2*x3*y2*y3 = u' at *
  generalize 1 - d*x2*x3*y2*y3 = v' at *
  generalize 1 + d*p*x3*q*y3 = e at *
  generalize 1 + d*x1*r*y1*s = f at *
  generalize 1 - d*p*x3*q*y3 = g at *
  generalize 1 - d*x1*r*y1*s = h at *
  clear q1 q2 q3 q4 a1 a2 b1 b2
  refine pt_ext (cancel (mul_ne (mul_ne c1 c2) (mul_ne n5 n7)) ?_) (cancel (mul_ne (mul_ne c1 c2) (mul_ne n6 n8)) ?_)
  · show u * v * (u' * v') * (e * f) * lx = u * v * (u' * v') * (e * f) * mx
    have r1 : u * v * (u' * v') * (e * f) * lx = u * v * (u' * v') * f * (e * lx) := by grobner
    have r2 : u * v * (u' * v') * (e * f) * mx = u * v * (u' * v') * e * (f * mx) := by grobner
    rw [r1, r2, l1, m1]
    clear n1 n2 n3 n4 n5 n6 n7 n8 c1 c2 l1 m1 l2 m2 iy o6 o7 hd r1 r2
    grobner
  · show u * v * (u' * v') * (g * h) * ly = u * v * (u' * v') * (g * h) * my
    have r1 : u * v * (u' * v') * (g * h) * ly = u * v * (u' * v') * h * (g * ly) := by grobner
    have r2 : u * v * (u' * v') * (g * h) * my = u * v * (u' * v') * g * (h * my) := by grobner
    rw [r1, r2, l2, m2]
    clear n1 n2 n3 n4 n5 n6 n7 n8 c1 c2 l1 m1 l2 m2 ix o6 o7 hd r1 r2
    grobner
def zero (d : Zp) : Pt d := ⟨0, 1, by grobner⟩
def neg {d : Zp} (P : Pt d) : Pt d := ⟨-P.x, P.y, by have := P.on; grobner⟩
theorem add_zero {d : Zp} (hd : NS d) (P : Pt d) : add hd P (zero d) = P := by
  have a := add_x hd P (zero d)
  have b := add_y hd P (zero d)
  have e1 : (zero d).x = 0 := rfl
  have e2 : (zero d).y = 1 := rfl
  rw [e1, e2] at a b
  exact pt_ext (by grobner) (by grobner)
theorem add_neg {d : Zp} (hd : NS d) (P : Pt d) : add hd P (neg P) = zero d := by
  have a := add_x hd P (neg P)
  have b := add_y hd P (neg P)
  have n1 := den_p hd P (neg P)
  have n2 := den_m hd P (neg P)
  have o := P.on
  have e1 : (neg P).x = -P.x := rfl
  have e2 : (neg P).y = P.y := rfl
  rw [e1, e2] at a b n1 n2
  refine pt_ext (cancel n1 ?_) (cancel n2 ?_)
  · show _ = (1 + d * P.x * -P.x * P.y * P.y) * 0
    grobner
  · show _ = (1 - d * P.x * -P.x * P.y * P.y) * 1
    grobner
/-- So many times a point. -/
def mulP {d : Zp} (hd : NS d) (P : Pt d) : Nat → Pt d
  | 0 => zero d
  | n + 1 => add hd (mulP hd P n) P
theorem mulP_add {d : Zp} (hd : NS d) (P : Pt d) (m n : Nat) : mulP hd P (m + n) = add hd (mulP hd P m) (mulP hd P n) := by
  induction n with
  | zero => exact (add_zero hd _).symm
  | succ n ih => rw [← Nat.add_assoc, mulP, ih, mulP, add_assoc]
theorem mulP_mul {d : Zp} (hd : NS d) (P : Pt d) (m n : Nat) : mulP hd P (m * n) = mulP hd (mulP hd P m) n := by
  induction n with
  | zero => rfl
  | succ n ih => rw [Nat.mul_succ, mulP_add, ih, mulP]
theorem mulP_swap {d : Zp} (hd : NS d) (P : Pt d) (m n : Nat) : mulP hd (mulP hd P m) n = mulP hd (mulP hd P n) m := by
  rw [← mulP_mul, ← mulP_mul, Nat.mul_comm]
theorem zero_add {d : Zp} (hd : NS d) (P : Pt d) : add hd (zero d) P = P := by rw [add_comm, add_zero]
theorem mulP_one {d : Zp} (hd : NS d) (P : Pt d) : mulP hd P 1 = P := zero_add hd P
theorem mulP_zero {d : Zp} (hd : NS d) (n : Nat) : mulP hd (zero d) n = zero d := by
  induction n with
  | zero => rfl
  | succ n ih => rw [mulP, ih, add_zero]
end Ed
end Go.Proofs.Ytenppmciabdefaa
namespace Go.Proofs.Ytenppmciabdefaa
namespace Ed
def zpw (a : Zp) : Nat → Zp
  | 0 => 1
  | k + 1 => zpw a k * a
theorem zpw_add (a : Zp) (m n : Nat) : zpw a (m + n) = zpw a m * zpw a n := by
  induction n with
  | zero => show zpw a m = zpw a m * 1; grobner
  | succ n ih => rw [← Nat.add_assoc, zpw, ih, zpw]; grobner
theorem zpw_prod (a b : Zp) (n : Nat) : zpw (a * b) n = zpw a n * zpw b n := by
  induction n with
  | zero => show (1 : Zp) = 1 * 1; grobner
  | succ n ih => rw [zpw, ih, zpw, zpw]; grobner
theorem zpw_val (a : Zp) (n : Nat) : (zpw a n).val = a.val ^ n % 57896044618658097711785492504343953926634992332820282019728792003956564819949 := by
  induction n with
  | zero => rfl
  | succ n ih => rw [zpw, Fin.val_mul, ih, Nat.pow_succ, Nat.mul_mod, Nat.mod_mod, ← Nat.mul_mod]
theorem p_split : ∃ k p : Nat, Nt.Pr p ∧ p = 57896044618658097711785492504343953926634992332820282019728792003956564819949 ∧ p - 1 = 8 * k + 4 ∧ 4 * k + 2 = 28948022309329048855892746252171976963317496166410141009864396001978282409974 ∧ 2 * k + 1 = 14474011154664524427946373126085988481658748083205070504932198000989141204987 :=
  ⟨7237005577332262213973186563042994240829374041602535252466099000494570602493, _, Nt.pP, rfl, by decide +kernel, by decide +kernel, by decide +kernel⟩
/-- FERMAT. -/
theorem zpw_fermat {k p : Nat} (hp : Nt.Pr p) (hpe : p = 57896044618658097711785492504343953926634992332820282019728792003956564819949) (hk : p - 1 = 8 * k + 4) {a : Zp} (h : a ≠ 0) : zpw a (8 * k + 4) = 1 := by
  have h1 : ¬ p ∣ a.val := fun hd => h (val_dvd (hpe ▸ hd))
  have h2 := Nt.fermat hp h1
  rw [hk, hpe] at h2
  apply Fin.ext
  rw [zpw_val]
  exact h2
def D1 : Zp := 20800338683988658368647408995589388737092878452977063003340006470870624536394
def D2 : Zp := 28692721048178265397853269683490922171210976843790175684556505508326675974058
def I1 : Zp := 19681161376707505956807079304988542015446066515923890162744021073123829784752
theorem D1_eq : D1 * 121666 = 121665 := by decide +kernel
theorem D2_eq : D2 * 121665 = 121666 := by decide +kernel
theorem I1_sq : I1 * I1 = -1 := by decide +kernel
theorem D1_half : ∀ e, e = 28948022309329048855892746252171976963317496166410141009864396001978282409974 → zpw D1 e = -1 := by
  intro e he
  apply Fin.ext
  have h := Nt.powm_eq 57896044618658097711785492504343953926634992332820282019728792003956564819949 256 D1.val e (by rw [he]; decide +kernel)
  rw [zpw_val, ← h, he]
  decide +kernel
theorem D1_quarter : ∀ e, e = 14474011154664524427946373126085988481658748083205070504932198000989141204987 → zpw D1 e * zpw D1 e = -1 := by
  intro e he
  rw [← zpw_add]
  exact D1_half _ (by omega)
theorem one_ne : (1 : Zp) ≠ 0 := by decide
theorem D1_ne : D1 ≠ 0 := fun h => by have := D1_eq; rw [h] at this; exact absurd this (by decide +kernel)
theorem ns1 : NS D1 := by
  intro r s h
  obtain ⟨k, p, hp, hpe, hk, hk2, _⟩ := p_split
  refine Classical.byContradiction fun hr => ?_
  have hs : s ≠ 0 := fun hs => mul_ne D1_ne (mul_ne hr hr) (by rw [h, hs]; rfl)
  have h1 := congrArg (fun z => zpw z (4 * k + 2)) h
  simp only [zpw_prod, ← zpw_add] at h1
  rw [D1_half _ hk2, show 4 * k + 2 + (4 * k + 2) = 8 * k + 4 by omega, zpw_fermat hp hpe hk hr, zpw_fermat hp hpe hk hs] at h1
  exact absurd h1 (by decide +kernel)
theorem ns2 : NS D2 := by
  intro r s h
  have h1 := D1_eq
  have h2 := D2_eq
  have h3 : (121665 : Zp) * 121666 ≠ 0 := by decide +kernel
  have h4 : 121665 * 121666 * (D1 * (s * s)) = 121665 * 121666 * (r * r) := by grobner
  have h5 := ns1 s r (cancel h3 h4)
  rw [h5] at h4
  have h6 : r * r = 0 := cancel h3 (by grobner)
  rcases mul_zero' h6 with h | h <;> exact h
theorem root_ex (h : Zp) : ∃ s, s * s = h ∨ s * s = D1 * h := by
  by_cases h0 : h = 0
  · exact ⟨0, .inl (by rw [h0]; rfl)⟩
  obtain ⟨k, p, hp, hpe, hk, hk2, hk3⟩ := p_split
  have f := zpw_fermat hp hpe hk h0
  have hq := D1_quarter _ hk3
  have i2 := I1_sq
  have key : ∀ g : Zp, (zpw g (2 * k + 1) = 1 ∨ zpw g (2 * k + 1) = -1) → ∃ s, s * s = g := fun g hg => by
    have e : zpw g (k + 1) * zpw g (k + 1) = zpw g (2 * k + 1) * g := by
      rw [← zpw_add, show k + 1 + (k + 1) = 2 * k + 1 + 1 by omega, zpw]
    rcases hg with hg | hg
    · exact ⟨zpw g (k + 1), by grobner⟩
    · exact ⟨I1 * zpw g (k + 1), by grobner⟩
  have e1 : zpw h (8 * k + 4) = (zpw h (2 * k + 1) * zpw h (2 * k + 1)) * (zpw h (2 * k + 1) * zpw h (2 * k + 1)) := by
    rw [← zpw_add, ← zpw_add]
    congr 1
    omega
  rw [e1] at f
  have pm : ∀ z : Zp, z * z = 1 → z = 1 ∨ z = -1 := fun z hz => by
    have h1 : (z - 1) * (z + 1) = 0 := by grobner
    rcases mul_zero' h1 with h2 | h2
    · exact .inl (by grobner)
    · exact .inr (by grobner)
  rcases pm _ f with f | f
  · obtain ⟨s, hs⟩ := key h (pm _ f)
    exact ⟨s, .inl hs⟩
  · obtain ⟨s, hs⟩ := key (D1 * h) (pm _ (by rw [zpw_prod]; grobner))
    exact ⟨s, .inr hs⟩
/-- Which of both curves. -/
def Cur (e d : Zp) : Prop := (e = 1 ∧ d * 121666 = 121665) ∨ (e = -1 ∧ d * 121665 = 121666)
/-- A point for each u but 0. -/
theorem point_ex {u : Zp} (hu : u ≠ 0) : ∃ (e d : Zp) (_ : NS d) (P : Pt d), Cur e d ∧ u * (1 - P.y) = e * (1 + P.y) ∧ 1 - P.y ≠ 0 := by
  have c1 := D1_eq
  have c2 := D2_eq
  have h66 : (121666 : Zp) ≠ 0 := by decide +kernel
  have h65 : (121665 : Zp) ≠ 0 := by decide +kernel
  have h4 : (4 : Zp) ≠ 0 := by decide +kernel
  have hw : u * u + 486662 * u + 1 ≠ 0 := fun hz => by
    have e : D1 * ((4 * 121666) * (4 * 121666)) = (2 * u + 486662) * (2 * u + 486662) := by grobner
    exact absurd (ns1 _ _ e) (by decide +kernel)
  obtain ⟨r, hr⟩ : ∃ r, (u * u + 486662 * u + 1) * r = u := ⟨zi (u * u + 486662 * u + 1) * u, by have := zi_mul hw; grobner⟩
  obtain ⟨s, hs⟩ := root_ex (121666 * r)
  rcases hs with hs | hs
  · have hu1 : u + 1 ≠ 0 := fun hz => by
      have e0 : u = -1 := by grobner
      subst e0
      have e1 : (121665 * 4 : Zp) * r = 1 := by grobner
      have e2 : (121665 : Zp) * (D2 * (1 * 1)) = 121665 * ((2 * s) * (2 * s)) := by grobner
      exact one_ne (ns2 _ _ (cancel h65 e2))
    obtain ⟨y, hy⟩ : ∃ y, (u + 1) * y = u - 1 := ⟨zi (u + 1) * (u - 1), by have := zi_mul hu1; grobner⟩
    have hon : D1 * (2 * s) * (2 * s) * y * y - 2 * s * (2 * s) - y * y + 1 = 0 := by
      refine cancel (mul_ne (mul_ne hu1 hu1) (mul_ne hw h66)) ?_
      have e1 : (u + 1) * (u + 1) * ((u * u + 486662 * u + 1) * 121666) * (D1 * (2 * s) * (2 * s) * y * y - 2 * s * (2 * s) - y * y + 1) =
        (u * u + 486662 * u + 1) * (4 * (s * s) * (D1 * 121666 * ((u + 1) * y) * ((u + 1) * y) - 121666 * (u + 1) * (u + 1))) + 121666 * (u * u + 486662 * u + 1) * ((u + 1) * (u + 1) - ((u + 1) * y) * ((u + 1) * y)) := by grobner
      rw [e1, hs, hy, c1]
      have e2 : (u * u + 486662 * u + 1) * (4 * (121666 * r) * (121665 * (u - 1) * (u - 1) - 121666 * (u + 1) * (u + 1))) = 4 * 121666 * ((u * u + 486662 * u + 1) * r) * (121665 * (u - 1) * (u - 1) - 121666 * (u + 1) * (u + 1)) := by grobner
      rw [e2, hr]
      grobner
    refine ⟨1, D1, ns1, ⟨2 * s, y, hon⟩, .inl ⟨rfl, c1⟩, ?_, fun hz => ?_⟩
    · show u * (1 - y) = 1 * (1 + y)
      grobner
    · have hz : 1 - y = 0 := hz
      exact two_ne (by grobner)
  · have hu1 : u - 1 ≠ 0 := fun hz => by
      have e0 : u = 1 := by grobner
      subst e0
      have e1 : (121666 * 4 : Zp) * r = 1 := by grobner
      have e2 : (121666 : Zp) * (D1 * (1 * 1)) = 121666 * ((2 * s) * (2 * s)) := by grobner
      exact one_ne (ns1 _ _ (cancel h66 e2))
    obtain ⟨y, hy⟩ : ∃ y, (u - 1) * y = u + 1 := ⟨zi (u - 1) * (u + 1), by have := zi_mul hu1; grobner⟩
    have hs2 : s * s = 121665 * r := by rw [hs]; grobner
    have hon : D2 * (2 * s) * (2 * s) * y * y - 2 * s * (2 * s) - y * y + 1 = 0 := by
      refine cancel (mul_ne (mul_ne hu1 hu1) (mul_ne hw h65)) ?_
      have e1 : (u - 1) * (u - 1) * ((u * u + 486662 * u + 1) * 121665) * (D2 * (2 * s) * (2 * s) * y * y - 2 * s * (2 * s) - y * y + 1) =
        (u * u + 486662 * u + 1) * (4 * (s * s) * (D2 * 121665 * ((u - 1) * y) * ((u - 1) * y) - 121665 * (u - 1) * (u - 1))) + 121665 * (u * u + 486662 * u + 1) * ((u - 1) * (u - 1) - ((u - 1) * y) * ((u - 1) * y)) := by grobner
      rw [e1, hs2, hy, c2]
      have e2 : (u * u + 486662 * u + 1) * (4 * (121665 * r) * (121666 * (u + 1) * (u + 1) - 121665 * (u - 1) * (u - 1))) = 4 * 121665 * ((u * u + 486662 * u + 1) * r) * (121666 * (u + 1) * (u + 1) - 121665 * (u - 1) * (u - 1)) := by grobner
      rw [e2, hr]
      grobner
    refine ⟨-1, D2, ns2, ⟨2 * s, y, hon⟩, .inr ⟨rfl, c2⟩, ?_, fun hz => ?_⟩
    · show u * (1 - y) = -1 * (1 + y)
      grobner
    · have hz : 1 - y = 0 := hz
      exact two_ne (by grobner)
end Ed
end Go.Proofs.Ytenppmciabdefaa
namespace Go.Proofs.Ytenppmciabdefaa
namespace Ed
/-- A fraction that says a point's u. -/
def Rep (e X Z y : Zp) : Prop := ∃ l, l ≠ 0 ∧ X = l * (1 + y) ∧ Z = e * l * (1 - y)
theorem rep_of {e X Z y : Zp} (he : e * e = 1) (h : X * (1 - y) = e * Z * (1 + y)) (hn : ¬(X = 0 ∧ Z = 0)) : Rep e X Z y := by
  by_cases hy : 1 + y = 0
  · have e0 : y = -1 := by grobner
    subst e0
    have h2 : 2 * X = 2 * 0 := by grobner
    have hx : X = 0 := cancel two_ne h2
    have hz := zi_mul two_ne
    refine ⟨e * Z * zi 2, fun hl => hn ⟨hx, ?_⟩, by rw [hx]; grobner, by grobner⟩
    have : Z = e * 2 * (e * Z * zi 2) := by grobner
    rw [this, hl]
    grobner
  · have hi := zi_mul hy
    have hx : X = X * zi (1 + y) * (1 + y) := by grobner
    have hz : Z = e * (X * zi (1 + y)) * (1 - y) := cancel hy (by grobner)
    refine ⟨X * zi (1 + y), fun hl => hn ?_, hx, hz⟩
    rw [hl] at hx hz
    exact ⟨by grobner, by grobner⟩
theorem cur_sq {e d : Zp} (h : Cur e d) : e * e = 1 := by
  rcases h with ⟨rfl, _⟩ | ⟨rfl, _⟩ <;> decide +kernel
theorem rep_double {e d : Zp} (hd : NS d) (hc : Cur e d) (P : Pt d) {X Z : Zp} (h : Rep e X Z P.y) :
    Rep e (((X + Z) * (X + Z)) * ((X - Z) * (X - Z))) (((X + Z) * (X + Z) - (X - Z) * (X - Z)) * ((X + Z) * (X + Z) + 121665 * ((X + Z) * (X + Z) - (X - Z) * (X - Z)))) (add hd P P).y := by
  have hs := cur_sq hc
  have hy := add_y hd P P
  have hm := den_m hd P P
  have h66 : (121666 : Zp) ≠ 0 := by decide +kernel
  have h65 : (121665 : Zp) ≠ 0 := by decide +kernel
  have h16 : (16 : Zp) ≠ 0 := by decide +kernel
  generalize (add hd P P).y = y' at *
  obtain ⟨x, y, on⟩ := P
  obtain ⟨l, hl, rfl, rfl⟩ := h
  simp only at *
  rcases hc with ⟨rfl, hc⟩ | ⟨rfl, hc⟩
  · have a1 : l * (1 + y) + 1 * l * (1 - y) = 2 * l := by grobner
    have a2 : l * (1 + y) - 1 * l * (1 - y) = 2 * l * y := by grobner
    rw [a1, a2]
    refine rep_of hs (cancel hm ?_) (fun hz => ?_)
    · have b1 : (1 - d * x * x * y * y) * (2 * l * (2 * l) * (2 * l * y * (2 * l * y)) * (1 - y')) = 16 * l * l * l * l * (y * y) * ((1 - d * x * x * y * y) - (1 - d * x * x * y * y) * y') := by grobner
      have b2 : (1 - d * x * x * y * y) * (1 * ((2 * l * (2 * l) - 2 * l * y * (2 * l * y)) * (2 * l * (2 * l) + 121665 * (2 * l * (2 * l) - 2 * l * y * (2 * l * y)))) * (1 + y')) =
        16 * l * l * l * l * ((1 - y * y) * (1 + 121665 * (1 - y * y))) * ((1 - d * x * x * y * y) + (1 - d * x * x * y * y) * y') := by grobner
      rw [b1, b2, hy]
      have on' : d * x * x * y * y = x * x + y * y - 1 := by grobner
      rw [on']
      have b3 : (121666 - 121665 * (y * y)) * (1 - x * x) = y * y := by grobner
      have b4 : y * y * (1 - (x * x + y * y - 1) - (y * y - x * x)) = 2 * (1 - y * y) * (y * y) := by grobner
      have b5 : (1 - y * y) * (1 + 121665 * (1 - y * y)) * (1 - (x * x + y * y - 1) + (y * y - x * x)) = 2 * (1 - y * y) * ((121666 - 121665 * (y * y)) * (1 - x * x)) := by grobner
      rw [b3, ← b4] at b5
      clear on' b3 b4 b1 b2 hy hm on hc hs a1 a2 hl
      grobner
    · obtain ⟨z1, z2⟩ := hz
      have c1 : 16 * l * l * l * l ≠ 0 := mul_ne (mul_ne (mul_ne (mul_ne h16 hl) hl) hl) hl
      have c2 : 16 * l * l * l * l * (y * y) = 0 := by grobner
      rcases mul_zero' c2 with c2 | c2
      · exact c1 c2
      · have c3 : 16 * l * l * l * l * 121666 = 0 := by
          have : y = 0 := (mul_zero' c2).elim id id
          subst this
          grobner
        exact (mul_ne c1 h66) c3
  · have a1 : l * (1 + y) + -1 * l * (1 - y) = 2 * l * y := by grobner
    have a2 : l * (1 + y) - -1 * l * (1 - y) = 2 * l := by grobner
    rw [a1, a2]
    refine rep_of hs (cancel hm ?_) (fun hz => ?_)
    · have b1 : (1 - d * x * x * y * y) * (2 * l * y * (2 * l * y) * (2 * l * (2 * l)) * (1 - y')) = 16 * l * l * l * l * (y * y) * ((1 - d * x * x * y * y) - (1 - d * x * x * y * y) * y') := by grobner
      have b2 : (1 - d * x * x * y * y) * (-1 * ((2 * l * y * (2 * l * y) - 2 * l * (2 * l)) * (2 * l * y * (2 * l * y) + 121665 * (2 * l * y * (2 * l * y) - 2 * l * (2 * l)))) * (1 + y')) =
        16 * l * l * l * l * ((1 - y * y) * (y * y - 121665 * (1 - y * y))) * ((1 - d * x * x * y * y) + (1 - d * x * x * y * y) * y') := by grobner
      rw [b1, b2, hy]
      have on' : d * x * x * y * y = x * x + y * y - 1 := by grobner
      rw [on']
      have b3 : (121665 - 121666 * (y * y)) * (1 - x * x) = -(y * y) := by grobner
      have b4 : y * y * (1 - (x * x + y * y - 1) - (y * y - x * x)) = 2 * (1 - y * y) * (y * y) := by grobner
      have b5 : (1 - y * y) * (y * y - 121665 * (1 - y * y)) * (1 - (x * x + y * y - 1) + (y * y - x * x)) = -(2 * (1 - y * y) * ((121665 - 121666 * (y * y)) * (1 - x * x))) := by grobner
      rw [b3] at b5
      clear on' b3 b1 b2 hy hm on hc hs a1 a2 hl
      grobner
    · obtain ⟨z1, z2⟩ := hz
      have c1 : 16 * l * l * l * l ≠ 0 := mul_ne (mul_ne (mul_ne (mul_ne h16 hl) hl) hl) hl
      have c2 : 16 * l * l * l * l * (y * y) = 0 := by grobner
      rcases mul_zero' c2 with c2 | c2
      · exact c1 c2
      · have c3 : 16 * l * l * l * l * 121665 = 0 := by
          have : y = 0 := (mul_zero' c2).elim id id
          subst this
          grobner
        exact (mul_ne c1 h65) c3
theorem sum_id {d x1 y1 x2 y2 : Zp} (h1 : d*x1*x1*y1*y1-x1*x1-y1*y1+1 = 0) (h2 : d*x2*x2*y2*y2-x2*x2-y2*y2+1 = 0) :
    (y1+y2)*(y1+y2)*((1-d*x1*x2*y1*y2)-(y1*y2-x1*x2))*((1+d*x1*x2*y1*y2)-(y1*y2+x1*x2)) = (y2-y1)*(y2-y1)*((1-d*x1*x2*y1*y2)+(y1*y2-x1*x2))*((1+d*x1*x2*y1*y2)+(y1*y2+x1*x2)) := by
  have h : (y1+y2)*(y1+y2)*((1-d*x1*x2*y1*y2)-(y1*y2-x1*x2))*((1+d*x1*x2*y1*y2)-(y1*y2+x1*x2)) - (y2-y1)*(y2-y1)*((1-d*x1*x2*y1*y2)+(y1*y2-x1*x2))*((1+d*x1*x2*y1*y2)+(y1*y2+x1*x2)) = (-4*d*y1*x2*x2*y2*y2*y2 +4*y1*x2*x2*y2) * (d*x1*x1*y1*y1-x1*x1-y1*y1+1) + (-4*y1*y1*y1*y2 +4*y1*y2) * (d*x2*x2*y2*y2-x2*x2-y2*y2+1) + 0 * 0 := by grobner
  rw [h1, h2] at h
  exact sub_zero_eq (by rw [h]; exact mul_zero3 _ _ _)
theorem rep_sum {e d : Zp} (hd : NS d) (hc : Cur e d) (P Q : Pt d) {X1 Z1 X2 Z2 u r : Zp} (h1 : Rep e X1 Z1 P.y) (h2 : Rep e X2 Z2 Q.y) (hu : u ≠ 0) (hr : u * (1 - r) = e * (1 + r)) (hr1 : 1 - r ≠ 0)
    (hd1 : (1 + d*P.x*Q.x*P.y*Q.y) * r = P.y*Q.y+P.x*Q.x) :
    Rep e (((X2 - Z2) * (X1 + Z1) + (X2 + Z2) * (X1 - Z1)) * ((X2 - Z2) * (X1 + Z1) + (X2 + Z2) * (X1 - Z1))) (u * (((X2 - Z2) * (X1 + Z1) - (X2 + Z2) * (X1 - Z1)) * ((X2 - Z2) * (X1 + Z1) - (X2 + Z2) * (X1 - Z1)))) (add hd P Q).y := by
  have hs := cur_sq hc
  have hy := add_y hd P Q
  have hm := den_m hd P Q
  have hp := den_p hd P Q
  have h16 : (16 : Zp) ≠ 0 := by decide +kernel
  generalize (add hd P Q).y = w at *
  obtain ⟨x1, y1, o1⟩ := P
  obtain ⟨x2, y2, o2⟩ := Q
  have hid := sum_id o1 o2
  obtain ⟨l, hl, rfl, rfl⟩ := h1
  obtain ⟨m, hm', rfl, rfl⟩ := h2
  simp only at *
  have k1 : 16 * l * l * m * m ≠ 0 := mul_ne (mul_ne (mul_ne (mul_ne h16 hl) hl) hm') hm'
  have q1 : ((m * (1 + y2) - e * m * (1 - y2)) * (l * (1 + y1) + e * l * (1 - y1)) + (m * (1 + y2) + e * m * (1 - y2)) * (l * (1 + y1) - e * l * (1 - y1))) * ((m * (1 + y2) - e * m * (1 - y2)) * (l * (1 + y1) + e * l * (1 - y1)) + (m * (1 + y2) + e * m * (1 - y2)) * (l * (1 + y1) - e * l * (1 - y1))) = 16 * l * l * m * m * ((y1 + y2) * (y1 + y2)) := by
    rcases hc with ⟨rfl, _⟩ | ⟨rfl, _⟩
    · clear hs hy hm hp hid hd1 hr o1 o2 k1
      grobner
    · clear hs hy hm hp hid hd1 hr o1 o2 k1
      grobner
  have q2 : ((m * (1 + y2) - e * m * (1 - y2)) * (l * (1 + y1) + e * l * (1 - y1)) - (m * (1 + y2) + e * m * (1 - y2)) * (l * (1 + y1) - e * l * (1 - y1))) * ((m * (1 + y2) - e * m * (1 - y2)) * (l * (1 + y1) + e * l * (1 - y1)) - (m * (1 + y2) + e * m * (1 - y2)) * (l * (1 + y1) - e * l * (1 - y1))) = 16 * l * l * m * m * ((y2 - y1) * (y2 - y1)) := by
    rcases hc with ⟨rfl, _⟩ | ⟨rfl, _⟩
    · clear hs hy hm hp hid hd1 hr o1 o2 k1 q1
      grobner
    · clear hs hy hm hp hid hd1 hr o1 o2 k1 q1
      grobner
  rw [q1, q2]
  clear q1 q2
  generalize 16 * l * l * m * m = K at *
  clear hl hm' h16
  refine rep_of hs (cancel (mul_ne (mul_ne hm hp) hr1) ?_) (fun hz => ?_)
  · have b1 : (1 - d*x1*x2*y1*y2) * (1 + d*x1*x2*y1*y2) * (1 - r) * (K * ((y1 + y2) * (y1 + y2)) * (1 - w)) = K * ((y1 + y2) * (y1 + y2) * ((1 - d*x1*x2*y1*y2) - (1 - d*x1*x2*y1*y2) * w) * ((1 + d*x1*x2*y1*y2) - (1 + d*x1*x2*y1*y2) * r)) := by
      clear hs hy hm hp hid hd1 hr o1 o2 k1
      grobner
    have b2 : (1 - d*x1*x2*y1*y2) * (1 + d*x1*x2*y1*y2) * (1 - r) * (e * (u * (K * ((y2 - y1) * (y2 - y1)))) * (1 + w)) = e * (u * (1 - r)) * (K * ((y2 - y1) * (y2 - y1) * ((1 - d*x1*x2*y1*y2) + (1 - d*x1*x2*y1*y2) * w) * (1 + d*x1*x2*y1*y2))) := by
      clear hs hy hm hp hid hd1 hr o1 o2 k1 b1
      grobner
    have b3 : e * (e * (1 + r)) * (K * ((y2 - y1) * (y2 - y1) * ((1 - d*x1*x2*y1*y2) + (1 - d*x1*x2*y1*y2) * w) * (1 + d*x1*x2*y1*y2))) = (e * e) * (K * ((y2 - y1) * (y2 - y1) * ((1 - d*x1*x2*y1*y2) + (1 - d*x1*x2*y1*y2) * w) * ((1 + d*x1*x2*y1*y2) + (1 + d*x1*x2*y1*y2) * r))) := by
      clear hs hy hm hp hid hd1 hr o1 o2 k1 b1 b2
      grobner
    rw [b1, b2, hr, b3, hs, hd1, hy, hid]
    clear hs hy hm hp hid hd1 hr o1 o2 k1 b1 b2 b3
    grobner
  · obtain ⟨z1, z2⟩ := hz
    have c1 : (y1 + y2) * (y1 + y2) = 0 := (mul_zero' z1).resolve_left k1
    have c2 : y1 + y2 = 0 := (mul_zero' c1).elim id id
    have c3 : (y2 - y1) * (y2 - y1) = 0 := (mul_zero' ((mul_zero' z2).resolve_left hu)).resolve_left k1
    have c4 : y2 - y1 = 0 := (mul_zero' c3).elim id id
    have c5 : y1 = 0 := cancel two_ne (by grobner)
    have c6 : y2 = 0 := by grobner
    subst c5
    subst c6
    have c7 : r = x1 * x2 := by grobner
    have c8 : (1 - r) * (1 + r) = 0 := by
      rw [c7]
      grobner
    have c9 := (mul_zero' c8).resolve_left hr1
    rw [c9] at hr
    exact (mul_ne hu hr1) (by rw [hr]; grobner)
/-- One rung. -/
def zS (u : Zp) (s : Zp × Zp × Zp × Zp) : Zp × Zp × Zp × Zp :=
  ((((s.1 + s.2.1) * (s.1 + s.2.1)) * ((s.1 - s.2.1) * (s.1 - s.2.1))),
   (((s.1 + s.2.1) * (s.1 + s.2.1) - (s.1 - s.2.1) * (s.1 - s.2.1)) * ((s.1 + s.2.1) * (s.1 + s.2.1) + 121665 * ((s.1 + s.2.1) * (s.1 + s.2.1) - (s.1 - s.2.1) * (s.1 - s.2.1)))),
   (((s.2.2.1 - s.2.2.2) * (s.1 + s.2.1) + (s.2.2.1 + s.2.2.2) * (s.1 - s.2.1)) * ((s.2.2.1 - s.2.2.2) * (s.1 + s.2.1) + (s.2.2.1 + s.2.2.2) * (s.1 - s.2.1))),
   (u * (((s.2.2.1 - s.2.2.2) * (s.1 + s.2.1) - (s.2.2.1 + s.2.2.2) * (s.1 - s.2.1)) * ((s.2.2.1 - s.2.2.2) * (s.1 + s.2.1) - (s.2.2.1 + s.2.2.2) * (s.1 - s.2.1)))))
def zsw (s : Zp × Zp × Zp × Zp) : Zp × Zp × Zp × Zp := (s.2.2.1, s.2.2.2, s.1, s.2.1)
def zB (u : Zp) (s : Zp × Zp × Zp × Zp) (b : Bool) : Zp × Zp × Zp × Zp := if b then zsw (zS u (zsw s)) else zS u s
def zF (u : Zp) (l : List Bool) : Zp × Zp × Zp × Zp := l.foldl (zB u) (1, 0, u, 1)
/-- The bits' number. -/
def bitN (n : Nat) (b : Bool) : Nat := 2 * n + b.toNat
def bitsN (l : List Bool) : Nat := l.foldl bitN 0
def RepS {e d : Zp} (hd : NS d) (_ : Cur e d) (Q : Pt d) (n : Nat) (s : Zp × Zp × Zp × Zp) : Prop := Rep e s.1 s.2.1 (mulP hd Q n).y ∧ Rep e s.2.2.1 s.2.2.2 (mulP hd Q (n + 1)).y
theorem diff_y {d : Zp} (hd : NS d) (P Q : Pt d) : (1 + d*P.x*(add hd P Q).x*P.y*(add hd P Q).y) * Q.y = P.y*(add hd P Q).y+P.x*(add hd P Q).x := by
  have h : Q = add hd (neg P) (add hd P Q) := by rw [← add_assoc, add_comm hd (neg P), add_neg, zero_add]
  have h2 := add_y hd (neg P) (add hd P Q)
  rw [← h] at h2
  have e1 : (neg P).x = -P.x := rfl
  have e2 : (neg P).y = P.y := rfl
  rw [e1, e2] at h2
  generalize (add hd P Q).x = a at *
  generalize (add hd P Q).y = b at *
  clear h e1 e2
  grobner
theorem diff_y' {d : Zp} (hd : NS d) (P Q : Pt d) : (1 + d*(add hd P Q).x*P.x*(add hd P Q).y*P.y) * Q.y = (add hd P Q).y*P.y+(add hd P Q).x*P.x := by
  have h := diff_y hd P Q
  generalize (add hd P Q).x = a at *
  generalize (add hd P Q).y = b at *
  grobner
theorem repS_step {e d : Zp} (hd : NS d) (hc : Cur e d) (Q : Pt d) {u : Zp} (hu : u ≠ 0) (hr : u * (1 - Q.y) = e * (1 + Q.y)) (hr1 : 1 - Q.y ≠ 0) {n : Nat} {s : Zp × Zp × Zp × Zp} (h : RepS hd hc Q n s) (b : Bool) : RepS hd hc Q (bitN n b) (zB u s b) := by
  obtain ⟨g1, g2⟩ := h
  have e1 : mulP hd Q (n + 1) = add hd (mulP hd Q n) Q := rfl
  have e2 : add hd (mulP hd Q n) (mulP hd Q (n + 1)) = mulP hd Q (2 * n + 1) := by rw [← mulP_add]; congr 1; omega
  have e2' : add hd (mulP hd Q (n + 1)) (mulP hd Q n) = mulP hd Q (2 * n + 1) := by rw [← mulP_add]; congr 1; omega
  cases b with
  | false =>
    refine ⟨?_, ?_⟩
    · have h := rep_double hd hc _ g1
      rw [← mulP_add] at h
      rw [show bitN n false = n + n from by simp only [bitN, Bool.toNat_false]; omega]
      exact h
    · have h := rep_sum hd hc _ _ g1 g2 hu hr hr1 (by rw [e1]; exact diff_y hd _ _)
      rw [e2] at h
      rw [show bitN n false + 1 = 2 * n + 1 from by simp only [bitN, Bool.toNat_false]]
      exact h
  | true =>
    refine ⟨?_, ?_⟩
    · have h := rep_sum hd hc _ _ g2 g1 hu hr hr1 (by rw [e1]; exact diff_y' hd _ _)
      rw [e2'] at h
      rw [show bitN n true = 2 * n + 1 from by simp only [bitN, Bool.toNat_true]]
      exact h
    · have h := rep_double hd hc _ g2
      rw [← mulP_add] at h
      rw [show bitN n true + 1 = n + 1 + (n + 1) from by simp only [bitN, Bool.toNat_true]; omega]
      exact h
theorem repS_all {e d : Zp} (hd : NS d) (hc : Cur e d) (Q : Pt d) {u : Zp} (hu : u ≠ 0) (hr : u * (1 - Q.y) = e * (1 + Q.y)) (hr1 : 1 - Q.y ≠ 0) : ∀ (l : List Bool) (n : Nat) (s : Zp × Zp × Zp × Zp), RepS hd hc Q n s → RepS hd hc Q (l.foldl bitN n) (l.foldl (zB u) s)
  | [], _, _, h => h
  | b :: l, _, _, h => repS_all hd hc Q hu hr hr1 l _ _ (repS_step hd hc Q hu hr hr1 h b)
theorem zF_rep {e d : Zp} (hd : NS d) (hc : Cur e d) (Q : Pt d) {u : Zp} (hu : u ≠ 0) (hr : u * (1 - Q.y) = e * (1 + Q.y)) (hr1 : 1 - Q.y ≠ 0) (l : List Bool) : Rep e (zF u l).1 (zF u l).2.1 (mulP hd Q (bitsN l)).y := by
  refine (repS_all hd hc Q hu hr hr1 l 0 (1, 0, u, 1) ⟨?_, ?_⟩).1
  · have h2 := zi_mul two_ne
    refine ⟨zi 2, fun hz => ?_, ?_, ?_⟩
    · rw [hz] at h2
      exact absurd h2 (by decide +kernel)
    · show (1 : Zp) = zi 2 * (1 + 1)
      grobner
    · show (0 : Zp) = e * zi 2 * (1 - 1)
      grobner
  · rw [mulP_one]
    refine rep_of (cur_sq hc) ?_ (fun h => one_ne h.2)
    show u * (1 - Q.y) = e * 1 * (1 + Q.y)
    grobner
end Ed
end Go.Proofs.Ytenppmciabdefaa
namespace Go.Proofs.Ytenppmciabdefaa
namespace Ed
/-- A point's u, 0 for the point that changes nothing. -/
def Uv (e y v : Zp) : Prop := (1 - y ≠ 0 ∧ v * (1 - y) = e * (1 + y)) ∨ (1 - y = 0 ∧ v = 0)
theorem Uv.same {e y v w : Zp} (h : Uv e y v) (k : Uv e y w) : v = w := by
  rcases h with ⟨h1, h2⟩ | ⟨h1, h2⟩ <;> rcases k with ⟨k1, k2⟩ | ⟨k1, k2⟩
  · exact cancel h1 (by grobner)
  · exact absurd k1 h1
  · exact absurd h1 k1
  · rw [h2, k2]
/-- What the ladder answers. -/
def zM (u : Zp) (l : List Bool) : Zp := if (zF u l).2.1 = 0 then 0 else (zF u l).1 * zi (zF u l).2.1
theorem rep_val {e X Z y : Zp} (he : e * e = 1) (h : Rep e X Z y) : Uv e y (if Z = 0 then 0 else X * zi Z) := by
  obtain ⟨l, hl, rfl, rfl⟩ := h
  have he0 : e ≠ 0 := fun h => by rw [h] at he; exact absurd he (by decide +kernel)
  by_cases hy : 1 - y = 0
  · refine .inr ⟨hy, ?_⟩
    rw [if_pos (by rw [hy]; grobner)]
  · have hz : e * l * (1 - y) ≠ 0 := mul_ne (mul_ne he0 hl) hy
    refine .inl ⟨hy, ?_⟩
    rw [if_neg hz]
    have h1 := zi_mul hz
    generalize zi (e * l * (1 - y)) = i at *
    exact cancel (mul_ne he0 hl) (by grobner)
theorem zM_point {e d : Zp} (hd : NS d) (hc : Cur e d) (Q : Pt d) {u : Zp} (hu : u ≠ 0) (hr : u * (1 - Q.y) = e * (1 + Q.y)) (hr1 : 1 - Q.y ≠ 0) (l : List Bool) : Uv e (mulP hd Q (bitsN l)).y (zM u l) :=
  rep_val (cur_sq hc) (zF_rep hd hc Q hu hr hr1 l)
theorem zF_zero : ∀ (l : List Bool) (s : Zp × Zp × Zp × Zp), s.2.1 = 0 → s.2.2.1 * s.2.2.2 = 0 → (l.foldl (zB 0) s).2.1 = 0
  | [], _, h, _ => h
  | b :: l, s, h, k => by
    obtain ⟨x, z, a, c⟩ := s
    simp only at h k
    cases b with
    | false =>
      refine zF_zero l _ ?_ ?_
      · show (((x + z) * (x + z) - (x - z) * (x - z)) * ((x + z) * (x + z) + 121665 * ((x + z) * (x + z) - (x - z) * (x - z)))) = 0
        subst h
        grobner
      · show _ * (0 * (((a - c) * (x + z) - (a + c) * (x - z)) * ((a - c) * (x + z) - (a + c) * (x - z)))) = (0 : Zp)
        grobner
    | true =>
      refine zF_zero l _ ?_ ?_
      · show 0 * (((x - z) * (a + c) - (x + z) * (a - c)) * ((x - z) * (a + c) - (x + z) * (a - c))) = (0 : Zp)
        grobner
      · show _ * (((a + c) * (a + c) - (a - c) * (a - c)) * ((a + c) * (a + c) + 121665 * ((a + c) * (a + c) - (a - c) * (a - c)))) = (0 : Zp)
        have e1 : (a + c) * (a + c) - (a - c) * (a - c) = 4 * (a * c) := by grobner
        rw [e1, k]
        grobner
theorem zM_zero (l : List Bool) : zM 0 l = 0 := by
  have h : (zF 0 l).2.1 = 0 := zF_zero l _ rfl (by show (0 : Zp) * 1 = 0; grobner)
  unfold zM
  rw [if_pos h]
/-! Points of order 2. -/
theorem x_of_y {d : Zp} (hd : NS d) (P : Pt d) (h : P.y * P.y = 1) : P.x = 0 := by
  have o := P.on
  have h1 : (d - 1) * (P.x * P.x) = 0 := by grobner
  rcases mul_zero' h1 with h2 | h2
  · exact absurd (hd 1 1 (by grobner)) one_ne
  · exact (mul_zero' h2).elim id id
theorem y_of_x {d : Zp} (P : Pt d) (h : P.x = 0) : P.y * P.y = 1 := by
  have o := P.on
  rw [h] at o
  grobner
theorem add_x0 {d : Zp} (hd : NS d) (P Q : Pt d) (h : P.x = 0) (k : Q.x = 0) : (add hd P Q).x = 0 := by
  have h1 := add_x hd P Q
  refine cancel (den_p hd P Q) ?_
  rw [h1, h, k]
  grobner
theorem mul_x0 {d : Zp} (hd : NS d) (P : Pt d) (h : P.x = 0) (n : Nat) : (mulP hd P n).x = 0 := by
  induction n with
  | zero => rfl
  | succ n ih => exact add_x0 hd _ _ ih h
theorem twice_x0 {d : Zp} (hd : NS d) (P : Pt d) (h : P.x = 0) : mulP hd P 2 = zero d := by
  rw [show mulP hd P 2 = add hd P P from congrArg (fun z => add hd z P) (mulP_one hd P)]
  have h1 := add_y hd P P
  have h2 := y_of_x P h
  refine pt_ext (add_x0 hd P P h h) ?_
  show _ = (1 : Zp)
  rw [h] at h1
  grobner
theorem Uv.x0 {e d y : Zp} (hd : NS d) (hc : Cur e d) (P : Pt d) (hy : P.y = y) (h : Uv e y 0) : P.x = 0 := by
  have he := cur_sq hc
  subst hy
  rcases h with ⟨_, h2⟩ | ⟨h1, _⟩
  · exact x_of_y hd P (by grobner)
  · exact x_of_y hd P (by grobner)
theorem Uv.of_x0 {e d : Zp} (P : Pt d) (h : P.x = 0) : Uv e P.y 0 := by
  have h1 := y_of_x P h
  by_cases hy : 1 - P.y = 0
  · exact .inr ⟨hy, rfl⟩
  · have h2 : (1 - P.y) * (1 + P.y) = 0 := by grobner
    have h3 := (mul_zero' h2).resolve_left hy
    exact .inl ⟨hy, by rw [h3]; grobner⟩
theorem uv_step {e d : Zp} (hd : NS d) (hc : Cur e d) (P : Pt d) {v : Zp} (h : Uv e P.y v) (l : List Bool) : Uv e (mulP hd P (bitsN l)).y (zM v l) := by
  by_cases hv : v = 0
  · subst hv
    rw [zM_zero]
    exact Uv.of_x0 _ (mul_x0 hd P (Uv.x0 hd hc P rfl h) _)
  · rcases h with ⟨h1, h2⟩ | ⟨_, h2⟩
    · exact zM_point hd hc P hv h2 h1 l
    · exact absurd h2 hv
/-- So many times so many is the same both ways. -/
theorem zM_comm (u : Zp) (l m : List Bool) : zM (zM u l) m = zM (zM u m) l := by
  by_cases hu : u = 0
  · subst hu
    simp only [zM_zero]
  · obtain ⟨e, d, hd, Q, hc, h1, h2⟩ := point_ex hu
    have g1 := uv_step hd hc _ (zM_point hd hc Q hu h1 h2 l) m
    have g2 := uv_step hd hc _ (zM_point hd hc Q hu h1 h2 m) l
    rw [mulP_swap] at g1
    exact g1.same g2
/-! The base point's order. -/
theorem q1 : Nt.Pr 1224481 := Nt.trial_prime 1106 (by decide) (by decide) (by decide +kernel)
theorem q2 : Nt.Pr 531581 := Nt.trial_prime 729 (by decide) (by decide) (by decide +kernel)
theorem q3 : Nt.Pr 2 := Nt.trial_prime 1 (by decide) (by decide) (by decide +kernel)
theorem q4 : Nt.Pr 1257559732178653 := Nt.pock_of 2 51 q1 q2 (by decide +kernel)
theorem q5 : Nt.Pr 4434155615661930479 := Nt.pock_of 17 62 q4 q3 (by decide +kernel)
theorem q6 : Nt.Pr 172054593956031949258510691 := Nt.pock_of 2 88 q5 q3 (by decide +kernel)
theorem q7 : Nt.Pr 19757330305831588566944191468367130476339 := Nt.pock_of 2 134 q6 q3 (by decide +kernel)
theorem q8 : Nt.Pr 276602624281642239937218680557139826668747 := Nt.pock_of 2 138 q7 q3 (by decide +kernel)
theorem qL : Nt.Pr 7237005577332262213973186563042994240857116359379907606001950938285454250989 := Nt.pock_of 2 253 q8 q3 (by decide +kernel)
theorem bitsN_snoc (l : List Bool) (b : Bool) : bitsN (l ++ [b]) = 2 * bitsN l + b.toNat := by simp [bitsN, bitN]
/-- A number's bits. -/
def bitsOf : Nat → Nat → List Bool
  | 0, _ => []
  | k + 1, n => bitsOf k (n / 2) ++ [Nat.beq (n % 2) 1]
theorem bitsOf_N : ∀ (k n : Nat), n < 2 ^ k → bitsN (bitsOf k n) = n
  | 0, n, h => by
    have : n = 0 := by simpa using h
    subst this
    rfl
  | k + 1, n, h => by
    rw [bitsOf, bitsN_snoc, bitsOf_N k (n / 2) (by rw [Nat.pow_succ] at h; omega)]
    have h2 : n % 2 = 0 ∨ n % 2 = 1 := by omega
    rcases h2 with h2 | h2
    · rw [h2, show (Nat.beq 0 1).toNat = 0 from rfl]
      omega
    · rw [h2, show (Nat.beq 1 1).toNat = 1 from rfl]
      omega
/-- The order's bits. -/
def ordL : List Bool := bitsOf 253 7237005577332262213973186563042994240857116359379907606001950938285454250989
theorem ordL_N : bitsN ordL = 7237005577332262213973186563042994240857116359379907606001950938285454250989 := bitsOf_N _ _ (by decide +kernel)
theorem mulP_gcd {d : Zp} (hd : NS d) (P : Pt d) : ∀ (m n : Nat), mulP hd P m = zero d → mulP hd P n = zero d → mulP hd P (Nat.gcd m n) = zero d := by
  intro m n
  induction m, n using Nat.gcd.induction with
  | H0 n => intro _ h; rw [Nat.gcd_zero_left]; exact h
  | H1 m n hm ih =>
    intro h1 h2
    rw [Nat.gcd_rec]
    refine ih ?_ h1
    have e : mulP hd P n = add hd (mulP hd P (m * (n / m))) (mulP hd P (n % m)) := by rw [← mulP_add, Nat.div_add_mod]
    rw [h2, mulP_mul, h1, mulP_zero, zero_add] at e
    exact e.symm
theorem y_one {e k y : Zp} (he : e ≠ 0) (hk : k ≠ 0) (h : 0 = e * k * (1 - y)) : y = 1 := by
  have g3 : 1 - y = 0 := cancel (mul_ne he hk) (by grobner)
  grobner
theorem y_sq {y : Zp} (h : y = 1) : y * y = 1 := by grobner
/-- Of the base point's u, so many times so many is not 0, where neither number holds the order. -/
theorem zM_nine {l m : List Bool} {p : Nat} (hp : p = 7237005577332262213973186563042994240857116359379907606001950938285454250989) (ord_zero : (zF 9 ordL).2.1 = 0) (hl : ¬ p ∣ bitsN l) (hm : ¬ p ∣ bitsN m) : zM (zM 9 l) m ≠ 0 := by
  intro h0
  have h9 : (9 : Zp) ≠ 0 := by decide +kernel
  obtain ⟨e, d, hd, Q, hc, h1, h2⟩ := point_ex h9
  have g := uv_step hd hc _ (zM_point hd hc Q h9 h1 h2 l) m
  rw [h0] at g
  have g1 := Uv.x0 hd hc _ rfl g
  have g2 := twice_x0 hd _ g1
  rw [← mulP_mul, ← mulP_mul] at g2
  obtain ⟨k, hk, _, hk2⟩ := zF_rep hd hc Q h9 h1 h2 ordL
  rw [ord_zero] at hk2
  have he0 : e ≠ 0 := fun h => by have := cur_sq hc; rw [h] at this; exact absurd this (by decide +kernel)
  have g4 : (mulP hd Q (bitsN ordL)).y = 1 := y_one he0 hk hk2
  have g5 : mulP hd Q (bitsN ordL) = zero d := pt_ext (x_of_y hd _ (y_sq g4)) g4
  rw [ordL_N, ← hp] at g5
  have hpr : Nt.Pr p := hp ▸ qL
  have g6 := mulP_gcd hd Q _ _ g5 g2
  have g7 : Nat.gcd p (bitsN l * (bitsN m * 2)) = 1 := by
    rcases hpr.2 _ (Nat.gcd_dvd_left p (bitsN l * (bitsN m * 2))) with h | h
    · exact h
    · exfalso
      have h3 : p ∣ bitsN l * (bitsN m * 2) := by
        have := Nat.gcd_dvd_right p (bitsN l * (bitsN m * 2))
        rw [h] at this
        exact this
      rcases hpr.euclid h3 with h4 | h4
      · exact hl h4
      · rcases hpr.euclid h4 with h5 | h5
        · exact hm h5
        · have := Nat.le_of_dvd (by omega) h5
          omega
  rw [g7, mulP_one] at g6
  rw [g6] at h2
  exact h2 (show (1 : Zp) - 1 = 0 by grobner)
/-! A key's number. -/
theorem bitsN_lt (l : List Bool) (n : Nat) (h : n < 2 ^ 0) : l.foldl bitN n < 2 ^ l.length := by
  have key : ∀ (l : List Bool) (n k : Nat), n < 2 ^ k → l.foldl bitN n < 2 ^ (k + l.length) := by
    intro l
    induction l with
    | nil => intro n k h; exact h
    | cons b l ih =>
      intro n k h
      have := ih (bitN n b) (k + 1) (by
        have : b.toNat ≤ 1 := by cases b <;> decide
        rw [Nat.pow_succ]
        unfold bitN
        omega)
      rw [List.length_cons, show k + (l.length + 1) = k + 1 + l.length by omega]
      exact this
  have := key l n 0 h
  simpa using this
theorem bitsN_pos (l : List Bool) (n : Nat) (h : 0 < n) : 0 < l.foldl bitN n := by
  induction l generalizing n with
  | nil => exact h
  | cons b l ih => exact ih _ (by unfold bitN; omega)
/-- A number of 255 bits that is no 0, and whose last three bits are, does not hold the order. -/
theorem no_order {p : Nat} (hp : p = 7237005577332262213973186563042994240857116359379907606001950938285454250989) (l : List Bool) (h : l.length = 251) : ¬ p ∣ bitsN (true :: l ++ [false, false, false]) := by
  intro hd
  have e : bitsN (true :: l ++ [false, false, false]) = 8 * bitsN (true :: l) := by
    have e1 : true :: l ++ [false, false, false] = ((true :: l ++ [false]) ++ [false]) ++ [false] := by simp
    rw [e1, bitsN_snoc, bitsN_snoc, bitsN_snoc]
    simp only [Bool.toNat_false]
    omega
  rw [e] at hd
  have hpr : Nt.Pr p := hp ▸ qL
  have h1 : bitsN (true :: l) < 2 ^ 252 := by
    have := bitsN_lt (true :: l) 0 (by decide)
    rw [List.length_cons, h] at this
    exact this
  have h2 : 0 < bitsN (true :: l) := bitsN_pos l 1 (by decide)
  rcases hpr.euclid hd with h3 | h3
  · have := Nat.le_of_dvd (by omega) h3
    omega
  · have := Nat.le_of_dvd h2 h3
    have h4 : (2 : Nat) ^ 252 < 7237005577332262213973186563042994240857116359379907606001950938285454250989 := by decide +kernel
    omega
end Ed
end Go.Proofs.Ytenppmciabdefaa
