/- In a region that draws: what is known of worlds may grow; slices of bytes that are known. No condition. -/
import Derived.Test.YtenppmciabdefaaRe
import Derived.Test.YtenppmciabdefaaGc
import Derived.Test.YtenppmciabdefaaNb
import Derived.Test.YtenppmciabdefaaVproducts
namespace Go.Proofs.Ytenppmciabdefaa
open Go Go.RowKit
section
variable {P : Program} {ops : Array Oper} {Q : Exit → Act → World → Prop} {S S' : World → Prop}
theorem wpAnyS_to (h2 : ∀ w, S' w → S w) (h3 : ∀ w w', S' w → Ext w w' → S w' → S' w') : ∀ (fuel : Nat) (listed : Array Bool) (a : Act) (w0 : World), (∀ w, S w → Ext w0 w → S' w) → wpAnyS P ops Q S' fuel listed a w0 → wpAnyS P ops Q S fuel listed a w0
  | 0, _, _, _, h0, h => ⟨h.1, fun w hS hE => h.2 w (h0 w hS hE) hE⟩
  | fuel + 1, _, _, _, h0, h => ⟨fun hr w hS hE => h.1 hr w (h0 w hS hE) hE, fun j hj w hS hE =>
      wpOp_mono (fun _ w' h' => ⟨h2 _ h'.1, wpAnyS_to h2 h3 fuel _ _ w' (fun w'' hS'' hE'' => h3 w' w'' h'.1 hE'' hS'') h'.2⟩) (h.2 j hj w (h0 w hS hE) hE)⟩
/-- More is known from here on. -/
theorem rem_to {rem : List Nat} {a : Act} {w0 : World} (S' : World → Prop) (h0 : ∀ w, S w → Ext w0 w → S' w) (h2 : ∀ w, S' w → S w) (h3 : ∀ w w', S' w → Ext w w' → S w' → S' w')
    (h : Rem P ops Q S' rem a w0) : Rem P ops Q S rem a w0 := fun h1 hq => wpAnyS_to h2 h3 _ _ _ _ h0 (h h1 hq)
end
theorem Bs.ext {w w' : World} {p : Option Addr} {n : Nat} {l : List Int} (h : Bs w p n l) (hE : Ext w w') : Bs w' p n l := by
  refine ⟨h.1, h.2.1, fun hn => ?_⟩
  obtain ⟨B, off, e, hc⟩ := h.2.2 hn
  refine ⟨B, off, e, fun i hi => ?_⟩
  have h1 := hc i hi
  unfold World.cell? at h1 ⊢
  cases hB : w.heap[B]? with
  | none => simp [hB] at h1
  | some o =>
    rw [hE B o hB]
    rw [hB] at h1
    exact h1
/-- The slices of bl read as they say; what stood in w stands. -/
def SBy (w : World) (bl : List (Option Addr × List Int)) (w' : World) : Prop := (∀ t ∈ bl, Bs w' t.1 32 t.2) ∧ Below w.heap.size w w'
theorem SBy.at_ {w w' : World} {bl : List (Option Addr × List Int)} (h : SBy w bl w') {p : Option Addr} {l : List Int} (hm : (p, l) ∈ bl) : Bs w' p 32 l := h.1 _ hm
theorem SBy.keep {w w1 w2 : World} {bl : List (Option Addr × List Int)} (h : SBy w bl w1) (hb : Below w1.heap.size w1 w2) : SBy w bl w2 := ⟨fun t ht => (h.1 t ht).keep hb, Below.join h.2 hb⟩
theorem SBy.drew {w w1 : World} {bl : List (Option Addr × List Int)} (h : SBy w bl w1) : SBy w bl w1.drew := ⟨fun t ht => (h.1 t ht).drew, h.2.drew⟩
theorem SBy.drewN {w w1 : World} {bl : List (Option Addr × List Int)} (h : SBy w bl w1) (k : Nat) : SBy w bl (w1.drewN k) := ⟨fun t ht => (h.1 t ht).drewN k, bel_drewN h.2 k⟩
theorem SBy.add {w w1 : World} {bl : List (Option Addr × List Int)} (h : SBy w bl w1) {p : Option Addr} {l : List Int} (hb : Bs w1 p 32 l) : SBy w ((p, l) :: bl) w1 :=
  ⟨fun t ht => by
    rcases List.mem_cons.1 ht with rfl | ht
    · exact hb
    · exact h.1 t ht, h.2⟩
theorem SBy.tail {w w1 : World} {bl : List (Option Addr × List Int)} {t : Option Addr × List Int} (h : SBy w (t :: bl) w1) : SBy w bl w1 := ⟨fun u hu => h.1 u (by simp [hu]), h.2⟩
theorem SBy.sub {w w1 : World} {bl bm : List (Option Addr × List Int)} (h : SBy w bl w1) (hs : ∀ t ∈ bm, t ∈ bl) : SBy w bm w1 := ⟨fun t ht => h.1 t (hs t ht), h.2⟩
/-- One more slice is known in a region. -/
theorem rem_add {P : Program} {ops : Array Oper} {Q : Exit → Act → World → Prop} {w : World} {bl : List (Option Addr × List Int)} {rem : List Nat} {a : Act} {w0 : World} {p : Option Addr} {l : List Int} (hb : Bs w0 p 32 l)
    (h : Rem P ops Q (SBy w ((p, l) :: bl)) rem a w0) : Rem P ops Q (SBy w bl) rem a w0 :=
  rem_to _ (fun _ hS hE => hS.add (hb.ext hE)) (fun _ h => h.tail) (fun _ _ h hE hS => hS.add ((h.at_ (p := p) (l := l) (by simp)).ext hE)) h

/-! Numbers mod p. -/
theorem PP_abs : PP.natAbs = 57896044618658097711785492504343953926634992332820282019728792003956564819949 := rfl
theorem euclid_PP {a b : Int} (h : PP ∣ a * b) : PP ∣ a ∨ PP ∣ b := by
  rw [← Int.natAbs_dvd_natAbs, PP_abs] at *
  rw [← Int.natAbs_dvd_natAbs (b := b), PP_abs]
  rw [Int.natAbs_mul] at h
  exact Nt.pP.euclid h
theorem pw_cong (N M : Int) (h : PP ∣ N - M) (k : Nat) : PP ∣ pw N k - pw M k := by
  induction k with
  | zero => exact ⟨0, by simp [pw]⟩
  | succ k ih =>
    have e : ∀ X : Int, pw X (k + 1) = pw X k * X := fun X => by unfold pw; rw [Int.pow_succ]
    rw [e, e]
    obtain ⟨x, hx⟩ := h
    obtain ⟨y, hy⟩ := ih
    exact ⟨y * N + pw M k * x, by grind⟩
theorem pw_nat (a k : Nat) : pw (a : Int) k = ((a ^ k : Nat) : Int) := by
  unfold pw
  simp
/-- FERMAT, in whole numbers. -/
theorem fermat_int (p : Nat) (hpr : Nt.Pr p) (hc : ∀ (N M : Int), (p : Int) ∣ N - M → ∀ k, (p : Int) ∣ pw N k - pw M k) {N : Int} (h : ¬ (p : Int) ∣ N) : (p : Int) ∣ pw N (p - 1) - 1 := by
  have hp := hpr.1
  have h0 : 0 ≤ N % (p : Int) := Int.emod_nonneg _ (by omega)
  obtain ⟨a, ha⟩ := Int.eq_ofNat_of_zero_le h0
  have h1 : (p : Int) ∣ N - (a : Int) := by rw [← ha]; exact Int.dvd_self_sub_emod
  have h2 : ¬ p ∣ a := fun hd => h (by
    obtain ⟨k, hk⟩ := h1
    obtain ⟨m, hm⟩ := hd
    refine ⟨k + m, ?_⟩
    rw [hm] at hk
    rw [Int.mul_add, ← hk, ← Int.natCast_mul]
    omega)
  have h3 := Nt.fermat hpr h2
  have h4 := hc N a h1 (p - 1)
  rw [pw_nat] at h4
  have h5 : (p : Int) ∣ ((a ^ (p - 1) : Nat) : Int) - 1 := by
    generalize a ^ (p - 1) = X at *
    have h6 := Nat.mod_add_div X p
    rw [h3] at h6
    refine ⟨((X / p : Nat) : Int), ?_⟩
    rw [← Int.natCast_mul]
    omega
  obtain ⟨x, hx⟩ := h4
  obtain ⟨y, hy⟩ := h5
  exact ⟨x + y, by grind⟩
theorem p_ex : ∃ p : Nat, Nt.Pr p ∧ PP = (p : Int) ∧ p - 1 = 1 + 57896044618658097711785492504343953926634992332820282019728792003956564819947 := ⟨_, Nt.pP, rfl, by decide +kernel⟩
theorem inv_mul {N : Int} (h : ¬ PP ∣ N) : PP ∣ N * pinv N - 1 := by
  obtain ⟨p, hp, hPP, hp1⟩ := p_ex
  have h1 := fermat_int p hp (fun N M hd k => by rw [← hPP] at hd ⊢; exact pw_cong N M hd k) (N := N) (by rw [← hPP]; exact h)
  rw [hp1, ← pw_mul N 1 _ _ rfl, pw_one, ← hPP] at h1
  exact h1
theorem pinv_zero {N : Int} (h : PP ∣ N) : PP ∣ pinv N := by
  unfold pinv
  rw [← pw_mul N 1 57896044618658097711785492504343953926634992332820282019728792003956564819946 _ (by decide +kernel), pw_one]
  exact Int.dvd_trans h (Int.dvd_mul_right _ _)
end Go.Proofs.Ytenppmciabdefaa
