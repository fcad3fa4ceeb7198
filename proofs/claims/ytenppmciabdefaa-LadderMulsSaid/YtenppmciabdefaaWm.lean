/- The walk of synodref03.Mul, at two times 32 bytes. No condition. -/
import Derived.Test.YtenppmciabdefaaWl
import Derived.Test.YtenppmciabdefaaPg
import Derived.Test.YtenppmciabdefaaWh
namespace Go.Proofs.Ytenppmciabdefaa
open Go.RowKit
theorem leB_in (N : Int) : ∀ x ∈ leB N, 0 ≤ x ∧ x < 256 := by
  intro x hx
  simp only [leB, List.mem_cons, List.not_mem_nil, or_false] at hx
  rcases hx with h | h | h | h | h | h | h | h | h | h | h | h | h | h | h | h | h | h | h | h | h | h | h | h | h | h | h | h | h | h | h | h <;> (subst h; omega)
/-- Canonical bytes of a Number. -/
theorem bytes_canon (L : List Int) (V : Int) (w : World) (h : NumP L V) :
    Calls Try.prog 50 #[numV L] w fun e w' => ∃ g cap, e = .returned (.slice (some ⟨g, 0, none⟩) 32 cap) ∧ 32 ≤ cap ∧ w.heap.size ≤ g ∧ RdB w' g 0 (leB (V % PP)) ∧ Below w.heap.size w w' := by
  refine (bytes_any L w h.1 h.2.1).mono ?_
  rintro e w' ⟨g, cap, N, rfl, hc, hg, ⟨hf, ⟨j, hj⟩, _, _, hlt⟩, hcell, hb⟩
  refine ⟨g, cap, rfl, hc, hg, ?_, hb⟩
  have h0 := (valL_in N hf.2).1
  have hN : valL N = valL L % PP := emod_of ⟨h0, hlt rfl⟩ hj
  have e : leB (V % PP) = bytesL N := by rw [bytesL_leB N hf, hN, mod_of h.2.2]
  rw [e]
  refine ⟨fun i hi => ?_, fun x hx => by rw [← e] at hx; exact leB_in _ x hx⟩
  have hl : (bytesL N).length = 32 := by rw [← e]; rfl
  rw [hcell i (by omega)]
  simp [hi]
theorem limb2_fit : ∀ (l : List Int), (∀ x ∈ l, 0 ≤ x ∧ x < 256) → ∀ y ∈ limb2 l, 0 ≤ y ∧ y < 65536
  | [], _, y, hy => by simp [limb2] at hy
  | [_], _, y, hy => by simp [limb2] at hy
  | a :: b :: l, h, y, hy => by
    simp only [limb2, List.mem_cons] at hy
    rcases hy with rfl | hy
    · have h1 := h a (by simp); have h2 := h b (by simp); omega
    · exact limb2_fit l (fun x hx => h x (by simp [hx])) y hy
theorem limb2_num (l : List Int) (hl : l.length = 32) (hb : ∀ x ∈ l, 0 ≤ x ∧ x < 256) : NumP (limb2 l) (valB l) := by
  have hf := limb2_fit l hb
  obtain ⟨b0, b1, b2, b3, b4, b5, b6, b7, b8, b9, b10, b11, b12, b13, b14, b15, b16, b17, b18, b19, b20, b21, b22, b23, b24, b25, b26, b27, b28, b29, b30, b31, rfl⟩ := list32 hl
  refine ⟨rfl, fun x hx => by have := hf x hx; omega, 0, ?_⟩
  simp only [limb2, valL, valB]
  omega
theorem length_yes (pa pb : Option Addr) (ca cb : Nat) (w : World) :
    Calls Try.prog 66 #[.slice pa 32 ca, .slice pb 32 cb] w fun e w' => e = .returned (.bool true) ∧ w = w' := by
  go_enter Try.func66, Try.ntmps66
  go_wp2
  go_ret
  exact ⟨rfl, rfl⟩
set_option maxHeartbeats 1000000 in
theorem rmul_yes (Ba oa ca Bb ob cb : Nat) (la lb : List Int) (w : World) (hla : la.length = 32) (hlb : lb.length = 32) (ha : RdB w Ba oa la) (hb : RdB w Bb ob lb) :
    Calls Try.prog 19 #[.slice (some ⟨Ba, oa, none⟩) 32 ca, .slice (some ⟨Bb, ob, none⟩) 32 cb] w fun e w' =>
      ∃ g cap, e = .returned (.tuple #[.slice (some ⟨g, 0, none⟩) 32 cap, .int .i64 0]) ∧ 32 ≤ cap ∧ w.heap.size ≤ g ∧ RdB w' g 0 (leB ((valB la * valB lb) % PP)) ∧ Below w.heap.size w w' := by
  have na := limb2_num la hla ha.2
  have nb := limb2_num lb hlb hb.2
  go_enter Try.func19, Try.ntmps19
  go_wp2_with fail
  refine (length_yes _ _ _ _ _).mono ?_
  rintro e w1 ⟨rfl, rfl⟩
  go_wp2_with fail
  refine (from_any _ _ _ la _ hla ha).mono ?_
  rintro e w1 ⟨rfl, hb1⟩
  go_wp2_with fail
  refine (from_any _ _ _ lb _ hlb (hb.below hb1)).mono ?_
  rintro e w2 ⟨rfl, hb2⟩
  go_wp2_with fail
  refine (times_any _ _ _ na.1 nb.1 na.lim nb.lim).mono ?_
  rintro e w3 ⟨M, rfl, hM, hb3⟩
  go_wp2_with fail
  refine (bytes_canon M _ _ hM).mono ?_
  rintro e w4 ⟨g, cap, rfl, hc, hg, hR, hb4⟩
  go_wp2
  go_ret2
  have h12 := Below.join (Below.join hb1 hb2) hb3
  refine ⟨g, cap, rfl, hc, Nat.le_trans h12.size hg, ?_, Below.join h12 hb4⟩
  rw [← mod_of (dvd_mul na.2.2 nb.2.2 (show PP ∣ valL (limb2 la) * valL (limb2 lb) - valL (limb2 la) * valL (limb2 lb) from ⟨0, by omega⟩))]
  exact hR
theorem length_no (pa pb : Option Addr) (na ca nb cb : Nat) (w : World) (h : ¬ (na = 32 ∧ nb = 32)) :
    Calls Try.prog 66 #[.slice pa na ca, .slice pb nb cb] w fun e w' => e = .returned (.bool false) ∧ w = w' := by
  by_cases h1 : na = 32
  · subst h1
    have h2 : ((nb : Int) == 32) = false := by rw [beq_eq_false_iff_ne]; omega
    clear h
    go_enter Try.func66, Try.ntmps66
    go_wp2
    go_ret
    simp
  · have h2 : ((na : Int) == 32) = false := by rw [beq_eq_false_iff_ne]; omega
    clear h h1
    go_enter Try.func66, Try.ntmps66
    go_wp2
    go_ret
    exact ⟨rfl, rfl⟩
theorem rmul_no (pa pb : Option Addr) (na ca nb cb : Nat) (w : World) (h : ¬ (na = 32 ∧ nb = 32)) :
    Calls Try.prog 19 #[.slice pa na ca, .slice pb nb cb] w fun e w' => e = .returned (.tuple #[.slice none 0 0, .int .i64 1]) ∧ w = w' := by
  go_enter Try.func19, Try.ntmps19
  go_wp2_with fail
  refine (length_no pa pb na ca nb cb _ h).mono ?_
  rintro e w1 ⟨rfl, rfl⟩
  go_wp2
  go_ret2
  exact ⟨rfl, rfl⟩
end Go.Proofs.Ytenppmciabdefaa
