/- The walks of synodref03.Add, Sub, Canon, field.Canon. No condition. -/
import Derived.Test.YtenppmciabdefaaWr
import Derived.Test.YtenppmciabdefaaWq
namespace Go.Proofs.Ytenppmciabdefaa
open Go.RowKit
set_option maxHeartbeats 1000000 in
theorem radd_yes (Ba oa ca Bb ob cb : Nat) (la lb : List Int) (w : World) (hla : la.length = 32) (hlb : lb.length = 32) (ha : RdB w Ba oa la) (hb : RdB w Bb ob lb) :
    Calls Try.prog 26 #[.slice (some ⟨Ba, oa, none⟩) 32 ca, .slice (some ⟨Bb, ob, none⟩) 32 cb] w fun e w' =>
      ∃ g cap, e = .returned (.tuple #[.slice (some ⟨g, 0, none⟩) 32 cap, .int .i64 0]) ∧ 32 ≤ cap ∧ w.heap.size ≤ g ∧ RdB w' g 0 (leB ((valB la + valB lb) % PP)) ∧ Below w.heap.size w w' := by
  have na := limb2_num la hla ha.2
  have nb := limb2_num lb hlb hb.2
  go_enter Try.func26, Try.ntmps26
  go_wp2_with fail
  refine (length_yes _ _ _ _ _).mono ?_
  rintro e w1 ⟨rfl, rfl⟩
  go_wp2_with fail
  refine (from_any _ _ _ la _ hla ha).mono ?_
  rintro e w1 ⟨rfl, hb1⟩
  go_wp2_with fail
  refine (from_any _ _ _ lb _ hlb (hb.below hb1)).mono ?_
  rintro e w2 ⟨rfl, hb2⟩
  go_wp2_with fail
  refine (rplus_any _ _ _ na.1 nb.1 na.lim nb.lim).mono ?_
  rintro e w3 ⟨M, rfl, hM, hb3⟩
  go_wp2_with fail
  refine (bytes_canon M _ _ hM).mono ?_
  rintro e w4 ⟨g, cap, rfl, hc, hg, hR, hb4⟩
  go_wp2
  go_ret2
  have h12 := Below.join (Below.join hb1 hb2) hb3
  refine ⟨g, cap, rfl, hc, Nat.le_trans h12.size hg, ?_, Below.join h12 hb4⟩
  rw [← mod_of (dvd_add na.2.2 nb.2.2 (show PP ∣ (valL (limb2 la) + valL (limb2 lb)) - (valL (limb2 la) + valL (limb2 lb)) from ⟨0, by omega⟩))]
  exact hR
theorem radd_no (pa pb : Option Addr) (na ca nb cb : Nat) (w : World) (h : ¬ (na = 32 ∧ nb = 32)) :
    Calls Try.prog 26 #[.slice pa na ca, .slice pb nb cb] w fun e w' => e = .returned (.tuple #[.slice none 0 0, .int .i64 1]) ∧ w = w' := by
  go_enter Try.func26, Try.ntmps26
  go_wp2_with fail
  refine (length_no pa pb na ca nb cb _ h).mono ?_
  rintro e w1 ⟨rfl, rfl⟩
  go_wp2
  go_ret2
  exact ⟨rfl, rfl⟩
set_option maxHeartbeats 1000000 in
theorem rsub_yes (Ba oa ca Bb ob cb : Nat) (la lb : List Int) (w : World) (hla : la.length = 32) (hlb : lb.length = 32) (ha : RdB w Ba oa la) (hb : RdB w Bb ob lb) :
    Calls Try.prog 28 #[.slice (some ⟨Ba, oa, none⟩) 32 ca, .slice (some ⟨Bb, ob, none⟩) 32 cb] w fun e w' =>
      ∃ g cap, e = .returned (.tuple #[.slice (some ⟨g, 0, none⟩) 32 cap, .int .i64 0]) ∧ 32 ≤ cap ∧ w.heap.size ≤ g ∧ RdB w' g 0 (leB ((valB la - valB lb) % PP)) ∧ Below w.heap.size w w' := by
  have na := limb2_num la hla ha.2
  have nb := limb2_num lb hlb hb.2
  go_enter Try.func28, Try.ntmps28
  go_wp2_with fail
  refine (length_yes _ _ _ _ _).mono ?_
  rintro e w1 ⟨rfl, rfl⟩
  go_wp2_with fail
  refine (from_any _ _ _ la _ hla ha).mono ?_
  rintro e w1 ⟨rfl, hb1⟩
  go_wp2_with fail
  refine (from_any _ _ _ lb _ hlb (hb.below hb1)).mono ?_
  rintro e w2 ⟨rfl, hb2⟩
  go_wp2_with fail
  refine (rminus_any _ _ _ na.1 nb.1 na.lim nb.lim).mono ?_
  rintro e w3 ⟨M, rfl, hM, hb3⟩
  go_wp2_with fail
  refine (bytes_canon M _ _ hM).mono ?_
  rintro e w4 ⟨g, cap, rfl, hc, hg, hR, hb4⟩
  go_wp2
  go_ret2
  have h12 := Below.join (Below.join hb1 hb2) hb3
  refine ⟨g, cap, rfl, hc, Nat.le_trans h12.size hg, ?_, Below.join h12 hb4⟩
  rw [← mod_of (dvd_sub na.2.2 nb.2.2 (show PP ∣ (valL (limb2 la) - valL (limb2 lb)) - (valL (limb2 la) - valL (limb2 lb)) from ⟨0, by omega⟩))]
  exact hR
theorem rsub_no (pa pb : Option Addr) (na ca nb cb : Nat) (w : World) (h : ¬ (na = 32 ∧ nb = 32)) :
    Calls Try.prog 28 #[.slice pa na ca, .slice pb nb cb] w fun e w' => e = .returned (.tuple #[.slice none 0 0, .int .i64 1]) ∧ w = w' := by
  go_enter Try.func28, Try.ntmps28
  go_wp2_with fail
  refine (length_no pa pb na ca nb cb _ h).mono ?_
  rintro e w1 ⟨rfl, rfl⟩
  go_wp2
  go_ret2
  exact ⟨rfl, rfl⟩
set_option maxHeartbeats 1000000 in
theorem rcanon_yes (Ba oa ca : Nat) (la : List Int) (w : World) (hla : la.length = 32) (ha : RdB w Ba oa la) :
    Calls Try.prog 24 #[.slice (some ⟨Ba, oa, none⟩) 32 ca] w fun e w' =>
      ∃ g cap, e = .returned (.tuple #[.slice (some ⟨g, 0, none⟩) 32 cap, .int .i64 0]) ∧ 32 ≤ cap ∧ w.heap.size ≤ g ∧ RdB w' g 0 (leB (valB la % PP)) ∧ Below w.heap.size w w' := by
  have na := limb2_num la hla ha.2
  go_enter Try.func24, Try.ntmps24
  go_wp2_with fail
  refine (from_any _ _ _ la _ hla ha).mono ?_
  rintro e w1 ⟨rfl, hb1⟩
  go_wp2_with fail
  refine (bytes_canon _ _ _ na).mono ?_
  rintro e w4 ⟨g, cap, rfl, hc, hg, hR, hb4⟩
  go_wp2
  go_ret2
  exact ⟨g, cap, rfl, hc, Nat.le_trans hb1.size hg, hR, Below.join hb1 hb4⟩
theorem rcanon_no (pa : Option Addr) (na ca : Nat) (w : World) (h : ¬ na = 32) :
    Calls Try.prog 24 #[.slice pa na ca] w fun e w' => e = .returned (.tuple #[.slice none 0 0, .int .i64 1]) ∧ w = w' := by
  have h2 : ((na : Int) != 32) = true := by rw [bne_iff_ne]; omega
  clear h
  go_enter Try.func24, Try.ntmps24
  go_wp2
  go_ret2
  exact ⟨rfl, rfl⟩
theorem zl32_val : valB (0 :: zl31) = 0 := by decide +kernel
theorem zeros_bs (w : World) : Bs (w.alloc (.cells (sm 0) 5)) (some ⟨w.heap.size, 0, none⟩) 32 (0 :: zl31) := bs_sm (by omega) (heap_alloc_new w _)
set_option maxHeartbeats 1000000 in
set_option maxRecDepth 100000 in
theorem gCanon_yes (Ba oa ca : Nat) (la : List Int) (w : World) (hca : 32 ≤ ca) (hla : la.length = 32) (ha : RdB w Ba oa la) :
    Calls Try.prog 29 #[.slice (some ⟨Ba, oa, none⟩) 32 ca] w fun e w' =>
      ∃ b, e = .returned (.tuple #[.slice (some ⟨b, 0, none⟩) 32 32, .int .i64 0]) ∧ w.heap.size ≤ b ∧ IsB w' b (leB (valB la % PP)) ∧ Below w.heap.size w w' := by
  have hmk : ∀ w, (Instr.makeSlice 22 (.int .i64 32) (.int .i64 32)).run Try.prog w = .ok (.slice (some ⟨w.heap.size, 0, none⟩) 32 32) (w.alloc (.cells (sm 0) 5)) := make32
  have hb0 : Below w.heap.size w (w.alloc (.cells (sm 0) 5)) := (Below.refl _ _).alloc (Nat.le_refl _) _
  obtain ⟨_, _, q, r⟩ := (zeros_bs w).rd
  simp at q
  obtain ⟨rfl, rfl⟩ := q
  go_enter Try.func29, Try.ntmps29
  go_wp2_with fail
  refine (two_CanonC _ _ _ _ _ _ la (0 :: zl31) _ hca (by omega) hla rfl (ha.below hb0) r).mono ?_
  rintro e w1 ⟨b, rfl, hlt, hB, hb1⟩
  go_wp2
  go_ret2
  rw [zl32_val, Int.add_zero] at hB
  exact ⟨b, rfl, Nat.le_trans hb0.size hlt, hB, Below.join hb0 hb1⟩
set_option maxRecDepth 100000 in
theorem gCanon_no (pa : Option Addr) (na ca : Nat) (w : World) (hna : na ≤ maxLen) (h : ¬ na = 32) :
    Calls Try.prog 29 #[.slice pa na ca] w fun e w' => e = .returned (.tuple #[.slice none 0 0, .int .i64 1]) ∧ Below w.heap.size w w' := by
  have hmk : ∀ w, (Instr.makeSlice 22 (.int .i64 32) (.int .i64 32)).run Try.prog w = .ok (.slice (some ⟨w.heap.size, 0, none⟩) 32 32) (w.alloc (.cells (sm 0) 5)) := make32
  go_enter Try.func29, Try.ntmps29
  go_wp2_with fail
  refine (two_no _ _ na _ 32 _ _ _ hna (by decide) (by omega)).mono ?_
  rintro e w1 ⟨rfl, rfl⟩
  go_wp2
  go_ret2
  exact ⟨rfl, (Below.refl _ _).alloc (Nat.le_refl _) _⟩
end Go.Proofs.Ytenppmciabdefaa
