/- The walks of field.Mul, Add, Sub, at two times 32 bytes. No condition. -/
import Derived.Test.YtenppmciabdefaaWh
namespace Go.Proofs.Ytenppmciabdefaa
open Go.RowKit
set_option maxHeartbeats 1000000 in
theorem gMul_yes (Ba oa ca Bb ob cb : Nat) (la lb : List Int) (w : World) (hca : 32 ≤ ca) (hcb : 32 ≤ cb) (hla : la.length = 32) (hlb : lb.length = 32) (ha : RdB w Ba oa la) (hb : RdB w Bb ob lb) :
    Calls Try.prog 18 #[.slice (some ⟨Ba, oa, none⟩) 32 ca, .slice (some ⟨Bb, ob, none⟩) 32 cb] w fun e w' =>
      ∃ b, e = .returned (.tuple #[.slice (some ⟨b, 0, none⟩) 32 32, .int .i64 0]) ∧ w.heap.size ≤ b ∧ IsB w' b (leB ((valB la * valB lb) % PP)) ∧ Below w.heap.size w w' := by
  go_enter Try.func18, Try.ntmps18
  go_wp2_with fail
  refine (two_MulC _ _ _ _ _ _ la lb _ hca hcb hla hlb ha hb).mono ?_
  rintro e w1 ⟨b, rfl, hlt, hB, hb1⟩
  go_wp2
  go_ret2
  exact ⟨b, rfl, hlt, hB, hb1⟩
set_option maxHeartbeats 1000000 in
theorem gAdd_yes (Ba oa ca Bb ob cb : Nat) (la lb : List Int) (w : World) (hca : 32 ≤ ca) (hcb : 32 ≤ cb) (hla : la.length = 32) (hlb : lb.length = 32) (ha : RdB w Ba oa la) (hb : RdB w Bb ob lb) :
    Calls Try.prog 25 #[.slice (some ⟨Ba, oa, none⟩) 32 ca, .slice (some ⟨Bb, ob, none⟩) 32 cb] w fun e w' =>
      ∃ b, e = .returned (.tuple #[.slice (some ⟨b, 0, none⟩) 32 32, .int .i64 0]) ∧ w.heap.size ≤ b ∧ IsB w' b (leB ((valB la + valB lb) % PP)) ∧ Below w.heap.size w w' := by
  go_enter Try.func25, Try.ntmps25
  go_wp2_with fail
  refine (two_AddC _ _ _ _ _ _ la lb _ hca hcb hla hlb ha hb).mono ?_
  rintro e w1 ⟨b, rfl, hlt, hB, hb1⟩
  go_wp2
  go_ret2
  exact ⟨b, rfl, hlt, hB, hb1⟩
set_option maxHeartbeats 1000000 in
theorem gSub_yes (Ba oa ca Bb ob cb : Nat) (la lb : List Int) (w : World) (hca : 32 ≤ ca) (hcb : 32 ≤ cb) (hla : la.length = 32) (hlb : lb.length = 32) (ha : RdB w Ba oa la) (hb : RdB w Bb ob lb) :
    Calls Try.prog 27 #[.slice (some ⟨Ba, oa, none⟩) 32 ca, .slice (some ⟨Bb, ob, none⟩) 32 cb] w fun e w' =>
      ∃ b, e = .returned (.tuple #[.slice (some ⟨b, 0, none⟩) 32 32, .int .i64 0]) ∧ w.heap.size ≤ b ∧ IsB w' b (leB ((valB la - valB lb) % PP)) ∧ Below w.heap.size w w' := by
  go_enter Try.func27, Try.ntmps27
  go_wp2_with fail
  refine (two_SubC _ _ _ _ _ _ la lb _ hca hcb hla hlb ha hb).mono ?_
  rintro e w1 ⟨b, rfl, hlt, hB, hb1⟩
  go_wp2
  go_ret2
  exact ⟨b, rfl, hlt, hB, hb1⟩
set_option maxHeartbeats 1000000 in
theorem two_no (pa pb : Option Addr) (na ca nb cb : Nat) (f : Value) (w : World) (hna : na ≤ maxLen) (_hnb : nb ≤ maxLen) (h : ¬ (na = 32 ∧ nb = 32)) :
    Calls Try.prog 63 #[.slice pa na ca, .slice pb nb cb, f] w fun e w' => e = .returned (.tuple #[.slice none 0 0, .int .i64 1]) ∧ w = w' := by
  unfold maxLen at hna
  by_cases h1 : na = 32
  · subst h1
    have h2 : ((nb : Int) != 32) = true := by rw [bne_iff_ne]; omega
    clear h
    go_enter Try.func63, Try.ntmps63
    go_wp2
    go_ret2
    exact ⟨rfl, rfl⟩
  · have h2 : ((na : Int) != 32) = true := by rw [bne_iff_ne]; omega
    clear h h1
    go_enter Try.func63, Try.ntmps63
    go_wp2
    go_ret2
    exact ⟨rfl, rfl⟩
theorem gMul_no (pa pb : Option Addr) (na ca nb cb : Nat) (w : World) (hna : na ≤ maxLen) (hnb : nb ≤ maxLen) (h : ¬ (na = 32 ∧ nb = 32)) :
    Calls Try.prog 18 #[.slice pa na ca, .slice pb nb cb] w fun e w' => e = .returned (.tuple #[.slice none 0 0, .int .i64 1]) ∧ w = w' := by
  go_enter Try.func18, Try.ntmps18
  go_wp2_with fail
  refine (two_no pa pb na ca nb cb _ _ hna hnb h).mono ?_
  rintro e w1 ⟨rfl, rfl⟩
  go_wp2
  go_ret2
  exact ⟨rfl, rfl⟩
theorem gAdd_no (pa pb : Option Addr) (na ca nb cb : Nat) (w : World) (hna : na ≤ maxLen) (hnb : nb ≤ maxLen) (h : ¬ (na = 32 ∧ nb = 32)) :
    Calls Try.prog 25 #[.slice pa na ca, .slice pb nb cb] w fun e w' => e = .returned (.tuple #[.slice none 0 0, .int .i64 1]) ∧ w = w' := by
  go_enter Try.func25, Try.ntmps25
  go_wp2_with fail
  refine (two_no pa pb na ca nb cb _ _ hna hnb h).mono ?_
  rintro e w1 ⟨rfl, rfl⟩
  go_wp2
  go_ret2
  exact ⟨rfl, rfl⟩
theorem gSub_no (pa pb : Option Addr) (na ca nb cb : Nat) (w : World) (hna : na ≤ maxLen) (hnb : nb ≤ maxLen) (h : ¬ (na = 32 ∧ nb = 32)) :
    Calls Try.prog 27 #[.slice pa na ca, .slice pb nb cb] w fun e w' => e = .returned (.tuple #[.slice none 0 0, .int .i64 1]) ∧ w = w' := by
  go_enter Try.func27, Try.ntmps27
  go_wp2_with fail
  refine (two_no pa pb na ca nb cb _ _ hna hnb h).mono ?_
  rintro e w1 ⟨rfl, rfl⟩
  go_wp2
  go_ret2
  exact ⟨rfl, rfl⟩
end Go.Proofs.Ytenppmciabdefaa
