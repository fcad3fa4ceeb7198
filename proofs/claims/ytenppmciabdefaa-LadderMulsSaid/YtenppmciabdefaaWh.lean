/- The walks of field.two and of Mul, Add, Sub, Canon. No condition. -/
import Derived.Test.YtenppmciabdefaaWc
import Derived.Test.YtenppmciabdefaaWd
import Derived.Test.YtenppmciabdefaaWe
import Derived.Test.YtenppmciabdefaaWg
namespace Go.Proofs.Ytenppmciabdefaa
open Go.RowKit

theorem RdB.below {w w' : World} {B off : Nat} {l : List Int} (h : RdB w B off l) (hb : Below w.heap.size w w') : RdB w' B off l :=
  ⟨fun i hi => by
    have hc := h.1 i hi
    rw [hb.cell (p := ⟨B, off + i, none⟩) (block_lt_of_cell hc)]
    exact hc, h.2⟩
theorem mod_of {z N : Int} (h : PP ∣ z - N) : z % PP = N % PP := Int.emod_eq_emod_iff_emod_sub_eq_zero.2 (Int.emod_eq_zero_of_dvd h)
theorem dvd_mul {a A b B z : Int} (ha : PP ∣ a - A) (hb : PP ∣ b - B) (hz : PP ∣ z - a * b) : PP ∣ z - A * B := by
  obtain ⟨p, hp⟩ := ha
  obtain ⟨q, hq⟩ := hb
  obtain ⟨r, hr⟩ := hz
  exact ⟨r + p * b + A * q, by grind⟩
theorem dvd_add {a A b B z : Int} (ha : PP ∣ a - A) (hb : PP ∣ b - B) (hz : PP ∣ z - (a + b)) : PP ∣ z - (A + B) := by
  obtain ⟨p, hp⟩ := ha
  obtain ⟨q, hq⟩ := hb
  obtain ⟨r, hr⟩ := hz
  exact ⟨r + p + q, by grind⟩
theorem dvd_sub {a A b B z : Int} (ha : PP ∣ a - A) (hb : PP ∣ b - B) (hz : PP ∣ z - (a - b)) : PP ∣ z - (A - B) := by
  obtain ⟨p, hp⟩ := ha
  obtain ⟨q, hq⟩ := hb
  obtain ⟨r, hr⟩ := hz
  exact ⟨r + p - q, by grind⟩
theorem Below.join {a b c : World} (h : Below a.heap.size a b) (k : Below b.heap.size b c) : Below a.heap.size a c := h.trans (k.mono h.size)

set_option maxRecDepth 100000 in
set_option maxHeartbeats 1000000 in
theorem MulC_any (x0 x1 x2 x3 x4 : Int) (w : World) :
    Calls Try.prog 64 #[.agg #[.int .u64 x0, .int .u64 x1, .int .u64 x2, .int .u64 x3, .int .u64 x4]] w fun e w' => e = .returned (.func (.func 65) #[.agg #[.int .u64 x0, .int .u64 x1, .int .u64 x2, .int .u64 x3, .int .u64 x4]] #[]) ∧ Below w.heap.size w w' := by
  have hmf : ∀ (fn : Fn) (first cap : Array Value) (w : World), (Instr.makeFunc fn first cap).run Try.prog w = .ok (.func fn first cap) w := fun _ _ _ _ => rfl
  go_enter Try.func64, Try.ntmps64
  go_wp2
  go_ret
  exact ⟨rfl, (Below.refl _ _).alloc (Nat.le_refl _) _⟩

set_option maxRecDepth 100000 in
set_option maxHeartbeats 2000000 in
theorem two_MulC (Ba oa ca Bb ob cb : Nat) (la lb : List Int) (w : World) (hca : 32 ≤ ca) (hcb : 32 ≤ cb) (hla : la.length = 32) (hlb : lb.length = 32) (ha : RdB w Ba oa la) (hb : RdB w Bb ob lb) :
    Calls Try.prog 63 #[.slice (some ⟨Ba, oa, none⟩) 32 ca, .slice (some ⟨Bb, ob, none⟩) 32 cb, .func (.func 64) #[] #[]] w fun e w' =>
      ∃ b, e = .returned (.tuple #[.slice (some ⟨b, 0, none⟩) 32 32, .int .i64 0]) ∧ w.heap.size ≤ b ∧ IsB w' b (leB ((valB la * valB lb) % PP)) ∧ Below w.heap.size w w' := by
  go_enter Try.func63, Try.ntmps63
  go_wp2_with fail
  refine (get_any _ _ _ la _ hca hla ha).mono ?_
  rintro e w1 ⟨x0, x1, x2, x3, x4, rfl, ⟨hx0, hx1, hx2, hx3, hx4, hxd⟩, hb1⟩
  go_wp2_with fail
  refine (MulC_any _ _ _ _ _ _).mono ?_
  rintro e w2 ⟨rfl, hb2⟩
  go_wp2_with fail
  refine (get_any _ _ _ lb _ hcb hlb ((hb.below hb1).below hb2)).mono ?_
  rintro e w3 ⟨y0, y1, y2, y3, y4, rfl, ⟨hy0, hy1, hy2, hy3, hy4, hyd⟩, hb3⟩
  go_wp2_with fail
  refine (mul_any _ _ _ _ _ _ _ _ _ _ _ (by omega) (by omega) (by omega) (by omega) (by omega) (by omega) (by omega) (by omega) (by omega) (by omega)).mono ?_
  rintro e w4 ⟨z0, z1, z2, z3, z4, rfl, ⟨hz0, hz1, hz2, hz3, hz4, hzd⟩, hb4⟩
  go_wp2_with fail
  refine (put_any _ _ _ _ _ _ hz0 hz1 hz2 hz3 hz4).mono ?_
  rintro e w5 ⟨b, rfl, hlt, hB, hb5⟩
  go_wp2
  go_ret2
  have hall := Below.join (Below.join (Below.join (Below.join hb1 hb2) hb3) hb4) hb5
  refine ⟨b, rfl, Nat.le_trans (Below.join (Below.join (Below.join hb1 hb2) hb3) hb4).size hlt, ?_, hall⟩
  rw [← mod_of (dvd_mul hxd hyd hzd)]
  exact hB

set_option maxRecDepth 100000 in
set_option maxHeartbeats 1000000 in
theorem AddC_any (x0 x1 x2 x3 x4 : Int) (w : World) :
    Calls Try.prog 69 #[.agg #[.int .u64 x0, .int .u64 x1, .int .u64 x2, .int .u64 x3, .int .u64 x4]] w fun e w' => e = .returned (.func (.func 70) #[.agg #[.int .u64 x0, .int .u64 x1, .int .u64 x2, .int .u64 x3, .int .u64 x4]] #[]) ∧ Below w.heap.size w w' := by
  have hmf : ∀ (fn : Fn) (first cap : Array Value) (w : World), (Instr.makeFunc fn first cap).run Try.prog w = .ok (.func fn first cap) w := fun _ _ _ _ => rfl
  go_enter Try.func69, Try.ntmps69
  go_wp2
  go_ret
  exact ⟨rfl, (Below.refl _ _).alloc (Nat.le_refl _) _⟩

set_option maxRecDepth 100000 in
set_option maxHeartbeats 2000000 in
theorem two_AddC (Ba oa ca Bb ob cb : Nat) (la lb : List Int) (w : World) (hca : 32 ≤ ca) (hcb : 32 ≤ cb) (hla : la.length = 32) (hlb : lb.length = 32) (ha : RdB w Ba oa la) (hb : RdB w Bb ob lb) :
    Calls Try.prog 63 #[.slice (some ⟨Ba, oa, none⟩) 32 ca, .slice (some ⟨Bb, ob, none⟩) 32 cb, .func (.func 69) #[] #[]] w fun e w' =>
      ∃ b, e = .returned (.tuple #[.slice (some ⟨b, 0, none⟩) 32 32, .int .i64 0]) ∧ w.heap.size ≤ b ∧ IsB w' b (leB ((valB la + valB lb) % PP)) ∧ Below w.heap.size w w' := by
  go_enter Try.func63, Try.ntmps63
  go_wp2_with fail
  refine (get_any _ _ _ la _ hca hla ha).mono ?_
  rintro e w1 ⟨x0, x1, x2, x3, x4, rfl, ⟨hx0, hx1, hx2, hx3, hx4, hxd⟩, hb1⟩
  go_wp2_with fail
  refine (AddC_any _ _ _ _ _ _).mono ?_
  rintro e w2 ⟨rfl, hb2⟩
  go_wp2_with fail
  refine (get_any _ _ _ lb _ hcb hlb ((hb.below hb1).below hb2)).mono ?_
  rintro e w3 ⟨y0, y1, y2, y3, y4, rfl, ⟨hy0, hy1, hy2, hy3, hy4, hyd⟩, hb3⟩
  go_wp2_with fail
  refine (add_any _ _ _ _ _ _ _ _ _ _ _ (by omega) (by omega) (by omega) (by omega) (by omega) (by omega) (by omega) (by omega) (by omega) (by omega)).mono ?_
  rintro e w4 ⟨z0, z1, z2, z3, z4, rfl, ⟨hz0, hz1, hz2, hz3, hz4, hzd⟩, hb4⟩
  go_wp2_with fail
  refine (put_any _ _ _ _ _ _ hz0 hz1 hz2 hz3 hz4).mono ?_
  rintro e w5 ⟨b, rfl, hlt, hB, hb5⟩
  go_wp2
  go_ret2
  have hall := Below.join (Below.join (Below.join (Below.join hb1 hb2) hb3) hb4) hb5
  refine ⟨b, rfl, Nat.le_trans (Below.join (Below.join (Below.join hb1 hb2) hb3) hb4).size hlt, ?_, hall⟩
  rw [← mod_of (dvd_add hxd hyd hzd)]
  exact hB

set_option maxRecDepth 100000 in
set_option maxHeartbeats 1000000 in
theorem SubC_any (x0 x1 x2 x3 x4 : Int) (w : World) :
    Calls Try.prog 71 #[.agg #[.int .u64 x0, .int .u64 x1, .int .u64 x2, .int .u64 x3, .int .u64 x4]] w fun e w' => e = .returned (.func (.func 72) #[.agg #[.int .u64 x0, .int .u64 x1, .int .u64 x2, .int .u64 x3, .int .u64 x4]] #[]) ∧ Below w.heap.size w w' := by
  have hmf : ∀ (fn : Fn) (first cap : Array Value) (w : World), (Instr.makeFunc fn first cap).run Try.prog w = .ok (.func fn first cap) w := fun _ _ _ _ => rfl
  go_enter Try.func71, Try.ntmps71
  go_wp2
  go_ret
  exact ⟨rfl, (Below.refl _ _).alloc (Nat.le_refl _) _⟩

set_option maxRecDepth 100000 in
set_option maxHeartbeats 2000000 in
theorem two_SubC (Ba oa ca Bb ob cb : Nat) (la lb : List Int) (w : World) (hca : 32 ≤ ca) (hcb : 32 ≤ cb) (hla : la.length = 32) (hlb : lb.length = 32) (ha : RdB w Ba oa la) (hb : RdB w Bb ob lb) :
    Calls Try.prog 63 #[.slice (some ⟨Ba, oa, none⟩) 32 ca, .slice (some ⟨Bb, ob, none⟩) 32 cb, .func (.func 71) #[] #[]] w fun e w' =>
      ∃ b, e = .returned (.tuple #[.slice (some ⟨b, 0, none⟩) 32 32, .int .i64 0]) ∧ w.heap.size ≤ b ∧ IsB w' b (leB ((valB la - valB lb) % PP)) ∧ Below w.heap.size w w' := by
  go_enter Try.func63, Try.ntmps63
  go_wp2_with fail
  refine (get_any _ _ _ la _ hca hla ha).mono ?_
  rintro e w1 ⟨x0, x1, x2, x3, x4, rfl, ⟨hx0, hx1, hx2, hx3, hx4, hxd⟩, hb1⟩
  go_wp2_with fail
  refine (SubC_any _ _ _ _ _ _).mono ?_
  rintro e w2 ⟨rfl, hb2⟩
  go_wp2_with fail
  refine (get_any _ _ _ lb _ hcb hlb ((hb.below hb1).below hb2)).mono ?_
  rintro e w3 ⟨y0, y1, y2, y3, y4, rfl, ⟨hy0, hy1, hy2, hy3, hy4, hyd⟩, hb3⟩
  go_wp2_with fail
  refine (sub_any _ _ _ _ _ _ _ _ _ _ _ (by omega) (by omega) (by omega) (by omega) (by omega) (by omega) (by omega) (by omega) (by omega) (by omega)).mono ?_
  rintro e w4 ⟨z0, z1, z2, z3, z4, rfl, ⟨hz0, hz1, hz2, hz3, hz4, hzd⟩, hb4⟩
  go_wp2_with fail
  refine (put_any _ _ _ _ _ _ hz0 hz1 hz2 hz3 hz4).mono ?_
  rintro e w5 ⟨b, rfl, hlt, hB, hb5⟩
  go_wp2
  go_ret2
  have hall := Below.join (Below.join (Below.join (Below.join hb1 hb2) hb3) hb4) hb5
  refine ⟨b, rfl, Nat.le_trans (Below.join (Below.join (Below.join hb1 hb2) hb3) hb4).size hlt, ?_, hall⟩
  rw [← mod_of (dvd_sub hxd hyd hzd)]
  exact hB

set_option maxRecDepth 100000 in
set_option maxHeartbeats 1000000 in
theorem CanonC_any (x0 x1 x2 x3 x4 : Int) (w : World) :
    Calls Try.prog 73 #[.agg #[.int .u64 x0, .int .u64 x1, .int .u64 x2, .int .u64 x3, .int .u64 x4]] w fun e w' => e = .returned (.func (.func 70) #[.agg #[.int .u64 x0, .int .u64 x1, .int .u64 x2, .int .u64 x3, .int .u64 x4]] #[]) ∧ Below w.heap.size w w' := by
  have hmf : ∀ (fn : Fn) (first cap : Array Value) (w : World), (Instr.makeFunc fn first cap).run Try.prog w = .ok (.func fn first cap) w := fun _ _ _ _ => rfl
  go_enter Try.func73, Try.ntmps73
  go_wp2
  go_ret
  exact ⟨rfl, (Below.refl _ _).alloc (Nat.le_refl _) _⟩

set_option maxRecDepth 100000 in
set_option maxHeartbeats 2000000 in
theorem two_CanonC (Ba oa ca Bb ob cb : Nat) (la lb : List Int) (w : World) (hca : 32 ≤ ca) (hcb : 32 ≤ cb) (hla : la.length = 32) (hlb : lb.length = 32) (ha : RdB w Ba oa la) (hb : RdB w Bb ob lb) :
    Calls Try.prog 63 #[.slice (some ⟨Ba, oa, none⟩) 32 ca, .slice (some ⟨Bb, ob, none⟩) 32 cb, .func (.func 73) #[] #[]] w fun e w' =>
      ∃ b, e = .returned (.tuple #[.slice (some ⟨b, 0, none⟩) 32 32, .int .i64 0]) ∧ w.heap.size ≤ b ∧ IsB w' b (leB ((valB la + valB lb) % PP)) ∧ Below w.heap.size w w' := by
  go_enter Try.func63, Try.ntmps63
  go_wp2_with fail
  refine (get_any _ _ _ la _ hca hla ha).mono ?_
  rintro e w1 ⟨x0, x1, x2, x3, x4, rfl, ⟨hx0, hx1, hx2, hx3, hx4, hxd⟩, hb1⟩
  go_wp2_with fail
  refine (CanonC_any _ _ _ _ _ _).mono ?_
  rintro e w2 ⟨rfl, hb2⟩
  go_wp2_with fail
  refine (get_any _ _ _ lb _ hcb hlb ((hb.below hb1).below hb2)).mono ?_
  rintro e w3 ⟨y0, y1, y2, y3, y4, rfl, ⟨hy0, hy1, hy2, hy3, hy4, hyd⟩, hb3⟩
  go_wp2_with fail
  refine (add_any _ _ _ _ _ _ _ _ _ _ _ (by omega) (by omega) (by omega) (by omega) (by omega) (by omega) (by omega) (by omega) (by omega) (by omega)).mono ?_
  rintro e w4 ⟨z0, z1, z2, z3, z4, rfl, ⟨hz0, hz1, hz2, hz3, hz4, hzd⟩, hb4⟩
  go_wp2_with fail
  refine (put_any _ _ _ _ _ _ hz0 hz1 hz2 hz3 hz4).mono ?_
  rintro e w5 ⟨b, rfl, hlt, hB, hb5⟩
  go_wp2
  go_ret2
  have hall := Below.join (Below.join (Below.join (Below.join hb1 hb2) hb3) hb4) hb5
  refine ⟨b, rfl, Nat.le_trans (Below.join (Below.join (Below.join hb1 hb2) hb3) hb4).size hlt, ?_, hall⟩
  rw [← mod_of (dvd_add hxd hyd hzd)]
  exact hB
end Go.Proofs.Ytenppmciabdefaa
