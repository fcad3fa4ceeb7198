/- ladder.Mul where a length is wrong, Public, Shared, the known values of layer 5. No condition. -/
import Derived.Test.YtenppmciabdefaaQg
import Derived.Test.YtenppmciabdefaaRf
import Derived.Lib.MinMax
namespace Go.Proofs.Ytenppmciabdefaa
open Go Go.RowKit Go.Shelf
set_option linter.unusedSimpArgs false
attribute [local go_sem] Oper.semAt_some
set_option maxRecDepth 100000 in
set_option maxHeartbeats 4000000 in
theorem mul_no1 (pk pu : Option Addr) (nk nu ck cu : Nat) (w : World) (hk : nk ≠ 32) :
    Calls Try.prog 57 #[.slice pk nk ck, .slice pu nu cu] w fun e w' => e = .returned (.tuple #[.slice none 0 0, .int .i64 1]) ∧ Below w.heap.size w w' := by
  refine (callsIn_wide (n := 8)).1 (callsIn_of_wp_marks Try.func57 rfl trivial (wpIn_wide.2 ?_) rfl)
  simp only [Try.ntmps57, List.size_toArray, List.length_cons, List.length_nil, Nat.reduceAdd, Nat.reduceSub, Array.replicate_succ, Array.replicate_zero, List.push_toArray, List.append_toArray, List.nil_append, List.cons_append]
  go_wp2_with fail
  refine (clamp_no pk nk ck _ hk).mono ?_
  rintro e w1 ⟨rfl, hw⟩
  have hb : Below w.heap.size w w1 := by rw [← hw]; exact Below.refl _ _
  clear hw
  go_wp2_with fail
  exact ⟨_, results_tmp2 rfl _ _ _, rfl, hb⟩
set_option maxRecDepth 100000 in
set_option maxHeartbeats 4000000 in
theorem mul_no2 (pk pu : Option Addr) (nu ck cu : Nat) (lk : List Int) (w : World) (hk : Bs w pk 32 lk) (hu : nu ≠ 32) :
    Calls Try.prog 57 #[.slice pk 32 ck, .slice pu nu cu] w fun e w' => e = .returned (.tuple #[.slice none 0 0, .int .i64 1]) ∧ Below w.heap.size w w' := by
  have hd : ((nu : Int) != 32) = true := by rw [bne_iff_ne]; omega
  refine (callsIn_wide (n := 8)).1 (callsIn_of_wp_marks Try.func57 rfl trivial (wpIn_wide.2 ?_) rfl)
  simp only [Try.ntmps57, List.size_toArray, List.length_cons, List.length_nil, Nat.reduceAdd, Nat.reduceSub, Array.replicate_succ, Array.replicate_zero, List.push_toArray, List.append_toArray, List.nil_append, List.cons_append]
  go_wp2_with fail
  refine (clamp_yes pk ck lk _ hk).mono ?_
  rintro e w1 ⟨gk, c1, rfl, hc1, _, hgk, hgklt, hK, hb1⟩
  go_wp2_with fail
  exact ⟨_, results_tmp2 rfl _ _ _, rfl, hb1⟩
/-- The greatest of some bytes. -/
def mx (l : List Int) : Int := l.foldl max 0
theorem mx_step (l : List Int) (k : Nat) (hk : k < l.length) : mx (l.take (k + 1)) = max (mx (l.take k)) (l.getD k 0) := by
  unfold mx
  rw [List.take_succ_eq_append_getElem hk, List.foldl_append, List.getD_eq_getElem?_getD, List.getElem?_eq_getElem hk]
  rfl
set_option maxRecDepth 100000 in
set_option maxHeartbeats 4000000 in
theorem smax_yes (b c : Nat) (l : List Int) (w : World) (hr : Bs w (some ⟨b, 0, none⟩) 32 l) :
    Calls Try.prog 86 #[.slice (some ⟨b, 0, none⟩) 32 c] w fun e w' => e = .returned (.int .u8 (mx l)) ∧ w' = w := by
  have h0 : w.cell? ⟨b, 0, none⟩ = some (.int .u8 (l.getD 0 0)) := hr.cell 0 (by omega)
  have x0 := byte_at hr.2.1 0
  go_enter Try.func86, Try.ntmps86
  go_wp2
  go_loop [3, 4] (fun m i => ∃ k : Nat, 0 < k ∧ k ≤ 32 ∧ i = .int .i64 k ∧ m = .int .u8 (mx (l.take k))) (fun _ i => match i with | .int _ q => 32 - q.toNat | _ => 0)
  case atStart => exact ⟨1, Nat.one_pos, by omega, rfl, by rw [mx_step _ _ (by rw [hr.1]; omega)]; simp only [List.take_zero, mx, List.foldl_nil]; rw [Int.max_eq_right x0.1, List.getD_eq_getElem?_getD]⟩
  case round =>
    obtain ⟨k, hk0, hk, rfl, rfl⟩ := hrel
    by_cases hlt : k < 32
    · have hcell : w.cell? ⟨b, k, none⟩ = some (.int .u8 (l.getD k 0)) := by have := hr.cell k hlt; rwa [Nat.zero_add] at this
      have hl : decide ((k : Int) < 32) = true := by simp; omega
      have e2 := mx_step l k (by rw [hr.1]; omega)
      go_wp2
      refine ⟨⟨k + 1, Nat.succ_pos k, by omega, congrArg (Value.int .i64) (by omega), ?_⟩, ?_⟩
      · rw [e2, List.getD_eq_getElem?_getD]
      · show 32 - ((k : Int) + 1).toNat < 32 - (k : Int).toNat
        omega
    · obtain rfl : k = 32 := by omega
      go_wp2
      go_ret
      rw [List.take_of_length_le (by rw [hr.1]; omega)]
      exact ⟨rfl, rfl⟩
end Go.Proofs.Ytenppmciabdefaa
namespace Go.Proofs.Ytenppmciabdefaa
open Go Go.RowKit Go.Shelf
set_option linter.unusedSimpArgs false
attribute [local go_sem] Oper.semAt_some
/-- The base point's u. -/
def nineL : List Int := 9 :: List.replicate 31 0
theorem nineL_in : ∀ x ∈ nineL, 0 ≤ x ∧ x < 256 := by decide
set_option maxRecDepth 100000 in
set_option maxHeartbeats 4000000 in
theorem public_yes (pk : Option Addr) (ck : Nat) (lk : List Int) (w : World) (hk : Bs w pk 32 lk) :
    Calls Try.prog 59 #[.slice pk 32 ck] w fun e w' => ∃ b, e = .returned (.tuple #[.slice (some ⟨b, 0, none⟩) 32 32, .int .i64 0]) ∧ w.heap.size ≤ b ∧ IsB w' b (leB (mulN lk nineL % PP)) ∧ Below w.heap.size w w' := by
  obtain ⟨W0, hW0, hz, hb0, q0⟩ := one_new w (.cells #[.int .u8 0, .int .u8 0, .int .u8 0, .int .u8 0, .int .u8 0, .int .u8 0, .int .u8 0, .int .u8 0, .int .u8 0, .int .u8 0, .int .u8 0, .int .u8 0, .int .u8 0, .int .u8 0, .int .u8 0, .int .u8 0, .int .u8 0, .int .u8 0, .int .u8 0, .int .u8 0, .int .u8 0, .int .u8 0, .int .u8 0, .int .u8 0, .int .u8 0, .int .u8 0, .int .u8 0, .int .u8 0, .int .u8 0, .int .u8 0, .int .u8 0, .int .u8 0] 5)
  have hmk : (Instr.makeSlice 22 (.int .i64 32) (.int .i64 32)).run Try.prog w = .ok (.slice (some ⟨w.heap.size, 0, none⟩) 32 32) W0 := by rw [← hW0]; exact make32 w
  have c0 : W0.cell? ⟨w.heap.size, 0, none⟩ = some (.int .u8 0) := (cell_of_row W0 _ 0 _ _ _ q0).trans rfl
  have f0 : W0.frozen? ⟨w.heap.size, 0, none⟩ = false := frozen_of_row W0 _ 0 _ _ q0
  have hN : Bs (W0.setCell ⟨w.heap.size, 0, none⟩ (.int .u8 9)) (some ⟨w.heap.size, 0, none⟩) 32 nineL := Bs.of_isB (l := nineL) (heap_setCell_same W0 _ 0 _ _ _ q0) rfl nineL_in
  have hb1 : Below w.heap.size w (W0.setCell ⟨w.heap.size, 0, none⟩ (.int .u8 9)) := hb0.setCell (Nat.le_refl _) _
  have hK := hk.keep hb1
  clear hW0 hz hb0 q0
  go_enter Try.func59, Try.ntmps59
  go_wp2_with fail
  refine (mul_yes pk _ ck 32 lk nineL _ hK hN).mono ?_
  rintro e w1 ⟨b, rfl, hb, hB, hbel⟩
  go_wp2_with fail
  go_ret2
  exact ⟨b, rfl, Nat.le_trans hb1.size hb, hB, Below.join hb1 hbel⟩
set_option maxRecDepth 100000 in
set_option maxHeartbeats 4000000 in
theorem shared_yes (pk pu : Option Addr) (ck cu : Nat) (lk lu : List Int) (w : World) (hk : Bs w pk 32 lk) (hu : Bs w pu 32 lu) :
    Calls Try.prog 61 #[.slice pk 32 ck, .slice pu 32 cu] w fun e w' => Below w.heap.size w w' ∧ ((mx (leB (mulN lk lu % PP)) = 0 ∧ e = .returned (.tuple #[.slice none 0 0, .int .i64 30])) ∨ (mx (leB (mulN lk lu % PP)) ≠ 0 ∧
      ∃ b, e = .returned (.tuple #[.slice (some ⟨b, 0, none⟩) 32 32, .int .i64 0]) ∧ w.heap.size ≤ b ∧ IsB w' b (leB (mulN lk lu % PP)))) := by
  go_enter Try.func61, Try.ntmps61
  go_wp2_with fail
  refine (mul_yes pk pu ck cu lk lu _ hk hu).mono ?_
  rintro e w1 ⟨b, rfl, hb, hB, hbel⟩
  have hBs := Bs.leB hB
  go_wp2_with fail
  refine (smax_yes b 32 _ _ hBs).mono ?_
  rintro e w2 ⟨rfl, rfl⟩
  generalize hm : mx (leB (mulN lk lu % PP)) = m at *
  have HM := Lib.hid hm
  clear hm
  by_cases h0 : m = 0
  · subst h0
    go_wp2_with fail
    go_ret2
    exact ⟨hbel, .inl ⟨HM.out, rfl⟩⟩
  · have hd : (m == 0) = false := by rw [beq_eq_false_iff_ne]; exact h0
    go_wp2_with fail
    go_ret2
    exact ⟨hbel, .inr ⟨by rw [HM.out]; exact h0, b, rfl, hb, hB⟩⟩
end Go.Proofs.Ytenppmciabdefaa
namespace Go.Proofs.Ytenppmciabdefaa
open Go Go.RowKit Go.Shelf
/-- 32 bytes 1, 32 bytes 0. -/
def onesL : List Int := List.replicate 32 1
def zerosL : List Int := List.replicate 32 0
set_option maxRecDepth 100000 in
theorem lad9x : (ladF 9 (bitL (clampL onesL))).1 = 45894918002338023555509536246675233860233446962670262237424012356250668632219 := by decide +kernel
set_option maxRecDepth 100000 in
theorem lad9z : (ladF 9 (bitL (clampL onesL))).2.1 = 13261435146370538991820717297629570528910053585602573802290662674150911482083 := by decide +kernel
set_option maxRecDepth 100000 in
theorem lad0x : (ladF 0 (bitL (clampL onesL))).1 = 0 := by decide +kernel
theorem val9 : valB (uTop nineL) = 9 := by decide +kernel
theorem val0 : valB (uTop zerosL) = 0 := by decide +kernel
theorem known0 : mulN onesL zerosL % PP = 0 := by
  unfold mulN
  rw [val0, lad0x]
  simp
theorem known9 : mulN onesL nineL % PP = 4358756744656299921611720742713659245005038656318957406234335445765305065636 := by
  unfold mulN
  rw [val9, lad9x, lad9z]
  have hn : ¬ PP ∣ 13261435146370538991820717297629570528910053585602573802290662674150911482083 := by decide +kernel
  have h1 := inv_mul hn
  have h2 : PP ∣ 45894918002338023555509536246675233860233446962670262237424012356250668632219 - 4358756744656299921611720742713659245005038656318957406234335445765305065636 * 13261435146370538991820717297629570528910053585602573802290662674150911482083 := by decide +kernel
  show 45894918002338023555509536246675233860233446962670262237424012356250668632219 * pinv 13261435146370538991820717297629570528910053585602573802290662674150911482083 % PP = 4358756744656299921611720742713659245005038656318957406234335445765305065636
  generalize pinv 13261435146370538991820717297629570528910053585602573802290662674150911482083 = q at *
  obtain ⟨c, hc⟩ := h1
  obtain ⟨d, hd⟩ := h2
  have e : 45894918002338023555509536246675233860233446962670262237424012356250668632219 * q = 4358756744656299921611720742713659245005038656318957406234335445765305065636 + PP * (4358756744656299921611720742713659245005038656318957406234335445765305065636 * c + d * q) := by
    have e1 : (45894918002338023555509536246675233860233446962670262237424012356250668632219 : Int) = 4358756744656299921611720742713659245005038656318957406234335445765305065636 * 13261435146370538991820717297629570528910053585602573802290662674150911482083 + PP * d := by omega
    have e2 : (13261435146370538991820717297629570528910053585602573802290662674150911482083 : Int) * q = 1 + PP * c := by omega
    calc (45894918002338023555509536246675233860233446962670262237424012356250668632219 : Int) * q = (4358756744656299921611720742713659245005038656318957406234335445765305065636 * 13261435146370538991820717297629570528910053585602573802290662674150911482083 + PP * d) * q := by rw [← e1]
      _ = 4358756744656299921611720742713659245005038656318957406234335445765305065636 * (13261435146370538991820717297629570528910053585602573802290662674150911482083 * q) + PP * (d * q) := by rw [Int.add_mul, Int.mul_assoc, Int.mul_assoc]
      _ = 4358756744656299921611720742713659245005038656318957406234335445765305065636 * (1 + PP * c) + PP * (d * q) := by rw [e2]
      _ = 4358756744656299921611720742713659245005038656318957406234335445765305065636 + PP * (4358756744656299921611720742713659245005038656318957406234335445765305065636 * c + d * q) := by rw [Int.mul_add, Int.mul_add, Int.mul_one, Int.add_assoc, Int.mul_left_comm]
  rw [e, Int.add_mul_emod_self_left]
  decide +kernel
theorem known9_len : (leB 4358756744656299921611720742713659245005038656318957406234335445765305065636).take 4 = [164, 224, 146, 146] := by decide +kernel
theorem known0_mx : mx (leB 0) = 0 := by decide +kernel
end Go.Proofs.Ytenppmciabdefaa
namespace Go.Proofs.Ytenppmciabdefaa
open Go Go.RowKit Go.Shelf
set_option linter.unusedSimpArgs false
attribute [local go_sem] Oper.semAt_some
theorem num5_any (x : Int) (w : World) : Calls Try.prog 55 #[.int .i64 x] w fun e w' => e = .returned (.int .i64 x) ∧ w = w' := by
  go_enter Try.func55, Try.ntmps55
  go_wp2
  go_ret
  exact ⟨rfl, rfl⟩
theorem IsB.set {w : World} {b : Nat} {l : List Int} (h : IsB w b l) (k : Nat) (x : Int) : IsB (w.setCell ⟨b, k, none⟩ (.int .u8 x)) b (l.set k x) := by
  have := heap_setCell_same w b k _ _ (.int .u8 x) h
  unfold IsB
  rw [this, List.setIfInBounds_toArray, set_map]
/-- The first k bytes are 1. -/
def onL (k : Nat) : List Int := List.replicate k 1 ++ List.replicate (32 - k) 0
theorem onL_step : ∀ k : Fin 32, (onL k.val).set k.val 1 = onL (k.val + 1) := by decide +kernel
theorem onL_in (k : Nat) : ∀ x ∈ onL k, 0 ≤ x ∧ x < 256 := by
  intro x hx
  simp only [onL, List.mem_append, List.mem_replicate] at hx
  omega
theorem onL_len (k : Nat) (h : k ≤ 32) : (onL k).length = 32 := by simp [onL]; omega
set_option maxRecDepth 100000 in
set_option maxHeartbeats 4000000 in
theorem ones5_any (w : World) : Calls Try.prog 81 #[] w fun e w' => ∃ b, e = .returned (.slice (some ⟨b, 0, none⟩) 32 32) ∧ w.heap.size ≤ b ∧ IsB w' b onesL ∧ Below w.heap.size w w' := by
  obtain ⟨W0, hW0, hz, hb0, q0⟩ := one_new w (.cells #[.int .u8 0, .int .u8 0, .int .u8 0, .int .u8 0, .int .u8 0, .int .u8 0, .int .u8 0, .int .u8 0, .int .u8 0, .int .u8 0, .int .u8 0, .int .u8 0, .int .u8 0, .int .u8 0, .int .u8 0, .int .u8 0, .int .u8 0, .int .u8 0, .int .u8 0, .int .u8 0, .int .u8 0, .int .u8 0, .int .u8 0, .int .u8 0, .int .u8 0, .int .u8 0, .int .u8 0, .int .u8 0, .int .u8 0, .int .u8 0, .int .u8 0, .int .u8 0] 5)
  have hmk : (Instr.makeSlice 22 (.int .i64 32) (.int .i64 32)).run Try.prog w = .ok (.slice (some ⟨w.heap.size, 0, none⟩) 32 32) W0 := by rw [← hW0]; exact make32 w
  have Q0 : Hid (IsB W0 w.heap.size (onL 0)) := q0
  have HB := Lib.hid hb0
  clear hW0 hz hb0 q0
  go_enter Try.func81, Try.ntmps81
  go_wp2
  go_loopw [2] (fun i wr => ∃ k : Nat, k ≤ 32 ∧ i = .int .i64 k ∧ IsB wr w.heap.size (onL k) ∧ Below w.heap.size w wr) (fun i _ => 32 - (intOf i).toNat)
  case atStart => exact ⟨0, by omega, rfl, Q0.out, HB.out⟩
  case round =>
    obtain ⟨k, hk, rfl, hB, hbel⟩ := hrel
    by_cases hlt : k < 32
    · have hc : wr.cell? ⟨w.heap.size, k, none⟩ = some (.int .u8 ((onL k).getD k 0)) := by have := (Bs.of_isB hB (onL_len k hk) (onL_in k)).cell k hlt; rwa [Nat.zero_add] at this
      have hf : wr.frozen? ⟨w.heap.size, k, none⟩ = false := frozen_of_row wr _ k _ _ hB
      have hl : decide ((k : Int) < 32) = true := by simp; omega
      have hs : IsB (wr.setCell ⟨w.heap.size, k, none⟩ (.int .u8 1)) w.heap.size (onL (k + 1)) := by
        rw [← onL_step ⟨k, hlt⟩]
        exact hB.set k 1
      have hb2 : Below w.heap.size w (wr.setCell ⟨w.heap.size, k, none⟩ (.int .u8 1)) := hbel.setCell (Nat.le_refl _) _
      have HS := Lib.hid hs
      have HB2 := Lib.hid hb2
      clear hs hb2 hB hbel
      go_wp2
      refine ⟨⟨k + 1, by omega, congrArg (Value.int .i64) (by omega), HS.out, HB2.out⟩, ?_⟩
      show 32 - ((k : Int) + 1).toNat < 32 - (k : Int).toNat
      omega
    · obtain rfl : k = 32 := by omega
      go_wp2
      go_ret
      exact ⟨w.heap.size, rfl, Nat.le_refl _, hB, hbel⟩
end Go.Proofs.Ytenppmciabdefaa
namespace Go.Proofs.Ytenppmciabdefaa
open Go Go.RowKit Go.Shelf
set_option linter.unusedSimpArgs false
attribute [local go_sem] Oper.semAt_some
theorem shared_known (pk pu : Option Addr) (ck cu : Nat) (w : World) (hk : Bs w pk 32 onesL) (hu : Bs w pu 32 zerosL) :
    Calls Try.prog 61 #[.slice pk 32 ck, .slice pu 32 cu] w fun e w' => e = .returned (.tuple #[.slice none 0 0, .int .i64 30]) ∧ Below w.heap.size w w' := by
  refine (shared_yes pk pu ck cu onesL zerosL w hk hu).mono ?_
  rintro e w' ⟨hb, ⟨_, rfl⟩ | ⟨h, _⟩⟩
  · exact ⟨rfl, hb⟩
  · rw [known0] at h
    exact absurd known0_mx h
set_option maxRecDepth 100000 in
set_option maxHeartbeats 4000000 in
theorem knows5_yes (w : World) : Calls Try.prog 56 #[] w fun e w' => e = .returned (.bool true) ∧ Below w.heap.size w w' := by
  go_enter Try.func56, Try.ntmps56
  go_wp2_with fail
  refine (ones5_any _).mono ?_
  rintro e w1 ⟨g1, rfl, hg1, hB1, hb1⟩
  have hBs1 := Bs.of_isB hB1 rfl (by decide)
  go_wp2_with fail
  refine (public_yes _ 32 onesL _ hBs1).mono ?_
  rintro e w2 ⟨g2, rfl, hg2, hB2, hb2⟩
  rw [known9] at hB2
  have hbel := Below.join hb1 hb2
  go_wp2_with fail
  refine wp_region_then (fun a b' w' => ∃ gA gB : Nat, b' = ((((((((a.put (some 11) (.slice (some ⟨gA, 0, none⟩) 32 32)).put (some 12) (.slice (some ⟨gB, 0, none⟩) 32 32)).put (some 13) (.tuple #[.slice none 0 0, .int .i64 30])).put (some 10) (.tuple #[.slice none 0 0, .int .i64 30])).put (some 14) (.slice none 0 0)).put (some 15) (.int .i64 30)).put (some 3) (.slice none 0 0)).put (some 4) (.int .i64 30)) ∧ Below w2.heap.size w2 w') ?_ ?_
  · refine wp_region_rem (Below w2.heap.size w2) (by kernel_rfl) (by kernel_rfl) (fun _ _ _ _ _ h => h.elim) (Below.drew (Below.refl _ _)) ?_
    refine rem_two 0 1 (by kernel_rfl) (step_of rfl (wanted_none rfl) ?_) (step_of rfl (wanted_none rfl) ?_)
    · intro v0 hS0 hE0 K hK
      go_wp2_with fail
      refine (ones5_any _).mono ?_
      rintro e u0 ⟨gA, rfl, hgA, hBA, hkA⟩
      have hbA := Bs.of_isB hBA rfl (by decide)
      refine hK _ _ (hS0.trans (hkA.mono hS0.size)) ?_
      clear hK K
      try ((repeat rw [put_none]); (try simp only [put_some, List.setIfInBounds_toArray, List.set_cons_succ, List.set_cons_zero]))
      refine rem_one 1 (by kernel_rfl) (step_of rfl (wanted_none rfl) ?_)
      intro v1 hS1 hE1 K hK
      have hmk := make32 v1
      go_wp2_with fail
      have hbB : Bs (v1.alloc (.cells #[.int .u8 0, .int .u8 0, .int .u8 0, .int .u8 0, .int .u8 0, .int .u8 0, .int .u8 0, .int .u8 0, .int .u8 0, .int .u8 0, .int .u8 0, .int .u8 0, .int .u8 0, .int .u8 0, .int .u8 0, .int .u8 0, .int .u8 0, .int .u8 0, .int .u8 0, .int .u8 0, .int .u8 0, .int .u8 0, .int .u8 0, .int .u8 0, .int .u8 0, .int .u8 0, .int .u8 0, .int .u8 0, .int .u8 0, .int .u8 0, .int .u8 0, .int .u8 0] 5)) (some ⟨v1.heap.size, 0, none⟩) 32 zerosL := Bs.of_isB (l := zerosL) (heap_alloc_new v1 _) rfl (by decide)
      refine hK _ _ (hS1.alloc hS1.size _) ?_
      clear hK K
      try ((repeat rw [put_none]); (try simp only [put_some, List.setIfInBounds_toArray, List.set_cons_succ, List.set_cons_zero]))
      refine rem_one 2 (by kernel_rfl) (step_of rfl (wanted_none rfl) ?_)
      intro v2 hS2 hE2 K hK
      go_wp2_with fail
      refine (shared_known _ _ 32 32 _ ((hbA.ext hE1).alloc _ |>.ext hE2) (hbB.ext hE2)).mono ?_
      rintro e u2 ⟨rfl, hk2⟩
      refine hK _ _ (hS2.trans (hk2.mono hS2.size)) ?_
      clear hK K
      try ((repeat rw [put_none]); (try simp only [put_some, List.setIfInBounds_toArray, List.set_cons_succ, List.set_cons_zero]))
      apply rem_sure 3 (by kernel_rfl) rfl (wanted_none rfl)
      · intro w9 hS K hK
        go_wp2_with fail
        exact hK _ hS (Ext.refl _)
      · kernel_rfl
      · kernel_rfl
      try ((repeat rw [put_none]); (try simp only [put_some, List.setIfInBounds_toArray, List.set_cons_succ, List.set_cons_zero]))
      apply rem_sure 4 (by kernel_rfl) rfl (wanted_none rfl)
      · intro w9 hS K hK
        go_wp2_with fail
        exact hK _ hS (Ext.refl _)
      · kernel_rfl
      · kernel_rfl
      try ((repeat rw [put_none]); (try simp only [put_some, List.setIfInBounds_toArray, List.set_cons_succ, List.set_cons_zero]))
      apply rem_sure 5 (by kernel_rfl) rfl (wanted_none rfl)
      · intro w9 hS K hK
        go_wp2_with fail
        exact hK _ hS (Ext.refl _)
      · kernel_rfl
      · kernel_rfl
      try ((repeat rw [put_none]); (try simp only [put_some, List.setIfInBounds_toArray, List.set_cons_succ, List.set_cons_zero]))
      apply rem_sure 6 (by kernel_rfl) rfl (wanted_none rfl)
      · intro w9 hS K hK
        go_wp2_with fail
        exact hK _ hS (Ext.refl _)
      · kernel_rfl
      · kernel_rfl
      try ((repeat rw [put_none]); (try simp only [put_some, List.setIfInBounds_toArray, List.set_cons_succ, List.set_cons_zero]))
      apply rem_sure 7 (by kernel_rfl) rfl (wanted_none rfl)
      · intro w9 hS K hK
        go_wp2_with fail
        exact hK _ hS (Ext.refl _)
      · kernel_rfl
      · kernel_rfl
      try ((repeat rw [put_none]); (try simp only [put_some, List.setIfInBounds_toArray, List.set_cons_succ, List.set_cons_zero]))
      refine rem_nil ?_
      intro v9 hS9 hE9
      exact ⟨_, _, rfl, hS9⟩
    · intro v1 hS1 hE1 K hK
      have hmk := make32 v1
      go_wp2_with fail
      have hbB : Bs (v1.alloc (.cells #[.int .u8 0, .int .u8 0, .int .u8 0, .int .u8 0, .int .u8 0, .int .u8 0, .int .u8 0, .int .u8 0, .int .u8 0, .int .u8 0, .int .u8 0, .int .u8 0, .int .u8 0, .int .u8 0, .int .u8 0, .int .u8 0, .int .u8 0, .int .u8 0, .int .u8 0, .int .u8 0, .int .u8 0, .int .u8 0, .int .u8 0, .int .u8 0, .int .u8 0, .int .u8 0, .int .u8 0, .int .u8 0, .int .u8 0, .int .u8 0, .int .u8 0, .int .u8 0] 5)) (some ⟨v1.heap.size, 0, none⟩) 32 zerosL := Bs.of_isB (l := zerosL) (heap_alloc_new v1 _) rfl (by decide)
      refine hK _ _ (hS1.alloc hS1.size _) ?_
      clear hK K
      try ((repeat rw [put_none]); (try simp only [put_some, List.setIfInBounds_toArray, List.set_cons_succ, List.set_cons_zero]))
      refine rem_one 0 (by kernel_rfl) (step_of rfl (wanted_none rfl) ?_)
      intro v0 hS0 hE0 K hK
      go_wp2_with fail
      refine (ones5_any _).mono ?_
      rintro e u0 ⟨gA, rfl, hgA, hBA, hkA⟩
      have hbA := Bs.of_isB hBA rfl (by decide)
      refine hK _ _ (hS0.trans (hkA.mono hS0.size)) ?_
      clear hK K
      try ((repeat rw [put_none]); (try simp only [put_some, List.setIfInBounds_toArray, List.set_cons_succ, List.set_cons_zero]))
      refine rem_one 2 (by kernel_rfl) (step_of rfl (wanted_none rfl) ?_)
      intro v2 hS2 hE2 K hK
      go_wp2_with fail
      refine (shared_known _ _ 32 32 _ (hbA.ext hE2) (((hbB.ext hE0).keep hkA).ext hE2)).mono ?_
      rintro e u2 ⟨rfl, hk2⟩
      refine hK _ _ (hS2.trans (hk2.mono hS2.size)) ?_
      clear hK K
      try ((repeat rw [put_none]); (try simp only [put_some, List.setIfInBounds_toArray, List.set_cons_succ, List.set_cons_zero]))
      apply rem_sure 3 (by kernel_rfl) rfl (wanted_none rfl)
      · intro w9 hS K hK
        go_wp2_with fail
        exact hK _ hS (Ext.refl _)
      · kernel_rfl
      · kernel_rfl
      try ((repeat rw [put_none]); (try simp only [put_some, List.setIfInBounds_toArray, List.set_cons_succ, List.set_cons_zero]))
      apply rem_sure 4 (by kernel_rfl) rfl (wanted_none rfl)
      · intro w9 hS K hK
        go_wp2_with fail
        exact hK _ hS (Ext.refl _)
      · kernel_rfl
      · kernel_rfl
      try ((repeat rw [put_none]); (try simp only [put_some, List.setIfInBounds_toArray, List.set_cons_succ, List.set_cons_zero]))
      apply rem_sure 5 (by kernel_rfl) rfl (wanted_none rfl)
      · intro w9 hS K hK
        go_wp2_with fail
        exact hK _ hS (Ext.refl _)
      · kernel_rfl
      · kernel_rfl
      try ((repeat rw [put_none]); (try simp only [put_some, List.setIfInBounds_toArray, List.set_cons_succ, List.set_cons_zero]))
      apply rem_sure 6 (by kernel_rfl) rfl (wanted_none rfl)
      · intro w9 hS K hK
        go_wp2_with fail
        exact hK _ hS (Ext.refl _)
      · kernel_rfl
      · kernel_rfl
      try ((repeat rw [put_none]); (try simp only [put_some, List.setIfInBounds_toArray, List.set_cons_succ, List.set_cons_zero]))
      apply rem_sure 7 (by kernel_rfl) rfl (wanted_none rfl)
      · intro w9 hS K hK
        go_wp2_with fail
        exact hK _ hS (Ext.refl _)
      · kernel_rfl
      · kernel_rfl
      try ((repeat rw [put_none]); (try simp only [put_some, List.setIfInBounds_toArray, List.set_cons_succ, List.set_cons_zero]))
      refine rem_nil ?_
      intro v9 hS9 hE9
      exact ⟨_, _, rfl, hS9⟩
  rintro b' w3 ⟨gA, gB, rfl, hk3⟩
  try ((repeat rw [put_none]); (try simp only [put_some, List.setIfInBounds_toArray, List.set_cons_succ, List.set_cons_zero]))
  have hB3 : IsB w3 g2 _ := (hk3.block g2 (Array.getElem?_eq_some_iff.1 hB2).1).trans hB2
  have hBs3 := (Bs.leB hB3).take 4 (by omega)
  rw [known9_len] at hBs3
  have hst : (convert 22 9 (.slice (some ⟨g2, 0, none⟩) 4 32)).run Try.prog w3 = .ok (.string (strOfNums [164, 224, 146, 146])) w3 := hBs3.string 22 5 9 32 (by kernel_rfl) (by kernel_rfl) (by kernel_rfl)
  have hse : (strOfNums [164, 224, 146, 146]) = { data := #[164, 224, 146, 146] } := by decide +kernel
  rw [hse] at hst
  go_wp2_with fail
  refine (num5_any _ _).mono ?_
  rintro e w4 ⟨rfl, rfl⟩
  go_wp2_with fail
  refine (num5_any _ _).mono ?_
  rintro e w4 ⟨rfl, rfl⟩
  go_wp2_with fail
  go_ret
  exact ⟨rfl, Below.join hbel hk3⟩
end Go.Proofs.Ytenppmciabdefaa
