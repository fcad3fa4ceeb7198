/- The walks of field.Number's methods, From and Small. No condition. -/
import Derived.Test.YtenppmciabdefaaGc
namespace Go.Proofs.Ytenppmciabdefaa
open Go Go.RowKit
/-- Two results, the first an aggregate in memory. -/
theorem ret_cell_slot {P : Program} {fn : Func} {R : Ending → World → Prop} {a : Act} {w : World} {p q : Tmp} {ty : TypeId} {v : Value} (h : fn.results = #[.cell p ty, .tmp q]) (g : Nat) (t : TypeId) (cs : Array Value) (fr : Nat × Nat) (d : TypeDesc)
    (hp : a.tmps.getD p undef = .pointer (some ⟨g, 0, none⟩)) (hq : a.tmps.getD q undef = v) (hg : w.heap[g]? = some (.cells cs t fr))
    (hu : P.underlying ty = some d) (hd : (match d with | .struct _ | .array _ _ => true | _ => false) = true) (hi : (P.info? ty).map (·.size) = some cs.size)
    (hdf : a.defers = []) (hR : R (.returned (.tuple #[.agg cs, v])) w) : bodyPost P fn R .ret a w := by
  refine bodyPost_ret (v := .tuple #[.agg cs, v]) ?_ hdf hR
  have hp' : a.tmps[p]?.getD undef = .pointer (some ⟨g, 0, none⟩) := by simpa using hp
  have hq' : a.tmps[q]?.getD undef = v := by simpa using hq
  simp [results, h, hp', hq', asAddr, run_loadVar_row w g t ty cs fr d hg hu hd hi]
theorem infoNu : (Try.prog.info? 46).map (·.size) = some 5 := by kernel_rfl
set_option maxRecDepth 100000 in
set_option maxHeartbeats 1000000 in
theorem gPlus_fe (X Y : Array Value) (N M : Int) (w : World) (hX : FeA X N) (hY : FeA Y M) : Calls Try.prog 42 #[.agg X, .agg Y] w (ResF w (N + M)) := by
  have hX' := hX
  have hY' := hY
  obtain ⟨x0, x1, x2, x3, x4, rfl, _⟩ := hX'
  obtain ⟨y0, y1, y2, y3, y4, rfl, _⟩ := hY'
  obtain ⟨W0, hW0, hz, hb0, q0, q1, q2⟩ := three_new w (.cells #[.int .u64 x0, .int .u64 x1, .int .u64 x2, .int .u64 x3, .int .u64 x4] 46) (.cells #[.int .u64 y0, .int .u64 y1, .int .u64 y2, .int .u64 y3, .int .u64 y4] 46) (.cells #[.int .u64 0, .int .u64 0, .int .u64 0, .int .u64 0, .int .u64 0] 46)
  have HW := Lib.hid hW0
  clear hW0 hz q0 q1
  go_enter Try.func42, Try.ntmps42
  go_wp2_with fail
  rw [HW.out]
  refine (eadd_fe _ _ N M _ hX hY).mono ?_
  rintro e w1 ⟨cs, rfl, hC, hb⟩
  have hC' := hC
  obtain ⟨z0, z1, z2, z3, z4, rfl, _⟩ := hC'
  have hres := block_stay hb q2
  have hbb := Below.join hb0 hb
  clear hb hb0 HW
  go_wp2_with (refine wpList_store_row rfl 46 (.tmp 4) (.tmp 10) rfl (w.heap.size + 1 + 1) #[.int .u64 z0, .int .u64 z1, .int .u64 z2, .int .u64 z3, .int .u64 z4] rfl rfl 46 _ hres (by kernel_rfl) (by kernel_rfl) (by kernel_rfl) ?_)
  refine ret_cell rfl (w.heap.size + 1 + 1) _ _ _ _ rfl (setRow_self hres _) Try.underlying46 rfl (by kernel_rfl) rfl ?_
  exact ⟨_, rfl, hC, below_setRow hbb (by omega) _⟩
set_option maxRecDepth 100000 in
set_option maxHeartbeats 1000000 in
theorem gMinus_fe (X Y : Array Value) (N M : Int) (w : World) (hX : FeA X N) (hY : FeA Y M) : Calls Try.prog 44 #[.agg X, .agg Y] w (ResF w (N - M)) := by
  have hX' := hX
  have hY' := hY
  obtain ⟨x0, x1, x2, x3, x4, rfl, _⟩ := hX'
  obtain ⟨y0, y1, y2, y3, y4, rfl, _⟩ := hY'
  obtain ⟨W0, hW0, hz, hb0, q0, q1, q2⟩ := three_new w (.cells #[.int .u64 x0, .int .u64 x1, .int .u64 x2, .int .u64 x3, .int .u64 x4] 46) (.cells #[.int .u64 y0, .int .u64 y1, .int .u64 y2, .int .u64 y3, .int .u64 y4] 46) (.cells #[.int .u64 0, .int .u64 0, .int .u64 0, .int .u64 0, .int .u64 0] 46)
  have HW := Lib.hid hW0
  clear hW0 hz q0 q1
  go_enter Try.func44, Try.ntmps44
  go_wp2_with fail
  rw [HW.out]
  refine (esub_fe _ _ N M _ hX hY).mono ?_
  rintro e w1 ⟨cs, rfl, hC, hb⟩
  have hC' := hC
  obtain ⟨z0, z1, z2, z3, z4, rfl, _⟩ := hC'
  have hres := block_stay hb q2
  have hbb := Below.join hb0 hb
  clear hb hb0 HW
  go_wp2_with (refine wpList_store_row rfl 46 (.tmp 4) (.tmp 10) rfl (w.heap.size + 1 + 1) #[.int .u64 z0, .int .u64 z1, .int .u64 z2, .int .u64 z3, .int .u64 z4] rfl rfl 46 _ hres (by kernel_rfl) (by kernel_rfl) (by kernel_rfl) ?_)
  refine ret_cell rfl (w.heap.size + 1 + 1) _ _ _ _ rfl (setRow_self hres _) Try.underlying46 rfl (by kernel_rfl) rfl ?_
  exact ⟨_, rfl, hC, below_setRow hbb (by omega) _⟩
set_option maxRecDepth 100000 in
set_option maxHeartbeats 1000000 in
theorem gTimes_fe (X Y : Array Value) (N M : Int) (w : World) (hX : FeA X N) (hY : FeA Y M) : Calls Try.prog 46 #[.agg X, .agg Y] w (ResF w (N * M)) := by
  have hX' := hX
  have hY' := hY
  obtain ⟨x0, x1, x2, x3, x4, rfl, _⟩ := hX'
  obtain ⟨y0, y1, y2, y3, y4, rfl, _⟩ := hY'
  obtain ⟨W0, hW0, hz, hb0, q0, q1, q2⟩ := three_new w (.cells #[.int .u64 x0, .int .u64 x1, .int .u64 x2, .int .u64 x3, .int .u64 x4] 46) (.cells #[.int .u64 y0, .int .u64 y1, .int .u64 y2, .int .u64 y3, .int .u64 y4] 46) (.cells #[.int .u64 0, .int .u64 0, .int .u64 0, .int .u64 0, .int .u64 0] 46)
  have HW := Lib.hid hW0
  clear hW0 hz q0 q1
  go_enter Try.func46, Try.ntmps46
  go_wp2_with fail
  rw [HW.out]
  refine (emul_fe _ _ N M _ hX hY).mono ?_
  rintro e w1 ⟨cs, rfl, hC, hb⟩
  have hC' := hC
  obtain ⟨z0, z1, z2, z3, z4, rfl, _⟩ := hC'
  have hres := block_stay hb q2
  have hbb := Below.join hb0 hb
  clear hb hb0 HW
  go_wp2_with (refine wpList_store_row rfl 46 (.tmp 4) (.tmp 10) rfl (w.heap.size + 1 + 1) #[.int .u64 z0, .int .u64 z1, .int .u64 z2, .int .u64 z3, .int .u64 z4] rfl rfl 46 _ hres (by kernel_rfl) (by kernel_rfl) (by kernel_rfl) ?_)
  refine ret_cell rfl (w.heap.size + 1 + 1) _ _ _ _ rfl (setRow_self hres _) Try.underlying46 rfl (by kernel_rfl) rfl ?_
  exact ⟨_, rfl, hC, below_setRow hbb (by omega) _⟩
set_option maxRecDepth 100000 in
set_option maxHeartbeats 1000000 in
theorem gInverse_fe (X : Array Value) (N : Int) (w : World) (hX : FeA X N) : Calls Try.prog 48 #[.agg X] w (ResF w (pinv N)) := by
  have hX' := hX
  obtain ⟨x0, x1, x2, x3, x4, rfl, _⟩ := hX'
  obtain ⟨W0, hW0, hz, hb0, q0, q2⟩ := two_new w (.cells #[.int .u64 x0, .int .u64 x1, .int .u64 x2, .int .u64 x3, .int .u64 x4] 46) (.cells #[.int .u64 0, .int .u64 0, .int .u64 0, .int .u64 0, .int .u64 0] 46)
  have HW := Lib.hid hW0
  clear hW0 hz q0
  go_enter Try.func48, Try.ntmps48
  go_wp2_with fail
  rw [HW.out]
  refine (inv_fe _ N _ hX).mono ?_
  rintro e w1 ⟨cs, rfl, hC, hb⟩
  have hC' := hC
  obtain ⟨z0, z1, z2, z3, z4, rfl, _⟩ := hC'
  have hres := block_stay hb q2
  have hbb := Below.join hb0 hb
  clear hb hb0 HW
  go_wp2_with (refine wpList_store_row rfl 46 (.tmp 2) (.tmp 6) rfl (w.heap.size + 1) #[.int .u64 z0, .int .u64 z1, .int .u64 z2, .int .u64 z3, .int .u64 z4] rfl rfl 46 _ hres (by kernel_rfl) (by kernel_rfl) (by kernel_rfl) ?_)
  refine ret_cell rfl (w.heap.size + 1) _ _ _ _ rfl (setRow_self hres _) Try.underlying46 rfl (by kernel_rfl) rfl ?_
  exact ⟨_, rfl, hC, below_setRow hbb (by omega) _⟩
set_option maxRecDepth 100000 in
set_option maxHeartbeats 1000000 in
theorem gBytes_fe (X : Array Value) (N : Int) (w : World) (hX : FeA X N) : Calls Try.prog 38 #[.agg X] w fun e w' =>
    ∃ b, e = .returned (.slice (some ⟨b, 0, none⟩) 32 32) ∧ w.heap.size ≤ b ∧ IsB w' b (leB (N % PP)) ∧ Below w.heap.size w w' := by
  have hX' := hX
  obtain ⟨x0, x1, x2, x3, x4, rfl, _⟩ := hX'
  obtain ⟨W0, hW0, hz, hb0, q0⟩ := one_new w (.cells #[.int .u64 x0, .int .u64 x1, .int .u64 x2, .int .u64 x3, .int .u64 x4] 46)
  have HW := Lib.hid hW0
  have HZ := Lib.hid hz
  clear hW0 hz q0
  go_enter Try.func38, Try.ntmps38
  go_wp2_with fail
  rw [HW.out]
  refine (eput_fe _ N _ hX).mono ?_
  rintro e w1 ⟨b, rfl, hlt, hB, hb⟩
  have hbb := Below.join hb0 hb
  have hle := hb0.size
  clear hb hb0 HW
  go_wp2
  go_ret
  exact ⟨b, rfl, by omega, hB, hbb⟩
set_option maxRecDepth 100000 in
set_option maxHeartbeats 1000000 in
theorem gFrom_yes (p : Option Addr) (cap : Nat) (l : List Int) (w : World) (hcap : 32 ≤ cap) (hr : Bs w p 32 l) : Calls Try.prog 37 #[.slice p 32 cap] w fun e w' =>
    ∃ cs, e = .returned (.tuple #[.agg cs, .int .i64 0]) ∧ FeA cs (valB l) ∧ Below w.heap.size w w' := by
  obtain ⟨W0, hW0, hz, hb0, q2⟩ := one_new w (.cells #[.int .u64 0, .int .u64 0, .int .u64 0, .int .u64 0, .int .u64 0] 46)
  have HW := Lib.hid hW0
  clear hW0 hz
  go_enter Try.func37, Try.ntmps37
  go_wp2_with fail
  rw [HW.out]
  refine (eget_fe p cap l _ hcap (hr.keep hb0)).mono ?_
  rintro e w1 ⟨cs, rfl, hC, hb⟩
  have hC' := hC
  obtain ⟨z0, z1, z2, z3, z4, rfl, _⟩ := hC'
  have hres := block_stay hb q2
  have hbb := Below.join hb0 hb
  clear hb hb0 HW
  go_wp2_with (refine wpList_store_row rfl 46 (.tmp 2) (.tmp 10) rfl w.heap.size #[.int .u64 z0, .int .u64 z1, .int .u64 z2, .int .u64 z3, .int .u64 z4] rfl rfl 46 _ hres (by kernel_rfl) (by kernel_rfl) (by kernel_rfl) ?_)
  refine ret_cell_slot rfl w.heap.size _ _ _ _ rfl rfl (setRow_self hres _) Try.underlying46 rfl (by kernel_rfl) rfl ?_
  exact ⟨_, rfl, hC, below_setRow hbb (by omega) _⟩
theorem fe_zero : FeA #[.int .u64 0, .int .u64 0, .int .u64 0, .int .u64 0, .int .u64 0] 0 := ⟨0, 0, 0, 0, 0, rfl, by omega, by omega, by omega, by omega, by omega, 0, by simp [v5]⟩
set_option maxRecDepth 100000 in
set_option maxHeartbeats 1000000 in
theorem gFrom_no (p : Option Addr) (n cap : Nat) (w : World) (hn : n ≠ 32) : Calls Try.prog 37 #[.slice p n cap] w fun e w' =>
    ∃ cs, e = .returned (.tuple #[.agg cs, .int .i64 1]) ∧ FeA cs 0 ∧ Below w.heap.size w w' := by
  have hd : ((n : Int) != 32) = true := by rw [bne_iff_ne]; omega
  go_enter Try.func37, Try.ntmps37
  go_wp2
  refine ret_cell_slot rfl w.heap.size _ _ _ _ rfl rfl (heap_alloc_new w _) Try.underlying46 rfl (by kernel_rfl) rfl ?_
  exact ⟨_, rfl, fe_zero, (Below.refl _ _).alloc (Nat.le_refl _) _⟩
set_option maxRecDepth 100000 in
set_option maxHeartbeats 1000000 in
theorem esmall_fe (x : Int) (w : World) (h0 : 0 ≤ x) (h1 : x < 18446744073709551616) : Calls Try.prog 75 #[.int .u64 x] w (ResF w x) := by
  go_enter Try.func75, Try.ntmps75
  go_wp2
  refine ret_cell rfl w.heap.size _ _ _ _ rfl (heap_alloc_new w _) Try.underlying46 rfl (by kernel_rfl) rfl ?_
  refine ⟨_, rfl, ⟨x % 2251799813685248, x / 2251799813685248, 0, 0, 0, rfl, by omega, by omega, by omega, by omega, by omega, 0, ?_⟩, (Below.refl _ _).alloc (Nat.le_refl _) _⟩
  unfold v5
  omega
set_option maxRecDepth 100000 in
set_option maxHeartbeats 2000000 in
theorem gSmall_fe (x : Int) (w : World) (h0 : -9223372036854775808 ≤ x) (h1 : x ≤ 9223372036854775807) : Calls Try.prog 40 #[.int .i64 x] w (ResF w x) := by
  obtain ⟨W0, hW0, hz, hb0, q2⟩ := one_new w (.cells #[.int .u64 0, .int .u64 0, .int .u64 0, .int .u64 0, .int .u64 0] 46)
  have HW := Lib.hid hW0
  clear hW0 hz
  by_cases hx : x < 0
  · have hd : decide (x < 0) = true := by simpa using hx
    go_enter Try.func40, Try.ntmps40
    go_wp2_with fail
    rw [HW.out]
    refine (esmall_fe _ _ (by omega) (by omega)).mono ?_
    rintro e w1 ⟨X, rfl, hX, hb1⟩
    have hbb := Below.join hb0 hb1
    have hres := block_stay hb1 q2
    clear hb1 HW
    go_wp2_with fail
    refine (gMinus_fe _ X 0 _ _ fe_zero hX).mono ?_
    rintro e w2 ⟨Y, rfl, hY, hb2⟩
    have hbb := Below.join hbb hb2
    have hres := block_stay hb2 hres
    clear hb2
    go_wp2_with fail
    refine (esmall_fe 1 _ (by omega) (by omega)).mono ?_
    rintro e w3 ⟨U, rfl, hU, hb3⟩
    have hbb := Below.join hbb hb3
    have hres := block_stay hb3 hres
    clear hb3
    go_wp2_with fail
    refine (gMinus_fe Y U _ _ _ hY hU).mono ?_
    rintro e w4 ⟨C, rfl, hC, hb4⟩
    have hbb := Below.join hbb hb4
    have hres := block_stay hb4 hres
    have hC := hC.mod (M := x) ⟨0, by omega⟩
    have hC' := hC
    obtain ⟨z0, z1, z2, z3, z4, rfl, _⟩ := hC'
    clear hb4 hX hY hU q2
    go_wp2_with (refine wpList_store_row rfl 46 (.tmp 2) (.tmp 13) rfl w.heap.size #[.int .u64 z0, .int .u64 z1, .int .u64 z2, .int .u64 z3, .int .u64 z4] rfl rfl 46 _ hres (by kernel_rfl) (by kernel_rfl) (by kernel_rfl) ?_)
    refine ret_cell rfl w.heap.size _ _ _ _ rfl (setRow_self hres _) Try.underlying46 rfl (by kernel_rfl) rfl ?_
    exact ⟨_, rfl, hC, below_setRow hbb (by omega) _⟩
  · have hd : decide (x < 0) = false := by simpa using hx
    go_enter Try.func40, Try.ntmps40
    go_wp2_with fail
    rw [HW.out]
    refine (esmall_fe _ _ (by omega) (by omega)).mono ?_
    rintro e w4 ⟨C, rfl, hC, hb4⟩
    have hbb := Below.join hb0 hb4
    have hres := block_stay hb4 q2
    have hC' := hC
    obtain ⟨z0, z1, z2, z3, z4, rfl, _⟩ := hC'
    clear hb4 q2 HW
    go_wp2_with (refine wpList_store_row rfl 46 (.tmp 2) (.tmp 16) rfl w.heap.size #[.int .u64 z0, .int .u64 z1, .int .u64 z2, .int .u64 z3, .int .u64 z4] rfl rfl 46 _ hres (by kernel_rfl) (by kernel_rfl) (by kernel_rfl) ?_)
    refine ret_cell rfl w.heap.size _ _ _ _ rfl (setRow_self hres _) Try.underlying46 rfl (by kernel_rfl) rfl ?_
    exact ⟨_, rfl, hC, below_setRow hbb (by omega) _⟩
end Go.Proofs.Ytenppmciabdefaa
