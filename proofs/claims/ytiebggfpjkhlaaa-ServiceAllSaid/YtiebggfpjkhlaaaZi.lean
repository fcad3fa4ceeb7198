/- Where there is no service: every call tells an error. No condition. -/
import Derived.Test.YtiebggfpjkhlaaaZh
namespace Go.Proofs.Ytiebggfpjkhlaaa
open Go Go.RowKit
set_option linter.unusedSimpArgs false
attribute [local go_sem] map_neq_some map_neq_nil
/-- No service, or one that nobody made. -/
def NoS (p : Value) (W : World) : Prop := p = .pointer none ∨ ∃ b, p = .pointer (some ⟨b, 0, none⟩) ∧ W.heap[b]? = some (.cells #[.map none, .map none, .map none] 57 (0, 0))
theorem NoS.keep {p : Value} {W W' : World} (h : NoS p W) (hb : Below W.heap.size W W') : NoS p W' := by
  rcases h with h | ⟨b, h1, h2⟩
  · exact .inl h
  · exact .inr ⟨b, h1, blk_stay hb h2⟩
theorem NoS.alloc {p : Value} {W : World} (h : NoS p W) (ob : Obj) : NoS p (W.alloc ob) := h.keep ((Below.refl _ _).alloc (Nat.le_refl _) _)
theorem may_no {p : Value} {W : World} (h : NoS p W) (v : Value) : Calls Try.prog 22 #[p, v] W fun e w' => e = .returned (.bool false) ∧ w' = W := by
  rcases h with rfl | ⟨b, rfl, hb⟩
  · exact may_nil v W
  · exact may_empty b v W ((cell_of_row W b 1 _ _ _ hb).trans rfl)
set_option maxRecDepth 100000 in
theorem take_no (p : Value) (n : ByteArray) (W : World) (h : NoS p W) : Calls Try.prog 17 #[p, .string n] W fun e W' => e = .returned (.tuple #[.slice none 0 0, .int .i64 1]) ∧ Below W.heap.size W W' := by
  have hmay := may_no (h.alloc (.cells #[.string n] 9)) (.slice (some ⟨W.heap.size, 0, none⟩) 1 1)
  have hb : Below W.heap.size W (W.alloc (.cells #[.string n] 9)) := (Below.refl _ _).alloc (Nat.le_refl _) _
  go_enter Try.func17, Try.ntmps17
  go_wp2_with fail
  refine hmay.mono ?_
  rintro e w' ⟨rfl, rfl⟩
  go_wp2_with fail
  go_ret2
  exact ⟨rfl, hb⟩
set_option maxRecDepth 100000 in
theorem epoch_no (p : Value) (n : ByteArray) (W : World) (h : NoS p W) : Calls Try.prog 20 #[p, .string n] W fun e W' => e = .returned (.tuple #[.int .i64 0, .int .i64 1]) ∧ Below W.heap.size W W' := by
  have hmay := may_no (h.alloc (.cells #[.string n] 9)) (.slice (some ⟨W.heap.size, 0, none⟩) 1 1)
  have hb : Below W.heap.size W (W.alloc (.cells #[.string n] 9)) := (Below.refl _ _).alloc (Nat.le_refl _) _
  go_enter Try.func20, Try.ntmps20
  go_wp2_with fail
  refine hmay.mono ?_
  rintro e w' ⟨rfl, rfl⟩
  go_wp2_with fail
  go_ret2
  exact ⟨rfl, hb⟩
set_option maxRecDepth 100000 in
theorem log_no (p : Value) (n : ByteArray) (W : World) (h : NoS p W) : Calls Try.prog 15 #[p, .string n] W fun e W' => e = .returned (.slice none 0 0) ∧ Below W.heap.size W W' := by
  have hmay := may_no (h.alloc (.cells #[.string n] 9)) (.slice (some ⟨W.heap.size, 0, none⟩) 1 1)
  have hb : Below W.heap.size W (W.alloc (.cells #[.string n] 9)) := (Below.refl _ _).alloc (Nat.le_refl _) _
  go_enter Try.func15, Try.ntmps15
  go_wp2_with fail
  refine hmay.mono ?_
  rintro e w' ⟨rfl, rfl⟩
  go_wp2_with fail
  go_ret
  exact ⟨rfl, hb⟩
set_option maxRecDepth 100000 in
theorem waiting_no (p : Value) (n : ByteArray) (W : World) (h : NoS p W) : Calls Try.prog 18 #[p, .string n] W fun e W' => e = .returned (.int .i64 0) ∧ Below W.heap.size W W' := by
  have hmay := may_no (h.alloc (.cells #[.string n] 9)) (.slice (some ⟨W.heap.size, 0, none⟩) 1 1)
  have hb : Below W.heap.size W (W.alloc (.cells #[.string n] 9)) := (Below.refl _ _).alloc (Nat.le_refl _) _
  go_enter Try.func18, Try.ntmps18
  go_wp2_with fail
  refine hmay.mono ?_
  rintro e w' ⟨rfl, rfl⟩
  go_wp2_with fail
  go_ret
  exact ⟨rfl, hb⟩
set_option maxRecDepth 100000 in
theorem offer_no (p : Value) (n : ByteArray) (v : Value) (W : World) (h : NoS p W) : Calls Try.prog 14 #[p, .string n, v] W fun e W' => e = .returned (.int .i64 1) ∧ Below W.heap.size W W' := by
  have hmay := may_no (h.alloc (.cells #[.string n] 9)) (.slice (some ⟨W.heap.size, 0, none⟩) 1 1)
  have hb : Below W.heap.size W (W.alloc (.cells #[.string n] 9)) := (Below.refl _ _).alloc (Nat.le_refl _) _
  go_enter Try.func14, Try.ntmps14
  go_wp2_with fail
  refine hmay.mono ?_
  rintro e w' ⟨rfl, rfl⟩
  go_wp2_with fail
  go_ret
  exact ⟨rfl, hb⟩
set_option maxRecDepth 100000 in
theorem open_no (p : Value) (n : ByteArray) (W : World) (h : NoS p W) : Calls Try.prog 10 #[p, .string n, .int .i64 0] W fun e W' => e = .returned (.int .i64 1) ∧ Below W.heap.size W W' := by
  have hmay := may_no (h.alloc (.cells #[.string n] 9)) (.slice (some ⟨W.heap.size, 0, none⟩) 1 1)
  have hb : Below W.heap.size W (W.alloc (.cells #[.string n] 9)) := (Below.refl _ _).alloc (Nat.le_refl _) _
  go_enter Try.func10, Try.ntmps10
  go_wp2_with fail
  refine hmay.mono ?_
  rintro e w' ⟨rfl, rfl⟩
  go_wp2_with fail
  go_ret
  exact ⟨rfl, hb⟩
set_option maxRecDepth 100000 in
theorem join_no (p : Value) (n m : ByteArray) (W : World) (h : NoS p W) : Calls Try.prog 11 #[p, .string n, .string m] W fun e W' => e = .returned (.int .i64 1) ∧ Below W.heap.size W W' := by
  have hmay := may_no (h.alloc (.cells #[.string n, .string m] 9)) (.slice (some ⟨W.heap.size, 0, none⟩) 2 2)
  have hb : Below W.heap.size W (W.alloc (.cells #[.string n, .string m] 9)) := (Below.refl _ _).alloc (Nat.le_refl _) _
  go_enter Try.func11, Try.ntmps11
  go_wp2_with fail
  refine hmay.mono ?_
  rintro e w' ⟨rfl, rfl⟩
  go_wp2_with fail
  go_ret
  exact ⟨rfl, hb⟩
set_option maxRecDepth 100000 in
theorem leave_no (p : Value) (n m : ByteArray) (W : World) (h : NoS p W) : Calls Try.prog 21 #[p, .string n, .string m] W fun e W' => e = .returned (.int .i64 1) ∧ Below W.heap.size W W' := by
  have hmay := may_no ((h.alloc (.cells #[.string m] 9)).alloc (.cells #[.string n, .string m] 9)) (.slice (some ⟨W.heap.size + 1, 0, none⟩) 2 2)
  have hb : Below W.heap.size W ((W.alloc (.cells #[.string m] 9)).alloc (.cells #[.string n, .string m] 9)) := ((Below.refl _ _).alloc (Nat.le_refl _) _).alloc (by simp) _
  go_enter Try.func21, Try.ntmps21
  go_wp2_with fail
  refine hmay.mono ?_
  rintro e w' ⟨rfl, rfl⟩
  go_wp2_with fail
  go_ret
  exact ⟨rfl, hb⟩
theorem ret_cell_tmp {P : Program} {fn : Func} {R : Ending → World → Prop} {a : Act} {w : World} {p q : Tmp} {ty : TypeId} (h : fn.results = #[.cell p ty, .tmp q]) (g : Nat) (t : TypeId) (cs : Array Value) (fr : Nat × Nat) (d : TypeDesc) (x : Value)
    (hp : a.tmps.getD p undef = .pointer (some ⟨g, 0, none⟩)) (hq : a.tmps.getD q undef = x) (hg : w.heap[g]? = some (.cells cs t fr))
    (hu : P.underlying ty = some d) (hd : (match d with | .struct _ | .array _ _ => true | _ => false) = true) (hi : (P.info? ty).map (·.size) = some cs.size)
    (hdf : a.defers = []) (hR : R (.returned (.tuple #[.agg cs, x])) w) : bodyPost P fn R .ret a w := by
  have hp' : a.tmps[p]?.getD undef = .pointer (some ⟨g, 0, none⟩) := by simpa using hp
  have hq' : a.tmps[q]?.getD undef = x := by simpa using hq
  exact bodyPost_ret (v := .tuple #[.agg cs, x]) (by simp [results, h, hp', hq', asAddr, run_loadVar_row w g t ty cs fr d hg hu hd hi]) hdf hR
theorem infoW5' : (Try.prog.info? 38).map (·.size) = some 5 := by kernel_rfl
set_option maxRecDepth 100000 in
theorem pick_no (p : Value) (n : ByteArray) (W : World) (h : NoS p W) : Calls Try.prog 16 #[p, .string n, .int .i64 0] W fun e W' => e = .returned (.tuple #[.agg #[.string { data := #[] }, .int .i64 0, .int .i64 0, .int .i64 0, .slice none 0 0], .int .i64 1]) ∧ Below W.heap.size W W' := by
  have hmay := may_no ((h.alloc (.cells #[.string { data := #[] }, .int .i64 0, .int .i64 0, .int .i64 0, .slice none 0 0] 38)).alloc (.cells #[.string n] 9)) (.slice (some ⟨W.heap.size + 1, 0, none⟩) 1 1)
  have h0 : Kq W [] W := ⟨by simp, Below.refl _ _⟩
  have h1 := (h0.new rfl (.cells #[.string { data := #[] }, .int .i64 0, .int .i64 0, .int .i64 0, .slice none 0 0] 38)).new (n := W.heap.size + 1) (by simp) (.cells #[.string n] 9)
  have e6 := h1.at_ (g := W.heap.size) (ob := .cells #[.string { data := #[] }, .int .i64 0, .int .i64 0, .int .i64 0, .slice none 0 0] 38 (0, 0)) (by simp)
  have hb := h1.2
  clear h0 h1
  go_enter Try.func16, Try.ntmps16
  go_wp2_with fail
  refine hmay.mono ?_
  rintro e w' ⟨rfl, rfl⟩
  go_wp2_with fail
  refine ret_cell_tmp rfl W.heap.size _ _ _ _ (.int .i64 1) rfl rfl e6 Try.underlying38 rfl infoW5' rfl ?_
  exact ⟨rfl, hb⟩
set_option maxRecDepth 100000 in
theorem send_no (p : Value) (n : ByteArray) (x0 x1 x2 : Value) (W : World) (h : NoS p W) : Calls Try.prog 13 #[p, .string n, .agg #[x0, x1, x2]] W fun e W' => e = .returned (.tuple #[.int .i64 0, .int .i64 1]) ∧ Below W.heap.size W W' := by
  have hmay := may_no (((h.alloc (.cells #[p] 22)).alloc (.cells #[x0, x1, x2] 33)).alloc (.cells #[.string n] 9)) (.slice (some ⟨W.heap.size + 2, 0, none⟩) 1 1)
  have hp : (((W.alloc (.cells #[p] 22)).alloc (.cells #[x0, x1, x2] 33))).cell? ⟨W.heap.size, 0, none⟩ = some p := by
    have h0 : Kq W [] W := ⟨by simp, Below.refl _ _⟩
    have h1 := (h0.new rfl (.cells #[p] 22)).new (n := W.heap.size + 1) (by simp) (.cells #[x0, x1, x2] 33)
    exact (cell_of_row _ W.heap.size 0 _ _ _ (h1.at_ (g := W.heap.size) (ob := .cells #[p] 22 (0, 0)) (by simp))).trans rfl
  have hb : Below W.heap.size W (((W.alloc (.cells #[p] 22)).alloc (.cells #[x0, x1, x2] 33)).alloc (.cells #[.string n] 9)) := (((Below.refl _ _).alloc (Nat.le_refl _) _).alloc (by simp) _).alloc (by simp; omega) _
  rcases h with rfl | ⟨b, rfl, _⟩
  · go_enter Try.func13, Try.ntmps13
    go_wp2_with fail
    refine wp_scope_fwd 0 rfl ?_
    go_wp2_with fail
    refine hmay.mono ?_
    rintro e w' ⟨rfl, rfl⟩
    go_wp2_with fail
    go_step3
    change _ ∧ _
    refine ⟨rfl, ?_⟩
    go_wp2_with fail
    rw [jump_ret]
    go_ret2
    exact ⟨rfl, hb⟩
  · go_enter Try.func13, Try.ntmps13
    go_wp2_with fail
    refine wp_scope_fwd 0 rfl ?_
    go_wp2_with fail
    refine hmay.mono ?_
    rintro e w' ⟨rfl, rfl⟩
    go_wp2_with fail
    go_step3
    change _ ∧ _
    refine ⟨rfl, ?_⟩
    go_wp2_with fail
    rw [jump_ret]
    go_ret2
    exact ⟨rfl, hb⟩
end Go.Proofs.Ytiebggfpjkhlaaa
