/- The calls of service.Send that are refused ahead of the group's rows. No condition. -/
import Derived.Test.YtiebggfpjkhlaaaDg
import Derived.Test.YtiebggfpjkhlaaaZg
import Derived.ScopeJumps
namespace Go.Proofs.Ytiebggfpjkhlaaa
open Go Go.RowKit
set_option linter.unusedSimpArgs false
attribute [local go_sem] map_neq_some map_neq_nil
set_option maxRecDepth 100000 in
set_option maxHeartbeats 4000000 in
theorem send_badN (b m0 m1 m2 n c : Nat)  (ep kd : Int) (q : Option Addr) (s : ByteArray) (W : World) (hb : W.heap[b]? = some (svc m0 m1 m2)) (hs : okN s = false) :
    Calls Try.prog 13 #[.pointer (some ⟨b, 0, none⟩), .string s, .agg #[.int .i64 ep, .int .i64 kd, .slice q n c]] W fun e W' => e = .returned (.tuple #[.int .i64 0, .int .i64 1]) ∧ Below W.heap.size W W' := by
  have hself : Kq W [(b, svc m0 m1 m2)] W := ⟨by simp; exact hb, Below.refl _ _⟩
  have h1 := hself.new rfl (.cells #[.pointer (some ⟨b, 0, none⟩)] 22)
  have h2 := h1.new (n := W.heap.size + 1) (by simp) (.cells #[.int .i64 ep, .int .i64 kd, .slice q n c] 33)
  have c3' : ((W.alloc (.cells #[.pointer (some ⟨b, 0, none⟩)] 22)).alloc (.cells #[.int .i64 ep, .int .i64 kd, .slice q n c] 33)).cell? ⟨W.heap.size, 0, none⟩ = some (.pointer (some ⟨b, 0, none⟩)) := (cell_of_row _ W.heap.size 0 _ _ _ (h2.at_ (g := W.heap.size) (ob := .cells #[.pointer (some ⟨b, 0, none⟩)] 22 (0, 0)) (by simp))).trans rfl
  have h3 := h2.new (n := W.heap.size + 2) (by simp) (.cells #[.string s] 9)
  have hmay := mayA_one (c := 1) (h3.at_ (g := b) (ob := svc m0 m1 m2) (by simp)) (h3.at_ (g := W.heap.size + 2) (ob := .cells #[.string s] 9 (0, 0)) (by simp))
  rw [hs] at hmay
  have c3 : (((W.alloc (.cells #[.pointer (some ⟨b, 0, none⟩)] 22)).alloc (.cells #[.int .i64 ep, .int .i64 kd, .slice q n c] 33)).alloc (.cells #[.string s] 9)).cell? ⟨W.heap.size, 0, none⟩ = some (.pointer (some ⟨b, 0, none⟩)) := (cell_of_row _ W.heap.size 0 _ _ _ (h3.at_ (g := W.heap.size) (ob := .cells #[.pointer (some ⟨b, 0, none⟩)] 22 (0, 0)) (by simp))).trans rfl
  have c50 : (((W.alloc (.cells #[.pointer (some ⟨b, 0, none⟩)] 22)).alloc (.cells #[.int .i64 ep, .int .i64 kd, .slice q n c] 33)).alloc (.cells #[.string s] 9)).cell? ⟨W.heap.size + 1, 0, none⟩ = some (.int .i64 ep) := (cell_of_row _ (W.heap.size + 1) 0 _ _ _ (h3.at_ (g := W.heap.size + 1) (ob := .cells #[.int .i64 ep, .int .i64 kd, .slice q n c] 33 (0, 0)) (by simp))).trans rfl
  have c51 : (((W.alloc (.cells #[.pointer (some ⟨b, 0, none⟩)] 22)).alloc (.cells #[.int .i64 ep, .int .i64 kd, .slice q n c] 33)).alloc (.cells #[.string s] 9)).cell? ⟨W.heap.size + 1, 1, none⟩ = some (.int .i64 kd) := (cell_of_row _ (W.heap.size + 1) 1 _ _ _ (h3.at_ (g := W.heap.size + 1) (ob := .cells #[.int .i64 ep, .int .i64 kd, .slice q n c] 33 (0, 0)) (by simp))).trans rfl
  have c52 : (((W.alloc (.cells #[.pointer (some ⟨b, 0, none⟩)] 22)).alloc (.cells #[.int .i64 ep, .int .i64 kd, .slice q n c] 33)).alloc (.cells #[.string s] 9)).cell? ⟨W.heap.size + 1, 2, none⟩ = some (.slice q n c) := (cell_of_row _ (W.heap.size + 1) 2 _ _ _ (h3.at_ (g := W.heap.size + 1) (ob := .cells #[.int .i64 ep, .int .i64 kd, .slice q n c] 33 (0, 0)) (by simp))).trans rfl
  have HB := Lib.hid h3.2
  clear hself h1 h2 h3 hb
  go_enter Try.func13, Try.ntmps13
  go_wp2_with fail
  refine wp_scope_fwd 0 rfl ?_
  go_wp2_with fail
  refine hmay.mono ?_
  rintro e w' ⟨rfl, rfl⟩
  go_wp2_with fail
  go_step3
  change _ ∧ _
  refine ⟨rfl, ?_⟩
  go_wp2_with fail
  rw [jump_ret]
  go_ret2
  exact ⟨rfl, HB.out⟩
set_option maxRecDepth 100000 in
set_option maxHeartbeats 4000000 in
theorem send_bad1 (b m0 m1 m2 n c : Nat)  (ep kd : Int) (q : Option Addr) (s : ByteArray) (W : World) (hb : W.heap[b]? = some (svc m0 m1 m2)) (hs : okN s = true) (he : ep < 0) :
    Calls Try.prog 13 #[.pointer (some ⟨b, 0, none⟩), .string s, .agg #[.int .i64 ep, .int .i64 kd, .slice q n c]] W fun e W' => e = .returned (.tuple #[.int .i64 0, .int .i64 1]) ∧ Below W.heap.size W W' := by
  have d1 : decide (ep < 0) = true := by simpa using he
  have hself : Kq W [(b, svc m0 m1 m2)] W := ⟨by simp; exact hb, Below.refl _ _⟩
  have h1 := hself.new rfl (.cells #[.pointer (some ⟨b, 0, none⟩)] 22)
  have h2 := h1.new (n := W.heap.size + 1) (by simp) (.cells #[.int .i64 ep, .int .i64 kd, .slice q n c] 33)
  have c3' : ((W.alloc (.cells #[.pointer (some ⟨b, 0, none⟩)] 22)).alloc (.cells #[.int .i64 ep, .int .i64 kd, .slice q n c] 33)).cell? ⟨W.heap.size, 0, none⟩ = some (.pointer (some ⟨b, 0, none⟩)) := (cell_of_row _ W.heap.size 0 _ _ _ (h2.at_ (g := W.heap.size) (ob := .cells #[.pointer (some ⟨b, 0, none⟩)] 22 (0, 0)) (by simp))).trans rfl
  have h3 := h2.new (n := W.heap.size + 2) (by simp) (.cells #[.string s] 9)
  have hmay := mayA_one (c := 1) (h3.at_ (g := b) (ob := svc m0 m1 m2) (by simp)) (h3.at_ (g := W.heap.size + 2) (ob := .cells #[.string s] 9 (0, 0)) (by simp))
  rw [hs] at hmay
  have c3 : (((W.alloc (.cells #[.pointer (some ⟨b, 0, none⟩)] 22)).alloc (.cells #[.int .i64 ep, .int .i64 kd, .slice q n c] 33)).alloc (.cells #[.string s] 9)).cell? ⟨W.heap.size, 0, none⟩ = some (.pointer (some ⟨b, 0, none⟩)) := (cell_of_row _ W.heap.size 0 _ _ _ (h3.at_ (g := W.heap.size) (ob := .cells #[.pointer (some ⟨b, 0, none⟩)] 22 (0, 0)) (by simp))).trans rfl
  have c50 : (((W.alloc (.cells #[.pointer (some ⟨b, 0, none⟩)] 22)).alloc (.cells #[.int .i64 ep, .int .i64 kd, .slice q n c] 33)).alloc (.cells #[.string s] 9)).cell? ⟨W.heap.size + 1, 0, none⟩ = some (.int .i64 ep) := (cell_of_row _ (W.heap.size + 1) 0 _ _ _ (h3.at_ (g := W.heap.size + 1) (ob := .cells #[.int .i64 ep, .int .i64 kd, .slice q n c] 33 (0, 0)) (by simp))).trans rfl
  have c51 : (((W.alloc (.cells #[.pointer (some ⟨b, 0, none⟩)] 22)).alloc (.cells #[.int .i64 ep, .int .i64 kd, .slice q n c] 33)).alloc (.cells #[.string s] 9)).cell? ⟨W.heap.size + 1, 1, none⟩ = some (.int .i64 kd) := (cell_of_row _ (W.heap.size + 1) 1 _ _ _ (h3.at_ (g := W.heap.size + 1) (ob := .cells #[.int .i64 ep, .int .i64 kd, .slice q n c] 33 (0, 0)) (by simp))).trans rfl
  have c52 : (((W.alloc (.cells #[.pointer (some ⟨b, 0, none⟩)] 22)).alloc (.cells #[.int .i64 ep, .int .i64 kd, .slice q n c] 33)).alloc (.cells #[.string s] 9)).cell? ⟨W.heap.size + 1, 2, none⟩ = some (.slice q n c) := (cell_of_row _ (W.heap.size + 1) 2 _ _ _ (h3.at_ (g := W.heap.size + 1) (ob := .cells #[.int .i64 ep, .int .i64 kd, .slice q n c] 33 (0, 0)) (by simp))).trans rfl
  have HB := Lib.hid h3.2
  clear hself h1 h2 h3 hb
  go_enter Try.func13, Try.ntmps13
  go_wp2_with fail
  refine wp_scope_fwd 0 rfl ?_
  go_wp2_with fail
  refine hmay.mono ?_
  rintro e w' ⟨rfl, rfl⟩
  go_wp2_with fail
  go_step3
  change _ ∧ _
  refine ⟨rfl, ?_⟩
  go_wp2_with fail
  rw [jump_ret]
  go_ret2
  exact ⟨rfl, HB.out⟩
set_option maxRecDepth 100000 in
set_option maxHeartbeats 4000000 in
theorem send_bad2 (b m0 m1 m2 n c : Nat)  (ep kd : Int) (q : Option Addr) (s : ByteArray) (W : World) (hb : W.heap[b]? = some (svc m0 m1 m2)) (hs : okN s = true) (he : 4294967296 ≤ ep) :
    Calls Try.prog 13 #[.pointer (some ⟨b, 0, none⟩), .string s, .agg #[.int .i64 ep, .int .i64 kd, .slice q n c]] W fun e W' => e = .returned (.tuple #[.int .i64 0, .int .i64 1]) ∧ Below W.heap.size W W' := by
  have d1 : decide (ep < 0) = false := by simp; omega
  have d2 : decide (ep ≥ 4294967296) = true := by simpa using he
  have hself : Kq W [(b, svc m0 m1 m2)] W := ⟨by simp; exact hb, Below.refl _ _⟩
  have h1 := hself.new rfl (.cells #[.pointer (some ⟨b, 0, none⟩)] 22)
  have h2 := h1.new (n := W.heap.size + 1) (by simp) (.cells #[.int .i64 ep, .int .i64 kd, .slice q n c] 33)
  have c3' : ((W.alloc (.cells #[.pointer (some ⟨b, 0, none⟩)] 22)).alloc (.cells #[.int .i64 ep, .int .i64 kd, .slice q n c] 33)).cell? ⟨W.heap.size, 0, none⟩ = some (.pointer (some ⟨b, 0, none⟩)) := (cell_of_row _ W.heap.size 0 _ _ _ (h2.at_ (g := W.heap.size) (ob := .cells #[.pointer (some ⟨b, 0, none⟩)] 22 (0, 0)) (by simp))).trans rfl
  have h3 := h2.new (n := W.heap.size + 2) (by simp) (.cells #[.string s] 9)
  have hmay := mayA_one (c := 1) (h3.at_ (g := b) (ob := svc m0 m1 m2) (by simp)) (h3.at_ (g := W.heap.size + 2) (ob := .cells #[.string s] 9 (0, 0)) (by simp))
  rw [hs] at hmay
  have c3 : (((W.alloc (.cells #[.pointer (some ⟨b, 0, none⟩)] 22)).alloc (.cells #[.int .i64 ep, .int .i64 kd, .slice q n c] 33)).alloc (.cells #[.string s] 9)).cell? ⟨W.heap.size, 0, none⟩ = some (.pointer (some ⟨b, 0, none⟩)) := (cell_of_row _ W.heap.size 0 _ _ _ (h3.at_ (g := W.heap.size) (ob := .cells #[.pointer (some ⟨b, 0, none⟩)] 22 (0, 0)) (by simp))).trans rfl
  have c50 : (((W.alloc (.cells #[.pointer (some ⟨b, 0, none⟩)] 22)).alloc (.cells #[.int .i64 ep, .int .i64 kd, .slice q n c] 33)).alloc (.cells #[.string s] 9)).cell? ⟨W.heap.size + 1, 0, none⟩ = some (.int .i64 ep) := (cell_of_row _ (W.heap.size + 1) 0 _ _ _ (h3.at_ (g := W.heap.size + 1) (ob := .cells #[.int .i64 ep, .int .i64 kd, .slice q n c] 33 (0, 0)) (by simp))).trans rfl
  have c51 : (((W.alloc (.cells #[.pointer (some ⟨b, 0, none⟩)] 22)).alloc (.cells #[.int .i64 ep, .int .i64 kd, .slice q n c] 33)).alloc (.cells #[.string s] 9)).cell? ⟨W.heap.size + 1, 1, none⟩ = some (.int .i64 kd) := (cell_of_row _ (W.heap.size + 1) 1 _ _ _ (h3.at_ (g := W.heap.size + 1) (ob := .cells #[.int .i64 ep, .int .i64 kd, .slice q n c] 33 (0, 0)) (by simp))).trans rfl
  have c52 : (((W.alloc (.cells #[.pointer (some ⟨b, 0, none⟩)] 22)).alloc (.cells #[.int .i64 ep, .int .i64 kd, .slice q n c] 33)).alloc (.cells #[.string s] 9)).cell? ⟨W.heap.size + 1, 2, none⟩ = some (.slice q n c) := (cell_of_row _ (W.heap.size + 1) 2 _ _ _ (h3.at_ (g := W.heap.size + 1) (ob := .cells #[.int .i64 ep, .int .i64 kd, .slice q n c] 33 (0, 0)) (by simp))).trans rfl
  have HB := Lib.hid h3.2
  clear hself h1 h2 h3 hb
  go_enter Try.func13, Try.ntmps13
  go_wp2_with fail
  refine wp_scope_fwd 0 rfl ?_
  go_wp2_with fail
  refine hmay.mono ?_
  rintro e w' ⟨rfl, rfl⟩
  go_wp2_with fail
  go_step3
  change _ ∧ _
  refine ⟨rfl, ?_⟩
  go_wp2_with fail
  rw [jump_ret]
  go_ret2
  exact ⟨rfl, HB.out⟩
set_option maxRecDepth 100000 in
set_option maxHeartbeats 4000000 in
theorem send_bad3 (b m0 m1 m2 n c : Nat)  (ep kd : Int) (q : Option Addr) (s : ByteArray) (W : World) (hb : W.heap[b]? = some (svc m0 m1 m2)) (hs : okN s = true) (he : 0 ≤ ep ∧ ep < 4294967296) (hk : kd < 1) :
    Calls Try.prog 13 #[.pointer (some ⟨b, 0, none⟩), .string s, .agg #[.int .i64 ep, .int .i64 kd, .slice q n c]] W fun e W' => e = .returned (.tuple #[.int .i64 0, .int .i64 1]) ∧ Below W.heap.size W W' := by
  have d1 : decide (ep < 0) = false := by simp; omega
  have d2 : decide (ep ≥ 4294967296) = false := by simp; omega
  have d3 : decide (kd < 1) = true := by simpa using hk
  have hself : Kq W [(b, svc m0 m1 m2)] W := ⟨by simp; exact hb, Below.refl _ _⟩
  have h1 := hself.new rfl (.cells #[.pointer (some ⟨b, 0, none⟩)] 22)
  have h2 := h1.new (n := W.heap.size + 1) (by simp) (.cells #[.int .i64 ep, .int .i64 kd, .slice q n c] 33)
  have c3' : ((W.alloc (.cells #[.pointer (some ⟨b, 0, none⟩)] 22)).alloc (.cells #[.int .i64 ep, .int .i64 kd, .slice q n c] 33)).cell? ⟨W.heap.size, 0, none⟩ = some (.pointer (some ⟨b, 0, none⟩)) := (cell_of_row _ W.heap.size 0 _ _ _ (h2.at_ (g := W.heap.size) (ob := .cells #[.pointer (some ⟨b, 0, none⟩)] 22 (0, 0)) (by simp))).trans rfl
  have h3 := h2.new (n := W.heap.size + 2) (by simp) (.cells #[.string s] 9)
  have hmay := mayA_one (c := 1) (h3.at_ (g := b) (ob := svc m0 m1 m2) (by simp)) (h3.at_ (g := W.heap.size + 2) (ob := .cells #[.string s] 9 (0, 0)) (by simp))
  rw [hs] at hmay
  have c3 : (((W.alloc (.cells #[.pointer (some ⟨b, 0, none⟩)] 22)).alloc (.cells #[.int .i64 ep, .int .i64 kd, .slice q n c] 33)).alloc (.cells #[.string s] 9)).cell? ⟨W.heap.size, 0, none⟩ = some (.pointer (some ⟨b, 0, none⟩)) := (cell_of_row _ W.heap.size 0 _ _ _ (h3.at_ (g := W.heap.size) (ob := .cells #[.pointer (some ⟨b, 0, none⟩)] 22 (0, 0)) (by simp))).trans rfl
  have c50 : (((W.alloc (.cells #[.pointer (some ⟨b, 0, none⟩)] 22)).alloc (.cells #[.int .i64 ep, .int .i64 kd, .slice q n c] 33)).alloc (.cells #[.string s] 9)).cell? ⟨W.heap.size + 1, 0, none⟩ = some (.int .i64 ep) := (cell_of_row _ (W.heap.size + 1) 0 _ _ _ (h3.at_ (g := W.heap.size + 1) (ob := .cells #[.int .i64 ep, .int .i64 kd, .slice q n c] 33 (0, 0)) (by simp))).trans rfl
  have c51 : (((W.alloc (.cells #[.pointer (some ⟨b, 0, none⟩)] 22)).alloc (.cells #[.int .i64 ep, .int .i64 kd, .slice q n c] 33)).alloc (.cells #[.string s] 9)).cell? ⟨W.heap.size + 1, 1, none⟩ = some (.int .i64 kd) := (cell_of_row _ (W.heap.size + 1) 1 _ _ _ (h3.at_ (g := W.heap.size + 1) (ob := .cells #[.int .i64 ep, .int .i64 kd, .slice q n c] 33 (0, 0)) (by simp))).trans rfl
  have c52 : (((W.alloc (.cells #[.pointer (some ⟨b, 0, none⟩)] 22)).alloc (.cells #[.int .i64 ep, .int .i64 kd, .slice q n c] 33)).alloc (.cells #[.string s] 9)).cell? ⟨W.heap.size + 1, 2, none⟩ = some (.slice q n c) := (cell_of_row _ (W.heap.size + 1) 2 _ _ _ (h3.at_ (g := W.heap.size + 1) (ob := .cells #[.int .i64 ep, .int .i64 kd, .slice q n c] 33 (0, 0)) (by simp))).trans rfl
  have HB := Lib.hid h3.2
  clear hself h1 h2 h3 hb
  go_enter Try.func13, Try.ntmps13
  go_wp2_with fail
  refine wp_scope_fwd 0 rfl ?_
  go_wp2_with fail
  refine hmay.mono ?_
  rintro e w' ⟨rfl, rfl⟩
  go_wp2_with fail
  go_step3
  change _ ∧ _
  refine ⟨rfl, ?_⟩
  go_wp2_with fail
  rw [jump_ret]
  go_ret2
  exact ⟨rfl, HB.out⟩
set_option maxRecDepth 100000 in
set_option maxHeartbeats 4000000 in
theorem send_bad4 (b m0 m1 m2 n c : Nat)  (ep kd : Int) (q : Option Addr) (s : ByteArray) (W : World) (hb : W.heap[b]? = some (svc m0 m1 m2)) (hs : okN s = true) (he : 0 ≤ ep ∧ ep < 4294967296) (hk : 3 < kd) :
    Calls Try.prog 13 #[.pointer (some ⟨b, 0, none⟩), .string s, .agg #[.int .i64 ep, .int .i64 kd, .slice q n c]] W fun e W' => e = .returned (.tuple #[.int .i64 0, .int .i64 1]) ∧ Below W.heap.size W W' := by
  have d1 : decide (ep < 0) = false := by simp; omega
  have d2 : decide (ep ≥ 4294967296) = false := by simp; omega
  have d3 : decide (kd < 1) = false := by simp; omega
  have d4 : decide (kd > 3) = true := by simpa using hk
  have hself : Kq W [(b, svc m0 m1 m2)] W := ⟨by simp; exact hb, Below.refl _ _⟩
  have h1 := hself.new rfl (.cells #[.pointer (some ⟨b, 0, none⟩)] 22)
  have h2 := h1.new (n := W.heap.size + 1) (by simp) (.cells #[.int .i64 ep, .int .i64 kd, .slice q n c] 33)
  have c3' : ((W.alloc (.cells #[.pointer (some ⟨b, 0, none⟩)] 22)).alloc (.cells #[.int .i64 ep, .int .i64 kd, .slice q n c] 33)).cell? ⟨W.heap.size, 0, none⟩ = some (.pointer (some ⟨b, 0, none⟩)) := (cell_of_row _ W.heap.size 0 _ _ _ (h2.at_ (g := W.heap.size) (ob := .cells #[.pointer (some ⟨b, 0, none⟩)] 22 (0, 0)) (by simp))).trans rfl
  have h3 := h2.new (n := W.heap.size + 2) (by simp) (.cells #[.string s] 9)
  have hmay := mayA_one (c := 1) (h3.at_ (g := b) (ob := svc m0 m1 m2) (by simp)) (h3.at_ (g := W.heap.size + 2) (ob := .cells #[.string s] 9 (0, 0)) (by simp))
  rw [hs] at hmay
  have c3 : (((W.alloc (.cells #[.pointer (some ⟨b, 0, none⟩)] 22)).alloc (.cells #[.int .i64 ep, .int .i64 kd, .slice q n c] 33)).alloc (.cells #[.string s] 9)).cell? ⟨W.heap.size, 0, none⟩ = some (.pointer (some ⟨b, 0, none⟩)) := (cell_of_row _ W.heap.size 0 _ _ _ (h3.at_ (g := W.heap.size) (ob := .cells #[.pointer (some ⟨b, 0, none⟩)] 22 (0, 0)) (by simp))).trans rfl
  have c50 : (((W.alloc (.cells #[.pointer (some ⟨b, 0, none⟩)] 22)).alloc (.cells #[.int .i64 ep, .int .i64 kd, .slice q n c] 33)).alloc (.cells #[.string s] 9)).cell? ⟨W.heap.size + 1, 0, none⟩ = some (.int .i64 ep) := (cell_of_row _ (W.heap.size + 1) 0 _ _ _ (h3.at_ (g := W.heap.size + 1) (ob := .cells #[.int .i64 ep, .int .i64 kd, .slice q n c] 33 (0, 0)) (by simp))).trans rfl
  have c51 : (((W.alloc (.cells #[.pointer (some ⟨b, 0, none⟩)] 22)).alloc (.cells #[.int .i64 ep, .int .i64 kd, .slice q n c] 33)).alloc (.cells #[.string s] 9)).cell? ⟨W.heap.size + 1, 1, none⟩ = some (.int .i64 kd) := (cell_of_row _ (W.heap.size + 1) 1 _ _ _ (h3.at_ (g := W.heap.size + 1) (ob := .cells #[.int .i64 ep, .int .i64 kd, .slice q n c] 33 (0, 0)) (by simp))).trans rfl
  have c52 : (((W.alloc (.cells #[.pointer (some ⟨b, 0, none⟩)] 22)).alloc (.cells #[.int .i64 ep, .int .i64 kd, .slice q n c] 33)).alloc (.cells #[.string s] 9)).cell? ⟨W.heap.size + 1, 2, none⟩ = some (.slice q n c) := (cell_of_row _ (W.heap.size + 1) 2 _ _ _ (h3.at_ (g := W.heap.size + 1) (ob := .cells #[.int .i64 ep, .int .i64 kd, .slice q n c] 33 (0, 0)) (by simp))).trans rfl
  have HB := Lib.hid h3.2
  clear hself h1 h2 h3 hb
  go_enter Try.func13, Try.ntmps13
  go_wp2_with fail
  refine wp_scope_fwd 0 rfl ?_
  go_wp2_with fail
  refine hmay.mono ?_
  rintro e w' ⟨rfl, rfl⟩
  go_wp2_with fail
  go_step3
  change _ ∧ _
  refine ⟨rfl, ?_⟩
  go_wp2_with fail
  rw [jump_ret]
  go_ret2
  exact ⟨rfl, HB.out⟩
set_option maxRecDepth 100000 in
set_option maxHeartbeats 4000000 in
theorem send_bad5 (b m0 m1 m2 n c : Nat)  (ep kd : Int) (q : Option Addr) (s : ByteArray) (W : World) (hb : W.heap[b]? = some (svc m0 m1 m2)) (hs : okN s = true) (he : 0 ≤ ep ∧ ep < 4294967296) (hk : 1 ≤ kd ∧ kd ≤ 3) (hn : okB n = false) :
    Calls Try.prog 13 #[.pointer (some ⟨b, 0, none⟩), .string s, .agg #[.int .i64 ep, .int .i64 kd, .slice q n c]] W fun e W' => e = .returned (.tuple #[.int .i64 0, .int .i64 1]) ∧ Below W.heap.size W W' := by
  have d1 : decide (ep < 0) = false := by simp; omega
  have d2 : decide (ep ≥ 4294967296) = false := by simp; omega
  have d3 : decide (kd < 1) = false := by simp; omega
  have d4 : decide (kd > 3) = false := by simp; omega
  have hself : Kq W [(b, svc m0 m1 m2)] W := ⟨by simp; exact hb, Below.refl _ _⟩
  have h1 := hself.new rfl (.cells #[.pointer (some ⟨b, 0, none⟩)] 22)
  have h2 := h1.new (n := W.heap.size + 1) (by simp) (.cells #[.int .i64 ep, .int .i64 kd, .slice q n c] 33)
  have c3' : ((W.alloc (.cells #[.pointer (some ⟨b, 0, none⟩)] 22)).alloc (.cells #[.int .i64 ep, .int .i64 kd, .slice q n c] 33)).cell? ⟨W.heap.size, 0, none⟩ = some (.pointer (some ⟨b, 0, none⟩)) := (cell_of_row _ W.heap.size 0 _ _ _ (h2.at_ (g := W.heap.size) (ob := .cells #[.pointer (some ⟨b, 0, none⟩)] 22 (0, 0)) (by simp))).trans rfl
  have h3 := h2.new (n := W.heap.size + 2) (by simp) (.cells #[.string s] 9)
  have hmay := mayA_one (c := 1) (h3.at_ (g := b) (ob := svc m0 m1 m2) (by simp)) (h3.at_ (g := W.heap.size + 2) (ob := .cells #[.string s] 9 (0, 0)) (by simp))
  rw [hs] at hmay
  have c3 : (((W.alloc (.cells #[.pointer (some ⟨b, 0, none⟩)] 22)).alloc (.cells #[.int .i64 ep, .int .i64 kd, .slice q n c] 33)).alloc (.cells #[.string s] 9)).cell? ⟨W.heap.size, 0, none⟩ = some (.pointer (some ⟨b, 0, none⟩)) := (cell_of_row _ W.heap.size 0 _ _ _ (h3.at_ (g := W.heap.size) (ob := .cells #[.pointer (some ⟨b, 0, none⟩)] 22 (0, 0)) (by simp))).trans rfl
  have c50 : (((W.alloc (.cells #[.pointer (some ⟨b, 0, none⟩)] 22)).alloc (.cells #[.int .i64 ep, .int .i64 kd, .slice q n c] 33)).alloc (.cells #[.string s] 9)).cell? ⟨W.heap.size + 1, 0, none⟩ = some (.int .i64 ep) := (cell_of_row _ (W.heap.size + 1) 0 _ _ _ (h3.at_ (g := W.heap.size + 1) (ob := .cells #[.int .i64 ep, .int .i64 kd, .slice q n c] 33 (0, 0)) (by simp))).trans rfl
  have c51 : (((W.alloc (.cells #[.pointer (some ⟨b, 0, none⟩)] 22)).alloc (.cells #[.int .i64 ep, .int .i64 kd, .slice q n c] 33)).alloc (.cells #[.string s] 9)).cell? ⟨W.heap.size + 1, 1, none⟩ = some (.int .i64 kd) := (cell_of_row _ (W.heap.size + 1) 1 _ _ _ (h3.at_ (g := W.heap.size + 1) (ob := .cells #[.int .i64 ep, .int .i64 kd, .slice q n c] 33 (0, 0)) (by simp))).trans rfl
  have c52 : (((W.alloc (.cells #[.pointer (some ⟨b, 0, none⟩)] 22)).alloc (.cells #[.int .i64 ep, .int .i64 kd, .slice q n c] 33)).alloc (.cells #[.string s] 9)).cell? ⟨W.heap.size + 1, 2, none⟩ = some (.slice q n c) := (cell_of_row _ (W.heap.size + 1) 2 _ _ _ (h3.at_ (g := W.heap.size + 1) (ob := .cells #[.int .i64 ep, .int .i64 kd, .slice q n c] 33 (0, 0)) (by simp))).trans rfl
  have HB := Lib.hid h3.2
  have hsz := sized_all q n c (((W.alloc (.cells #[.pointer (some ⟨b, 0, none⟩)] 22)).alloc (.cells #[.int .i64 ep, .int .i64 kd, .slice q n c] 33)).alloc (.cells #[.string s] 9))
  rw [hn] at hsz
  clear hself h1 h2 h3 hb
  go_enter Try.func13, Try.ntmps13
  go_wp2_with fail
  refine wp_scope_fwd 0 rfl ?_
  go_wp2_with fail
  refine hmay.mono ?_
  rintro e w' ⟨rfl, rfl⟩
  go_wp2_with fail
  refine hsz.mono ?_
  rintro e w' ⟨rfl, hw⟩
  subst hw
  go_wp2_with fail
  go_step3
  change _ ∧ _
  refine ⟨rfl, ?_⟩
  go_wp2_with fail
  rw [jump_ret]
  go_ret2
  exact ⟨rfl, HB.out⟩
set_option maxRecDepth 100000 in
set_option maxHeartbeats 4000000 in
theorem send_none (b m0 m1 m2 n c : Nat) (clock : Nat) (es : Array MapEntry) (E : List (ByteArray × Nat)) (ep kd : Int) (q : Option Addr) (s : ByteArray) (W : World) (hb : W.heap[b]? = some (svc m0 m1 m2)) (hs : okN s = true) (he : 0 ≤ ep ∧ ep < 4294967296) (hk : 1 ≤ kd ∧ kd ≤ 3) (hn : okB n = true) (hm : W.heap[m1]? = some (.map es clock)) (hE : MapIs es E) (hl : look E s = none) :
    Calls Try.prog 13 #[.pointer (some ⟨b, 0, none⟩), .string s, .agg #[.int .i64 ep, .int .i64 kd, .slice q n c]] W fun e W' => e = .returned (.tuple #[.int .i64 0, .int .i64 3]) ∧ Below W.heap.size W W' := by
  have d1 : decide (ep < 0) = false := by simp; omega
  have d2 : decide (ep ≥ 4294967296) = false := by simp; omega
  have d3 : decide (kd < 1) = false := by simp; omega
  have d4 : decide (kd > 3) = false := by simp; omega
  have hself : Kq W [(b, svc m0 m1 m2), (m1, .map es clock)] W := ⟨by simp; exact ⟨hb, hm⟩, Below.refl _ _⟩
  have h1 := hself.new rfl (.cells #[.pointer (some ⟨b, 0, none⟩)] 22)
  have h2 := h1.new (n := W.heap.size + 1) (by simp) (.cells #[.int .i64 ep, .int .i64 kd, .slice q n c] 33)
  have c3' : ((W.alloc (.cells #[.pointer (some ⟨b, 0, none⟩)] 22)).alloc (.cells #[.int .i64 ep, .int .i64 kd, .slice q n c] 33)).cell? ⟨W.heap.size, 0, none⟩ = some (.pointer (some ⟨b, 0, none⟩)) := (cell_of_row _ W.heap.size 0 _ _ _ (h2.at_ (g := W.heap.size) (ob := .cells #[.pointer (some ⟨b, 0, none⟩)] 22 (0, 0)) (by simp))).trans rfl
  have h3 := h2.new (n := W.heap.size + 2) (by simp) (.cells #[.string s] 9)
  have hmay := mayA_one (c := 1) (h3.at_ (g := b) (ob := svc m0 m1 m2) (by simp)) (h3.at_ (g := W.heap.size + 2) (ob := .cells #[.string s] 9 (0, 0)) (by simp))
  rw [hs] at hmay
  have c3 : (((W.alloc (.cells #[.pointer (some ⟨b, 0, none⟩)] 22)).alloc (.cells #[.int .i64 ep, .int .i64 kd, .slice q n c] 33)).alloc (.cells #[.string s] 9)).cell? ⟨W.heap.size, 0, none⟩ = some (.pointer (some ⟨b, 0, none⟩)) := (cell_of_row _ W.heap.size 0 _ _ _ (h3.at_ (g := W.heap.size) (ob := .cells #[.pointer (some ⟨b, 0, none⟩)] 22 (0, 0)) (by simp))).trans rfl
  have c50 : (((W.alloc (.cells #[.pointer (some ⟨b, 0, none⟩)] 22)).alloc (.cells #[.int .i64 ep, .int .i64 kd, .slice q n c] 33)).alloc (.cells #[.string s] 9)).cell? ⟨W.heap.size + 1, 0, none⟩ = some (.int .i64 ep) := (cell_of_row _ (W.heap.size + 1) 0 _ _ _ (h3.at_ (g := W.heap.size + 1) (ob := .cells #[.int .i64 ep, .int .i64 kd, .slice q n c] 33 (0, 0)) (by simp))).trans rfl
  have c51 : (((W.alloc (.cells #[.pointer (some ⟨b, 0, none⟩)] 22)).alloc (.cells #[.int .i64 ep, .int .i64 kd, .slice q n c] 33)).alloc (.cells #[.string s] 9)).cell? ⟨W.heap.size + 1, 1, none⟩ = some (.int .i64 kd) := (cell_of_row _ (W.heap.size + 1) 1 _ _ _ (h3.at_ (g := W.heap.size + 1) (ob := .cells #[.int .i64 ep, .int .i64 kd, .slice q n c] 33 (0, 0)) (by simp))).trans rfl
  have c52 : (((W.alloc (.cells #[.pointer (some ⟨b, 0, none⟩)] 22)).alloc (.cells #[.int .i64 ep, .int .i64 kd, .slice q n c] 33)).alloc (.cells #[.string s] 9)).cell? ⟨W.heap.size + 1, 2, none⟩ = some (.slice q n c) := (cell_of_row _ (W.heap.size + 1) 2 _ _ _ (h3.at_ (g := W.heap.size + 1) (ob := .cells #[.int .i64 ep, .int .i64 kd, .slice q n c] 33 (0, 0)) (by simp))).trans rfl
  have HB := Lib.hid h3.2
  have cb1 : (((W.alloc (.cells #[.pointer (some ⟨b, 0, none⟩)] 22)).alloc (.cells #[.int .i64 ep, .int .i64 kd, .slice q n c] 33)).alloc (.cells #[.string s] 9)).cell? ⟨b, 1, none⟩ = some (.map (some m1)) := (cell_of_row _ b 1 _ _ _ (h3.at_ (g := b) (ob := svc m0 m1 m2) (by simp))).trans rfl
  have hr1 := h3.at_ (g := m1) (ob := .map es clock) (by simp)
  obtain ⟨y, hy, hv, hno⟩ := find_names s es.toList E 0 hE
  obtain rfl := hno hl
  have HY := Lib.hid hy
  clear hl hv hno hy hE
  have hsz := sized_all q n c (((W.alloc (.cells #[.pointer (some ⟨b, 0, none⟩)] 22)).alloc (.cells #[.int .i64 ep, .int .i64 kd, .slice q n c] 33)).alloc (.cells #[.string s] 9))
  rw [hn] at hsz
  clear hself h1 h2 h3 hb hm
  go_enter Try.func13, Try.ntmps13
  go_wp2_with fail
  refine wp_scope_fwd 0 rfl ?_
  go_wp2_with fail
  refine hmay.mono ?_
  rintro e w' ⟨rfl, rfl⟩
  go_wp2_with fail
  refine hsz.mono ?_
  rintro e w' ⟨rfl, hw⟩
  subst hw
  go_wp2_with (first | (at_lookup; refine wpList_lookW rfl 54 9 62 _ _ rfl Try.underlying54 Try.underlying9 m1 s rfl rfl es clock hr1 (.pointer none) zero_g none HY.out (.pointer none) rfl ?_))
  go_step3
  change _ ∧ _
  refine ⟨rfl, ?_⟩
  go_wp2_with fail
  rw [jump_ret]
  go_ret2
  exact ⟨rfl, HB.out⟩
set_option maxRecDepth 100000 in
set_option maxHeartbeats 4000000 in
theorem send_epoch (b m0 m1 m2 n c : Nat) (bg clock : Nat) (es : Array MapEntry) (E : List (ByteArray × Nat)) (gep : Int) (vlog vsubs : Value) (ep kd : Int) (q : Option Addr) (s : ByteArray) (W : World) (hb : W.heap[b]? = some (svc m0 m1 m2)) (hs : okN s = true) (he : 0 ≤ ep ∧ ep < 4294967296) (hk : 1 ≤ kd ∧ kd ≤ 3) (hn : okB n = true) (hm : W.heap[m1]? = some (.map es clock)) (hE : MapIs es E) (hl : look E s = some bg) (hg : W.heap[bg]? = some (grp gep vlog vsubs)) (hne : ep ≠ gep) :
    Calls Try.prog 13 #[.pointer (some ⟨b, 0, none⟩), .string s, .agg #[.int .i64 ep, .int .i64 kd, .slice q n c]] W fun e W' => e = .returned (.tuple #[.int .i64 0, .int .i64 60]) ∧ Below W.heap.size W W' := by
  have d1 : decide (ep < 0) = false := by simp; omega
  have d2 : decide (ep ≥ 4294967296) = false := by simp; omega
  have d3 : decide (kd < 1) = false := by simp; omega
  have d4 : decide (kd > 3) = false := by simp; omega
  have d5 : decide (ep ≠ gep) = true := by simpa using hne
  have d6 : (ep != gep) = true := by simpa using hne
  have d7 : (ep == gep) = false := by simpa using hne
  have hself : Kq W [(b, svc m0 m1 m2), (m1, .map es clock), (bg, grp gep vlog vsubs)] W := ⟨by simp; exact ⟨hb, hm, hg⟩, Below.refl _ _⟩
  have h1 := hself.new rfl (.cells #[.pointer (some ⟨b, 0, none⟩)] 22)
  have h2 := h1.new (n := W.heap.size + 1) (by simp) (.cells #[.int .i64 ep, .int .i64 kd, .slice q n c] 33)
  have c3' : ((W.alloc (.cells #[.pointer (some ⟨b, 0, none⟩)] 22)).alloc (.cells #[.int .i64 ep, .int .i64 kd, .slice q n c] 33)).cell? ⟨W.heap.size, 0, none⟩ = some (.pointer (some ⟨b, 0, none⟩)) := (cell_of_row _ W.heap.size 0 _ _ _ (h2.at_ (g := W.heap.size) (ob := .cells #[.pointer (some ⟨b, 0, none⟩)] 22 (0, 0)) (by simp))).trans rfl
  have h3 := h2.new (n := W.heap.size + 2) (by simp) (.cells #[.string s] 9)
  have hmay := mayA_one (c := 1) (h3.at_ (g := b) (ob := svc m0 m1 m2) (by simp)) (h3.at_ (g := W.heap.size + 2) (ob := .cells #[.string s] 9 (0, 0)) (by simp))
  rw [hs] at hmay
  have c3 : (((W.alloc (.cells #[.pointer (some ⟨b, 0, none⟩)] 22)).alloc (.cells #[.int .i64 ep, .int .i64 kd, .slice q n c] 33)).alloc (.cells #[.string s] 9)).cell? ⟨W.heap.size, 0, none⟩ = some (.pointer (some ⟨b, 0, none⟩)) := (cell_of_row _ W.heap.size 0 _ _ _ (h3.at_ (g := W.heap.size) (ob := .cells #[.pointer (some ⟨b, 0, none⟩)] 22 (0, 0)) (by simp))).trans rfl
  have c50 : (((W.alloc (.cells #[.pointer (some ⟨b, 0, none⟩)] 22)).alloc (.cells #[.int .i64 ep, .int .i64 kd, .slice q n c] 33)).alloc (.cells #[.string s] 9)).cell? ⟨W.heap.size + 1, 0, none⟩ = some (.int .i64 ep) := (cell_of_row _ (W.heap.size + 1) 0 _ _ _ (h3.at_ (g := W.heap.size + 1) (ob := .cells #[.int .i64 ep, .int .i64 kd, .slice q n c] 33 (0, 0)) (by simp))).trans rfl
  have c51 : (((W.alloc (.cells #[.pointer (some ⟨b, 0, none⟩)] 22)).alloc (.cells #[.int .i64 ep, .int .i64 kd, .slice q n c] 33)).alloc (.cells #[.string s] 9)).cell? ⟨W.heap.size + 1, 1, none⟩ = some (.int .i64 kd) := (cell_of_row _ (W.heap.size + 1) 1 _ _ _ (h3.at_ (g := W.heap.size + 1) (ob := .cells #[.int .i64 ep, .int .i64 kd, .slice q n c] 33 (0, 0)) (by simp))).trans rfl
  have c52 : (((W.alloc (.cells #[.pointer (some ⟨b, 0, none⟩)] 22)).alloc (.cells #[.int .i64 ep, .int .i64 kd, .slice q n c] 33)).alloc (.cells #[.string s] 9)).cell? ⟨W.heap.size + 1, 2, none⟩ = some (.slice q n c) := (cell_of_row _ (W.heap.size + 1) 2 _ _ _ (h3.at_ (g := W.heap.size + 1) (ob := .cells #[.int .i64 ep, .int .i64 kd, .slice q n c] 33 (0, 0)) (by simp))).trans rfl
  have HB := Lib.hid h3.2
  have cb1 : (((W.alloc (.cells #[.pointer (some ⟨b, 0, none⟩)] 22)).alloc (.cells #[.int .i64 ep, .int .i64 kd, .slice q n c] 33)).alloc (.cells #[.string s] 9)).cell? ⟨b, 1, none⟩ = some (.map (some m1)) := (cell_of_row _ b 1 _ _ _ (h3.at_ (g := b) (ob := svc m0 m1 m2) (by simp))).trans rfl
  have hr1 := h3.at_ (g := m1) (ob := .map es clock) (by simp)
  obtain ⟨y, hy, hv, hno⟩ := find_names s es.toList E 0 hE
  rw [hl] at hv
  have hv : lookV (.pointer none) y = .pointer (some ⟨bg, 0, none⟩) := hv
  have HV := Lib.hid hv
  have HY := Lib.hid hy
  have hbg := h3.at_ (g := bg) (ob := grp gep vlog vsubs) (by simp)
  have cg : (((W.alloc (.cells #[.pointer (some ⟨b, 0, none⟩)] 22)).alloc (.cells #[.int .i64 ep, .int .i64 kd, .slice q n c] 33)).alloc (.cells #[.string s] 9)).cell? ⟨bg, 0, none⟩ = some (.int .i64 gep) := (cell_of_row _ bg 0 _ _ _ hbg).trans rfl
  have hKW := h3
  clear hl hv hno hy hE hbg
  have hsz := sized_all q n c (((W.alloc (.cells #[.pointer (some ⟨b, 0, none⟩)] 22)).alloc (.cells #[.int .i64 ep, .int .i64 kd, .slice q n c] 33)).alloc (.cells #[.string s] 9))
  rw [hn] at hsz
  clear hself h1 h2 h3 hb hm hg
  go_enter Try.func13, Try.ntmps13
  go_wp2_with fail
  refine wp_scope_fwd 0 rfl ?_
  go_wp2_with fail
  refine hmay.mono ?_
  rintro e w' ⟨rfl, rfl⟩
  go_wp2_with fail
  refine hsz.mono ?_
  rintro e w' ⟨rfl, hw⟩
  subst hw
  go_wp2_with (first | (at_lookup; refine wpList_lookW rfl 54 9 62 _ _ rfl Try.underlying54 Try.underlying9 m1 s rfl rfl es clock hr1 (.pointer none) zero_g y HY.out _ HV.out ?_))
  clear c3 c3' c50 c51 c52 cb1 hr1 hmay hsz cg
  have hst := hKW.sub (bm := [((W.heap.size + 1), .cells #[.int .i64 ep, .int .i64 kd, .slice q n c] 33 (0, 0)), (bg, grp gep vlog vsubs)]) (by simp)
  clear hKW
  refine wp_region_then (fun a b' w' => b' = (((((((a.put (some 50) (.pointer (some ⟨(W.heap.size + 1), 0, none⟩))).put (some 51) (.int .i64 ep)).put (some 52) (.pointer (some ⟨bg, 0, none⟩))).put (some 53) (.pointer (some ⟨bg, 0, none⟩))).put (some 54) (.pointer (some ⟨bg, 0, none⟩))).put (some 55) (.int .i64 gep)).put (some 56) (.bool true)) ∧ Below W.heap.size W w') ?_ ?_
  · refine wp_region_rem (Kq W [((W.heap.size + 1), .cells #[.int .i64 ep, .int .i64 kd, .slice q n c] 33 (0, 0)), (bg, grp gep vlog vsubs)]) (by kernel_rfl) (by kernel_rfl) (fun _ _ _ _ _ h => h.elim) hst.drew ?_
    apply rem_sure 0 (by kernel_rfl) rfl (wanted_none rfl)
    · intro w2 hS K hK
      go_wp2_with fail
      exact hK _ hS (Ext.refl _)
    · kernel_rfl
    · kernel_rfl
    try ((repeat rw [put_none]); (try simp only [put_some, List.setIfInBounds_toArray, List.set_cons_succ, List.set_cons_zero]))
    apply rem_sure 1 (by kernel_rfl) rfl (wanted_none rfl)
    · intro w2 hS K hK
      have cq : w2.cell? ⟨(W.heap.size + 1), 0, none⟩ = some (.int .i64 ep) := (cell_of_row w2 (W.heap.size + 1) 0 _ _ _ (hS.at_ (g := (W.heap.size + 1)) (ob := .cells #[.int .i64 ep, .int .i64 kd, .slice q n c] 33 (0, 0)) (by simp))).trans rfl
      go_wp2_with fail
      exact hK _ hS (Ext.refl _)
    · kernel_rfl
    · kernel_rfl
    try ((repeat rw [put_none]); (try simp only [put_some, List.setIfInBounds_toArray, List.set_cons_succ, List.set_cons_zero]))
    apply rem_sure 2 (by kernel_rfl) rfl (wanted_none rfl)
    · intro w2 hS K hK
      go_wp2_with fail
      exact hK _ hS (Ext.refl _)
    · kernel_rfl
    · kernel_rfl
    try ((repeat rw [put_none]); (try simp only [put_some, List.setIfInBounds_toArray, List.set_cons_succ, List.set_cons_zero]))
    apply rem_sure 3 (by kernel_rfl) rfl (wanted_none rfl)
    · intro w2 hS K hK
      go_wp2_with fail
      exact hK _ hS (Ext.refl _)
    · kernel_rfl
    · kernel_rfl
    try ((repeat rw [put_none]); (try simp only [put_some, List.setIfInBounds_toArray, List.set_cons_succ, List.set_cons_zero]))
    apply rem_sure 4 (by kernel_rfl) rfl (wanted_none rfl)
    · intro w2 hS K hK
      go_wp2_with fail
      exact hK _ hS (Ext.refl _)
    · kernel_rfl
    · kernel_rfl
    try ((repeat rw [put_none]); (try simp only [put_some, List.setIfInBounds_toArray, List.set_cons_succ, List.set_cons_zero]))
    apply rem_sure 5 (by kernel_rfl) rfl (wanted_none rfl)
    · intro w2 hS K hK
      have cq : w2.cell? ⟨bg, 0, none⟩ = some (.int .i64 gep) := (cell_of_row w2 bg 0 _ _ _ (hS.at_ (g := bg) (ob := grp gep vlog vsubs) (by simp))).trans rfl
      go_wp2_with fail
      exact hK _ hS (Ext.refl _)
    · kernel_rfl
    · kernel_rfl
    try ((repeat rw [put_none]); (try simp only [put_some, List.setIfInBounds_toArray, List.set_cons_succ, List.set_cons_zero]))
    apply rem_sure 6 (by kernel_rfl) rfl (wanted_none rfl)
    · intro w2 hS K hK
      go_wp2_with fail
      exact hK _ hS (Ext.refl _)
    · kernel_rfl
    · kernel_rfl
    try ((repeat rw [put_none]); (try simp only [put_some, List.setIfInBounds_toArray, List.set_cons_succ, List.set_cons_zero]))
    refine rem_nil ?_
    intro v9 hS9 hE9
    exact ⟨rfl, hS9.2⟩
  rintro b' w4 ⟨rfl, hb4⟩
  try ((repeat rw [put_none]); (try simp only [put_some, List.setIfInBounds_toArray, List.set_cons_succ, List.set_cons_zero]))
  have HB := Lib.hid hb4
  clear hst hb4
  go_wp2_with fail
  go_step3
  change _ ∧ _
  refine ⟨rfl, ?_⟩
  go_wp2_with fail
  rw [jump_ret]
  go_ret2
  exact ⟨rfl, HB.out⟩
end Go.Proofs.Ytiebggfpjkhlaaa
