/- The walk of the laws' do: any operation as a step. No condition. -/
import Derived.Test.YtiebggfpjkhlaaaDp
namespace Go.Proofs.Ytiebggfpjkhlaaa
open Go Go.RowKit
set_option linter.unusedSimpArgs false
/-- An operation. -/
structure OpS where
  kind : Int
  N : Int
  g : ByteArray
  n : ByteArray
  ep : Int
  kd : Int
  q : Option Addr
  nb : Nat
  c : Nat
  l : List Int
def OpS.cells (o : OpS) : List Value := [.int .i64 o.kind, .int .i64 o.N, .string o.g, .string o.n, .int .i64 o.ep, .int .i64 o.kd, .slice o.q o.nb o.c]
def OpS.v (o : OpS) : Value := .agg #[.int .i64 o.kind, .int .i64 o.N, .string o.g, .string o.n, .int .i64 o.ep, .int .i64 o.kd, .slice o.q o.nb o.c]
def DoA (A : Abs) (o : OpS) (r : Int) (A' : Abs) : Prop :=
  (o.kind = 0 ∧ OffA A o.n o.nb o.l r A') ∨ (o.kind = 1 ∧ ∃ v, TakA A o.n v r A') ∨ (o.kind = 2 ∧ OpnA A o.g o.N r A') ∨ (o.kind = 3 ∧ JoiA A o.g o.n r A') ∨ (o.kind = 4 ∧ LeaA A o.g o.n r A') ∨
  (o.kind = 5 ∧ ∃ k, SenA A o.g o.ep o.kd o.nb o.l k r A') ∨ (o.kind = 6 ∧ ∃ v W', PicA A o.n o.N v r A' W') ∨ ((o.kind < 0 ∨ 6 < o.kind) ∧ r = 0 ∧ A' = A)
theorem pic_form {A A' : Abs} {s : ByteArray} {k : Int} {v : Value} {r : Int} {W' : World} (h : PicA A s k v r A' W') : ∃ y0 y1 y2 y3 y4, v = .agg #[y0, y1, y2, y3, y4] ∧ (#[y0, y1, y2, y3, y4]).all (·.oneCell') = true := by
  have key : ∀ y0 y1 y2 y3 y4 : Value, (∀ u ∈ [y0, y1, y2, y3, y4], u.oneCell' = true) → (#[y0, y1, y2, y3, y4]).all (·.oneCell') = true := by
    intro y0 y1 y2 y3 y4 h
    rw [Array.all_eq_true_iff_forall_mem]
    intro v hv
    exact h v (by simpa using hv)
  rcases h with ⟨_, rfl, _⟩ | ⟨_, _, rfl, _⟩ | ⟨_, j, wt, q', c', _, _, rfl, _⟩
  · exact ⟨_, _, _, _, _, rfl, key _ _ _ _ _ (by simp [Value.oneCell'])⟩
  · exact ⟨_, _, _, _, _, rfl, key _ _ _ _ _ (by simp [Value.oneCell'])⟩
  · exact ⟨_, _, _, _, _, rfl, key _ _ _ _ _ (by simp [Value.oneCell'])⟩
theorem Inv.ex {w W : World} {b : Nat} {P : Abs → Prop} (h : Inv w b P W) : ∃ A, P A := by
  obtain ⟨_, _, _, A, _, _, _, h3⟩ := h
  exact ⟨A, h3⟩
theorem Inv.bs {w W : World} {b : Nat} {P : Abs → Prop} (h : Inv w b P W) {q : Option Addr} {n : Nat} {l : List Int} (hx : Bs w q n l) : ∀ W' os, Chg os W W' → NoU os W → (∀ i ∈ os, w.heap.size ≤ i) → Bs W' q n l := fun _ _ hc _ hge =>
  hx.keep (hc.below h.below hge (h.below).size)
set_option maxRecDepth 100000 in
set_option maxHeartbeats 8000000 in
theorem do_0 {w W : World} {b : Nat} {P : Abs → Prop} (h : Inv w b P W) (N : Int) (g n : ByteArray) (ep kd : Int) (q : Option Addr) (nb c : Nat) (l : List Int) (hx : Bs w q nb l) :
    Calls Try.prog 19 #[.pointer (some ⟨b, 0, none⟩), .agg #[.int .i64 0, .int .i64 N, .string g, .string n, .int .i64 ep, .int .i64 kd, .slice q nb c]] W fun e W' => ∃ r : Int, e = .returned (.int .i64 r) ∧ Inv w b (fun A' => ∃ A, P A ∧ DoA A ⟨0, N, g, n, ep, kd, q, nb, c, l⟩ r A') W' := by
  have hb1 : Below W.heap.size W (W.alloc (.cells #[.int .i64 0, .int .i64 N, .string g, .string n, .int .i64 ep, .int .i64 kd, .slice q nb c] 48)) := (Below.refl _ _).alloc (Nat.le_refl _) _
  have e1 := alloc_at W (.cells #[.int .i64 0, .int .i64 N, .string g, .string n, .int .i64 ep, .int .i64 kd, .slice q nb c] 48)
  have c0 : (W.alloc (.cells #[.int .i64 0, .int .i64 N, .string g, .string n, .int .i64 ep, .int .i64 kd, .slice q nb c] 48)).cell? ⟨W.heap.size, 0, none⟩ = some (.int .i64 0) := (cell_of_row _ W.heap.size 0 _ _ _ e1).trans rfl
  have c1 : (W.alloc (.cells #[.int .i64 0, .int .i64 N, .string g, .string n, .int .i64 ep, .int .i64 kd, .slice q nb c] 48)).cell? ⟨W.heap.size, 1, none⟩ = some (.int .i64 N) := (cell_of_row _ W.heap.size 1 _ _ _ e1).trans rfl
  have c2 : (W.alloc (.cells #[.int .i64 0, .int .i64 N, .string g, .string n, .int .i64 ep, .int .i64 kd, .slice q nb c] 48)).cell? ⟨W.heap.size, 2, none⟩ = some (.string g) := (cell_of_row _ W.heap.size 2 _ _ _ e1).trans rfl
  have c3 : (W.alloc (.cells #[.int .i64 0, .int .i64 N, .string g, .string n, .int .i64 ep, .int .i64 kd, .slice q nb c] 48)).cell? ⟨W.heap.size, 3, none⟩ = some (.string n) := (cell_of_row _ W.heap.size 3 _ _ _ e1).trans rfl
  have c4 : (W.alloc (.cells #[.int .i64 0, .int .i64 N, .string g, .string n, .int .i64 ep, .int .i64 kd, .slice q nb c] 48)).cell? ⟨W.heap.size, 4, none⟩ = some (.int .i64 ep) := (cell_of_row _ W.heap.size 4 _ _ _ e1).trans rfl
  have c5 : (W.alloc (.cells #[.int .i64 0, .int .i64 N, .string g, .string n, .int .i64 ep, .int .i64 kd, .slice q nb c] 48)).cell? ⟨W.heap.size, 5, none⟩ = some (.int .i64 kd) := (cell_of_row _ W.heap.size 5 _ _ _ e1).trans rfl
  have c6 : (W.alloc (.cells #[.int .i64 0, .int .i64 N, .string g, .string n, .int .i64 ep, .int .i64 kd, .slice q nb c] 48)).cell? ⟨W.heap.size, 6, none⟩ = some (.slice q nb c) := (cell_of_row _ W.heap.size 6 _ _ _ e1).trans rfl
  have HI := Lib.hid (h.keep hb1)
  have HX := Lib.hid hx
  clear hx
  clear hb1 e1 h
  go_enter Try.func19, Try.ntmps19
  go_wp2_with fail
  refine (offer_I HI.out n q nb c l (HI.out.bs HX.out)).mono ?_
  rintro e w2 ⟨r, rfl, hi2⟩
  have HI2 := Lib.hid (hi2.imp (Q := fun A' => ∃ A, P A ∧ DoA A ⟨0, N, g, n, ep, kd, q, nb, c, l⟩ r A') (fun A' h => by obtain ⟨A, h1, h2⟩ := h; exact ⟨A, h1, .inl ⟨rfl, h2⟩⟩))
  clear hi2 HI c0 c1 c2 c3 c4 c5 c6
  go_wp2_with (go_at_call 9; refine (num22_any _ _).mono ?_; rintro e w' ⟨rfl, rfl⟩)
  go_ret
  exact ⟨r, rfl, HI2.out⟩
set_option maxRecDepth 100000 in
set_option maxHeartbeats 8000000 in
theorem do_1 {w W : World} {b : Nat} {P : Abs → Prop} (h : Inv w b P W) (N : Int) (g n : ByteArray) (ep kd : Int) (q : Option Addr) (nb c : Nat) (l : List Int) :
    Calls Try.prog 19 #[.pointer (some ⟨b, 0, none⟩), .agg #[.int .i64 1, .int .i64 N, .string g, .string n, .int .i64 ep, .int .i64 kd, .slice q nb c]] W fun e W' => ∃ r : Int, e = .returned (.int .i64 r) ∧ Inv w b (fun A' => ∃ A, P A ∧ DoA A ⟨1, N, g, n, ep, kd, q, nb, c, l⟩ r A') W' := by
  have hb1 : Below W.heap.size W (W.alloc (.cells #[.int .i64 1, .int .i64 N, .string g, .string n, .int .i64 ep, .int .i64 kd, .slice q nb c] 48)) := (Below.refl _ _).alloc (Nat.le_refl _) _
  have e1 := alloc_at W (.cells #[.int .i64 1, .int .i64 N, .string g, .string n, .int .i64 ep, .int .i64 kd, .slice q nb c] 48)
  have c0 : (W.alloc (.cells #[.int .i64 1, .int .i64 N, .string g, .string n, .int .i64 ep, .int .i64 kd, .slice q nb c] 48)).cell? ⟨W.heap.size, 0, none⟩ = some (.int .i64 1) := (cell_of_row _ W.heap.size 0 _ _ _ e1).trans rfl
  have c1 : (W.alloc (.cells #[.int .i64 1, .int .i64 N, .string g, .string n, .int .i64 ep, .int .i64 kd, .slice q nb c] 48)).cell? ⟨W.heap.size, 1, none⟩ = some (.int .i64 N) := (cell_of_row _ W.heap.size 1 _ _ _ e1).trans rfl
  have c2 : (W.alloc (.cells #[.int .i64 1, .int .i64 N, .string g, .string n, .int .i64 ep, .int .i64 kd, .slice q nb c] 48)).cell? ⟨W.heap.size, 2, none⟩ = some (.string g) := (cell_of_row _ W.heap.size 2 _ _ _ e1).trans rfl
  have c3 : (W.alloc (.cells #[.int .i64 1, .int .i64 N, .string g, .string n, .int .i64 ep, .int .i64 kd, .slice q nb c] 48)).cell? ⟨W.heap.size, 3, none⟩ = some (.string n) := (cell_of_row _ W.heap.size 3 _ _ _ e1).trans rfl
  have c4 : (W.alloc (.cells #[.int .i64 1, .int .i64 N, .string g, .string n, .int .i64 ep, .int .i64 kd, .slice q nb c] 48)).cell? ⟨W.heap.size, 4, none⟩ = some (.int .i64 ep) := (cell_of_row _ W.heap.size 4 _ _ _ e1).trans rfl
  have c5 : (W.alloc (.cells #[.int .i64 1, .int .i64 N, .string g, .string n, .int .i64 ep, .int .i64 kd, .slice q nb c] 48)).cell? ⟨W.heap.size, 5, none⟩ = some (.int .i64 kd) := (cell_of_row _ W.heap.size 5 _ _ _ e1).trans rfl
  have c6 : (W.alloc (.cells #[.int .i64 1, .int .i64 N, .string g, .string n, .int .i64 ep, .int .i64 kd, .slice q nb c] 48)).cell? ⟨W.heap.size, 6, none⟩ = some (.slice q nb c) := (cell_of_row _ W.heap.size 6 _ _ _ e1).trans rfl
  have HI := Lib.hid (h.keep hb1)
  clear hb1 e1 h
  go_enter Try.func19, Try.ntmps19
  go_wp2_with fail
  refine (take_I HI.out n).mono ?_
  rintro e w2 ⟨v, r, rfl, hi2⟩
  have HI2 := Lib.hid (hi2.imp (Q := fun A' => ∃ A, P A ∧ DoA A ⟨1, N, g, n, ep, kd, q, nb, c, l⟩ r A') (fun A' h => by obtain ⟨A, h1, h2, _⟩ := h; exact ⟨A, h1, .inr (.inl ⟨rfl, v, h2⟩)⟩))
  clear hi2 HI c0 c1 c2 c3 c4 c5 c6
  go_wp2_with (go_at_call 9; refine (num22_any _ _).mono ?_; rintro e w' ⟨rfl, rfl⟩)
  go_ret
  exact ⟨r, rfl, HI2.out⟩
set_option maxRecDepth 100000 in
set_option maxHeartbeats 8000000 in
theorem do_2 {w W : World} {b : Nat} {P : Abs → Prop} (h : Inv w b P W) (N : Int) (g n : ByteArray) (ep kd : Int) (q : Option Addr) (nb c : Nat) (l : List Int) :
    Calls Try.prog 19 #[.pointer (some ⟨b, 0, none⟩), .agg #[.int .i64 2, .int .i64 N, .string g, .string n, .int .i64 ep, .int .i64 kd, .slice q nb c]] W fun e W' => ∃ r : Int, e = .returned (.int .i64 r) ∧ Inv w b (fun A' => ∃ A, P A ∧ DoA A ⟨2, N, g, n, ep, kd, q, nb, c, l⟩ r A') W' := by
  have hb1 : Below W.heap.size W (W.alloc (.cells #[.int .i64 2, .int .i64 N, .string g, .string n, .int .i64 ep, .int .i64 kd, .slice q nb c] 48)) := (Below.refl _ _).alloc (Nat.le_refl _) _
  have e1 := alloc_at W (.cells #[.int .i64 2, .int .i64 N, .string g, .string n, .int .i64 ep, .int .i64 kd, .slice q nb c] 48)
  have c0 : (W.alloc (.cells #[.int .i64 2, .int .i64 N, .string g, .string n, .int .i64 ep, .int .i64 kd, .slice q nb c] 48)).cell? ⟨W.heap.size, 0, none⟩ = some (.int .i64 2) := (cell_of_row _ W.heap.size 0 _ _ _ e1).trans rfl
  have c1 : (W.alloc (.cells #[.int .i64 2, .int .i64 N, .string g, .string n, .int .i64 ep, .int .i64 kd, .slice q nb c] 48)).cell? ⟨W.heap.size, 1, none⟩ = some (.int .i64 N) := (cell_of_row _ W.heap.size 1 _ _ _ e1).trans rfl
  have c2 : (W.alloc (.cells #[.int .i64 2, .int .i64 N, .string g, .string n, .int .i64 ep, .int .i64 kd, .slice q nb c] 48)).cell? ⟨W.heap.size, 2, none⟩ = some (.string g) := (cell_of_row _ W.heap.size 2 _ _ _ e1).trans rfl
  have c3 : (W.alloc (.cells #[.int .i64 2, .int .i64 N, .string g, .string n, .int .i64 ep, .int .i64 kd, .slice q nb c] 48)).cell? ⟨W.heap.size, 3, none⟩ = some (.string n) := (cell_of_row _ W.heap.size 3 _ _ _ e1).trans rfl
  have c4 : (W.alloc (.cells #[.int .i64 2, .int .i64 N, .string g, .string n, .int .i64 ep, .int .i64 kd, .slice q nb c] 48)).cell? ⟨W.heap.size, 4, none⟩ = some (.int .i64 ep) := (cell_of_row _ W.heap.size 4 _ _ _ e1).trans rfl
  have c5 : (W.alloc (.cells #[.int .i64 2, .int .i64 N, .string g, .string n, .int .i64 ep, .int .i64 kd, .slice q nb c] 48)).cell? ⟨W.heap.size, 5, none⟩ = some (.int .i64 kd) := (cell_of_row _ W.heap.size 5 _ _ _ e1).trans rfl
  have c6 : (W.alloc (.cells #[.int .i64 2, .int .i64 N, .string g, .string n, .int .i64 ep, .int .i64 kd, .slice q nb c] 48)).cell? ⟨W.heap.size, 6, none⟩ = some (.slice q nb c) := (cell_of_row _ W.heap.size 6 _ _ _ e1).trans rfl
  have HI := Lib.hid (h.keep hb1)
  clear hb1 e1 h
  go_enter Try.func19, Try.ntmps19
  go_wp2_with fail
  refine (open_I HI.out g N).mono ?_
  rintro e w2 ⟨r, rfl, hi2⟩
  have HI2 := Lib.hid (hi2.imp (Q := fun A' => ∃ A, P A ∧ DoA A ⟨2, N, g, n, ep, kd, q, nb, c, l⟩ r A') (fun A' h => by obtain ⟨A, h1, h2⟩ := h; exact ⟨A, h1, .inr (.inr (.inl ⟨rfl, h2⟩))⟩))
  clear hi2 HI c0 c1 c2 c3 c4 c5 c6
  go_wp2_with (go_at_call 9; refine (num22_any _ _).mono ?_; rintro e w' ⟨rfl, rfl⟩)
  go_ret
  exact ⟨r, rfl, HI2.out⟩
set_option maxRecDepth 100000 in
set_option maxHeartbeats 8000000 in
theorem do_3 {w W : World} {b : Nat} {P : Abs → Prop} (h : Inv w b P W) (N : Int) (g n : ByteArray) (ep kd : Int) (q : Option Addr) (nb c : Nat) (l : List Int) :
    Calls Try.prog 19 #[.pointer (some ⟨b, 0, none⟩), .agg #[.int .i64 3, .int .i64 N, .string g, .string n, .int .i64 ep, .int .i64 kd, .slice q nb c]] W fun e W' => ∃ r : Int, e = .returned (.int .i64 r) ∧ Inv w b (fun A' => ∃ A, P A ∧ DoA A ⟨3, N, g, n, ep, kd, q, nb, c, l⟩ r A') W' := by
  have hb1 : Below W.heap.size W (W.alloc (.cells #[.int .i64 3, .int .i64 N, .string g, .string n, .int .i64 ep, .int .i64 kd, .slice q nb c] 48)) := (Below.refl _ _).alloc (Nat.le_refl _) _
  have e1 := alloc_at W (.cells #[.int .i64 3, .int .i64 N, .string g, .string n, .int .i64 ep, .int .i64 kd, .slice q nb c] 48)
  have c0 : (W.alloc (.cells #[.int .i64 3, .int .i64 N, .string g, .string n, .int .i64 ep, .int .i64 kd, .slice q nb c] 48)).cell? ⟨W.heap.size, 0, none⟩ = some (.int .i64 3) := (cell_of_row _ W.heap.size 0 _ _ _ e1).trans rfl
  have c1 : (W.alloc (.cells #[.int .i64 3, .int .i64 N, .string g, .string n, .int .i64 ep, .int .i64 kd, .slice q nb c] 48)).cell? ⟨W.heap.size, 1, none⟩ = some (.int .i64 N) := (cell_of_row _ W.heap.size 1 _ _ _ e1).trans rfl
  have c2 : (W.alloc (.cells #[.int .i64 3, .int .i64 N, .string g, .string n, .int .i64 ep, .int .i64 kd, .slice q nb c] 48)).cell? ⟨W.heap.size, 2, none⟩ = some (.string g) := (cell_of_row _ W.heap.size 2 _ _ _ e1).trans rfl
  have c3 : (W.alloc (.cells #[.int .i64 3, .int .i64 N, .string g, .string n, .int .i64 ep, .int .i64 kd, .slice q nb c] 48)).cell? ⟨W.heap.size, 3, none⟩ = some (.string n) := (cell_of_row _ W.heap.size 3 _ _ _ e1).trans rfl
  have c4 : (W.alloc (.cells #[.int .i64 3, .int .i64 N, .string g, .string n, .int .i64 ep, .int .i64 kd, .slice q nb c] 48)).cell? ⟨W.heap.size, 4, none⟩ = some (.int .i64 ep) := (cell_of_row _ W.heap.size 4 _ _ _ e1).trans rfl
  have c5 : (W.alloc (.cells #[.int .i64 3, .int .i64 N, .string g, .string n, .int .i64 ep, .int .i64 kd, .slice q nb c] 48)).cell? ⟨W.heap.size, 5, none⟩ = some (.int .i64 kd) := (cell_of_row _ W.heap.size 5 _ _ _ e1).trans rfl
  have c6 : (W.alloc (.cells #[.int .i64 3, .int .i64 N, .string g, .string n, .int .i64 ep, .int .i64 kd, .slice q nb c] 48)).cell? ⟨W.heap.size, 6, none⟩ = some (.slice q nb c) := (cell_of_row _ W.heap.size 6 _ _ _ e1).trans rfl
  have HI := Lib.hid (h.keep hb1)
  clear hb1 e1 h
  go_enter Try.func19, Try.ntmps19
  go_wp2_with fail
  refine (join_I HI.out g n).mono ?_
  rintro e w2 ⟨r, rfl, hi2⟩
  have HI2 := Lib.hid (hi2.imp (Q := fun A' => ∃ A, P A ∧ DoA A ⟨3, N, g, n, ep, kd, q, nb, c, l⟩ r A') (fun A' h => by obtain ⟨A, h1, h2⟩ := h; exact ⟨A, h1, .inr (.inr (.inr (.inl ⟨rfl, h2⟩)))⟩))
  clear hi2 HI c0 c1 c2 c3 c4 c5 c6
  go_wp2_with (go_at_call 9; refine (num22_any _ _).mono ?_; rintro e w' ⟨rfl, rfl⟩)
  go_ret
  exact ⟨r, rfl, HI2.out⟩
set_option maxRecDepth 100000 in
set_option maxHeartbeats 8000000 in
theorem do_4 {w W : World} {b : Nat} {P : Abs → Prop} (h : Inv w b P W) (N : Int) (g n : ByteArray) (ep kd : Int) (q : Option Addr) (nb c : Nat) (l : List Int) :
    Calls Try.prog 19 #[.pointer (some ⟨b, 0, none⟩), .agg #[.int .i64 4, .int .i64 N, .string g, .string n, .int .i64 ep, .int .i64 kd, .slice q nb c]] W fun e W' => ∃ r : Int, e = .returned (.int .i64 r) ∧ Inv w b (fun A' => ∃ A, P A ∧ DoA A ⟨4, N, g, n, ep, kd, q, nb, c, l⟩ r A') W' := by
  have hb1 : Below W.heap.size W (W.alloc (.cells #[.int .i64 4, .int .i64 N, .string g, .string n, .int .i64 ep, .int .i64 kd, .slice q nb c] 48)) := (Below.refl _ _).alloc (Nat.le_refl _) _
  have e1 := alloc_at W (.cells #[.int .i64 4, .int .i64 N, .string g, .string n, .int .i64 ep, .int .i64 kd, .slice q nb c] 48)
  have c0 : (W.alloc (.cells #[.int .i64 4, .int .i64 N, .string g, .string n, .int .i64 ep, .int .i64 kd, .slice q nb c] 48)).cell? ⟨W.heap.size, 0, none⟩ = some (.int .i64 4) := (cell_of_row _ W.heap.size 0 _ _ _ e1).trans rfl
  have c1 : (W.alloc (.cells #[.int .i64 4, .int .i64 N, .string g, .string n, .int .i64 ep, .int .i64 kd, .slice q nb c] 48)).cell? ⟨W.heap.size, 1, none⟩ = some (.int .i64 N) := (cell_of_row _ W.heap.size 1 _ _ _ e1).trans rfl
  have c2 : (W.alloc (.cells #[.int .i64 4, .int .i64 N, .string g, .string n, .int .i64 ep, .int .i64 kd, .slice q nb c] 48)).cell? ⟨W.heap.size, 2, none⟩ = some (.string g) := (cell_of_row _ W.heap.size 2 _ _ _ e1).trans rfl
  have c3 : (W.alloc (.cells #[.int .i64 4, .int .i64 N, .string g, .string n, .int .i64 ep, .int .i64 kd, .slice q nb c] 48)).cell? ⟨W.heap.size, 3, none⟩ = some (.string n) := (cell_of_row _ W.heap.size 3 _ _ _ e1).trans rfl
  have c4 : (W.alloc (.cells #[.int .i64 4, .int .i64 N, .string g, .string n, .int .i64 ep, .int .i64 kd, .slice q nb c] 48)).cell? ⟨W.heap.size, 4, none⟩ = some (.int .i64 ep) := (cell_of_row _ W.heap.size 4 _ _ _ e1).trans rfl
  have c5 : (W.alloc (.cells #[.int .i64 4, .int .i64 N, .string g, .string n, .int .i64 ep, .int .i64 kd, .slice q nb c] 48)).cell? ⟨W.heap.size, 5, none⟩ = some (.int .i64 kd) := (cell_of_row _ W.heap.size 5 _ _ _ e1).trans rfl
  have c6 : (W.alloc (.cells #[.int .i64 4, .int .i64 N, .string g, .string n, .int .i64 ep, .int .i64 kd, .slice q nb c] 48)).cell? ⟨W.heap.size, 6, none⟩ = some (.slice q nb c) := (cell_of_row _ W.heap.size 6 _ _ _ e1).trans rfl
  have HI := Lib.hid (h.keep hb1)
  clear hb1 e1 h
  go_enter Try.func19, Try.ntmps19
  go_wp2_with fail
  refine (leave_I HI.out g n).mono ?_
  rintro e w2 ⟨r, rfl, hi2⟩
  have HI2 := Lib.hid (hi2.imp (Q := fun A' => ∃ A, P A ∧ DoA A ⟨4, N, g, n, ep, kd, q, nb, c, l⟩ r A') (fun A' h => by obtain ⟨A, h1, h2⟩ := h; exact ⟨A, h1, .inr (.inr (.inr (.inr (.inl ⟨rfl, h2⟩))))⟩))
  clear hi2 HI c0 c1 c2 c3 c4 c5 c6
  go_wp2_with (go_at_call 9; refine (num22_any _ _).mono ?_; rintro e w' ⟨rfl, rfl⟩)
  go_ret
  exact ⟨r, rfl, HI2.out⟩
set_option maxRecDepth 100000 in
set_option maxHeartbeats 8000000 in
theorem do_5 {w W : World} {b : Nat} {P : Abs → Prop} (h : Inv w b P W) (N : Int) (g n : ByteArray) (ep kd : Int) (q : Option Addr) (nb c : Nat) (l : List Int) (hx : Bs w q nb l) (hlen : ∀ A gs, P A → A.gq g = some gs → gs.log.length ≤ 2000000000000) :
    Calls Try.prog 19 #[.pointer (some ⟨b, 0, none⟩), .agg #[.int .i64 5, .int .i64 N, .string g, .string n, .int .i64 ep, .int .i64 kd, .slice q nb c]] W fun e W' => ∃ r : Int, e = .returned (.int .i64 r) ∧ Inv w b (fun A' => ∃ A, P A ∧ DoA A ⟨5, N, g, n, ep, kd, q, nb, c, l⟩ r A') W' := by
  have hb1 : Below W.heap.size W (W.alloc (.cells #[.int .i64 5, .int .i64 N, .string g, .string n, .int .i64 ep, .int .i64 kd, .slice q nb c] 48)) := (Below.refl _ _).alloc (Nat.le_refl _) _
  have e1 := alloc_at W (.cells #[.int .i64 5, .int .i64 N, .string g, .string n, .int .i64 ep, .int .i64 kd, .slice q nb c] 48)
  have c0 : (W.alloc (.cells #[.int .i64 5, .int .i64 N, .string g, .string n, .int .i64 ep, .int .i64 kd, .slice q nb c] 48)).cell? ⟨W.heap.size, 0, none⟩ = some (.int .i64 5) := (cell_of_row _ W.heap.size 0 _ _ _ e1).trans rfl
  have c1 : (W.alloc (.cells #[.int .i64 5, .int .i64 N, .string g, .string n, .int .i64 ep, .int .i64 kd, .slice q nb c] 48)).cell? ⟨W.heap.size, 1, none⟩ = some (.int .i64 N) := (cell_of_row _ W.heap.size 1 _ _ _ e1).trans rfl
  have c2 : (W.alloc (.cells #[.int .i64 5, .int .i64 N, .string g, .string n, .int .i64 ep, .int .i64 kd, .slice q nb c] 48)).cell? ⟨W.heap.size, 2, none⟩ = some (.string g) := (cell_of_row _ W.heap.size 2 _ _ _ e1).trans rfl
  have c3 : (W.alloc (.cells #[.int .i64 5, .int .i64 N, .string g, .string n, .int .i64 ep, .int .i64 kd, .slice q nb c] 48)).cell? ⟨W.heap.size, 3, none⟩ = some (.string n) := (cell_of_row _ W.heap.size 3 _ _ _ e1).trans rfl
  have c4 : (W.alloc (.cells #[.int .i64 5, .int .i64 N, .string g, .string n, .int .i64 ep, .int .i64 kd, .slice q nb c] 48)).cell? ⟨W.heap.size, 4, none⟩ = some (.int .i64 ep) := (cell_of_row _ W.heap.size 4 _ _ _ e1).trans rfl
  have c5 : (W.alloc (.cells #[.int .i64 5, .int .i64 N, .string g, .string n, .int .i64 ep, .int .i64 kd, .slice q nb c] 48)).cell? ⟨W.heap.size, 5, none⟩ = some (.int .i64 kd) := (cell_of_row _ W.heap.size 5 _ _ _ e1).trans rfl
  have c6 : (W.alloc (.cells #[.int .i64 5, .int .i64 N, .string g, .string n, .int .i64 ep, .int .i64 kd, .slice q nb c] 48)).cell? ⟨W.heap.size, 6, none⟩ = some (.slice q nb c) := (cell_of_row _ W.heap.size 6 _ _ _ e1).trans rfl
  have HI := Lib.hid (h.keep hb1)
  have HX := Lib.hid hx
  clear hx
  have HLN := Lib.hid hlen
  clear hlen
  clear hb1 e1 h
  go_enter Try.func19, Try.ntmps19
  go_wp2_with fail
  refine (send_I HI.out g ep kd q nb c l (HX.out.keep HI.out.below) HLN.out).mono ?_
  rintro e w2 ⟨k, r, rfl, hi2⟩
  have HI2 := Lib.hid (hi2.imp (Q := fun A' => ∃ A, P A ∧ DoA A ⟨5, N, g, n, ep, kd, q, nb, c, l⟩ r A') (fun A' h => by obtain ⟨A, h1, h2⟩ := h; exact ⟨A, h1, .inr (.inr (.inr (.inr (.inr (.inl ⟨rfl, k, h2⟩)))))⟩))
  clear hi2 HI c0 c1 c2 c3 c4 c5 c6
  go_wp2_with (go_at_call 9; refine (num22_any _ _).mono ?_; rintro e w' ⟨rfl, rfl⟩)
  go_ret
  exact ⟨r, rfl, HI2.out⟩
set_option maxRecDepth 100000 in
set_option maxHeartbeats 8000000 in
theorem do_6 {w W : World} {b : Nat} {P : Abs → Prop} (h : Inv w b P W) (N : Int) (g n : ByteArray) (ep kd : Int) (q : Option Addr) (nb c : Nat) (l : List Int) :
    Calls Try.prog 19 #[.pointer (some ⟨b, 0, none⟩), .agg #[.int .i64 6, .int .i64 N, .string g, .string n, .int .i64 ep, .int .i64 kd, .slice q nb c]] W fun e W' => ∃ r : Int, e = .returned (.int .i64 r) ∧ Inv w b (fun A' => ∃ A, P A ∧ DoA A ⟨6, N, g, n, ep, kd, q, nb, c, l⟩ r A') W' := by
  have hb1 : Below W.heap.size W (W.alloc (.cells #[.int .i64 6, .int .i64 N, .string g, .string n, .int .i64 ep, .int .i64 kd, .slice q nb c] 48)) := (Below.refl _ _).alloc (Nat.le_refl _) _
  have e1 := alloc_at W (.cells #[.int .i64 6, .int .i64 N, .string g, .string n, .int .i64 ep, .int .i64 kd, .slice q nb c] 48)
  have c0 : (W.alloc (.cells #[.int .i64 6, .int .i64 N, .string g, .string n, .int .i64 ep, .int .i64 kd, .slice q nb c] 48)).cell? ⟨W.heap.size, 0, none⟩ = some (.int .i64 6) := (cell_of_row _ W.heap.size 0 _ _ _ e1).trans rfl
  have c1 : (W.alloc (.cells #[.int .i64 6, .int .i64 N, .string g, .string n, .int .i64 ep, .int .i64 kd, .slice q nb c] 48)).cell? ⟨W.heap.size, 1, none⟩ = some (.int .i64 N) := (cell_of_row _ W.heap.size 1 _ _ _ e1).trans rfl
  have c2 : (W.alloc (.cells #[.int .i64 6, .int .i64 N, .string g, .string n, .int .i64 ep, .int .i64 kd, .slice q nb c] 48)).cell? ⟨W.heap.size, 2, none⟩ = some (.string g) := (cell_of_row _ W.heap.size 2 _ _ _ e1).trans rfl
  have c3 : (W.alloc (.cells #[.int .i64 6, .int .i64 N, .string g, .string n, .int .i64 ep, .int .i64 kd, .slice q nb c] 48)).cell? ⟨W.heap.size, 3, none⟩ = some (.string n) := (cell_of_row _ W.heap.size 3 _ _ _ e1).trans rfl
  have c4 : (W.alloc (.cells #[.int .i64 6, .int .i64 N, .string g, .string n, .int .i64 ep, .int .i64 kd, .slice q nb c] 48)).cell? ⟨W.heap.size, 4, none⟩ = some (.int .i64 ep) := (cell_of_row _ W.heap.size 4 _ _ _ e1).trans rfl
  have c5 : (W.alloc (.cells #[.int .i64 6, .int .i64 N, .string g, .string n, .int .i64 ep, .int .i64 kd, .slice q nb c] 48)).cell? ⟨W.heap.size, 5, none⟩ = some (.int .i64 kd) := (cell_of_row _ W.heap.size 5 _ _ _ e1).trans rfl
  have c6 : (W.alloc (.cells #[.int .i64 6, .int .i64 N, .string g, .string n, .int .i64 ep, .int .i64 kd, .slice q nb c] 48)).cell? ⟨W.heap.size, 6, none⟩ = some (.slice q nb c) := (cell_of_row _ W.heap.size 6 _ _ _ e1).trans rfl
  have HI := Lib.hid (h.keep hb1)
  clear hb1 e1 h
  go_enter Try.func19, Try.ntmps19
  go_wp2_with fail
  refine (pick_I HI.out n N).mono ?_
  rintro e w2 ⟨v, r, rfl, hi2⟩
  obtain ⟨A', A, hA, hp⟩ := hi2.ex
  obtain ⟨y0, y1, y2, y3, y4, rfl, hone⟩ := pic_form hp
  have e2 := alloc_at w2 (.cells #[.string { data := #[] }, .int .i64 0, .int .i64 0, .int .i64 0, .slice none 0 0] 38)
  have hb9 : Below w2.heap.size w2 ((w2.alloc (.cells #[.string { data := #[] }, .int .i64 0, .int .i64 0, .int .i64 0, .slice none 0 0] 38)).setRow w2.heap.size #[y0, y1, y2, y3, y4]) := setRow_below ((Below.refl _ _).alloc (Nat.le_refl _) _) (Nat.le_refl _) _
  clear hp hA A A'
  have HI2 := Lib.hid ((hi2.keep hb9).imp (Q := fun A' => ∃ A, P A ∧ DoA A ⟨6, N, g, n, ep, kd, q, nb, c, l⟩ r A') (fun A' h => by obtain ⟨A, h1, h2⟩ := h; exact ⟨A, h1, .inr (.inr (.inr (.inr (.inr (.inr (.inl ⟨rfl, _, _, h2⟩))))))⟩))
  clear hi2 HI c0 c1 c2 c3 c4 c5 c6 hb9
  go_wp2_with (first | (refine wpList_store_row rfl 38 (.tmp 9) (.tmp 91) rfl w2.heap.size #[y0, y1, y2, y3, y4] rfl rfl 38 #[.string { data := #[] }, .int .i64 0, .int .i64 0, .int .i64 0, .slice none 0 0] e2 infoW5 rfl hone ?_) | (go_at_call 9; refine (num22_any _ _).mono ?_; rintro e w' ⟨rfl, rfl⟩))
  go_ret
  exact ⟨r, rfl, HI2.out⟩
set_option maxRecDepth 100000 in
set_option maxHeartbeats 8000000 in
theorem do_x {w W : World} {b : Nat} {P : Abs → Prop} (h : Inv w b P W) (kind N : Int) (g n : ByteArray) (ep kd : Int) (q : Option Addr) (nb c : Nat) (l : List Int) (hk : kind < 0 ∨ 6 < kind) :
    Calls Try.prog 19 #[.pointer (some ⟨b, 0, none⟩), .agg #[.int .i64 kind, .int .i64 N, .string g, .string n, .int .i64 ep, .int .i64 kd, .slice q nb c]] W fun e W' => ∃ r : Int, e = .returned (.int .i64 r) ∧ Inv w b (fun A' => ∃ A, P A ∧ DoA A ⟨kind, N, g, n, ep, kd, q, nb, c, l⟩ r A') W' := by
  have hb1 : Below W.heap.size W (W.alloc (.cells #[.int .i64 kind, .int .i64 N, .string g, .string n, .int .i64 ep, .int .i64 kd, .slice q nb c] 48)) := (Below.refl _ _).alloc (Nat.le_refl _) _
  have e1 := alloc_at W (.cells #[.int .i64 kind, .int .i64 N, .string g, .string n, .int .i64 ep, .int .i64 kd, .slice q nb c] 48)
  have c0 : (W.alloc (.cells #[.int .i64 kind, .int .i64 N, .string g, .string n, .int .i64 ep, .int .i64 kd, .slice q nb c] 48)).cell? ⟨W.heap.size, 0, none⟩ = some (.int .i64 kind) := (cell_of_row _ W.heap.size 0 _ _ _ e1).trans rfl
  have c1 : (W.alloc (.cells #[.int .i64 kind, .int .i64 N, .string g, .string n, .int .i64 ep, .int .i64 kd, .slice q nb c] 48)).cell? ⟨W.heap.size, 1, none⟩ = some (.int .i64 N) := (cell_of_row _ W.heap.size 1 _ _ _ e1).trans rfl
  have c2 : (W.alloc (.cells #[.int .i64 kind, .int .i64 N, .string g, .string n, .int .i64 ep, .int .i64 kd, .slice q nb c] 48)).cell? ⟨W.heap.size, 2, none⟩ = some (.string g) := (cell_of_row _ W.heap.size 2 _ _ _ e1).trans rfl
  have c3 : (W.alloc (.cells #[.int .i64 kind, .int .i64 N, .string g, .string n, .int .i64 ep, .int .i64 kd, .slice q nb c] 48)).cell? ⟨W.heap.size, 3, none⟩ = some (.string n) := (cell_of_row _ W.heap.size 3 _ _ _ e1).trans rfl
  have c4 : (W.alloc (.cells #[.int .i64 kind, .int .i64 N, .string g, .string n, .int .i64 ep, .int .i64 kd, .slice q nb c] 48)).cell? ⟨W.heap.size, 4, none⟩ = some (.int .i64 ep) := (cell_of_row _ W.heap.size 4 _ _ _ e1).trans rfl
  have c5 : (W.alloc (.cells #[.int .i64 kind, .int .i64 N, .string g, .string n, .int .i64 ep, .int .i64 kd, .slice q nb c] 48)).cell? ⟨W.heap.size, 5, none⟩ = some (.int .i64 kd) := (cell_of_row _ W.heap.size 5 _ _ _ e1).trans rfl
  have c6 : (W.alloc (.cells #[.int .i64 kind, .int .i64 N, .string g, .string n, .int .i64 ep, .int .i64 kd, .slice q nb c] 48)).cell? ⟨W.heap.size, 6, none⟩ = some (.slice q nb c) := (cell_of_row _ W.heap.size 6 _ _ _ e1).trans rfl
  have HI := Lib.hid (h.keep hb1)
  have k0 : (kind == 0) = false := by simp; omega
  have j0 : decide (kind = 0) = false := by simp; omega
  have k1 : (kind == 1) = false := by simp; omega
  have j1 : decide (kind = 1) = false := by simp; omega
  have k2 : (kind == 2) = false := by simp; omega
  have j2 : decide (kind = 2) = false := by simp; omega
  have k3 : (kind == 3) = false := by simp; omega
  have j3 : decide (kind = 3) = false := by simp; omega
  have k4 : (kind == 4) = false := by simp; omega
  have j4 : decide (kind = 4) = false := by simp; omega
  have k5 : (kind == 5) = false := by simp; omega
  have j5 : decide (kind = 5) = false := by simp; omega
  have k6 : (kind == 6) = false := by simp; omega
  have j6 : decide (kind = 6) = false := by simp; omega
  have HK := Lib.hid hk
  clear hk
  clear hb1 e1 h
  go_enter Try.func19, Try.ntmps19
  go_wp2_with fail
  go_ret
  exact ⟨0, rfl, HI.out.imp (fun A h => ⟨A, h, .inr (.inr (.inr (.inr (.inr (.inr (.inr ⟨HK.out, rfl, rfl⟩))))))⟩)⟩
/-- Any operation. -/
theorem do_I {w W : World} {b : Nat} {P : Abs → Prop} (h : Inv w b P W) (o : OpS) (hx : Bs w o.q o.nb o.l) (hlen : ∀ A gs, P A → A.gq o.g = some gs → gs.log.length ≤ 2000000000000) :
    Calls Try.prog 19 #[.pointer (some ⟨b, 0, none⟩), o.v] W fun e W' => ∃ r : Int, e = .returned (.int .i64 r) ∧ Inv w b (fun A' => ∃ A, P A ∧ DoA A o r A') W' := by
  obtain ⟨kind, N, g, n, ep, kd, q, nb, c, l⟩ := o
  by_cases hk : kind < 0 ∨ 6 < kind
  · exact do_x h kind N g n ep kd q nb c l hk
  · rcases (show kind = 0 ∨ kind = 1 ∨ kind = 2 ∨ kind = 3 ∨ kind = 4 ∨ kind = 5 ∨ kind = 6 by omega) with rfl | rfl | rfl | rfl | rfl | rfl | rfl
    · exact do_0 h N g n ep kd q nb c l hx
    · exact do_1 h N g n ep kd q nb c l
    · exact do_2 h N g n ep kd q nb c l
    · exact do_3 h N g n ep kd q nb c l
    · exact do_4 h N g n ep kd q nb c l
    · exact do_5 h N g n ep kd q nb c l hx hlen
    · exact do_6 h N g n ep kd q nb c l
end Go.Proofs.Ytiebggfpjkhlaaa
