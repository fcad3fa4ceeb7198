/- The walk of the laws' do: any operation as a step, and what it turns. No condition. -/
import Derived.Test.YtiebggfpjkhlaaaDr
namespace Go.Proofs.Ytiebggfpjkhlaaa
open Go Go.RowKit
set_option linter.unusedSimpArgs false
set_option maxRecDepth 100000 in
set_option maxHeartbeats 8000000 in
theorem dos_0 {B b m0 m1 m2 : Nat} {A : Abs} {os : List Nat} {W : World} (h : SRep B b m0 m1 m2 A os W) (N : Int) (g n : ByteArray) (ep kd : Int) (q : Option Addr) (nb c : Nat) (l : List Int) (hx : ∀ W', Chg os W W' → Bs W' q nb l) :
    Calls Try.prog 19 #[.pointer (some ⟨b, 0, none⟩), .agg #[.int .i64 0, .int .i64 N, .string g, .string n, .int .i64 ep, .int .i64 kd, .slice q nb c]] W (Did B b m0 m1 m2 os W fun v A' _ => ∃ r : Int, v = .int .i64 r ∧ DoA A ⟨0, N, g, n, ep, kd, q, nb, c, l⟩ r A') := by
  have hb1 : Below W.heap.size W (W.alloc (.cells #[.int .i64 0, .int .i64 N, .string g, .string n, .int .i64 ep, .int .i64 kd, .slice q nb c] 48)) := (Below.refl _ _).alloc (Nat.le_refl _) _
  have e1 := alloc_at W (.cells #[.int .i64 0, .int .i64 N, .string g, .string n, .int .i64 ep, .int .i64 kd, .slice q nb c] 48)
  have c0 : (W.alloc (.cells #[.int .i64 0, .int .i64 N, .string g, .string n, .int .i64 ep, .int .i64 kd, .slice q nb c] 48)).cell? ⟨W.heap.size, 0, none⟩ = some (.int .i64 0) := (cell_of_row _ W.heap.size 0 _ _ _ e1).trans rfl
  have c1 : (W.alloc (.cells #[.int .i64 0, .int .i64 N, .string g, .string n, .int .i64 ep, .int .i64 kd, .slice q nb c] 48)).cell? ⟨W.heap.size, 1, none⟩ = some (.int .i64 N) := (cell_of_row _ W.heap.size 1 _ _ _ e1).trans rfl
  have c2 : (W.alloc (.cells #[.int .i64 0, .int .i64 N, .string g, .string n, .int .i64 ep, .int .i64 kd, .slice q nb c] 48)).cell? ⟨W.heap.size, 2, none⟩ = some (.string g) := (cell_of_row _ W.heap.size 2 _ _ _ e1).trans rfl
  have c3 : (W.alloc (.cells #[.int .i64 0, .int .i64 N, .string g, .string n, .int .i64 ep, .int .i64 kd, .slice q nb c] 48)).cell? ⟨W.heap.size, 3, none⟩ = some (.string n) := (cell_of_row _ W.heap.size 3 _ _ _ e1).trans rfl
  have c4 : (W.alloc (.cells #[.int .i64 0, .int .i64 N, .string g, .string n, .int .i64 ep, .int .i64 kd, .slice q nb c] 48)).cell? ⟨W.heap.size, 4, none⟩ = some (.int .i64 ep) := (cell_of_row _ W.heap.size 4 _ _ _ e1).trans rfl
  have c5 : (W.alloc (.cells #[.int .i64 0, .int .i64 N, .string g, .string n, .int .i64 ep, .int .i64 kd, .slice q nb c] 48)).cell? ⟨W.heap.size, 5, none⟩ = some (.int .i64 kd) := (cell_of_row _ W.heap.size 5 _ _ _ e1).trans rfl
  have c6 : (W.alloc (.cells #[.int .i64 0, .int .i64 N, .string g, .string n, .int .i64 ep, .int .i64 kd, .slice q nb c] 48)).cell? ⟨W.heap.size, 6, none⟩ = some (.slice q nb c) := (cell_of_row _ W.heap.size 6 _ _ _ e1).trans rfl
  have HI := Lib.hid (h.keep hb1)
  have HB1 := Lib.hid hb1
  have HX := Lib.hid (fun W' (hc : Chg os (W.alloc (.cells #[.int .i64 0, .int .i64 N, .string g, .string n, .int .i64 ep, .int .i64 kd, .slice q nb c] 48)) W') => hx W' ((Chg.of_below hb1).trans hc))
  clear hx
  clear hb1 e1 h
  go_enter Try.func19, Try.ntmps19
  go_wp2_with fail
  refine (offer_S HI.out n q nb c l HX.out).mono ?_
  rintro e w2 ⟨_, A', os', rfl, hS2, hk2, r, rfl, hd⟩
  have HE := Lib.hid (And.intro (hS2) (And.intro ((Kept.below HB1.out).trans hk2) (show DoA A ⟨0, N, g, n, ep, kd, q, nb, c, l⟩ r A' from .inl ⟨rfl, hd⟩)))
  clear hS2 hk2 hd HI HB1 c0 c1 c2 c3 c4 c5 c6
  go_wp2_with (go_at_call 9; refine (num22_any _ _).mono ?_; rintro e w' ⟨rfl, rfl⟩)
  go_ret
  exact ⟨_, A', os', rfl, HE.out.1, HE.out.2.1, r, rfl, HE.out.2.2⟩
set_option maxRecDepth 100000 in
set_option maxHeartbeats 8000000 in
theorem dos_1 {B b m0 m1 m2 : Nat} {A : Abs} {os : List Nat} {W : World} (h : SRep B b m0 m1 m2 A os W) (N : Int) (g n : ByteArray) (ep kd : Int) (q : Option Addr) (nb c : Nat) (l : List Int) :
    Calls Try.prog 19 #[.pointer (some ⟨b, 0, none⟩), .agg #[.int .i64 1, .int .i64 N, .string g, .string n, .int .i64 ep, .int .i64 kd, .slice q nb c]] W (Did B b m0 m1 m2 os W fun v A' _ => ∃ r : Int, v = .int .i64 r ∧ DoA A ⟨1, N, g, n, ep, kd, q, nb, c, l⟩ r A') := by
  have hb1 : Below W.heap.size W (W.alloc (.cells #[.int .i64 1, .int .i64 N, .string g, .string n, .int .i64 ep, .int .i64 kd, .slice q nb c] 48)) := (Below.refl _ _).alloc (Nat.le_refl _) _
  have e1 := alloc_at W (.cells #[.int .i64 1, .int .i64 N, .string g, .string n, .int .i64 ep, .int .i64 kd, .slice q nb c] 48)
  have c0 : (W.alloc (.cells #[.int .i64 1, .int .i64 N, .string g, .string n, .int .i64 ep, .int .i64 kd, .slice q nb c] 48)).cell? ⟨W.heap.size, 0, none⟩ = some (.int .i64 1) := (cell_of_row _ W.heap.size 0 _ _ _ e1).trans rfl
  have c1 : (W.alloc (.cells #[.int .i64 1, .int .i64 N, .string g, .string n, .int .i64 ep, .int .i64 kd, .slice q nb c] 48)).cell? ⟨W.heap.size, 1, none⟩ = some (.int .i64 N) := (cell_of_row _ W.heap.size 1 _ _ _ e1).trans rfl
  have c2 : (W.alloc (.cells #[.int .i64 1, .int .i64 N, .string g, .string n, .int .i64 ep, .int .i64 kd, .slice q nb c] 48)).cell? ⟨W.heap.size, 2, none⟩ = some (.string g) := (cell_of_row _ W.heap.size 2 _ _ _ e1).trans rfl
  have c3 : (W.alloc (.cells #[.int .i64 1, .int .i64 N, .string g, .string n, .int .i64 ep, .int .i64 kd, .slice q nb c] 48)).cell? ⟨W.heap.size, 3, none⟩ = some (.string n) := (cell_of_row _ W.heap.size 3 _ _ _ e1).trans rfl
  have c4 : (W.alloc (.cells #[.int .i64 1, .int .i64 N, .string g, .string n, .int .i64 ep, .int .i64 kd, .slice q nb c] 48)).cell? ⟨W.heap.size, 4, none⟩ = some (.int .i64 ep) := (cell_of_row _ W.heap.size 4 _ _ _ e1).trans rfl
  have c5 : (W.alloc (.cells #[.int .i64 1, .int .i64 N, .string g, .string n, .int .i64 ep, .int .i64 kd, .slice q nb c] 48)).cell? ⟨W.heap.size, 5, none⟩ = some (.int .i64 kd) := (cell_of_row _ W.heap.size 5 _ _ _ e1).trans rfl
  have c6 : (W.alloc (.cells #[.int .i64 1, .int .i64 N, .string g, .string n, .int .i64 ep, .int .i64 kd, .slice q nb c] 48)).cell? ⟨W.heap.size, 6, none⟩ = some (.slice q nb c) := (cell_of_row _ W.heap.size 6 _ _ _ e1).trans rfl
  have HI := Lib.hid (h.keep hb1)
  have HB1 := Lib.hid hb1
  clear hb1 e1 h
  go_enter Try.func19, Try.ntmps19
  go_wp2_with fail
  refine (take_S HI.out n).mono ?_
  rintro e w2 ⟨_, A', os', rfl, hS2, hk2, v, r, rfl, hd, hcx⟩
  have HE := Lib.hid (And.intro (hS2) (And.intro ((Kept.below HB1.out).trans hk2) (show DoA A ⟨1, N, g, n, ep, kd, q, nb, c, l⟩ r A' from .inr (.inl ⟨rfl, v, hd⟩))))
  clear hS2 hk2 hd HI HB1 c0 c1 c2 c3 c4 c5 c6
  go_wp2_with (go_at_call 9; refine (num22_any _ _).mono ?_; rintro e w' ⟨rfl, rfl⟩)
  go_ret
  exact ⟨_, A', os', rfl, HE.out.1, HE.out.2.1, r, rfl, HE.out.2.2⟩
set_option maxRecDepth 100000 in
set_option maxHeartbeats 8000000 in
theorem dos_2 {B b m0 m1 m2 : Nat} {A : Abs} {os : List Nat} {W : World} (h : SRep B b m0 m1 m2 A os W) (N : Int) (g n : ByteArray) (ep kd : Int) (q : Option Addr) (nb c : Nat) (l : List Int) :
    Calls Try.prog 19 #[.pointer (some ⟨b, 0, none⟩), .agg #[.int .i64 2, .int .i64 N, .string g, .string n, .int .i64 ep, .int .i64 kd, .slice q nb c]] W (Did B b m0 m1 m2 os W fun v A' _ => ∃ r : Int, v = .int .i64 r ∧ DoA A ⟨2, N, g, n, ep, kd, q, nb, c, l⟩ r A') := by
  have hb1 : Below W.heap.size W (W.alloc (.cells #[.int .i64 2, .int .i64 N, .string g, .string n, .int .i64 ep, .int .i64 kd, .slice q nb c] 48)) := (Below.refl _ _).alloc (Nat.le_refl _) _
  have e1 := alloc_at W (.cells #[.int .i64 2, .int .i64 N, .string g, .string n, .int .i64 ep, .int .i64 kd, .slice q nb c] 48)
  have c0 : (W.alloc (.cells #[.int .i64 2, .int .i64 N, .string g, .string n, .int .i64 ep, .int .i64 kd, .slice q nb c] 48)).cell? ⟨W.heap.size, 0, none⟩ = some (.int .i64 2) := (cell_of_row _ W.heap.size 0 _ _ _ e1).trans rfl
  have c1 : (W.alloc (.cells #[.int .i64 2, .int .i64 N, .string g, .string n, .int .i64 ep, .int .i64 kd, .slice q nb c] 48)).cell? ⟨W.heap.size, 1, none⟩ = some (.int .i64 N) := (cell_of_row _ W.heap.size 1 _ _ _ e1).trans rfl
  have c2 : (W.alloc (.cells #[.int .i64 2, .int .i64 N, .string g, .string n, .int .i64 ep, .int .i64 kd, .slice q nb c] 48)).cell? ⟨W.heap.size, 2, none⟩ = some (.string g) := (cell_of_row _ W.heap.size 2 _ _ _ e1).trans rfl
  have c3 : (W.alloc (.cells #[.int .i64 2, .int .i64 N, .string g, .string n, .int .i64 ep, .int .i64 kd, .slice q nb c] 48)).cell? ⟨W.heap.size, 3, none⟩ = some (.string n) := (cell_of_row _ W.heap.size 3 _ _ _ e1).trans rfl
  have c4 : (W.alloc (.cells #[.int .i64 2, .int .i64 N, .string g, .string n, .int .i64 ep, .int .i64 kd, .slice q nb c] 48)).cell? ⟨W.heap.size, 4, none⟩ = some (.int .i64 ep) := (cell_of_row _ W.heap.size 4 _ _ _ e1).trans rfl
  have c5 : (W.alloc (.cells #[.int .i64 2, .int .i64 N, .string g, .string n, .int .i64 ep, .int .i64 kd, .slice q nb c] 48)).cell? ⟨W.heap.size, 5, none⟩ = some (.int .i64 kd) := (cell_of_row _ W.heap.size 5 _ _ _ e1).trans rfl
  have c6 : (W.alloc (.cells #[.int .i64 2, .int .i64 N, .string g, .string n, .int .i64 ep, .int .i64 kd, .slice q nb c] 48)).cell? ⟨W.heap.size, 6, none⟩ = some (.slice q nb c) := (cell_of_row _ W.heap.size 6 _ _ _ e1).trans rfl
  have HI := Lib.hid (h.keep hb1)
  have HB1 := Lib.hid hb1
  clear hb1 e1 h
  go_enter Try.func19, Try.ntmps19
  go_wp2_with fail
  refine (open_S HI.out g N).mono ?_
  rintro e w2 ⟨_, A', os', rfl, hS2, hk2, r, rfl, hd⟩
  have HE := Lib.hid (And.intro (hS2) (And.intro ((Kept.below HB1.out).trans hk2) (show DoA A ⟨2, N, g, n, ep, kd, q, nb, c, l⟩ r A' from .inr (.inr (.inl ⟨rfl, hd⟩)))))
  clear hS2 hk2 hd HI HB1 c0 c1 c2 c3 c4 c5 c6
  go_wp2_with (go_at_call 9; refine (num22_any _ _).mono ?_; rintro e w' ⟨rfl, rfl⟩)
  go_ret
  exact ⟨_, A', os', rfl, HE.out.1, HE.out.2.1, r, rfl, HE.out.2.2⟩
set_option maxRecDepth 100000 in
set_option maxHeartbeats 8000000 in
theorem dos_3 {B b m0 m1 m2 : Nat} {A : Abs} {os : List Nat} {W : World} (h : SRep B b m0 m1 m2 A os W) (N : Int) (g n : ByteArray) (ep kd : Int) (q : Option Addr) (nb c : Nat) (l : List Int) :
    Calls Try.prog 19 #[.pointer (some ⟨b, 0, none⟩), .agg #[.int .i64 3, .int .i64 N, .string g, .string n, .int .i64 ep, .int .i64 kd, .slice q nb c]] W (Did B b m0 m1 m2 os W fun v A' _ => ∃ r : Int, v = .int .i64 r ∧ DoA A ⟨3, N, g, n, ep, kd, q, nb, c, l⟩ r A') := by
  have hb1 : Below W.heap.size W (W.alloc (.cells #[.int .i64 3, .int .i64 N, .string g, .string n, .int .i64 ep, .int .i64 kd, .slice q nb c] 48)) := (Below.refl _ _).alloc (Nat.le_refl _) _
  have e1 := alloc_at W (.cells #[.int .i64 3, .int .i64 N, .string g, .string n, .int .i64 ep, .int .i64 kd, .slice q nb c] 48)
  have c0 : (W.alloc (.cells #[.int .i64 3, .int .i64 N, .string g, .string n, .int .i64 ep, .int .i64 kd, .slice q nb c] 48)).cell? ⟨W.heap.size, 0, none⟩ = some (.int .i64 3) := (cell_of_row _ W.heap.size 0 _ _ _ e1).trans rfl
  have c1 : (W.alloc (.cells #[.int .i64 3, .int .i64 N, .string g, .string n, .int .i64 ep, .int .i64 kd, .slice q nb c] 48)).cell? ⟨W.heap.size, 1, none⟩ = some (.int .i64 N) := (cell_of_row _ W.heap.size 1 _ _ _ e1).trans rfl
  have c2 : (W.alloc (.cells #[.int .i64 3, .int .i64 N, .string g, .string n, .int .i64 ep, .int .i64 kd, .slice q nb c] 48)).cell? ⟨W.heap.size, 2, none⟩ = some (.string g) := (cell_of_row _ W.heap.size 2 _ _ _ e1).trans rfl
  have c3 : (W.alloc (.cells #[.int .i64 3, .int .i64 N, .string g, .string n, .int .i64 ep, .int .i64 kd, .slice q nb c] 48)).cell? ⟨W.heap.size, 3, none⟩ = some (.string n) := (cell_of_row _ W.heap.size 3 _ _ _ e1).trans rfl
  have c4 : (W.alloc (.cells #[.int .i64 3, .int .i64 N, .string g, .string n, .int .i64 ep, .int .i64 kd, .slice q nb c] 48)).cell? ⟨W.heap.size, 4, none⟩ = some (.int .i64 ep) := (cell_of_row _ W.heap.size 4 _ _ _ e1).trans rfl
  have c5 : (W.alloc (.cells #[.int .i64 3, .int .i64 N, .string g, .string n, .int .i64 ep, .int .i64 kd, .slice q nb c] 48)).cell? ⟨W.heap.size, 5, none⟩ = some (.int .i64 kd) := (cell_of_row _ W.heap.size 5 _ _ _ e1).trans rfl
  have c6 : (W.alloc (.cells #[.int .i64 3, .int .i64 N, .string g, .string n, .int .i64 ep, .int .i64 kd, .slice q nb c] 48)).cell? ⟨W.heap.size, 6, none⟩ = some (.slice q nb c) := (cell_of_row _ W.heap.size 6 _ _ _ e1).trans rfl
  have HI := Lib.hid (h.keep hb1)
  have HB1 := Lib.hid hb1
  clear hb1 e1 h
  go_enter Try.func19, Try.ntmps19
  go_wp2_with fail
  refine (join_S HI.out g n).mono ?_
  rintro e w2 ⟨_, A', os', rfl, hS2, hk2, r, rfl, hd⟩
  have HE := Lib.hid (And.intro (hS2) (And.intro ((Kept.below HB1.out).trans hk2) (show DoA A ⟨3, N, g, n, ep, kd, q, nb, c, l⟩ r A' from .inr (.inr (.inr (.inl ⟨rfl, hd⟩))))))
  clear hS2 hk2 hd HI HB1 c0 c1 c2 c3 c4 c5 c6
  go_wp2_with (go_at_call 9; refine (num22_any _ _).mono ?_; rintro e w' ⟨rfl, rfl⟩)
  go_ret
  exact ⟨_, A', os', rfl, HE.out.1, HE.out.2.1, r, rfl, HE.out.2.2⟩
set_option maxRecDepth 100000 in
set_option maxHeartbeats 8000000 in
theorem dos_4 {B b m0 m1 m2 : Nat} {A : Abs} {os : List Nat} {W : World} (h : SRep B b m0 m1 m2 A os W) (N : Int) (g n : ByteArray) (ep kd : Int) (q : Option Addr) (nb c : Nat) (l : List Int) :
    Calls Try.prog 19 #[.pointer (some ⟨b, 0, none⟩), .agg #[.int .i64 4, .int .i64 N, .string g, .string n, .int .i64 ep, .int .i64 kd, .slice q nb c]] W (Did B b m0 m1 m2 os W fun v A' _ => ∃ r : Int, v = .int .i64 r ∧ DoA A ⟨4, N, g, n, ep, kd, q, nb, c, l⟩ r A') := by
  have hb1 : Below W.heap.size W (W.alloc (.cells #[.int .i64 4, .int .i64 N, .string g, .string n, .int .i64 ep, .int .i64 kd, .slice q nb c] 48)) := (Below.refl _ _).alloc (Nat.le_refl _) _
  have e1 := alloc_at W (.cells #[.int .i64 4, .int .i64 N, .string g, .string n, .int .i64 ep, .int .i64 kd, .slice q nb c] 48)
  have c0 : (W.alloc (.cells #[.int .i64 4, .int .i64 N, .string g, .string n, .int .i64 ep, .int .i64 kd, .slice q nb c] 48)).cell? ⟨W.heap.size, 0, none⟩ = some (.int .i64 4) := (cell_of_row _ W.heap.size 0 _ _ _ e1).trans rfl
  have c1 : (W.alloc (.cells #[.int .i64 4, .int .i64 N, .string g, .string n, .int .i64 ep, .int .i64 kd, .slice q nb c] 48)).cell? ⟨W.heap.size, 1, none⟩ = some (.int .i64 N) := (cell_of_row _ W.heap.size 1 _ _ _ e1).trans rfl
  have c2 : (W.alloc (.cells #[.int .i64 4, .int .i64 N, .string g, .string n, .int .i64 ep, .int .i64 kd, .slice q nb c] 48)).cell? ⟨W.heap.size, 2, none⟩ = some (.string g) := (cell_of_row _ W.heap.size 2 _ _ _ e1).trans rfl
  have c3 : (W.alloc (.cells #[.int .i64 4, .int .i64 N, .string g, .string n, .int .i64 ep, .int .i64 kd, .slice q nb c] 48)).cell? ⟨W.heap.size, 3, none⟩ = some (.string n) := (cell_of_row _ W.heap.size 3 _ _ _ e1).trans rfl
  have c4 : (W.alloc (.cells #[.int .i64 4, .int .i64 N, .string g, .string n, .int .i64 ep, .int .i64 kd, .slice q nb c] 48)).cell? ⟨W.heap.size, 4, none⟩ = some (.int .i64 ep) := (cell_of_row _ W.heap.size 4 _ _ _ e1).trans rfl
  have c5 : (W.alloc (.cells #[.int .i64 4, .int .i64 N, .string g, .string n, .int .i64 ep, .int .i64 kd, .slice q nb c] 48)).cell? ⟨W.heap.size, 5, none⟩ = some (.int .i64 kd) := (cell_of_row _ W.heap.size 5 _ _ _ e1).trans rfl
  have c6 : (W.alloc (.cells #[.int .i64 4, .int .i64 N, .string g, .string n, .int .i64 ep, .int .i64 kd, .slice q nb c] 48)).cell? ⟨W.heap.size, 6, none⟩ = some (.slice q nb c) := (cell_of_row _ W.heap.size 6 _ _ _ e1).trans rfl
  have HI := Lib.hid (h.keep hb1)
  have HB1 := Lib.hid hb1
  clear hb1 e1 h
  go_enter Try.func19, Try.ntmps19
  go_wp2_with fail
  refine (leave_S HI.out g n).mono ?_
  rintro e w2 ⟨_, A', os', rfl, hS2, hk2, r, rfl, hd⟩
  have HE := Lib.hid (And.intro (hS2) (And.intro ((Kept.below HB1.out).trans hk2) (show DoA A ⟨4, N, g, n, ep, kd, q, nb, c, l⟩ r A' from .inr (.inr (.inr (.inr (.inl ⟨rfl, hd⟩)))))))
  clear hS2 hk2 hd HI HB1 c0 c1 c2 c3 c4 c5 c6
  go_wp2_with (go_at_call 9; refine (num22_any _ _).mono ?_; rintro e w' ⟨rfl, rfl⟩)
  go_ret
  exact ⟨_, A', os', rfl, HE.out.1, HE.out.2.1, r, rfl, HE.out.2.2⟩
set_option maxRecDepth 100000 in
set_option maxHeartbeats 8000000 in
theorem dos_5 {B b m0 m1 m2 : Nat} {A : Abs} {os : List Nat} {W : World} (h : SRep B b m0 m1 m2 A os W) (N : Int) (g n : ByteArray) (ep kd : Int) (q : Option Addr) (nb c : Nat) (l : List Int) (hx : Bs W q nb l) (hlen : ∀ gs, A.gq g = some gs → gs.log.length ≤ 2000000000000) :
    Calls Try.prog 19 #[.pointer (some ⟨b, 0, none⟩), .agg #[.int .i64 5, .int .i64 N, .string g, .string n, .int .i64 ep, .int .i64 kd, .slice q nb c]] W (Did B b m0 m1 m2 os W fun v A' _ => ∃ r : Int, v = .int .i64 r ∧ DoA A ⟨5, N, g, n, ep, kd, q, nb, c, l⟩ r A') := by
  have hb1 : Below W.heap.size W (W.alloc (.cells #[.int .i64 5, .int .i64 N, .string g, .string n, .int .i64 ep, .int .i64 kd, .slice q nb c] 48)) := (Below.refl _ _).alloc (Nat.le_refl _) _
  have e1 := alloc_at W (.cells #[.int .i64 5, .int .i64 N, .string g, .string n, .int .i64 ep, .int .i64 kd, .slice q nb c] 48)
  have c0 : (W.alloc (.cells #[.int .i64 5, .int .i64 N, .string g, .string n, .int .i64 ep, .int .i64 kd, .slice q nb c] 48)).cell? ⟨W.heap.size, 0, none⟩ = some (.int .i64 5) := (cell_of_row _ W.heap.size 0 _ _ _ e1).trans rfl
  have c1 : (W.alloc (.cells #[.int .i64 5, .int .i64 N, .string g, .string n, .int .i64 ep, .int .i64 kd, .slice q nb c] 48)).cell? ⟨W.heap.size, 1, none⟩ = some (.int .i64 N) := (cell_of_row _ W.heap.size 1 _ _ _ e1).trans rfl
  have c2 : (W.alloc (.cells #[.int .i64 5, .int .i64 N, .string g, .string n, .int .i64 ep, .int .i64 kd, .slice q nb c] 48)).cell? ⟨W.heap.size, 2, none⟩ = some (.string g) := (cell_of_row _ W.heap.size 2 _ _ _ e1).trans rfl
  have c3 : (W.alloc (.cells #[.int .i64 5, .int .i64 N, .string g, .string n, .int .i64 ep, .int .i64 kd, .slice q nb c] 48)).cell? ⟨W.heap.size, 3, none⟩ = some (.string n) := (cell_of_row _ W.heap.size 3 _ _ _ e1).trans rfl
  have c4 : (W.alloc (.cells #[.int .i64 5, .int .i64 N, .string g, .string n, .int .i64 ep, .int .i64 kd, .slice q nb c] 48)).cell? ⟨W.heap.size, 4, none⟩ = some (.int .i64 ep) := (cell_of_row _ W.heap.size 4 _ _ _ e1).trans rfl
  have c5 : (W.alloc (.cells #[.int .i64 5, .int .i64 N, .string g, .string n, .int .i64 ep, .int .i64 kd, .slice q nb c] 48)).cell? ⟨W.heap.size, 5, none⟩ = some (.int .i64 kd) := (cell_of_row _ W.heap.size 5 _ _ _ e1).trans rfl
  have c6 : (W.alloc (.cells #[.int .i64 5, .int .i64 N, .string g, .string n, .int .i64 ep, .int .i64 kd, .slice q nb c] 48)).cell? ⟨W.heap.size, 6, none⟩ = some (.slice q nb c) := (cell_of_row _ W.heap.size 6 _ _ _ e1).trans rfl
  have HI := Lib.hid (h.keep hb1)
  have HB1 := Lib.hid hb1
  have HX := Lib.hid (hx.keep hb1)
  clear hx
  have HLN := Lib.hid hlen
  clear hlen
  clear hb1 e1 h
  go_enter Try.func19, Try.ntmps19
  go_wp2_with fail
  refine (send_S HI.out g ep kd q nb c l HX.out HLN.out).mono ?_
  rintro e w2 ⟨_, A', os', rfl, hS2, hk2, k, r, rfl, hd⟩
  have HE := Lib.hid (And.intro (hS2) (And.intro ((Kept.below HB1.out).trans hk2) (show DoA A ⟨5, N, g, n, ep, kd, q, nb, c, l⟩ r A' from .inr (.inr (.inr (.inr (.inr (.inl ⟨rfl, k, hd⟩))))))))
  clear hS2 hk2 hd HI HB1 c0 c1 c2 c3 c4 c5 c6
  go_wp2_with (go_at_call 9; refine (num22_any _ _).mono ?_; rintro e w' ⟨rfl, rfl⟩)
  go_ret
  exact ⟨_, A', os', rfl, HE.out.1, HE.out.2.1, r, rfl, HE.out.2.2⟩
set_option maxRecDepth 100000 in
set_option maxHeartbeats 8000000 in
theorem dos_6 {B b m0 m1 m2 : Nat} {A : Abs} {os : List Nat} {W : World} (h : SRep B b m0 m1 m2 A os W) (N : Int) (g n : ByteArray) (ep kd : Int) (q : Option Addr) (nb c : Nat) (l : List Int) :
    Calls Try.prog 19 #[.pointer (some ⟨b, 0, none⟩), .agg #[.int .i64 6, .int .i64 N, .string g, .string n, .int .i64 ep, .int .i64 kd, .slice q nb c]] W (Did B b m0 m1 m2 os W fun v A' _ => ∃ r : Int, v = .int .i64 r ∧ DoA A ⟨6, N, g, n, ep, kd, q, nb, c, l⟩ r A') := by
  have hb1 : Below W.heap.size W (W.alloc (.cells #[.int .i64 6, .int .i64 N, .string g, .string n, .int .i64 ep, .int .i64 kd, .slice q nb c] 48)) := (Below.refl _ _).alloc (Nat.le_refl _) _
  have e1 := alloc_at W (.cells #[.int .i64 6, .int .i64 N, .string g, .string n, .int .i64 ep, .int .i64 kd, .slice q nb c] 48)
  have c0 : (W.alloc (.cells #[.int .i64 6, .int .i64 N, .string g, .string n, .int .i64 ep, .int .i64 kd, .slice q nb c] 48)).cell? ⟨W.heap.size, 0, none⟩ = some (.int .i64 6) := (cell_of_row _ W.heap.size 0 _ _ _ e1).trans rfl
  have c1 : (W.alloc (.cells #[.int .i64 6, .int .i64 N, .string g, .string n, .int .i64 ep, .int .i64 kd, .slice q nb c] 48)).cell? ⟨W.heap.size, 1, none⟩ = some (.int .i64 N) := (cell_of_row _ W.heap.size 1 _ _ _ e1).trans rfl
  have c2 : (W.alloc (.cells #[.int .i64 6, .int .i64 N, .string g, .string n, .int .i64 ep, .int .i64 kd, .slice q nb c] 48)).cell? ⟨W.heap.size, 2, none⟩ = some (.string g) := (cell_of_row _ W.heap.size 2 _ _ _ e1).trans rfl
  have c3 : (W.alloc (.cells #[.int .i64 6, .int .i64 N, .string g, .string n, .int .i64 ep, .int .i64 kd, .slice q nb c] 48)).cell? ⟨W.heap.size, 3, none⟩ = some (.string n) := (cell_of_row _ W.heap.size 3 _ _ _ e1).trans rfl
  have c4 : (W.alloc (.cells #[.int .i64 6, .int .i64 N, .string g, .string n, .int .i64 ep, .int .i64 kd, .slice q nb c] 48)).cell? ⟨W.heap.size, 4, none⟩ = some (.int .i64 ep) := (cell_of_row _ W.heap.size 4 _ _ _ e1).trans rfl
  have c5 : (W.alloc (.cells #[.int .i64 6, .int .i64 N, .string g, .string n, .int .i64 ep, .int .i64 kd, .slice q nb c] 48)).cell? ⟨W.heap.size, 5, none⟩ = some (.int .i64 kd) := (cell_of_row _ W.heap.size 5 _ _ _ e1).trans rfl
  have c6 : (W.alloc (.cells #[.int .i64 6, .int .i64 N, .string g, .string n, .int .i64 ep, .int .i64 kd, .slice q nb c] 48)).cell? ⟨W.heap.size, 6, none⟩ = some (.slice q nb c) := (cell_of_row _ W.heap.size 6 _ _ _ e1).trans rfl
  have HI := Lib.hid (h.keep hb1)
  have HB1 := Lib.hid hb1
  clear hb1 e1 h
  go_enter Try.func19, Try.ntmps19
  go_wp2_with fail
  refine (pick_S HI.out n N).mono ?_
  rintro e w2 ⟨_, A', os', rfl, hS2, hk2, v, r, rfl, hd⟩
  obtain ⟨y0, y1, y2, y3, y4, rfl, hone⟩ := pic_form hd
  have e2 := alloc_at w2 (.cells #[.string { data := #[] }, .int .i64 0, .int .i64 0, .int .i64 0, .slice none 0 0] 38)
  have hb9 : Below w2.heap.size w2 ((w2.alloc (.cells #[.string { data := #[] }, .int .i64 0, .int .i64 0, .int .i64 0, .slice none 0 0] 38)).setRow w2.heap.size #[y0, y1, y2, y3, y4]) := setRow_below ((Below.refl _ _).alloc (Nat.le_refl _) _) (Nat.le_refl _) _
  have HE := Lib.hid (And.intro (hS2.keep hb9) (And.intro (((Kept.below HB1.out).trans hk2).trans (Kept.below hb9)) (show DoA A ⟨6, N, g, n, ep, kd, q, nb, c, l⟩ r A' from .inr (.inr (.inr (.inr (.inr (.inr (.inl ⟨rfl, _, _, hd⟩)))))))))
  clear hS2 hk2 hd HI HB1 c0 c1 c2 c3 c4 c5 c6 hb9
  go_wp2_with (first | (refine wpList_store_row rfl 38 (.tmp 9) (.tmp 91) rfl w2.heap.size #[y0, y1, y2, y3, y4] rfl rfl 38 #[.string { data := #[] }, .int .i64 0, .int .i64 0, .int .i64 0, .slice none 0 0] e2 infoW5 rfl hone ?_) | (go_at_call 9; refine (num22_any _ _).mono ?_; rintro e w' ⟨rfl, rfl⟩))
  go_ret
  exact ⟨_, A', os', rfl, HE.out.1, HE.out.2.1, r, rfl, HE.out.2.2⟩
set_option maxRecDepth 100000 in
set_option maxHeartbeats 8000000 in
theorem dos_x {B b m0 m1 m2 : Nat} {A : Abs} {os : List Nat} {W : World} (h : SRep B b m0 m1 m2 A os W) (kind N : Int) (g n : ByteArray) (ep kd : Int) (q : Option Addr) (nb c : Nat) (l : List Int) (hk : kind < 0 ∨ 6 < kind) :
    Calls Try.prog 19 #[.pointer (some ⟨b, 0, none⟩), .agg #[.int .i64 kind, .int .i64 N, .string g, .string n, .int .i64 ep, .int .i64 kd, .slice q nb c]] W (Did B b m0 m1 m2 os W fun v A' _ => ∃ r : Int, v = .int .i64 r ∧ DoA A ⟨kind, N, g, n, ep, kd, q, nb, c, l⟩ r A') := by
  have hb1 : Below W.heap.size W (W.alloc (.cells #[.int .i64 kind, .int .i64 N, .string g, .string n, .int .i64 ep, .int .i64 kd, .slice q nb c] 48)) := (Below.refl _ _).alloc (Nat.le_refl _) _
  have e1 := alloc_at W (.cells #[.int .i64 kind, .int .i64 N, .string g, .string n, .int .i64 ep, .int .i64 kd, .slice q nb c] 48)
  have c0 : (W.alloc (.cells #[.int .i64 kind, .int .i64 N, .string g, .string n, .int .i64 ep, .int .i64 kd, .slice q nb c] 48)).cell? ⟨W.heap.size, 0, none⟩ = some (.int .i64 kind) := (cell_of_row _ W.heap.size 0 _ _ _ e1).trans rfl
  have c1 : (W.alloc (.cells #[.int .i64 kind, .int .i64 N, .string g, .string n, .int .i64 ep, .int .i64 kd, .slice q nb c] 48)).cell? ⟨W.heap.size, 1, none⟩ = some (.int .i64 N) := (cell_of_row _ W.heap.size 1 _ _ _ e1).trans rfl
  have c2 : (W.alloc (.cells #[.int .i64 kind, .int .i64 N, .string g, .string n, .int .i64 ep, .int .i64 kd, .slice q nb c] 48)).cell? ⟨W.heap.size, 2, none⟩ = some (.string g) := (cell_of_row _ W.heap.size 2 _ _ _ e1).trans rfl
  have c3 : (W.alloc (.cells #[.int .i64 kind, .int .i64 N, .string g, .string n, .int .i64 ep, .int .i64 kd, .slice q nb c] 48)).cell? ⟨W.heap.size, 3, none⟩ = some (.string n) := (cell_of_row _ W.heap.size 3 _ _ _ e1).trans rfl
  have c4 : (W.alloc (.cells #[.int .i64 kind, .int .i64 N, .string g, .string n, .int .i64 ep, .int .i64 kd, .slice q nb c] 48)).cell? ⟨W.heap.size, 4, none⟩ = some (.int .i64 ep) := (cell_of_row _ W.heap.size 4 _ _ _ e1).trans rfl
  have c5 : (W.alloc (.cells #[.int .i64 kind, .int .i64 N, .string g, .string n, .int .i64 ep, .int .i64 kd, .slice q nb c] 48)).cell? ⟨W.heap.size, 5, none⟩ = some (.int .i64 kd) := (cell_of_row _ W.heap.size 5 _ _ _ e1).trans rfl
  have c6 : (W.alloc (.cells #[.int .i64 kind, .int .i64 N, .string g, .string n, .int .i64 ep, .int .i64 kd, .slice q nb c] 48)).cell? ⟨W.heap.size, 6, none⟩ = some (.slice q nb c) := (cell_of_row _ W.heap.size 6 _ _ _ e1).trans rfl
  have HI := Lib.hid (h.keep hb1)
  have HB1 := Lib.hid hb1
  have k0 : (kind == 0) = false := by simp; omega
  have j0 : decide (kind = 0) = false := by simp; omega
  have k1 : (kind == 1) = false := by simp; omega
  have j1 : decide (kind = 1) = false := by simp; omega
  have k2 : (kind == 2) = false := by simp; omega
  have j2 : decide (kind = 2) = false := by simp; omega
  have k3 : (kind == 3) = false := by simp; omega
  have j3 : decide (kind = 3) = false := by simp; omega
  have k4 : (kind == 4) = false := by simp; omega
  have j4 : decide (kind = 4) = false := by simp; omega
  have k5 : (kind == 5) = false := by simp; omega
  have j5 : decide (kind = 5) = false := by simp; omega
  have k6 : (kind == 6) = false := by simp; omega
  have j6 : decide (kind = 6) = false := by simp; omega
  have HK := Lib.hid hk
  clear hk
  clear hb1 e1 h
  go_enter Try.func19, Try.ntmps19
  go_wp2_with fail
  go_ret
  exact ⟨_, A, os, rfl, HI.out, Kept.below HB1.out, 0, rfl, .inr (.inr (.inr (.inr (.inr (.inr (.inr ⟨HK.out, rfl, rfl⟩))))))⟩
/-- Any operation. -/
theorem do_S {B b m0 m1 m2 : Nat} {A : Abs} {os : List Nat} {W : World} (h : SRep B b m0 m1 m2 A os W) (o : OpS) (hx : ∀ W', Chg os W W' → Bs W' o.q o.nb o.l) (hlen : ∀ gs, A.gq o.g = some gs → gs.log.length ≤ 2000000000000) :
    Calls Try.prog 19 #[.pointer (some ⟨b, 0, none⟩), o.v] W (Did B b m0 m1 m2 os W fun v A' _ => ∃ r : Int, v = .int .i64 r ∧ DoA A o r A') := by
  obtain ⟨kind, N, g, n, ep, kd, q, nb, c, l⟩ := o
  by_cases hk : kind < 0 ∨ 6 < kind
  · exact dos_x h kind N g n ep kd q nb c l hk
  · rcases (show kind = 0 ∨ kind = 1 ∨ kind = 2 ∨ kind = 3 ∨ kind = 4 ∨ kind = 5 ∨ kind = 6 by omega) with rfl | rfl | rfl | rfl | rfl | rfl | rfl
    · exact dos_0 h N g n ep kd q nb c l hx
    · exact dos_1 h N g n ep kd q nb c l
    · exact dos_2 h N g n ep kd q nb c l
    · exact dos_3 h N g n ep kd q nb c l
    · exact dos_4 h N g n ep kd q nb c l
    · exact dos_5 h N g n ep kd q nb c l (hx W (Chg.refl _ _)) hlen
    · exact dos_6 h N g n ep kd q nb c l
end Go.Proofs.Ytiebggfpjkhlaaa
