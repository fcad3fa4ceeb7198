/- Calls of a service of which something is known. No condition. -/
import Derived.Test.YtiebggfpjkhlaaaDo
namespace Go.Proofs.Ytiebggfpjkhlaaa
open Go Go.RowKit
set_option linter.unusedSimpArgs false
/-- A service at b, made since w, of which P is known. -/
def Inv (w : World) (b : Nat) (P : Abs → Prop) (W : World) : Prop := ∃ m0 m1 m2 A os, SRep w.heap.size b m0 m1 m2 A os W ∧ Below w.heap.size w W ∧ P A
section
variable {w W W' : World} {b : Nat} {P Q : Abs → Prop}
theorem Inv.imp (h : Inv w b P W) (hpq : ∀ A, P A → Q A) : Inv w b Q W := by
  obtain ⟨m0, m1, m2, A, os, h1, h2, h3⟩ := h
  exact ⟨m0, m1, m2, A, os, h1, h2, hpq A h3⟩
theorem Inv.keep (h : Inv w b P W) (hb : Below W.heap.size W W') : Inv w b P W' := by
  obtain ⟨m0, m1, m2, A, os, h1, h2, h3⟩ := h
  exact ⟨m0, m1, m2, A, os, h1.keep hb, below_thru h2 hb, h3⟩
theorem Inv.below (h : Inv w b P W) : Below w.heap.size w W := by
  obtain ⟨_, _, _, _, _, _, h2, _⟩ := h
  exact h2
theorem Inv.did {m0 m1 m2 : Nat} {os : List Nat} {A : Abs} {R : Value → Abs → World → Prop} {e : Ending} (hS : SRep w.heap.size b m0 m1 m2 A os W) (hB : Below w.heap.size w W) (hd : Did w.heap.size b m0 m1 m2 os W R e W') : ∃ v, e = .returned v ∧ Inv w b (fun A' => R v A' W') W' ∧ Chg os W W' := by
  obtain ⟨v, A', os', he, h1, h2, h3⟩ := hd
  exact ⟨v, he, ⟨m0, m1, m2, A', os', h1, h2.chg.below hB (fun i hi => (hS.lt i hi).1) hS.base, h3⟩, h2.chg⟩
theorem new_I (w : World) : Calls Try.prog 8 #[] w fun e w' => ∃ b, e = .returned (.pointer (some ⟨b, 0, none⟩)) ∧ Inv w b (fun A => A = ⟨fun _ => [], fun _ => none, fun _ => []⟩) w' := by
  refine (new_S w).mono ?_
  rintro e w' ⟨b, m0, m1, m2, os, he, h1, h2⟩
  exact ⟨b, he, m0, m1, m2, _, os, h1, h2.chg.below (Below.refl _ _) (by simp) (Nat.le_refl _), rfl⟩
theorem open_I (h : Inv w b P W) (s : ByteArray) (ep : Int) : Calls Try.prog 10 #[.pointer (some ⟨b, 0, none⟩), .string s, .int .i64 ep] W fun e W' => ∃ r : Int, e = .returned (.int .i64 r) ∧ Inv w b (fun A' => ∃ A, P A ∧ OpnA A s ep r A') W' := by
  obtain ⟨m0, m1, m2, A, os, h1, h2, h3⟩ := h
  refine (open_S h1 s ep).mono fun e W' hd => ?_
  obtain ⟨v, rfl, hi, _⟩ := Inv.did h1 h2 hd
  obtain ⟨n0, n1, n2, A', os', g1, g2, r, rfl, g3⟩ := hi
  exact ⟨r, rfl, n0, n1, n2, A', os', g1, g2, A, h3, g3⟩
theorem join_I (h : Inv w b P W) (s who : ByteArray) : Calls Try.prog 11 #[.pointer (some ⟨b, 0, none⟩), .string s, .string who] W fun e W' => ∃ r : Int, e = .returned (.int .i64 r) ∧ Inv w b (fun A' => ∃ A, P A ∧ JoiA A s who r A') W' := by
  obtain ⟨m0, m1, m2, A, os, h1, h2, h3⟩ := h
  refine (join_S h1 s who).mono fun e W' hd => ?_
  obtain ⟨v, rfl, hi, _⟩ := Inv.did h1 h2 hd
  obtain ⟨n0, n1, n2, A', os', g1, g2, r, rfl, g3⟩ := hi
  exact ⟨r, rfl, n0, n1, n2, A', os', g1, g2, A, h3, g3⟩
theorem leave_I (h : Inv w b P W) (s who : ByteArray) : Calls Try.prog 21 #[.pointer (some ⟨b, 0, none⟩), .string s, .string who] W fun e W' => ∃ r : Int, e = .returned (.int .i64 r) ∧ Inv w b (fun A' => ∃ A, P A ∧ LeaA A s who r A') W' := by
  obtain ⟨m0, m1, m2, A, os, h1, h2, h3⟩ := h
  refine (leave_S h1 s who).mono fun e W' hd => ?_
  obtain ⟨v, rfl, hi, _⟩ := Inv.did h1 h2 hd
  obtain ⟨n0, n1, n2, A', os', g1, g2, r, rfl, g3⟩ := hi
  exact ⟨r, rfl, n0, n1, n2, A', os', g1, g2, A, h3, g3⟩
theorem offer_I (h : Inv w b P W) (s : ByteArray) (q : Option Addr) (n c : Nat) (l : List Int) (hx : ∀ W' os, Chg os W W' → NoU os W → (∀ i ∈ os, w.heap.size ≤ i) → Bs W' q n l) : Calls Try.prog 14 #[.pointer (some ⟨b, 0, none⟩), .string s, .slice q n c] W fun e W' => ∃ r : Int, e = .returned (.int .i64 r) ∧ Inv w b (fun A' => ∃ A, P A ∧ OffA A s n l r A') W' := by
  obtain ⟨m0, m1, m2, A, os, h1, h2, h3⟩ := h
  refine (offer_S h1 s q n c l (fun W' hc => hx W' os hc h1.noU (fun i hi => (h1.lt i hi).1))).mono fun e W' hd => ?_
  obtain ⟨v, rfl, hi, _⟩ := Inv.did h1 h2 hd
  obtain ⟨n0, n1, n2, A', os', g1, g2, r, rfl, g3⟩ := hi
  exact ⟨r, rfl, n0, n1, n2, A', os', g1, g2, A, h3, g3⟩
theorem send_I (h : Inv w b P W) (s : ByteArray) (ep kd : Int) (q : Option Addr) (n c : Nat) (l : List Int) (hx : Bs W q n l) (hlen : ∀ A g, P A → A.gq s = some g → g.log.length ≤ 2000000000000) : Calls Try.prog 13 #[.pointer (some ⟨b, 0, none⟩), .string s, .agg #[.int .i64 ep, .int .i64 kd, .slice q n c]] W fun e W' => ∃ (k : Nat) (r : Int), e = .returned (.tuple #[.int .i64 k, .int .i64 r]) ∧ Inv w b (fun A' => ∃ A, P A ∧ SenA A s ep kd n l k r A') W' := by
  obtain ⟨m0, m1, m2, A, os, h1, h2, h3⟩ := h
  refine (send_S h1 s ep kd q n c l hx (fun g hg => hlen A g h3 hg)).mono fun e W' hd => ?_
  obtain ⟨v, rfl, hi, _⟩ := Inv.did h1 h2 hd
  obtain ⟨n0, n1, n2, A', os', g1, g2, k, r, rfl, g3⟩ := hi
  exact ⟨k, r, rfl, n0, n1, n2, A', os', g1, g2, A, h3, g3⟩
theorem take_I (h : Inv w b P W) (s : ByteArray) : Calls Try.prog 17 #[.pointer (some ⟨b, 0, none⟩), .string s] W fun e W' => ∃ (v0 : Value) (r : Int), e = .returned (.tuple #[v0, .int .i64 r]) ∧ Inv w b (fun A' => ∃ A, P A ∧ TakA A s v0 r A' ∧ ∀ p ∈ A.pq s, p.Ok W') W' := by
  obtain ⟨m0, m1, m2, A, os, h1, h2, h3⟩ := h
  refine (take_S h1 s).mono fun e W' hd => ?_
  obtain ⟨v, rfl, hi, hc⟩ := Inv.did h1 h2 hd
  obtain ⟨n0, n1, n2, A', os', g1, g2, v0, r, rfl, g3, _⟩ := hi
  exact ⟨v0, r, rfl, n0, n1, n2, A', os', g1, g2, A, h3, g3, fun p hp => (h1.pok s p hp).chg hc h1.noU⟩
theorem pick_I (h : Inv w b P W) (s : ByteArray) (k : Int) : Calls Try.prog 16 #[.pointer (some ⟨b, 0, none⟩), .string s, .int .i64 k] W fun e W' => ∃ (v0 : Value) (r : Int), e = .returned (.tuple #[v0, .int .i64 r]) ∧ Inv w b (fun A' => ∃ A, P A ∧ PicA A s k v0 r A' W') W' := by
  obtain ⟨m0, m1, m2, A, os, h1, h2, h3⟩ := h
  refine (pick_S h1 s k).mono fun e W' hd => ?_
  obtain ⟨v, rfl, hi, hc⟩ := Inv.did h1 h2 hd
  obtain ⟨n0, n1, n2, A', os', g1, g2, v0, r, rfl, g3⟩ := hi
  exact ⟨v0, r, rfl, n0, n1, n2, A', os', g1, g2, A, h3, g3⟩
theorem waiting_I (h : Inv w b P W) (s : ByteArray) : Calls Try.prog 18 #[.pointer (some ⟨b, 0, none⟩), .string s] W fun e W' => ∃ n : Nat, e = .returned (.int .i64 n) ∧ Inv w b (fun A => P A ∧ n = if okN s = true then (A.wq s).length else 0) W' := by
  obtain ⟨m0, m1, m2, A, os, h1, h2, h3⟩ := h
  refine (waiting_S h1 s).mono fun e W' ⟨he, hb⟩ => ?_
  exact ⟨if okN s = true then (A.wq s).length else 0, by rw [he]; split <;> rfl, m0, m1, m2, A, os, h1.keep hb, below_thru h2 hb, h3, rfl⟩
theorem log_I (h : Inv w b P W) (s : ByteArray) (hlen : ∀ A, P A → (logA A s).length ≤ 2000000000000) : Calls Try.prog 15 #[.pointer (some ⟨b, 0, none⟩), .string s] W fun e W' => ∃ log, Inv w b (fun A => P A ∧ logA A s = log) W' ∧ LogR log W e W' := by
  obtain ⟨m0, m1, m2, A, os, h1, h2, h3⟩ := h
  refine (log_S h1 s (hlen A h3)).mono fun e W' hr => ?_
  have hb := hr
  obtain ⟨_, _, _, _, _, _, hb⟩ := hb
  exact ⟨logA A s, ⟨m0, m1, m2, A, os, h1.keep hb, below_thru h2 hb, h3, rfl⟩, hr⟩
theorem epoch_I (h : Inv w b P W) (s : ByteArray) : Calls Try.prog 20 #[.pointer (some ⟨b, 0, none⟩), .string s] W fun e W' => ∃ x : Int × Int, e = .returned (.tuple #[.int .i64 x.1, .int .i64 x.2]) ∧ Inv w b (fun A => P A ∧ epoA A s = x) W' := by
  obtain ⟨m0, m1, m2, A, os, h1, h2, h3⟩ := h
  refine (epoch_S h1 s).mono fun e W' ⟨he, hb⟩ => ?_
  exact ⟨epoA A s, he, m0, m1, m2, A, os, h1.keep hb, below_thru h2 hb, h3, rfl⟩
end
theorem u8_stays {W W' : World} {os : List Nat} {g : Nat} {cs : Array Value} (h : W.heap[g]? = some (.cells cs 5 (0, 0))) (hc : Chg os W W') (hn : NoU os W) : W'.heap[g]? = some (.cells cs 5 (0, 0)) :=
  hc.at_ h (fun hm => by have := hn g hm _ h; cases this)
end Go.Proofs.Ytiebggfpjkhlaaa
