/- A service and blocks that it does not own; what ServiceAll holds it to. No condition. -/
import Derived.Test.YtiebggfpjkhlaaaDu
import Derived.Test.YtiebggfpjkhlaaaDs
namespace Go.Proofs.Ytiebggfpjkhlaaa
open Go Go.RowKit
set_option linter.unusedSimpArgs false
/-- A service at b, made since w; blocks X that it does not own. -/
def InX (w : World) (b : Nat) (X : List Nat) (P : Abs → Prop) (W : World) : Prop := ∃ m0 m1 m2 A os, SRep w.heap.size b m0 m1 m2 A os W ∧ Below w.heap.size w W ∧ (∀ i ∈ X, i ∉ os ∧ i < W.heap.size) ∧ P A
/-- What a call leaves alone. -/
def Fr (X : List Nat) (W W' : World) : Prop := ∃ os, Chg os W W' ∧ NoU os W ∧ ∀ i ∈ X, i ∉ os
theorem Fr.ok {X : List Nat} {W W' : World} {e : En} (h : Fr X W W') (k : e.Ok W) : e.Ok W' := by
  obtain ⟨os, h1, h2, _⟩ := h
  exact k.chg h1 h2
theorem Fr.at_ {X : List Nat} {W W' : World} (h : Fr X W W') {i : Nat} {o : Obj} (hi : i ∈ X) (ho : W.heap[i]? = some o) : W'.heap[i]? = some o := by
  obtain ⟨os, h1, _, h3⟩ := h
  exact h1.at_ ho (h3 i hi)
theorem Fr.own {X : List Nat} {W W' : World} (h : Fr X W W') {B e size n : Nat} {v : Value} {xs : List Value} (ho : W.ownsRow B e size v n xs) (hX : ∀ g, v.ownBlock = some g → g ∈ X) : W'.ownsRow B e size v n xs := by
  refine own_ext ho (fun g hg => ?_)
  obtain ⟨cur, hc⟩ := own_blk ho hg
  rw [hc]
  exact h.at_ (hX g hg) hc
theorem Fr.below {X : List Nat} {W W' : World} (h : Below W.heap.size W W') : Fr X W W' := ⟨[], Chg.of_below h, fun _ hi => (by cases hi), by simp⟩
section
variable {w W W' : World} {b : Nat} {X : List Nat} {P Q : Abs → Prop}
theorem InX.imp (h : InX w b X P W) (hpq : ∀ A, P A → Q A) : InX w b X Q W := by
  obtain ⟨m0, m1, m2, A, os, h1, h2, hX, h3⟩ := h
  exact ⟨m0, m1, m2, A, os, h1, h2, hX, hpq A h3⟩
theorem InX.keep (h : InX w b X P W) (hb : Below W.heap.size W W') : InX w b X P W' := by
  obtain ⟨m0, m1, m2, A, os, h1, h2, hX, h3⟩ := h
  exact ⟨m0, m1, m2, A, os, h1.keep hb, below_thru h2 hb, fun i hi => ⟨(hX i hi).1, Nat.lt_of_lt_of_le (hX i hi).2 hb.size⟩, h3⟩
theorem InX.spare (h : InX w b X P W) (hb : Below W.heap.size W W') {ad : Nat} (h1 : W.heap.size ≤ ad) (h2 : ad < W'.heap.size) : InX w b (ad :: X) P W' := by
  obtain ⟨m0, m1, m2, A, os, g1, g2, hX, h3⟩ := h
  refine ⟨m0, m1, m2, A, os, g1.keep hb, below_thru g2 hb, fun i hi => ?_, h3⟩
  rcases List.mem_cons.1 hi with rfl | hi
  · exact ⟨fun h => by have := (g1.lt _ h).2; omega, h2⟩
  · exact ⟨(hX i hi).1, Nat.lt_of_lt_of_le (hX i hi).2 hb.size⟩
theorem InX.sub {Y : List Nat} (h : InX w b X P W) (hs : ∀ i ∈ Y, i ∈ X) : InX w b Y P W := by
  obtain ⟨m0, m1, m2, A, os, h1, h2, hX, h3⟩ := h
  exact ⟨m0, m1, m2, A, os, h1, h2, fun i hi => hX i (hs i hi), h3⟩
theorem InX.below (h : InX w b X P W) : Below w.heap.size w W := by
  obtain ⟨_, _, _, _, _, _, h2, _⟩ := h
  exact h2
theorem InX.ex (h : InX w b X P W) : ∃ A, P A := by
  obtain ⟨_, _, _, A, _, _, _, _, h3⟩ := h
  exact ⟨A, h3⟩
theorem InX.did {m0 m1 m2 : Nat} {A : Abs} {os : List Nat} {R : Value → Abs → World → Prop} {e : Ending} (h1 : SRep w.heap.size b m0 m1 m2 A os W) (h2 : Below w.heap.size w W) (hX : ∀ i ∈ X, i ∉ os ∧ i < W.heap.size) (hd : Did w.heap.size b m0 m1 m2 os W R e W') :
    ∃ v, e = .returned v ∧ InX w b X (fun A' => R v A' W') W' ∧ Fr X W W' := by
  obtain ⟨v, A', os', he, g1, g2, g3⟩ := hd
  refine ⟨v, he, ⟨m0, m1, m2, A', os', g1, g2.chg.below h2 (fun i hi => (h1.lt i hi).1) h2.size, fun i hi => ⟨fun h => ?_, Nat.lt_of_lt_of_le (hX i hi).2 g2.chg.size⟩, g3⟩, os, g2.chg, h1.noU, fun i hi => (hX i hi).1⟩
  rcases g2.own i h with h5 | h5
  · exact (hX i hi).1 h5
  · have := (hX i hi).2
    omega
theorem new_X (w : World) : Calls Try.prog 8 #[] w fun e w' => ∃ b, e = .returned (.pointer (some ⟨b, 0, none⟩)) ∧ InX w b [] (fun A => A = ⟨fun _ => [], fun _ => none, fun _ => []⟩) w' := by
  refine (new_S w).mono ?_
  rintro e w' ⟨b, m0, m1, m2, os, he, h1, h2⟩
  exact ⟨b, he, m0, m1, m2, _, os, h1, h2.chg.below (Below.refl _ _) (by simp) (Nat.le_refl _), by simp, rfl⟩
theorem open_X (h : InX w b X P W) (s : ByteArray) (ep : Int) : Calls Try.prog 10 #[.pointer (some ⟨b, 0, none⟩), .string s, .int .i64 ep] W fun e W' => ∃ r : Int, e = .returned (.int .i64 r) ∧ InX w b X (fun A' => ∃ A, P A ∧ OpnA A s ep r A') W' ∧ Fr X W W' := by
  obtain ⟨m0, m1, m2, A, os, h1, h2, hX, h3⟩ := h
  refine (open_S h1 s ep).mono fun e W' hd => ?_
  obtain ⟨v, rfl, hi, hf⟩ := InX.did h1 h2 hX hd
  obtain ⟨n0, n1, n2, A', os', g1, g2, gX, r, rfl, g3⟩ := hi
  exact ⟨r, rfl, ⟨n0, n1, n2, A', os', g1, g2, gX, A, h3, g3⟩, hf⟩
theorem do_X (h : InX w b X P W) (o : OpS) (hx : Bs w o.q o.nb o.l) (hlen : ∀ A gs, P A → A.gq o.g = some gs → gs.log.length ≤ 2000000000000) :
    Calls Try.prog 19 #[.pointer (some ⟨b, 0, none⟩), o.v] W fun e W' => ∃ r : Int, e = .returned (.int .i64 r) ∧ InX w b X (fun A' => ∃ A, P A ∧ DoA A o r A') W' ∧ Fr X W W' := by
  obtain ⟨m0, m1, m2, A, os, h1, h2, hX, h3⟩ := h
  refine (do_S h1 o (fun W' hc => hx.keep (hc.below h2 (fun i hi => (h1.lt i hi).1) h2.size)) (fun gs hg => hlen A gs h3 hg)).mono fun e W' hd => ?_
  obtain ⟨v, rfl, hi, hf⟩ := InX.did h1 h2 hX hd
  obtain ⟨n0, n1, n2, A', os', g1, g2, gX, r, rfl, g3⟩ := hi
  exact ⟨r, rfl, ⟨n0, n1, n2, A', os', g1, g2, gX, A, h3, g3⟩, hf⟩
theorem pick_X (h : InX w b X P W) (s : ByteArray) (k : Int) : Calls Try.prog 16 #[.pointer (some ⟨b, 0, none⟩), .string s, .int .i64 k] W fun e W' => ∃ (v0 : Value) (r : Int), e = .returned (.tuple #[v0, .int .i64 r]) ∧ InX w b X (fun A' => ∃ A, P A ∧ PicA A s k v0 r A' W') W' ∧ Fr X W W' := by
  obtain ⟨m0, m1, m2, A, os, h1, h2, hX, h3⟩ := h
  refine (pick_S h1 s k).mono fun e W' hd => ?_
  obtain ⟨v, rfl, hi, hf⟩ := InX.did h1 h2 hX hd
  obtain ⟨n0, n1, n2, A', os', g1, g2, gX, v0, r, rfl, g3⟩ := hi
  exact ⟨v0, r, rfl, ⟨n0, n1, n2, A', os', g1, g2, gX, A, h3, g3⟩, hf⟩
theorem waiting_X (h : InX w b X P W) (s : ByteArray) : Calls Try.prog 18 #[.pointer (some ⟨b, 0, none⟩), .string s] W fun e W' => ∃ n : Nat, e = .returned (.int .i64 n) ∧ InX w b X (fun A => P A ∧ n = if okN s = true then (A.wq s).length else 0) W' ∧ Below W.heap.size W W' := by
  obtain ⟨m0, m1, m2, A, os, h1, h2, hX, h3⟩ := h
  refine (waiting_S h1 s).mono fun e W' ⟨he, hb⟩ => ?_
  exact ⟨if okN s = true then (A.wq s).length else 0, by rw [he]; split <;> rfl, InX.keep ⟨m0, m1, m2, A, os, h1, h2, hX, h3, rfl⟩ hb, hb⟩
theorem log_X (h : InX w b X P W) (s : ByteArray) (hlen : ∀ A, P A → (logA A s).length ≤ 2000000000000) : Calls Try.prog 15 #[.pointer (some ⟨b, 0, none⟩), .string s] W fun e W' => ∃ log, InX w b X (fun A => P A ∧ logA A s = log) W' ∧ LogR log W e W' := by
  obtain ⟨m0, m1, m2, A, os, h1, h2, hX, h3⟩ := h
  refine (log_S h1 s (hlen A h3)).mono fun e W' hr => ?_
  have hb := hr
  obtain ⟨_, _, _, _, _, _, hb⟩ := hb
  exact ⟨logA A s, InX.keep ⟨m0, m1, m2, A, os, h1, h2, hX, h3, rfl⟩ hb, hr⟩
end
/-- "me" -/
def sMe : ByteArray := { data := #[109, 101] }
/-- What waits is the log from f on. -/
def IsQ (f : Nat) (log : List En) (Q : List Wt) : Prop := f ≤ log.length ∧ Q.length = log.length - f ∧ ∀ i, Q[i]? = (log[f + i]?).map fun e => ⟨sG, f + i, e⟩
theorem IsQ.snoc {f : Nat} {log : List En} {Q : List Wt} (h : IsQ f log Q) (e : En) : IsQ f (log ++ [e]) (Q ++ [⟨sG, log.length, e⟩]) := by
  obtain ⟨h1, h2, h3⟩ := h
  refine ⟨by rw [List.length_append]; omega, by simp only [List.length_append, List.length_cons, List.length_nil]; omega, fun i => ?_⟩
  by_cases hi : i < Q.length
  · rw [List.getElem?_append_left hi, h3 i, List.getElem?_append_left (by omega)]
  · rw [List.getElem?_append_right (by omega), List.getElem?_append_right (by omega)]
    by_cases h0 : i = Q.length
    · subst h0
      rw [show f + Q.length - log.length = 0 by omega, Nat.sub_self, show f + Q.length = log.length by omega]
      rfl
    · rw [List.getElem?_eq_none (by simp only [List.length_cons, List.length_nil]; omega), List.getElem?_eq_none (by simp only [List.length_cons, List.length_nil]; omega)]
      rfl
theorem IsQ.nil (log : List En) : IsQ log.length log [] := ⟨Nat.le_refl _, by simp, fun i => by
  have h : log[log.length + i]? = none := List.getElem?_eq_none (by omega)
  rw [h]
  rfl⟩
/-- While none left: f is where 'me' joined. -/
def Mid (f : Option Nat) (i : Nat) (A : Abs) : Prop := ∃ g, A.gq sG = some g ∧ g.log.length ≤ i ∧
  match f with
  | none => g.subs = [] ∧ A.wq sMe = []
  | some f => g.subs = [sMe] ∧ IsQ f g.log (A.wq sMe)
/-- At the end. -/
def Fin_ (f : Nat) (A : Abs) : Prop := ∃ g, A.gq sG = some g ∧ g.log.length ≤ 200 ∧ IsQ f g.log (A.wq sMe)
theorem Mid.le {f : Option Nat} {i j : Nat} {A : Abs} (h : Mid f i A) (hij : i ≤ j) : Mid f j A := by
  obtain ⟨g, h1, h2, h3⟩ := h
  exact ⟨g, h1, by omega, h3⟩
theorem Mid.log {f : Option Nat} {i : Nat} {A : Abs} (h : Mid f i A) : (logA A sG).length ≤ i := by
  obtain ⟨g, h1, h2, _⟩ := h
  unfold logA
  rw [if_pos (by decide), h1]
  exact h2
theorem mid_open {r : Int} {A' : Abs} (h : ∃ A, A = ⟨fun _ => [], fun _ => none, fun _ => []⟩ ∧ OpnA A sG 0 r A') : r = 0 ∧ Mid none 0 A' := by
  obtain ⟨A, rfl, h⟩ := h
  have hok : okN sG = true ∧ (0 : Int) ≤ 0 ∧ (0 : Int) < 4294967296 := ⟨by decide, by omega, by omega⟩
  rcases h with ⟨h, _⟩ | ⟨_, h, _⟩ | ⟨_, h, rfl, rfl⟩
  · exact absurd hok h
  · exact absurd rfl h
  · exact ⟨rfl, ⟨0, [], []⟩, by simp [setQ], Nat.le_refl _, rfl, rfl⟩
/-- A call with an error changes nothing. -/
theorem do_err {A A' : Abs} {o : OpS} {r : Int} (hd : DoA A o r A') (hr : r ≠ 0) : A' = A := by
  rcases hd with ⟨_, hd⟩ | ⟨_, v, hd⟩ | ⟨_, hd⟩ | ⟨_, hd⟩ | ⟨_, hd⟩ | ⟨_, k, hd⟩ | ⟨_, v, W', hd⟩ | ⟨_, _, rfl⟩
  · rcases hd with ⟨_, _, rfl⟩ | ⟨_, _, _, rfl⟩ | ⟨_, _, h, _⟩
    · rfl
    · rfl
    · exact absurd h hr
  · rcases hd with ⟨_, _, _, rfl⟩ | ⟨_, _, _, _, rfl⟩ | ⟨_, p, rest, _, _, h, _⟩
    · rfl
    · rfl
    · exact absurd h hr
  · rcases hd with ⟨_, _, rfl⟩ | ⟨_, _, _, rfl⟩ | ⟨_, _, h, _⟩
    · rfl
    · rfl
    · exact absurd h hr
  · rcases hd with ⟨_, _, rfl⟩ | ⟨_, _, _, rfl⟩ | ⟨_, g', hg', ⟨_, _, rfl⟩ | ⟨_, _, _, rfl⟩ | ⟨_, _, h, _⟩⟩
    · rfl
    · rfl
    · rfl
    · rfl
    · exact absurd h hr
  · rcases hd with ⟨_, _, rfl⟩ | ⟨_, _, _, rfl⟩ | ⟨_, g', hg', ⟨_, _, rfl⟩ | ⟨_, h, _⟩⟩
    · rfl
    · rfl
    · rfl
    · exact absurd h hr
  · rcases hd with ⟨_, _, _, rfl⟩ | ⟨_, _, _, _, rfl⟩ | ⟨_, g', hg', ⟨_, _, _, rfl⟩ | ⟨_, _, _, _, rfl⟩ | ⟨_, _, _, _, _, rfl⟩ | ⟨_, _, _, _, h, _⟩⟩
    · rfl
    · rfl
    · rfl
    · rfl
    · rfl
    · exact absurd h hr
  · rcases hd with ⟨_, _, _, rfl⟩ | ⟨_, _, _, _, rfl⟩ | ⟨_, j, wt, q', c', _, _, _, _, h, _⟩
    · rfl
    · rfl
    · exact absurd h hr
  · rfl
/-- Any operation but Pick, Join, Leave. -/
theorem mid_other {f : Option Nat} {i : Nat} {A A' : Abs} {o : OpS} {r : Int} (h : Mid f i A) (hg : o.g = sG) (hk : o.kind ≠ 3 ∧ o.kind ≠ 4 ∧ o.kind ≠ 6) (hd : DoA A o r A') : Mid f (i + 1) A' := by
  have h0 := h.le (j := i + 1) (by omega)
  rcases hd with ⟨_, hd⟩ | ⟨_, v, hd⟩ | ⟨_, hd⟩ | ⟨k, _⟩ | ⟨k, _⟩ | ⟨_, k, hd⟩ | ⟨k, _⟩ | ⟨_, _, rfl⟩
  · rcases hd with ⟨_, _, rfl⟩ | ⟨_, _, _, rfl⟩ | ⟨_, _, _, p, _, _, rfl⟩ <;> exact h0
  · rcases hd with ⟨_, _, _, rfl⟩ | ⟨_, _, _, _, rfl⟩ | ⟨_, p, rest, _, _, _, rfl⟩ <;> exact h0
  · rcases hd with ⟨_, _, rfl⟩ | ⟨_, _, _, rfl⟩ | ⟨_, hn, _, rfl⟩
    · exact h0
    · exact h0
    · obtain ⟨g, h1, _⟩ := h
      rw [hg, h1] at hn
      cases hn
  · exact absurd k hk.1
  · exact absurd k hk.2.1
  · rcases hd with ⟨_, _, _, rfl⟩ | ⟨_, _, _, _, rfl⟩ | ⟨_, g', hg', ⟨_, _, _, rfl⟩ | ⟨_, _, _, _, rfl⟩ | ⟨_, _, _, _, _, rfl⟩ | ⟨_, _, _, _, _, en, _, _, _, _, rfl⟩⟩
    · exact h0
    · exact h0
    · exact h0
    · exact h0
    · exact h0
    · obtain ⟨g, h1, h2, h3⟩ := h
      rw [hg, h1] at hg'
      injection hg' with hg'
      subst hg'
      refine ⟨⟨if o.kd = 3 then o.ep + 1 else o.ep, g.log ++ [en], g.subs⟩, by rw [hg]; simp [setQ], by show (g.log ++ [en]).length ≤ i + 1; rw [List.length_append]; simp only [List.length_cons, List.length_nil]; omega, ?_⟩
      cases f with
      | none =>
        refine ⟨h3.1, ?_⟩
        dsimp only
        rw [h3.1]
        exact h3.2
      | some f =>
        refine ⟨h3.1, ?_⟩
        dsimp only
        rw [h3.1, hg]
        show IsQ f (g.log ++ [en]) (setQ A.wq sMe (A.wq sMe ++ [⟨sG, g.log.length, en⟩]) sMe)
        rw [setQ_same]
        exact h3.2.snoc en
  · exact absurd k hk.2.2
  · exact h0
/-- Join. -/
theorem mid_join {f : Option Nat} {i : Nat} {A A' : Abs} {o : OpS} {r : Int} (h : Mid f i A) (hg : o.g = sG) (hn : o.n = sMe) (hk : o.kind = 3) (hd : DoA A o r A') : (r ≠ 0 ∧ Mid f (i + 1) A') ∨ (r = 0 ∧ f = none ∧ Mid (some (logA A sG).length) (i + 1) A') := by
  have h0 := h.le (j := i + 1) (by omega)
  rcases hd with ⟨k, _⟩ | ⟨k, _⟩ | ⟨k, _⟩ | ⟨_, hd⟩ | ⟨k, _⟩ | ⟨k, _⟩ | ⟨k, _⟩ | ⟨k, _⟩ <;> try omega
  rcases hd with ⟨_, rfl, rfl⟩ | ⟨_, _, rfl, rfl⟩ | ⟨_, g', hg', ⟨_, rfl, rfl⟩ | ⟨_, _, rfl, rfl⟩ | ⟨hm, _, rfl, rfl⟩⟩
  · exact .inl ⟨by omega, h0⟩
  · exact .inl ⟨by omega, h0⟩
  · exact .inl ⟨by omega, h0⟩
  · exact .inl ⟨by omega, h0⟩
  · obtain ⟨g, h1, h2, h3⟩ := h
    rw [hg, h1] at hg'
    injection hg' with hg'
    subst hg'
    have hlog : logA A sG = g.log := by
      unfold logA
      rw [if_pos (by decide), h1]
    cases f with
    | some f =>
      rw [h3.1, hn] at hm
      exact absurd (List.mem_cons_self ..) hm
    | none =>
      refine .inr ⟨rfl, rfl, ⟨g.ep, g.log, g.subs ++ [o.n]⟩, by rw [hg]; simp [setQ], by show g.log.length ≤ i + 1; omega, ?_⟩
      rw [hlog]
      refine ⟨by show g.subs ++ [o.n] = [sMe]; rw [h3.1, hn]; rfl, ?_⟩
      show IsQ g.log.length g.log (A.wq sMe)
      rw [h3.2]
      exact IsQ.nil g.log
/-- Leave. -/
theorem mid_leave {f : Option Nat} {i : Nat} {A A' : Abs} {o : OpS} {r : Int} (h : Mid f i A) (hi : i ≤ 200) (hg : o.g = sG) (hk : o.kind = 4) (hd : DoA A o r A') : (r ≠ 0 ∧ Mid f (i + 1) A') ∨ (r = 0 ∧ ∃ f0, f = some f0 ∧ Fin_ f0 A' ∧ (logA A' sG).length = (logA A sG).length) := by
  have h0 := h.le (j := i + 1) (by omega)
  rcases hd with ⟨k, _⟩ | ⟨k, _⟩ | ⟨k, _⟩ | ⟨k, _⟩ | ⟨_, hd⟩ | ⟨k, _⟩ | ⟨k, _⟩ | ⟨k, _⟩ <;> try omega
  rcases hd with ⟨_, rfl, rfl⟩ | ⟨_, _, rfl, rfl⟩ | ⟨_, g', hg', ⟨_, rfl, rfl⟩ | ⟨hm, rfl, rfl⟩⟩
  · exact .inl ⟨by omega, h0⟩
  · exact .inl ⟨by omega, h0⟩
  · exact .inl ⟨by omega, h0⟩
  · obtain ⟨g, h1, h2, h3⟩ := h
    rw [hg, h1] at hg'
    injection hg' with hg'
    subst hg'
    cases f with
    | none =>
      rw [h3.1] at hm
      cases hm
    | some f =>
      refine .inr ⟨rfl, f, rfl, ⟨⟨g.ep, g.log, struck g.subs o.n⟩, by rw [hg]; simp [setQ], by show g.log.length ≤ 200; omega, h3.2⟩, ?_⟩
      unfold logA
      rw [if_pos (by decide), if_pos (by decide), h1, hg]
      simp [setQ]
theorem Mid.fin {f i : Nat} {A : Abs} (h : Mid (some f) i A) (hi : i ≤ 200) : Fin_ f A := by
  obtain ⟨g, h1, h2, h3⟩ := h
  exact ⟨g, h1, by omega, h3.2⟩
theorem mid_none {i : Nat} {A : Abs} (h : Mid none i A) : A.wq sMe = [] := by
  obtain ⟨g, h1, h2, h3⟩ := h
  exact h3.2
/-- What waits: these numbers, of this log. -/
def Want (log : List En) (WL : List Nat) (A : Abs) : Prop := (A.wq sMe).map (·.k) = WL ∧ ∀ x ∈ A.wq sMe, x.s = sG ∧ log[x.k]? = some x.en
theorem Fin_.want {f : Nat} {A : Abs} (h : Fin_ f A) : f ≤ (logA A sG).length ∧ (logA A sG).length ≤ 200 ∧ Want (logA A sG) (List.range' f ((logA A sG).length - f)) A := by
  obtain ⟨g, h1, h2, h3, h4, h5⟩ := h
  have hlog : logA A sG = g.log := by
    unfold logA
    rw [if_pos (by decide), h1]
  rw [hlog]
  refine ⟨h3, h2, ?_, fun x hx => ?_⟩
  · apply List.ext_getElem?
    intro i
    rw [List.getElem?_map, h5 i]
    by_cases hi : i < g.log.length - f
    · rw [List.getElem?_eq_getElem (by omega : f + i < g.log.length), List.getElem?_range' hi]
      simp
    · rw [List.getElem?_eq_none (by omega : g.log.length ≤ f + i), List.getElem?_eq_none (by simp; omega)]
      rfl
  · obtain ⟨i, hi⟩ := List.mem_iff_getElem?.1 hx
    rw [h5 i] at hi
    obtain ⟨e, he, rfl⟩ := Option.map_eq_some_iff.1 hi
    exact ⟨rfl, he⟩
theorem want_pick {log : List En} {WL : List Nat} {k : Nat} (hk : k < WL.length) {v : Value} {r : Int} {A' : Abs} {W' : World} (h : ∃ A, Want log WL A ∧ PicA A sMe k v r A' W') :
    r = 0 ∧ Want log (WL.eraseIdx k) A' ∧ ∃ (K : Nat) (e : En) (q c : Nat), WL[k]? = some K ∧ log[K]? = some e ∧ v = .agg #[.string sG, .int .i64 K, .int .i64 e.ep, .int .i64 e.kd, .slice (some ⟨q, 0, none⟩) e.n c] ∧ Body W' q e.n c e.l := by
  obtain ⟨A, ⟨h1, h2⟩, h⟩ := h
  have hl : (A.wq sMe).length = WL.length := by rw [← h1]; simp
  rcases h with ⟨h, _⟩ | ⟨_, h, _⟩ | ⟨_, j, wt, q', c', hj, hw, rfl, hb, rfl, rfl⟩
  · exact absurd h (by decide)
  · omega
  · obtain rfl : k = j := by omega
    have hmem := List.mem_of_getElem? hw
    obtain ⟨hs, hlg⟩ := h2 wt hmem
    refine ⟨rfl, ⟨?_, fun x hx => ?_⟩, wt.k, wt.en, q', c', ?_, hlg, by rw [hs], hb⟩
    · show (setQ A.wq sMe ((A.wq sMe).eraseIdx k) sMe).map (·.k) = WL.eraseIdx k
      rw [setQ_same, map_erase, h1]
    · have hx : x ∈ setQ A.wq sMe ((A.wq sMe).eraseIdx k) sMe := hx
      rw [setQ_same] at hx
      exact h2 x ((List.eraseIdx_sublist _ _).subset hx)
    · rw [← h1, List.getElem?_map, hw]
      rfl
end Go.Proofs.Ytiebggfpjkhlaaa
