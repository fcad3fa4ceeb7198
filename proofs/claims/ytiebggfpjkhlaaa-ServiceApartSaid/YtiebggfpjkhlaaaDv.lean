/- Two services side by side; what ServiceApart holds them to. No condition. -/
import Derived.Test.YtiebggfpjkhlaaaDu
import Derived.Test.YtiebggfpjkhlaaaDs
namespace Go.Proofs.Ytiebggfpjkhlaaa
open Go Go.RowKit
set_option linter.unusedSimpArgs false
/-- Two services, made since w; blocks that neither owns. -/
def Two (w : World) (b b' : Nat) (X : List Nat) (P : Abs → Abs → Prop) (W : World) : Prop :=
  ∃ B B' m0 m1 m2 k0 k1 k2 A C os cs, w.heap.size ≤ B ∧ w.heap.size ≤ B' ∧ SRep B b m0 m1 m2 A os W ∧ SRep B' b' k0 k1 k2 C cs W ∧ (∀ i ∈ b :: os, i ∉ b' :: cs) ∧ Below w.heap.size w W ∧ (∀ i ∈ X, i ∉ os ∧ i ∉ cs ∧ i < W.heap.size) ∧ P A C
section
variable {w W W' : World} {b b' : Nat} {X : List Nat} {P Q : Abs → Abs → Prop}
theorem Two.imp (h : Two w b b' X P W) (hpq : ∀ A C, P A C → Q A C) : Two w b b' X Q W := by
  obtain ⟨B, B', m0, m1, m2, k0, k1, k2, A, C, os, cs, hB, hB', h1, h2, h3, h4, hX, h5⟩ := h
  exact ⟨B, B', m0, m1, m2, k0, k1, k2, A, C, os, cs, hB, hB', h1, h2, h3, h4, hX, hpq A C h5⟩
theorem Two.keep (h : Two w b b' X P W) (hb : Below W.heap.size W W') : Two w b b' X P W' := by
  obtain ⟨B, B', m0, m1, m2, k0, k1, k2, A, C, os, cs, hB, hB', h1, h2, h3, h4, hX, h5⟩ := h
  exact ⟨B, B', m0, m1, m2, k0, k1, k2, A, C, os, cs, hB, hB', h1.keep hb, h2.keep hb, h3, below_thru h4 hb, fun i hi => ⟨(hX i hi).1, (hX i hi).2.1, Nat.lt_of_lt_of_le (hX i hi).2.2 hb.size⟩, h5⟩
/-- A block that is new is neither's. -/
theorem Two.spare (h : Two w b b' X P W) (hb : Below W.heap.size W W') {ad : Nat} (h1 : W.heap.size ≤ ad) (h2 : ad < W'.heap.size) : Two w b b' (ad :: X) P W' := by
  obtain ⟨B, B', m0, m1, m2, k0, k1, k2, A, C, os, cs, hB, hB', g1, g2, h3, h4, hX, h5⟩ := h
  refine ⟨B, B', m0, m1, m2, k0, k1, k2, A, C, os, cs, hB, hB', g1.keep hb, g2.keep hb, h3, below_thru h4 hb, fun i hi => ?_, h5⟩
  rcases List.mem_cons.1 hi with rfl | hi
  · exact ⟨fun h => by have := (g1.lt _ h).2; omega, fun h => by have := (g2.lt _ h).2; omega, h2⟩
  · exact ⟨(hX i hi).1, (hX i hi).2.1, Nat.lt_of_lt_of_le (hX i hi).2.2 hb.size⟩
theorem Two.drop (h : Two w b b' X P W) : Two w b b' [] P W := by
  obtain ⟨B, B', m0, m1, m2, k0, k1, k2, A, C, os, cs, hB, hB', h1, h2, h3, h4, hX, h5⟩ := h
  exact ⟨B, B', m0, m1, m2, k0, k1, k2, A, C, os, cs, hB, hB', h1, h2, h3, h4, by simp, h5⟩
theorem Two.below (h : Two w b b' X P W) : Below w.heap.size w W := by
  obtain ⟨_, _, _, _, _, _, _, _, _, _, _, _, _, _, _, _, _, h4, _⟩ := h
  exact h4
theorem Two.some (h : Two w b b' X P W) : ∃ A C, P A C := by
  obtain ⟨_, _, _, _, _, _, _, _, A, C, _, _, _, _, _, _, _, _, _, h5⟩ := h
  exact ⟨A, C, h5⟩
theorem Two.swap (h : Two w b b' X P W) : Two w b' b X (fun C A => P A C) W := by
  obtain ⟨B, B', m0, m1, m2, k0, k1, k2, A, C, os, cs, hB, hB', h1, h2, h3, h4, hX, h5⟩ := h
  exact ⟨B', B, k0, k1, k2, m0, m1, m2, C, A, cs, os, hB', hB, h2, h1, fun i hi hj => h3 i hj hi, h4, fun i hi => ⟨(hX i hi).2.1, (hX i hi).1, (hX i hi).2.2⟩, h5⟩
theorem Chg.below2 {ws : List Nat} {w W W1 : World} (h : Chg ws W W1) (hb : Below w.heap.size w W) (hw : ∀ i ∈ ws, w.heap.size ≤ i) : Below w.heap.size w W1 := h.below hb hw hb.size
/-- A call on the first one. -/
theorem two_left {B B' m0 m1 m2 k0 k1 k2 : Nat} {A C : Abs} {os cs : List Nat} {R : Value → Abs → World → Prop} {e : Ending} (hB : w.heap.size ≤ B) (hB' : w.heap.size ≤ B') (h1 : SRep B b m0 m1 m2 A os W) (h2 : SRep B' b' k0 k1 k2 C cs W) (h3 : ∀ i ∈ b :: os, i ∉ b' :: cs) (h4 : Below w.heap.size w W) (hX : ∀ i ∈ X, i ∉ os ∧ i ∉ cs ∧ i < W.heap.size)
    (hd : Did B b m0 m1 m2 os W R e W') : ∃ v, e = .returned v ∧ Two w b b' X (fun A' C' => R v A' W' ∧ C' = C) W' ∧ ∀ i ∈ X, W'.heap[i]? = W.heap[i]? := by
  obtain ⟨v, A', os', he, g1, g2, g3⟩ := hd
  have hcs := h2.lt
  have hlb : b' < W.heap.size := (Array.getElem?_eq_some_iff.1 h2.svc_).1
  refine ⟨v, he, ⟨B, B', m0, m1, m2, k0, k1, k2, A', C, os', cs, hB, hB', g1, h2.stay g2.chg h1.noU (fun i hi hj => h3 i (by simp [hj]) hi), fun i hi hj => ?_, g2.chg.below2 h4 (fun i hi => Nat.le_trans hB (h1.lt i hi).1), fun i hi => ⟨fun h => ?_, (hX i hi).2.1, Nat.lt_of_lt_of_le (hX i hi).2.2 g2.chg.size⟩, g3, rfl⟩, fun i hi => g2.chg.block i (hX i hi).2.2 (hX i hi).1⟩
  · rcases List.mem_cons.1 hi with rfl | hi
    · exact h3 i (by simp) hj
    · rcases g2.own i hi with h5 | h5
      · exact h3 i (by simp [h5]) hj
      · rcases List.mem_cons.1 hj with rfl | hj
        · omega
        · have := (hcs i hj).2
          omega
  · rcases g2.own i h with h5 | h5
    · exact (hX i hi).1 h5
    · have := (hX i hi).2.2
      omega
theorem new_two (w : World) {W : World} {b : Nat} {m0 m1 m2 : Nat} {A : Abs} {os : List Nat} (h1 : SRep w.heap.size b m0 m1 m2 A os W) (h4 : Below w.heap.size w W) :
    Calls Try.prog 8 #[] W fun e W' => ∃ b', e = .returned (.pointer (some ⟨b', 0, none⟩)) ∧ Two w b b' [] (fun A' C => A' = A ∧ C = ⟨fun _ => [], fun _ => none, fun _ => []⟩) W' := by
  refine (new_S W).mono ?_
  rintro e W' ⟨b', k0, k1, k2, cs, he, g1, g2⟩
  have hlb : b < W.heap.size := (Array.getElem?_eq_some_iff.1 h1.svc_).1
  have hbel : Below W.heap.size W W' := g2.chg.below (Below.refl _ _) (by simp) (Nat.le_refl _)
  refine ⟨b', he, w.heap.size, W.heap.size, m0, m1, m2, k0, k1, k2, A, _, os, cs, Nat.le_refl _, h4.size, h1.keep hbel, g1, fun i hi hj => ?_, below_thru h4 hbel, by simp, rfl, rfl⟩
  have h6 : W.heap.size ≤ i := by
    rcases g2.own i hj with h5 | h5
    · cases h5
    · exact h5
  rcases List.mem_cons.1 hi with rfl | hi
  · omega
  · have := (h1.lt i hi).2
    omega
theorem do_two (h : Two w b b' X P W) (o : OpS) (hx : Bs w o.q o.nb o.l) (hlen : ∀ A C gs, P A C → A.gq o.g = some gs → gs.log.length ≤ 2000000000000) :
    Calls Try.prog 19 #[.pointer (some ⟨b, 0, none⟩), o.v] W fun e W' => ∃ r : Int, e = .returned (.int .i64 r) ∧ Two w b b' X (fun A' C => ∃ A, P A C ∧ DoA A o r A') W' ∧ ∀ i ∈ X, W'.heap[i]? = W.heap[i]? := by
  obtain ⟨B, B', m0, m1, m2, k0, k1, k2, A, C, os, cs, hB, hB', h1, h2, h3, h4, hX, h5⟩ := h
  refine (do_S h1 o (fun W' hc => hx.keep (hc.below2 h4 (fun i hi => Nat.le_trans hB (h1.lt i hi).1))) (fun gs hg => hlen A C gs h5 hg)).mono fun e W' hd => ?_
  obtain ⟨v, rfl, ht, hst⟩ := two_left hB hB' h1 h2 h3 h4 hX hd
  obtain ⟨A1, C1, ⟨r, rfl, hd1⟩, rfl⟩ := ht.some
  refine ⟨r, rfl, ht.imp fun A' C' h => ?_, hst⟩
  obtain ⟨⟨r', hr, hd'⟩, rfl⟩ := h
  cases hr
  exact ⟨A, h5, hd'⟩
theorem log_two (h : Two w b b' X P W) (s : ByteArray) (hlen : ∀ A C, P A C → (logA A s).length ≤ 2000000000000) :
    Calls Try.prog 15 #[.pointer (some ⟨b, 0, none⟩), .string s] W fun e W' => ∃ log, Two w b b' X (fun A C => P A C ∧ logA A s = log) W' ∧ LogR log W e W' := by
  obtain ⟨B, B', m0, m1, m2, k0, k1, k2, A, C, os, cs, hB, hB', h1, h2, h3, h4, hX, h5⟩ := h
  refine (log_S h1 s (hlen A C h5)).mono fun e W' hr => ?_
  have hb := hr
  obtain ⟨_, _, _, _, _, _, hb⟩ := hb
  exact ⟨logA A s, Two.keep ⟨B, B', m0, m1, m2, k0, k1, k2, A, C, os, cs, hB, hB', h1, h2, h3, h4, hX, h5, rfl⟩ hb, hr⟩
theorem epoch_two (h : Two w b b' X P W) (s : ByteArray) :
    Calls Try.prog 20 #[.pointer (some ⟨b, 0, none⟩), .string s] W fun e W' => ∃ x : Int × Int, e = .returned (.tuple #[.int .i64 x.1, .int .i64 x.2]) ∧ Below W.heap.size W W' ∧ Two w b b' X (fun A C => P A C ∧ epoA A s = x) W' := by
  obtain ⟨B, B', m0, m1, m2, k0, k1, k2, A, C, os, cs, hB, hB', h1, h2, h3, h4, hX, h5⟩ := h
  refine (epoch_S h1 s).mono fun e W' ⟨he, hb⟩ => ?_
  exact ⟨epoA A s, he, hb, Two.keep ⟨B, B', m0, m1, m2, k0, k1, k2, A, C, os, cs, hB, hB', h1, h2, h3, h4, hX, h5, rfl⟩ hb⟩
end
/-- Of the same group in both. -/
def GEq : Option GS → Option GS → Prop
  | none, none => True
  | some g, some h => g.ep = h.ep ∧ g.subs = h.subs ∧ g.log.map En.what = h.log.map En.what
  | _, _ => False
/-- No row is long. -/
def Thin (i : Nat) (A : Abs) : Prop := (∀ t, (A.wq t).length ≤ i) ∧ ∀ s g, A.gq s = some g → g.subs.Nodup ∧ g.log.length ≤ i
def Ap (i : Nat) (A C : Abs) : Prop := GEq (A.gq sG) (C.gq sG) ∧ Thin i A ∧ Thin i C
theorem Thin.le {i j : Nat} {A : Abs} (h : Thin i A) (hij : i ≤ j) : Thin j A := ⟨fun t => Nat.le_trans (h.1 t) hij, fun s g hg => ⟨(h.2 s g hg).1, Nat.le_trans (h.2 s g hg).2 hij⟩⟩
theorem fold_one (w : Wt) (nm : List ByteArray) (f : ByteArray → List Wt) (t : ByteArray) (hn : nm.Nodup) : (nm.foldl (tellQ w) f t).length ≤ (f t).length + 1 := by
  by_cases h : t ∈ nm
  · rw [fold_in w nm f t h hn, List.length_append]
    exact Nat.le_refl _
  · rw [fold_out w nm f t h]
    omega
theorem nodup_snoc {nm : List ByteArray} {who : ByteArray} (h : nm.Nodup) (hw : who ∉ nm) : (nm ++ [who]).Nodup := by
  rw [List.nodup_append]
  refine ⟨h, by simp, fun a ha b hb => ?_⟩
  have : b = who := by simpa using hb
  rintro rfl
  exact hw (by rw [← this]; exact ha)
theorem nodup_struck {nm : List ByteArray} {who : ByteArray} (h : nm.Nodup) : (struck nm who).Nodup := by
  unfold struck
  exact h.filter _
theorem thin_step {i : Nat} {A A' : Abs} {o : OpS} {r : Int} (h : Thin i A) (hd : DoA A o r A') : Thin (i + 1) A' := by
  have h0 := h.le (j := i + 1) (by omega)
  rcases hd with ⟨_, hd⟩ | ⟨_, v, hd⟩ | ⟨_, hd⟩ | ⟨_, hd⟩ | ⟨_, hd⟩ | ⟨_, k, hd⟩ | ⟨_, v, W', hd⟩ | ⟨_, _, rfl⟩
  · rcases hd with ⟨_, _, rfl⟩ | ⟨_, _, _, rfl⟩ | ⟨_, _, _, p, _, _, rfl⟩
    · exact h0
    · exact h0
    · exact h0
  · rcases hd with ⟨_, _, _, rfl⟩ | ⟨_, _, _, _, rfl⟩ | ⟨_, p, rest, _, _, _, rfl⟩
    · exact h0
    · exact h0
    · exact h0
  · rcases hd with ⟨_, _, rfl⟩ | ⟨_, _, _, rfl⟩ | ⟨_, hn, _, rfl⟩
    · exact h0
    · exact h0
    · refine ⟨h0.1, fun s g hg => ?_⟩
      dsimp only [setQ] at hg
      by_cases hs : s = o.g
      · rw [if_pos hs] at hg
        cases hg
        exact ⟨List.nodup_nil, Nat.zero_le _⟩
      · rw [if_neg hs] at hg
        exact h0.2 s g hg
  · rcases hd with ⟨_, _, rfl⟩ | ⟨_, _, _, rfl⟩ | ⟨_, g', hg', ⟨_, _, rfl⟩ | ⟨_, _, _, rfl⟩ | ⟨hw, _, _, rfl⟩⟩
    · exact h0
    · exact h0
    · exact h0
    · exact h0
    · refine ⟨h0.1, fun s g hg => ?_⟩
      dsimp only [setQ] at hg
      by_cases hs : s = o.g
      · rw [if_pos hs] at hg
        cases hg
        exact ⟨nodup_snoc (h0.2 _ g' hg').1 hw, (h0.2 _ g' hg').2⟩
      · rw [if_neg hs] at hg
        exact h0.2 s g hg
  · rcases hd with ⟨_, _, rfl⟩ | ⟨_, _, _, rfl⟩ | ⟨_, g', hg', ⟨_, _, rfl⟩ | ⟨_, _, rfl⟩⟩
    · exact h0
    · exact h0
    · exact h0
    · refine ⟨h0.1, fun s g hg => ?_⟩
      dsimp only [setQ] at hg
      by_cases hs : s = o.g
      · rw [if_pos hs] at hg
        cases hg
        exact ⟨nodup_struck (h0.2 _ g' hg').1, (h0.2 _ g' hg').2⟩
      · rw [if_neg hs] at hg
        exact h0.2 s g hg
  · rcases hd with ⟨_, _, _, rfl⟩ | ⟨_, _, _, _, rfl⟩ | ⟨_, g', hg', ⟨_, _, _, rfl⟩ | ⟨_, _, _, _, rfl⟩ | ⟨_, _, _, _, _, rfl⟩ | ⟨_, _, _, _, _, en, _, _, _, _, rfl⟩⟩
    · exact h0
    · exact h0
    · exact h0
    · exact h0
    · exact h0
    · refine ⟨fun t => ?_, fun s g hg => ?_⟩
      · have := fold_one ⟨o.g, g'.log.length, en⟩ g'.subs A.wq t (h.2 _ g' hg').1
        have := h.1 t
        show (g'.subs.foldl (tellQ ⟨o.g, g'.log.length, en⟩) A.wq t).length ≤ i + 1
        omega
      · dsimp only [setQ] at hg
        by_cases hs : s = o.g
        · rw [if_pos hs] at hg
          cases hg
          refine ⟨(h.2 _ g' hg').1, ?_⟩
          have := (h.2 _ g' hg').2
          show (g'.log ++ [en]).length ≤ i + 1
          rw [List.length_append]
          simp only [List.length_cons, List.length_nil]
          omega
        · rw [if_neg hs] at hg
          exact h0.2 s g hg
  · rcases hd with ⟨_, _, _, rfl⟩ | ⟨_, _, _, _, rfl⟩ | ⟨_, j, wt, q', c', _, _, _, _, _, rfl⟩
    · exact h0
    · exact h0
    · refine ⟨fun t => ?_, h0.2⟩
      show (setQ A.wq o.n ((A.wq o.n).eraseIdx j) t).length ≤ i + 1
      unfold setQ
      split
      · have h8 := List.length_eraseIdx_le (A.wq o.n) j
        have := h.1 o.n
        omega
      · exact h0.1 t
  · exact h0
/-- What is done with no group "g" leaves it. -/
theorem other_step {A A' : Abs} {o : OpS} {r : Int} (hm : ¬ (o.g = sG ∧ 2 ≤ o.kind ∧ o.kind ≤ 5)) (hd : DoA A o r A') : A'.gq sG = A.gq sG := by
  have hset : ∀ x, o.kind = 2 ∨ o.kind = 3 ∨ o.kind = 4 ∨ o.kind = 5 → setQ A.gq o.g x sG = A.gq sG := by
    intro x hk
    exact setQ_other _ _ (fun h => hm ⟨h.symm, by omega, by omega⟩)
  rcases hd with ⟨_, hd⟩ | ⟨_, v, hd⟩ | ⟨hk, hd⟩ | ⟨hk, hd⟩ | ⟨hk, hd⟩ | ⟨hk, k, hd⟩ | ⟨_, v, W', hd⟩ | ⟨_, _, rfl⟩
  · rcases hd with ⟨_, _, rfl⟩ | ⟨_, _, _, rfl⟩ | ⟨_, _, _, p, _, _, rfl⟩ <;> rfl
  · rcases hd with ⟨_, _, _, rfl⟩ | ⟨_, _, _, _, rfl⟩ | ⟨_, p, rest, _, _, _, rfl⟩ <;> rfl
  · rcases hd with ⟨_, _, rfl⟩ | ⟨_, _, _, rfl⟩ | ⟨_, hn, _, rfl⟩
    · rfl
    · rfl
    · exact hset _ (by omega)
  · rcases hd with ⟨_, _, rfl⟩ | ⟨_, _, _, rfl⟩ | ⟨_, g', hg', ⟨_, _, rfl⟩ | ⟨_, _, _, rfl⟩ | ⟨hw, _, _, rfl⟩⟩
    · rfl
    · rfl
    · rfl
    · rfl
    · exact hset _ (by omega)
  · rcases hd with ⟨_, _, rfl⟩ | ⟨_, _, _, rfl⟩ | ⟨_, g', hg', ⟨_, _, rfl⟩ | ⟨_, _, rfl⟩⟩
    · rfl
    · rfl
    · rfl
    · exact hset _ (by omega)
  · rcases hd with ⟨_, _, _, rfl⟩ | ⟨_, _, _, _, rfl⟩ | ⟨_, g', hg', ⟨_, _, _, rfl⟩ | ⟨_, _, _, _, rfl⟩ | ⟨_, _, _, _, _, rfl⟩ | ⟨_, _, _, _, _, en, _, _, _, _, rfl⟩⟩
    · rfl
    · rfl
    · rfl
    · rfl
    · rfl
    · exact hset _ (by omega)
  · rcases hd with ⟨_, _, _, rfl⟩ | ⟨_, _, _, _, rfl⟩ | ⟨_, j, wt, q', c', _, _, _, _, _, rfl⟩ <;> rfl
  · rfl
theorem thin_free {i : Nat} {A : Abs} (h : Thin i A) (hi : i < 256) (nm : List ByteArray) : fullA A nm = false := by
  unfold fullA
  rw [List.any_eq_false]
  intro t _
  have := h.1 t
  simp
  omega
open Classical in
theorem joi_some {A A' : Abs} {s who : ByteArray} {r : Int} {g : GS} (hg : A.gq s = some g) (h : JoiA A s who r A') :
    r = (if (okN s && okN who) = false then 1 else if who ∈ g.subs then 50 else if 16 ≤ g.subs.length then 64 else 0) ∧ ∃ g', A'.gq s = some g' ∧ g'.ep = g.ep ∧ g'.log = g.log ∧ g'.subs = if r = 0 then g.subs ++ [who] else g.subs := by
  rcases h with ⟨a, rfl, rfl⟩ | ⟨_, hn, _, _⟩ | ⟨a, g', hg', ⟨b, rfl, rfl⟩ | ⟨b, c, rfl, rfl⟩ | ⟨b, c, rfl, rfl⟩⟩
  · rw [if_pos a]
    exact ⟨rfl, g, hg, rfl, rfl, by simp⟩
  · rw [hg] at hn; cases hn
  · rw [hg] at hg'; cases hg'
    rw [if_neg (by simp [a]), if_pos b]
    exact ⟨rfl, g, hg, rfl, rfl, by simp⟩
  · rw [hg] at hg'; cases hg'
    rw [if_neg (by simp [a]), if_neg b, if_pos c]
    exact ⟨rfl, g, hg, rfl, rfl, by simp⟩
  · rw [hg] at hg'; cases hg'
    rw [if_neg (by simp [a]), if_neg b, if_neg (by omega)]
    exact ⟨rfl, ⟨g.ep, g.log, g.subs ++ [who]⟩, by simp [setQ], rfl, rfl, by simp⟩
theorem joi_none {A A' : Abs} {s who : ByteArray} {r : Int} (hg : A.gq s = none) (h : JoiA A s who r A') : r = (if (okN s && okN who) = false then 1 else 3) ∧ A'.gq s = none := by
  rcases h with ⟨a, rfl, rfl⟩ | ⟨a, hn, rfl, rfl⟩ | ⟨a, g', hg', _⟩
  · exact ⟨by rw [if_pos a], hg⟩
  · exact ⟨by rw [if_neg (by simp [a])], hg⟩
  · rw [hg] at hg'; cases hg'
open Classical in
theorem lea_some {A A' : Abs} {s who : ByteArray} {r : Int} {g : GS} (hg : A.gq s = some g) (h : LeaA A s who r A') :
    r = (if (okN s && okN who) = false then 1 else if who ∈ g.subs then 0 else 3) ∧ ∃ g', A'.gq s = some g' ∧ g'.ep = g.ep ∧ g'.log = g.log ∧ g'.subs = if r = 0 then struck g.subs who else g.subs := by
  rcases h with ⟨a, rfl, rfl⟩ | ⟨_, hn, _, _⟩ | ⟨a, g', hg', ⟨b, rfl, rfl⟩ | ⟨b, rfl, rfl⟩⟩
  · rw [if_pos a]
    exact ⟨rfl, g, hg, rfl, rfl, by simp⟩
  · rw [hg] at hn; cases hn
  · rw [hg] at hg'; cases hg'
    rw [if_neg (by simp [a]), if_neg b]
    exact ⟨rfl, g, hg, rfl, rfl, by simp⟩
  · rw [hg] at hg'; cases hg'
    rw [if_neg (by simp [a]), if_pos b]
    exact ⟨rfl, ⟨g.ep, g.log, struck g.subs who⟩, by simp [setQ], rfl, rfl, by simp⟩
theorem lea_none {A A' : Abs} {s who : ByteArray} {r : Int} (hg : A.gq s = none) (h : LeaA A s who r A') : r = (if (okN s && okN who) = false then 1 else 3) ∧ A'.gq s = none := by
  rcases h with ⟨a, rfl, rfl⟩ | ⟨a, hn, rfl, rfl⟩ | ⟨a, g', hg', _⟩
  · exact ⟨by rw [if_pos a], hg⟩
  · exact ⟨by rw [if_neg (by simp [a])], hg⟩
  · rw [hg] at hg'; cases hg'
open Classical in
theorem sen_some {A A' : Abs} {s : ByteArray} {ep kd : Int} {n k : Nat} {l : List Int} {r : Int} {g : GS} (hg : A.gq s = some g) (hf : ∀ nm, fullA A nm = false) (h : SenA A s ep kd n l k r A') :
    r = (if ¬ okS s ep kd n then 1 else if ep ≠ g.ep then 60 else if kd = 3 ∧ ep + 1 ≥ 4294967296 then 65 else 0) ∧ ∃ g', A'.gq s = some g' ∧ g'.subs = g.subs ∧ g'.ep = (if r = 0 then (if kd = 3 then ep + 1 else ep) else g.ep) ∧ g'.log.map En.what = if r = 0 then g.log.map En.what ++ [(ep, kd, l)] else g.log.map En.what := by
  rcases h with ⟨a, _, rfl, rfl⟩ | ⟨_, hn, _, _⟩ | ⟨a, g', hg', ⟨b, _, rfl, rfl⟩ | ⟨b, c, _, rfl, rfl⟩ | ⟨_, _, b, _⟩ | ⟨b, c, d, _, rfl, en, h5, h6, h7, _, rfl⟩⟩
  · rw [if_pos a]
    exact ⟨rfl, g, hg, rfl, by simp, by simp⟩
  · rw [hg] at hn; cases hn
  · rw [hg] at hg'; cases hg'
    rw [if_neg (fun h => h a), if_pos b]
    exact ⟨rfl, g, hg, rfl, by simp, by simp⟩
  · rw [hg] at hg'; cases hg'
    rw [if_neg (fun h => h a), if_neg (fun h => h b), if_pos c]
    exact ⟨rfl, g, hg, rfl, by simp, by simp⟩
  · rw [hf] at b; cases b
  · rw [hg] at hg'; cases hg'
    rw [if_neg (fun h => h a), if_neg (fun h => h b), if_neg c]
    refine ⟨rfl, ⟨if kd = 3 then ep + 1 else ep, g.log ++ [en], g.subs⟩, by simp [setQ], rfl, by simp, ?_⟩
    rw [if_pos rfl, List.map_append]
    show _ ++ [(en.ep, en.kd, en.l)] = _
    rw [h5, h6, h7]
open Classical in
theorem sen_none {A A' : Abs} {s : ByteArray} {ep kd : Int} {n k : Nat} {l : List Int} {r : Int} (hg : A.gq s = none) (h : SenA A s ep kd n l k r A') : r = (if ¬ okS s ep kd n then 1 else 3) ∧ A'.gq s = none := by
  rcases h with ⟨a, _, rfl, rfl⟩ | ⟨a, hn, _, rfl, rfl⟩ | ⟨a, g', hg', _⟩
  · exact ⟨by rw [if_pos a], hg⟩
  · exact ⟨by rw [if_neg (fun h => h a)], hg⟩
  · rw [hg] at hg'; cases hg'
theorem geq_cases {x y : Option GS} (h : GEq x y) : (x = none ∧ y = none) ∨ ∃ g h, x = some g ∧ y = some h ∧ g.ep = h.ep ∧ g.subs = h.subs ∧ g.log.map En.what = h.log.map En.what := by
  cases x with
  | none => cases y with
    | none => exact .inl ⟨rfl, rfl⟩
    | some g => exact h.elim
  | some g => cases y with
    | none => exact h.elim
    | some k => exact .inr ⟨g, k, rfl, rfl, h⟩
/-- What is done with "g" in both answers the same, and leaves the same. -/
theorem same_step {i : Nat} {A A' C C' : Abs} {o : OpS} {r q : Int} (hi : i < 200) (hg : o.g = sG) (hk : 2 ≤ o.kind ∧ o.kind ≤ 5) (hq : GEq (A.gq sG) (C.gq sG)) (hA : Thin i A) (hC : Thin i C) (h1 : DoA A o r A') (h2 : DoA C o q C') : r = q ∧ GEq (A'.gq sG) (C'.gq sG) := by
  have fA := fun nm => thin_free hA (by omega) nm
  have fC := fun nm => thin_free hC (by omega) nm
  have hsG : ∀ (f : ByteArray → Option GS) x, setQ f o.g x sG = x := fun f x => by rw [hg]; exact setQ_same _ _ _
  rcases h1 with ⟨h0, _⟩ | ⟨h0, _⟩ | ⟨k1, h1⟩ | ⟨k1, h1⟩ | ⟨k1, h1⟩ | ⟨k1, kk, h1⟩ | ⟨h0, _⟩ | ⟨h0, _⟩
  · omega
  · omega
  · rcases h2 with ⟨h0, _⟩ | ⟨h0, _⟩ | ⟨_, h2⟩ | ⟨k2, _⟩ | ⟨k2, _⟩ | ⟨k2, _⟩ | ⟨h0, _⟩ | ⟨h0, _⟩ <;> try omega
    rcases h1 with ⟨a, rfl, rfl⟩ | ⟨a, b, rfl, rfl⟩ | ⟨a, b, rfl, rfl⟩ <;> rcases h2 with ⟨c, rfl, rfl⟩ | ⟨c, d, rfl, rfl⟩ | ⟨c, d, rfl, rfl⟩
    · exact ⟨rfl, hq⟩
    · exact absurd c a
    · exact absurd c a
    · exact absurd a c
    · exact ⟨rfl, hq⟩
    · rw [hg] at b d
      rw [d] at hq
      cases hA2 : A'.gq sG with
      | none => exact absurd hA2 b
      | some g => rw [hA2] at hq; exact hq.elim
    · exact absurd a c
    · rw [hg] at b d
      rw [b] at hq
      cases hC2 : C'.gq sG with
      | none => exact absurd hC2 d
      | some g => rw [hC2] at hq; exact hq.elim
    · refine ⟨rfl, ?_⟩
      dsimp only
      rw [hsG, hsG]
      exact ⟨rfl, rfl, rfl⟩
  · rcases h2 with ⟨h0, _⟩ | ⟨h0, _⟩ | ⟨k2, _⟩ | ⟨_, h2⟩ | ⟨k2, _⟩ | ⟨k2, _⟩ | ⟨h0, _⟩ | ⟨h0, _⟩ <;> try omega
    rw [hg] at h1 h2
    rcases geq_cases hq with ⟨x1, x2⟩ | ⟨g, h, x1, x2, y1, y2, y3⟩
    · obtain ⟨r1, e1⟩ := joi_none x1 h1
      obtain ⟨r2, e2⟩ := joi_none x2 h2
      rw [e1, e2, r1, r2]
      exact ⟨rfl, trivial⟩
    · obtain ⟨r1, g1, e1, f1, f2, f3⟩ := joi_some x1 h1
      obtain ⟨r2, g2, e2, f4, f5, f6⟩ := joi_some x2 h2
      rw [y2] at r1
      have hr : r = q := r1.trans r2.symm
      rw [e1, e2]
      refine ⟨hr, by rw [f1, f4, y1], by rw [f3, f6, hr, y2], by rw [f2, f5, y3]⟩
  · rcases h2 with ⟨h0, _⟩ | ⟨h0, _⟩ | ⟨k2, _⟩ | ⟨k2, _⟩ | ⟨_, h2⟩ | ⟨k2, _⟩ | ⟨h0, _⟩ | ⟨h0, _⟩ <;> try omega
    rw [hg] at h1 h2
    rcases geq_cases hq with ⟨x1, x2⟩ | ⟨g, h, x1, x2, y1, y2, y3⟩
    · obtain ⟨r1, e1⟩ := lea_none x1 h1
      obtain ⟨r2, e2⟩ := lea_none x2 h2
      rw [e1, e2, r1, r2]
      exact ⟨rfl, trivial⟩
    · obtain ⟨r1, g1, e1, f1, f2, f3⟩ := lea_some x1 h1
      obtain ⟨r2, g2, e2, f4, f5, f6⟩ := lea_some x2 h2
      rw [y2] at r1
      have hr : r = q := r1.trans r2.symm
      rw [e1, e2]
      refine ⟨hr, by rw [f1, f4, y1], by rw [f3, f6, hr, y2], by rw [f2, f5, y3]⟩
  · rcases h2 with ⟨h0, _⟩ | ⟨h0, _⟩ | ⟨k2, _⟩ | ⟨k2, _⟩ | ⟨k2, _⟩ | ⟨_, kc, h2⟩ | ⟨h0, _⟩ | ⟨h0, _⟩ <;> try omega
    rw [hg] at h1 h2
    rcases geq_cases hq with ⟨x1, x2⟩ | ⟨g, h, x1, x2, y1, y2, y3⟩
    · obtain ⟨r1, e1⟩ := sen_none x1 h1
      obtain ⟨r2, e2⟩ := sen_none x2 h2
      rw [e1, e2, r1, r2]
      exact ⟨rfl, trivial⟩
    · obtain ⟨r1, g1, e1, f1, f2, f3⟩ := sen_some x1 fA h1
      obtain ⟨r2, g2, e2, f4, f5, f6⟩ := sen_some x2 fC h2
      rw [y1] at r1
      have hr : r = q := r1.trans r2.symm
      rw [e1, e2]
      refine ⟨hr, by rw [f2, f5, hr, y1], by rw [f1, f4, y2], by rw [f3, f6, hr, y3]⟩
  · omega
  · omega
end Go.Proofs.Ytiebggfpjkhlaaa
