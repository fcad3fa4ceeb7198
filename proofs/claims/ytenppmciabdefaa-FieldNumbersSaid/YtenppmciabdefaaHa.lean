/- Two arrays of bytes held against each other. No condition. -/
import Derived.Test.YtenppmciabdefaaRf
namespace Go.Proofs.Ytenppmciabdefaa
open Go Go.RowKit
section
variable {P : Program} (w : World)
theorem run_part_u8 (e : TypeId) (hE : (isAgg e).run P w = .ok false w) (l : List Int) (i : Nat) (hi : i < l.length) : (part e (l.map (Value.int .u8)).toArray i).run P w = .ok (.int .u8 l[i]) w := by
  simp only [part, Sem.run_bind, hE, Result.andThen_ok, Bool.false_eq_true, if_false]
  simp [hi]
theorem run_equal_arr (d : Nat) (t e : TypeId) (n : Nat) (ht : P.underlying t = some (.array n e)) (he : P.underlying e = some (.int .u8)) (hE : (isAgg e).run P w = .ok false w) (hs : (sizeOf e).run P w = .ok 1 w)
    (l m : List Int) (hl : l.length = n) (hm : m.length = n) :
    (Op.equalIn (d + 2) t (.agg (l.map (Value.int .u8)).toArray) (.agg (m.map (Value.int .u8)).toArray)).run P w = .ok (l == m) w := by
  rw [Op.equalIn]
  simp only [Sem.run_bind, run_underlying ht, Result.andThen_ok, hs]
  rw [Std.Legacy.Range.forIn_eq_forIn_range']
  have key : ∀ (k i : Nat), i + k = n → (forIn (List.range' i k) ((none : Option Bool), ()) (fun (i : Nat) (_ : Option Bool × Unit) => (do
            let a ← part e (l.map (Value.int .u8)).toArray (i * 1)
            let b ← part e (m.map (Value.int .u8)).toArray (i * 1)
            let c ← Op.equalIn (d + 1) e a b
            if (!c) = true then pure (ForInStep.done (some false, ())) else pure (ForInStep.yield (none, ())) : Sem (ForInStep (Option Bool × Unit))))).run P w = .ok (if l.drop i == m.drop i then none else some false, ()) w := by
    intro k
    induction k with
    | zero =>
      intro i hi
      have h1 : l.drop i = [] := List.drop_eq_nil_of_le (by omega)
      have h2 : m.drop i = [] := List.drop_eq_nil_of_le (by omega)
      simp [h1, h2]
    | succ k ih =>
      intro i hi
      have hil : i < l.length := by omega
      have him : i < m.length := by omega
      rw [List.range'_succ, List.forIn_cons]
      simp only [Sem.run_bind, Nat.mul_one, run_part_u8 w e hE l i hil, run_part_u8 w e hE m i him, Result.andThen_ok, run_equalIn_int w d e .u8 .u8 l[i] m[i] he]
      rw [List.drop_eq_getElem_cons hil, List.drop_eq_getElem_cons him]
      have ih := ih (i + 1) (by omega)
      simp only [Nat.mul_one] at ih
      by_cases h : l[i] = m[i]
      · rw [h]
        simp only [beq_self_eq_true, Bool.not_true, Bool.false_eq_true, if_false, Sem.run_pure, Result.andThen_ok]
        rw [ih]
        generalize m[i] = y
        generalize l.drop (i + 1) = l'
        generalize m.drop (i + 1) = m'
        have e1 : (y :: l' == y :: m') = (l' == m') := by rw [Bool.eq_iff_iff]; simp
        rw [e1]
      · have hb : (l[i] == m[i]) = false := by simpa using h
        simp only [hb, Bool.not_false, if_true, Sem.run_pure, Result.andThen_ok]
        generalize l[i] = x at *
        generalize m[i] = y at *
        generalize l.drop (i + 1) = l'
        generalize m.drop (i + 1) = m'
        have e1 : (x :: l' == y :: m') = false := by rw [beq_eq_false_iff_ne]; intro he; injection he with h1; exact h h1
        rw [e1]
        rfl
  have h0 := key n 0 (by omega)
  simp only [Std.Legacy.Range.size, Nat.sub_zero, Nat.add_one_sub_one, Nat.div_one, List.drop_zero] at h0 ⊢
  rw [h0]
  simp only [Result.andThen_ok]
  split <;> simp_all
end
theorem isAgg_u8 (w : World) : (isAgg 5).run Try.prog w = .ok false w := by kernel_rfl
theorem sizeOf_u8 (w : World) : (sizeOf 5).run Try.prog w = .ok 1 w := by kernel_rfl
end Go.Proofs.Ytenppmciabdefaa
