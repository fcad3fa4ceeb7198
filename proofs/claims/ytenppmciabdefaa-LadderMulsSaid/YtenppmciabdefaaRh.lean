/- The law of regions that draw their order, in the body of a range over a function. No condition. -/
import Derived.Test.YtenppmciabdefaaRe
import Derived.OrdersIn
import Derived.RangeFuncCalls
namespace Go.Proofs.Ytenppmciabdefaa
open Go
section
variable {P : Program} {ops : Array Oper} {Q : Exit → Act → World → Prop} {S : World → Prop}
def noDefer (o : Oper) : Bool := match o.op with | .defer _ => false | _ => true
theorem noDefer_spec {o : Oper} (h : noDefer o = true) : ∀ c, o.op ≠ .defer c := fun c e => by simp [noDefer, e] at h
theorem wp_inRound {o : Oper} {a : Act} {w : World} {K : Act → World → Prop} (l0 n : Nat) (hd : noDefer o = true) (h : o.wp P a w K Q) : o.wpIn (Fence.wide.inRound l0) n P a w K Q := by
  refine ⟨fun _ _ => trivial, ?_⟩
  rw [Oper.semAt_eq _ _ _ (noDefer_spec hd)]
  unfold Oper.wp at h
  generalize (execOp a.eval o).run P w = r at *
  cases r with
  | ok x w' =>
    cases x <;> simp only [Oper.upon, Oper.uponIn] at h ⊢
    case value => exact h
    case skip => exact h
    case defer => exact h
    case enter f args => exact ⟨(fun h2 => by cases h2), CallsIn.inRound l0 (callsIn_wide.2 h)⟩
    case row f args =>
      refine ⟨(fun h2 => by cases h2), ?_⟩
      intro c cs _
      obtain ⟨v, w'', hr, hs⟩ := h c cs
      exact ⟨v, w'', hr, stepsIn_wide.2 hs⟩
  | halt x w' => cases x <;> simp only [Oper.upon, Oper.uponIn] at h ⊢ <;> exact h
/-- What is asked behind a region that ends as it should. -/
def OnlyN (Q : Exit → Act → World → Prop) : Exit → Act → World → Prop := fun e a w => e = .normal ∧ Q .normal a w
theorem onlyN_shut (Q : Exit → Act → World → Prop) : ¬ LetsOut (OnlyN Q) := by
  rintro ⟨a, w, h⟩
  cases h.1
theorem wpAnyIn_of_sure (l0 n : Nat) (hd : ops.toList.all noDefer = true) : ∀ (fuel : Nat) (listed : Array Bool) (a : Act) (w : World), S w → wpAnyS P ops (OnlyN Q) S fuel listed a w → wpAnyIn (Fence.wide.inRound l0) n P .any ops (OnlyN Q) fuel listed a w
  | 0, _, _, w, hS, h => ⟨h.1, h.2 w hS (Ext.refl _)⟩
  | fuel + 1, _, _, w, hS, h => ⟨fun hr => h.1 hr w hS (Ext.refl _), fun i hi => by
      have h1 := h.2 i hi w hS (Ext.refl _)
      unfold wpOp at h1
      unfold wpOpIn
      cases ho : ops[i]? with
      | none =>
        rw [ho] at h1
        exact wpAnyIn_of_sure l0 n hd fuel _ _ _ h1.1 h1.2
      | some o =>
        rw [ho] at h1
        have hdo : noDefer o = true := List.all_eq_true.1 hd o (by simpa using Array.mem_of_getElem? ho)
        simp only at h1 ⊢
        split at h1
        · rename_i hw
          rw [if_pos hw]
          rcases h1 with h1 | ⟨_, h1⟩
          · exact Oper.wpIn_mono (fun a' w' h' => wpAnyIn_of_sure l0 n hd fuel _ a' w' h'.1 h'.2) (wp_inRound l0 n hdo h1)
          · exact absurd h1 (onlyN_shut Q)
        · rename_i hw
          rw [if_neg hw]
          exact ⟨fun _ _ => trivial, wpAnyIn_of_sure l0 n hd fuel _ _ _ h1.1 h1.2⟩⟩
/-- THE LAW, in a round. -/
theorem wpIn_region_rem {l0 n id : Nat} {l : List Oper} {a : Act} {w : World} (S : World → Prop) (hm : P.follows .mixedOrders = true) (hc : l.all noSel = true) (hd : l.all noDefer = true)
    (hS : S w.drew) (h : Rem P l.toArray (OnlyN Q) S (List.range l.length) a w.drew) : (Code.region id l.toArray true).wpIn (Fence.wide.inRound l0) n P Q a w := by
  refine wpIn_mono (Q := OnlyN Q) ?_ fun e a w h => by obtain ⟨rfl, h⟩ := h; exact h
  refine wpIn_region_any hm (wpAnyIn_of_sure l0 n (by simpa using hd) _ _ _ _ hS ?_)
  have hsel : ∀ (j : Nat) (o : Oper) cs b, l.toArray[j]? = some o → o.op ≠ .select cs b := fun j o cs b hj he => by
    have hm : o ∈ l := by simpa using Array.mem_of_getElem? hj
    have := List.all_eq_true.1 hc o hm
    simp [noSel, he] at this
  have := h hsel (fun c a d v w h => by cases h.1)
  have e : Array.replicate l.toArray.size false = maskL l.toArray.size (compl l.toArray.size (List.range l.length)) := by
    apply Array.ext
    · simp [maskL]
    · intro i h1 h2
      have hi : i < l.length := by simpa using h1
      have h3 := compl_elem (n := l.length) (List.range l.length) hi
      have h4 : (List.range l.length).elem i = true := by simpa using hi
      rw [h4] at h3
      have h5 : i ∉ compl l.length (List.range l.length) := by simpa using h3
      simp [maskL, h5]
  rw [e]
  rw [List.length_range] at this
  simpa using this
end
end Go.Proofs.Ytenppmciabdefaa
