/- A region that draws its order, most of whose operations come to one value in every world that meets S, and to a world that meets S and keeps all blocks: they may be walked in the text's order, the others (each waits for the one ahead) behind them. No condition. -/
import Derived.Test.YtiebggfpjkhlaaaKa
import Derived.OrdersHeld
import Derived.KernelRfl
import Derived.Laws.CopyOwn
namespace Go.Proofs.Ytiebggfpjkhlaaa
open Go

/-- No way out. -/
def NoQ : Exit → Act → World → Prop := fun _ _ _ => False

section
variable {P : Program} {ops : Array Oper} {Q : Exit → Act → World → Prop} {S : World → Prop}

/-- Every block that stood stands. -/
def Ext (w w' : World) : Prop := ∀ (b : Nat) (o : Obj), w.heap[b]? = some o → w'.heap[b]? = some o
theorem Ext.refl (w : World) : Ext w w := fun _ _ h => h
theorem Ext.trans {a b c : World} (h : Ext a b) (k : Ext b c) : Ext a c := fun i o hi => k i o (h i o hi)
theorem Ext.of_below {w w' : World} (h : RowKit.Below w.heap.size w w') : Ext w w' := fun _ _ hb => block_stay h hb
theorem Ext.alloc (w : World) (o : Obj) : Ext w (w.alloc o) := fun b x hb => by
  rw [heap_at, if_neg]
  · exact hb
  · intro h
    subst h
    simp at hb

/-- The first block of the call's own is written, behind two calls. -/
theorem row_new {w w1 : World} {X : Obj} (w2 : World) (hb : RowKit.Below (w.alloc X).heap.size (w.alloc X) w1 ∧ RowKit.Below w1.heap.size w1 w2) {old : Array Value} {t : TypeId}
    (hx : w2.heap[w.heap.size]? = some (.cells old t (0, 0))) (cs : Array Value) :
    ∃ w3, w2.setRow w.heap.size cs = w3 ∧ w3.heap[w.heap.size]? = some (.cells cs t (0, 0)) ∧ RowKit.Below w.heap.size w w3 ∧ w.heap.size < w3.heap.size := by
  have h1 : RowKit.Below w.heap.size w w2 := ((RowKit.Below.refl _ _).alloc (Nat.le_refl _) X).trans ((hb.1.mono (by rw [size_at]; omega)).trans (hb.2.mono (by have := hb.1.size; rw [size_at] at this; omega)))
  have h2 : w.heap.size < w2.heap.size := by have h1 := hb.1.size; have h2 := hb.2.size; rw [size_at] at h1; omega
  exact ⟨_, rfl, setRow_heap w2 _ _ cs t _ hx, below_setRow h1 (Nat.le_refl _) cs, by rw [setRow_size]; exact h2⟩

theorem three_at (w : World) (A B C : Obj) : (((w.alloc A).alloc B).alloc C).heap[w.heap.size + 1 + 1]? = some C := by
  rw [heap_at, if_pos]
  rw [size_at, size_at]
theorem row_again {w W : World} {old : Array Value} {t : TypeId} (hx : W.heap[w.heap.size]? = some (.cells old t (0, 0))) (hb : RowKit.Below w.heap.size w W) (hlt : w.heap.size < W.heap.size) (cs : Array Value) :
    ∃ w5, W.setRow w.heap.size cs = w5 ∧ w5.heap[w.heap.size]? = some (.cells cs t (0, 0)) ∧ RowKit.Below w.heap.size w w5 ∧ w.heap.size < w5.heap.size :=
  ⟨_, rfl, setRow_heap W _ _ cs t _ hx, below_setRow hb (Nat.le_refl _) cs, by rw [setRow_size]; exact hlt⟩

/-- What an operation comes to: the value v (where it has a place for it) and a world that meets S and holds all that stood. -/
def Yv (P : Program) (S : World → Prop) (d : Option Tmp) (v : Value) (w : World) : Result Next → Prop
  | .ok (.value u) w' => (d.isSome = true → u = v) ∧ S w' ∧ Ext w w'
  | .ok .skip w' => (d.isSome = true → undef = v) ∧ S w' ∧ Ext w w'
  | .ok (.enter f args) w' => Calls P f args w' fun
      | .returned u, w'' => (d.isSome = true → u = v) ∧ S w'' ∧ Ext w w''
      | _, _ => False
  | .ok (.row row args) w' => Rows P row args w' fun u w'' => (d.isSome = true → u = v) ∧ S w'' ∧ Ext w w''
  | _ => False

def SureIf (P : Program) (ops : Array Oper) (S : World → Prop) (o : Oper) (v : Value) (a : Act) : Prop :=
  (Region.wanted o (yielded ops a.tmps) = true ∧ ∀ w, S w → Yv P S o.dst v w ((execOp a.eval o).run P w)) ∨
  (Region.wanted o (yielded ops a.tmps) = false ∧ v = undef)

theorem SureIf.of_same {o : Oper} {v : Value} {a a' : Act} (hy : SureIf P ops S o v a) (he : execOp a'.eval o = execOp a.eval o)
    (hw : Region.wanted o (yielded ops a'.tmps) = Region.wanted o (yielded ops a.tmps)) : SureIf P ops S o v a' := by
  unfold SureIf at *
  rw [he, hw]
  exact hy

theorem put_of {a : Act} {d : Option Tmp} {u v : Value} (h : d.isSome = true → u = v) : a.put d u = a.put d v := by
  cases d with
  | none => rfl
  | some d => rw [h rfl]

theorem SureIf.wpOp {i : Nat} {o : Oper} {v : Value} {a : Act} (hi : ops[i]? = some o) (hy : SureIf P ops S o v a)
    {K : Act → World → Prop} {w : World} (hS : S w) (h : ∀ w', S w' → Ext w w' → K (a.put o.dst v) w') : wpOp P ops Q i K a w := by
  unfold Go.wpOp
  simp only [hi]
  rcases hy with ⟨hw, hv⟩ | ⟨hw, rfl⟩
  · have h1 := hv w hS
    simp only [hw, if_true]
    refine .inl ?_
    unfold Oper.wp
    generalize (execOp a.eval o).run P w = r at *
    cases r with
    | ok n w' =>
      cases n <;> simp only [Yv] at h1 <;> simp only [Oper.upon]
      case value u => rw [put_of h1.1]; exact h _ h1.2.1 h1.2.2
      case skip => rw [put_of h1.1]; exact h _ h1.2.1 h1.2.2
      case enter f args =>
        refine Calls.mono h1 fun e w'' he => ?_
        cases e with
        | returned u =>
          show K (a.put o.dst u) w''
          rw [put_of he.1]; exact h _ he.2.1 he.2.2
        | panicked c => exact he.elim
        | outgrown => exact he.elim
      case row row args =>
        refine Rows.mono h1 fun u w'' he => ?_
        rw [put_of he.1]; exact h _ he.2.1 he.2.2
    | halt x w' => exact h1.elim
  · simp only [hw, Bool.false_eq_true, if_false]; exact h _ hS (Ext.refl _)

/-- Whatever order is picked from here on, in every later world that meets S. -/
def wpAnyS (P : Program) (ops : Array Oper) (Q : Exit → Act → World → Prop) (S : World → Prop) : Nat → Array Bool → Act → World → Prop
  | 0, listed, a, w0 => Region.ready .any ops listed = [] ∧ ∀ w, S w → Ext w0 w → Q .normal a w
  | fuel + 1, listed, a, w0 =>
    (Region.ready .any ops listed = [] → ∀ w, S w → Ext w0 w → Q .normal a w) ∧
    ∀ j ∈ Region.ready .any ops listed, ∀ w, S w → Ext w0 w → wpOp P ops Q j (fun a' w' => S w' ∧ wpAnyS P ops Q S fuel (listed.setIfInBounds j true) a' w') a w

theorem wpAnyS_mono : ∀ (fuel : Nat) (listed : Array Bool) (a : Act) (w0 w1 : World), Ext w0 w1 → wpAnyS P ops Q S fuel listed a w0 → wpAnyS P ops Q S fuel listed a w1
  | 0, _, _, _, _, he, h => ⟨h.1, fun w hS hE => h.2 w hS (he.trans hE)⟩
  | _ + 1, _, _, _, _, he, h => ⟨fun hr w hS hE => h.1 hr w hS (he.trans hE), fun j hj w hS hE => h.2 j hj w hS (he.trans hE)⟩

theorem wpAny_of_sure : ∀ (fuel : Nat) (listed : Array Bool) (a : Act) (w : World), S w → wpAnyS P ops Q S fuel listed a w → wpAny P .any ops Q fuel listed a w
  | 0, _, _, w, hS, h => ⟨h.1, h.2 w hS (Ext.refl _)⟩
  | fuel + 1, _, _, w, hS, h => ⟨fun hr => h.1 hr w hS (Ext.refl _), fun i hi => wpOp_mono (fun a' w' h' => wpAny_of_sure fuel _ a' w' h'.1 h'.2) (h.2 i hi w hS (Ext.refl _))⟩

/-- One operation 'oj', apart from the sure 'oi': whether oi's value is already in its temporary makes no difference to it. -/
theorem wpOp_putS {j : Nat} {oi oj : Oper} {v : Value} (hj : ops[j]? = some oj) (hap : oi.apart ops oj = true)
    (hsi : ∀ cs b, oi.op ≠ .select cs b) (hsj : ∀ cs b, oj.op ≠ .select cs b)
    (hQ : ∀ c a w, Q (.panic c) (a.put oi.dst v) w → Q (.panic c) a w) {K : Act → World → Prop} {a : Act} {w : World}
    (hy : SureIf P ops S oi v a) (h : wpOp P ops Q j K (a.put oi.dst v) w) :
    wpOp P ops Q j (fun a' w' => SureIf P ops S oi v a' ∧ K (a'.put oi.dst v) w') a w := by
  obtain ⟨h1, h2, h3⟩ := Oper.apart_spec hap
  have keep : ∀ (a : Act), SureIf P ops S oi v a → ∀ u, SureIf P ops S oi v (a.put oj.dst u) := fun a hy u =>
    hy.of_same (execOp_put oi hsi a oj.dst u h3) (wanted_put oi a oj.dst u h3)
  have keepD : ∀ d, SureIf P ops S oi v { a with defers := d :: a.defers } := fun d => hy.of_same rfl rfl
  have comm : ∀ u, (a.put oj.dst u).put oi.dst v = (a.put oi.dst v).put oj.dst u := fun u => (Act.put_comm a v u h2).symm
  unfold wpOp at *
  simp only [hj] at *
  rw [wanted_put oj a oi.dst v h1] at h
  split
  · rename_i hw
    simp only [hw, if_true] at h
    rcases h with h | ⟨hasks, hlets⟩
    case inr => exact .inr ⟨by unfold Oper.asks at *; rw [execOp_put oj hsj a oi.dst v h1] at hasks; exact hasks, hlets⟩
    refine .inl ?_
    unfold Oper.wp at *
    rw [execOp_put oj hsj a oi.dst v h1] at h
    generalize (execOp a.eval oj).run P w = r at *
    cases r with
    | ok n w' =>
      cases n <;> simp only [Oper.upon] at h ⊢
      case value u => exact ⟨keep a hy u, by rw [comm]; exact h⟩
      case skip => exact ⟨keep a hy _, by rw [comm]; exact h⟩
      case defer d =>
        refine ⟨keep _ (keepD d) _, ?_⟩
        rw [← Act.put_comm _ v undef h2, ← Act.put_defers]
        exact h
      case enter f args =>
        refine Calls.mono h fun e w'' he => ?_
        cases e with
        | returned u => exact ⟨keep a hy u, by rw [comm]; exact he⟩
        | panicked c => exact hQ _ _ _ he
        | outgrown => exact he
      case row row args => exact Rows.mono h fun u w'' he => ⟨keep a hy u, by rw [comm]; exact he⟩
    | halt x w' =>
      cases x <;> simp only [Oper.upon] at h ⊢
      case panic u => exact hQ _ _ _ h
  · rename_i hw
    simp only [hw] at h
    exact ⟨keep a hy _, by rw [comm]; exact h⟩

theorem wpAnyS_first {i : Nat} {oi : Oper} {v : Value} (hi : ops[i]? = some oi) (hsel : ∀ (j : Nat) (o : Oper) cs b, ops[j]? = some o → o.op ≠ .select cs b)
    (hQ : ∀ c a w, Q (.panic c) (a.put oi.dst v) w → Q (.panic c) a w) :
    ∀ (fuel : Nat) (listed : Array Bool) (a : Act) (w0 : World),
      (∀ j oj, ops[j]? = some oj → j ≠ i → listed.getD j true = false → (∀ e ∈ oj.after, Region.binds .any e = true → e.on ≠ i) → oi.apart ops oj = true) →
      i ∈ Region.ready .any ops listed → SureIf P ops S oi v a →
      wpAnyS P ops Q S fuel (listed.setIfInBounds i true) (a.put oi.dst v) w0 → wpAnyS P ops Q S (fuel + 1) listed a w0 := by
  intro fuel
  induction fuel with
  | zero =>
    intro listed a w0 _ hr hy H
    refine ⟨fun h => (by rw [h] at hr; cases hr), fun j hj w hS hE => ?_⟩
    by_cases hji : j = i
    · subst hji; exact hy.wpOp hi hS fun w' hS' hE' => ⟨hS', wpAnyS_mono 0 _ _ _ _ (hE.trans hE') H⟩
    · have := ready_mono hj hji
      rw [H.1] at this
      cases this
  | succ fuel ih =>
    intro listed a w0 hfree hr hy H
    refine ⟨fun h => (by rw [h] at hr; cases hr), fun j hj w hS hE => ?_⟩
    by_cases hji : j = i
    · subst hji; exact hy.wpOp hi hS fun w' hS' hE' => ⟨hS', wpAnyS_mono _ _ _ _ _ (hE.trans hE') H⟩
    · have hst := H.2 j (ready_mono hj hji) w hS hE
      obtain ⟨hjun, oj, hoj, hall⟩ := mem_ready.1 hj
      have hnot : ∀ e ∈ oj.after, Region.binds .any e = true → e.on ≠ i := fun e he hb heq => by
        have h1 := hall e he hb
        have h0 := (mem_ready.1 hr).1
        rw [heq] at h1
        rcases Nat.lt_or_ge i listed.size with h' | h'
        · simp [h'] at h0 h1; rw [h0] at h1; cases h1
        · simp [Array.getElem?_eq_none h'] at h1
      have hap := hfree j oj hoj hji hjun hnot
      have h2 := wpOp_putS hoj hap (fun cs b => hsel i oi cs b hi) (fun cs b => hsel j oj cs b hoj) hQ hy hst
      have hfree' : ∀ k ok, ops[k]? = some ok → k ≠ i → (listed.setIfInBounds j true).getD k true = false →
          (∀ e ∈ ok.after, Region.binds .any e = true → e.on ≠ i) → oi.apart ops ok = true := fun k ok hk hki hun hno => by
        refine hfree k ok hk hki ?_ hno
        by_cases hjk : j = k
        · subst hjk; exact hjun
        · rw [getD_set_ne true hjk] at hun; exact hun
      refine wpOp_mono (fun a' w' h3 => ⟨h3.2.1, ih (listed.setIfInBounds j true) a' w' hfree' (ready_mono hr (Ne.symm hji)) h3.1 ?_⟩) h2
      rw [Array.setIfInBounds_comm _ _ hji]
      exact h3.2.2

/-- The operations behind the sure ones, in their order. -/
def TailE (P : Program) (ops : Array Oper) (Q : Exit → Act → World → Prop) (S : World → Prop) : List Oper → Act → World → Prop
  | [], a, w0 => ∀ w, S w → Ext w0 w → Q .normal a w
  | o :: rest, a, w0 => o.guard = none ∧ ∀ w, S w → Ext w0 w → o.wp P a w (fun a' w' => S w' ∧ TailE P ops Q S rest a' w') NoQ

/-- n operations in the text's order, each sure; then the others. -/
def SureT (P : Program) (ops : Array Oper) (Q : Exit → Act → World → Prop) (S : World → Prop) : Nat → List Oper → Act → World → Prop
  | n + 1, o :: rest, a, w0 => ∃ v, SureIf P ops S o v a ∧ SureT P ops Q S n rest (a.put o.dst v) w0
  | _, rest, a, w0 => TailE P ops Q S rest a w0

/-- The text's order is one that the edges allow; whatever does not wait for a sure operation is apart from it; of the others each waits for the one ahead. -/
def inText (ops : Array Oper) : Nat → Nat → List Oper → Bool
  | n + 1, i, o :: rest =>
    (o.after.toList.all fun e => !Region.binds .any e || Nat.blt e.on i) && (match o.op with | .select .. => false | _ => true) &&
    (rest.all fun oj => (oj.after.toList.any fun e => Region.binds .any e && Nat.beq e.on i) || o.apart ops oj) && inText ops n (i + 1) rest
  | 0, i, o :: rest =>
    (o.after.toList.all fun e => !Region.binds .any e || Nat.blt e.on i) && (match o.op with | .select .. => false | _ => true) &&
    (rest.all fun oj => (oj.after.toList.any fun e => Region.binds .any e && Nat.beq e.on i)) && inText ops 0 (i + 1) rest
  | _, _, [] => true

def firstK (n k : Nat) : Array Bool := (Array.range n).map fun i => decide (i < k)

theorem firstK_set (n k : Nat) : (firstK n k).setIfInBounds k true = firstK n (k + 1) := by
  apply Array.ext
  · simp [firstK]
  · intro i h1 h2
    rw [Array.getElem_setIfInBounds (by simpa using h1)]
    simp only [firstK, Array.getElem_map, Array.getElem_range]
    split
    · rename_i h; subst h; simp
    · rename_i h
      exact decide_eq_decide.2 ⟨fun h' => by omega, fun h' => by omega⟩

theorem firstK_getD (n k i : Nat) (d : Bool) (h : i < n) : (firstK n k).getD i d = decide (i < k) := by
  simp [firstK, h]

theorem at_drop {k : Nat} {o : Oper} {rest : List Oper} (hd : ops.toList.drop k = o :: rest) : ops[k]? = some o := by
  have : (ops.toList.drop k)[0]? = some o := by rw [hd]; rfl
  rw [List.getElem?_drop] at this
  simpa using this

theorem drop_next {k : Nat} {o : Oper} {rest : List Oper} (hd : ops.toList.drop k = o :: rest) : ops.toList.drop (k + 1) = rest := by
  have := congrArg (List.drop 1) hd
  rw [List.drop_drop] at this
  simpa using this

theorem ready_at {k : Nat} {o : Oper} (hok : ops[k]? = some o) (hc1 : (o.after.toList.all fun e => !Region.binds .any e || Nat.blt e.on k) = true) :
    k ∈ Region.ready .any ops (firstK ops.size k) := by
  have hlt : k < ops.size := (Array.getElem?_eq_some_iff.1 hok).1
  rw [mem_ready]
  refine ⟨by rw [firstK_getD _ _ _ _ hlt]; simp, o, hok, fun e he hb => ?_⟩
  have := List.all_eq_true.1 hc1 e (by simpa using he)
  rw [hb] at this
  simp only [Bool.not_true, Bool.false_or] at this
  have hlt' : e.on < k := by
    have := Nat.le_of_ble_eq_true this
    omega
  rw [firstK_getD _ _ _ _ (by omega)]
  simpa using hlt'

theorem none_ready {k : Nat} (hk : k = ops.size) : Region.ready .any ops (firstK ops.size k) = [] := by
  rw [List.eq_nil_iff_forall_not_mem]
  intro j hj
  obtain ⟨h0, o, ho, _⟩ := mem_ready.1 hj
  have hlt : j < ops.size := (Array.getElem?_eq_some_iff.1 ho).1
  rw [firstK_getD _ _ _ _ hlt] at h0
  simp at h0
  omega

theorem Oper.wp_any {o : Oper} {a : Act} {w : World} {K : Act → World → Prop} (h : o.wp P a w K NoQ) : o.wp P a w K Q := by
  unfold Oper.wp at *
  generalize (execOp a.eval o).run P w = r at *
  cases r with
  | ok n w' =>
    cases n <;> simp only [Oper.upon] at h ⊢
    case value u => exact h
    case skip => exact h
    case defer d => exact h
    case enter f args =>
      refine Calls.mono h fun e w'' he => ?_
      cases e with
      | returned u => exact he
      | panicked c => exact he.elim
      | outgrown => obtain ⟨_, _, hf⟩ := he; exact hf.elim
    case row row args => exact h
  | halt x w' =>
    cases x <;> simp only [Oper.upon] at h ⊢
    case panic u => exact h.elim

theorem tail_any : ∀ (rest : List Oper) (k : Nat) (a : Act) (w0 : World), ops.toList.drop k = rest → k + rest.length = ops.size →
    inText ops 0 k rest = true → TailE P ops Q S rest a w0 → wpAnyS P ops Q S rest.length (firstK ops.size k) a w0
  | [], k, a, w0, hd, hk, _, h => ⟨none_ready (by simpa using hk), h⟩
  | o :: rest, k, a, w0, hd, hk, hc, ⟨hg, h⟩ => by
    simp only [List.length_cons] at hk
    have hok := at_drop hd
    have hd' := drop_next hd
    simp only [inText, Bool.and_eq_true] at hc
    obtain ⟨⟨⟨hc1, _⟩, hc2⟩, hc3⟩ := hc
    have hr := ready_at hok hc1
    refine ⟨fun h0 => (by rw [h0] at hr; cases hr), fun j hj w hS hE => ?_⟩
    have hjk : j = k := by
      obtain ⟨hun, oj, hoj, hall⟩ := mem_ready.1 hj
      have hjlt : j < ops.size := (Array.getElem?_eq_some_iff.1 hoj).1
      rw [firstK_getD _ _ _ _ hjlt] at hun
      have hge : k ≤ j := by simp at hun; omega
      rcases Nat.eq_or_lt_of_le hge with h | h
      · exact h.symm
      · exfalso
        have hmem : oj ∈ rest := by
          have : rest[j - (k + 1)]? = some oj := by
            rw [← hd', List.getElem?_drop, show k + 1 + (j - (k + 1)) = j by omega]
            simpa using hoj
          exact List.mem_of_getElem? this
        have := List.all_eq_true.1 hc2 oj hmem
        rw [List.any_eq_true] at this
        obtain ⟨e, he, hb⟩ := this
        rw [Bool.and_eq_true] at hb
        have h3 := hall e (by simpa using he) hb.1
        rw [Nat.eq_of_beq_eq_true hb.2, firstK_getD _ _ _ _ (by omega)] at h3
        simp at h3
    subst hjk
    unfold wpOp
    simp only [hok]
    have hw : Region.wanted o (yielded ops a.tmps) = true := by unfold Region.wanted; rw [hg]
    rw [if_pos hw]
    refine .inl (Oper.wp_any (Oper.wp_mono (fun a' w' h' => ⟨h'.1, ?_⟩) (h w hS hE)))
    rw [firstK_set]
    exact tail_any rest (j + 1) a' w' hd' (by omega) hc3 h'.2

theorem sure_any (hQ : ∀ (c) (a : Act) (d v) (w), Q (.panic c) (a.put d v) w → Q (.panic c) a w) : ∀ (n : Nat) (rest : List Oper) (k : Nat) (a : Act) (w0 : World), ops.toList.drop k = rest → k + rest.length = ops.size →
    inText ops n k rest = true → (∀ (j : Nat) (o : Oper) cs b, ops[j]? = some o → o.op ≠ .select cs b) → SureT P ops Q S n rest a w0 → wpAnyS P ops Q S rest.length (firstK ops.size k) a w0
  | 0, rest, k, a, w0, hd, hk, hc, hsel, h => by
    cases rest with
    | nil => exact tail_any [] k a w0 hd hk rfl h
    | cons o rest => exact tail_any _ k a w0 hd hk hc h
  | n + 1, [], k, a, w0, hd, hk, hc, hsel, h => tail_any [] k a w0 hd hk rfl h
  | n + 1, o :: rest, k, a, w0, hd, hk, hc, hsel, ⟨v, hy, hr⟩ => by
    simp only [List.length_cons] at hk
    have hlt : k < ops.size := by omega
    have hok := at_drop hd
    have hd' := drop_next hd
    simp only [inText, Bool.and_eq_true] at hc
    obtain ⟨⟨⟨hc1, _⟩, hc2⟩, hc3⟩ := hc
    have ih := sure_any hQ n rest (k + 1) (a.put o.dst v) w0 hd' (by omega) hc3 hsel hr
    rw [← firstK_set] at ih
    refine wpAnyS_first hok hsel (fun c a w => hQ c a o.dst v w) rest.length _ a w0 ?_ (ready_at hok hc1) hy ih
    intro j oj hj hjk hun hno
    have hjlt : j < ops.size := (Array.getElem?_eq_some_iff.1 hj).1
    rw [firstK_getD _ _ _ _ hjlt] at hun
    have hgt : k < j := by simp at hun; omega
    have hmem : oj ∈ rest := by
      have : rest[j - (k + 1)]? = some oj := by
        rw [← hd', List.getElem?_drop, show k + 1 + (j - (k + 1)) = j by omega]
        simpa using hj
      exact List.mem_of_getElem? this
    have := List.all_eq_true.1 hc2 oj hmem
    rw [Bool.or_eq_true] at this
    rcases this with h | h
    · exfalso
      rw [List.any_eq_true] at h
      obtain ⟨e, he, hb⟩ := h
      rw [Bool.and_eq_true] at hb
      exact hno e (by simpa using he) hb.1 (Nat.eq_of_beq_eq_true hb.2)
    · exact h

theorem noSel_of_inText : ∀ (n : Nat) (rest : List Oper) (k : Nat), inText ops n k rest = true → ∀ o ∈ rest, ∀ cs b, o.op ≠ .select cs b
  | _, [], _, _, o, ho, _, _ => by cases ho
  | 0, x :: rest, k, h, o, ho, cs, b => by
    simp only [inText, Bool.and_eq_true] at h
    rcases List.mem_cons.1 ho with rfl | ho
    · intro he
      have := h.1.1.2
      rw [he] at this
      cases this
    · exact noSel_of_inText 0 rest (k + 1) h.2 o ho cs b
  | n + 1, x :: rest, k, h, o, ho, cs, b => by
    simp only [inText, Bool.and_eq_true] at h
    rcases List.mem_cons.1 ho with rfl | ho
    · intro he
      have := h.1.1.2
      rw [he] at this
      cases this
    · exact noSel_of_inText n rest (k + 1) h.2 o ho cs b

/-- THE LAW: the region, walked in the text's order: n sure operations, then the others. -/
theorem wp_region_sure {id : Nat} {l : List Oper} {a : Act} {w : World} (n : Nat) (S : World → Prop) (hm : P.follows .mixedOrders = true) (hc : inText l.toArray n 0 l = true)
    (hQ : ∀ (c) (a : Act) (d v) (w), Q (.panic c) (a.put d v) w → Q (.panic c) a w)
    (hS : S w.drew) (h : SureT P l.toArray Q S n l a w.drew) : (Code.region id l.toArray true).wp P Q a w := by
  refine wp_region_any hm (wpAny_of_sure _ _ _ _ hS ?_)
  have e : Array.replicate l.toArray.size false = firstK l.toArray.size 0 := by
    apply Array.ext
    · simp [firstK]
    · intro i h1 h2; simp [firstK]
  have := sure_any (ops := l.toArray) hQ n l 0 a w.drew rfl (by simp) hc (fun j o cs b hj => noSel_of_inText n _ _ hc o (by simpa using Array.mem_of_getElem? hj) cs b) h
  rw [show l.length = l.toArray.size by simp] at this
  rw [e]
  exact this

theorem tail_nil {a : Act} {w0 : World} (h : ∀ w, S w → Ext w0 w → Q .normal a w) : TailE P ops Q S [] a w0 := h
theorem sure_end {l : List Oper} {a : Act} {w0 : World} (h : TailE P ops Q S l a w0) : SureT P ops Q S 0 l a w0 := by
  cases l <;> exact h
theorem tail_cons {o : Oper} {rest : List Oper} {a : Act} {w0 : World} (hg : o.guard = none)
    (hv : ∀ w, S w → Ext w0 w → ∀ K : Act → World → Prop, (∀ a' w', S w' → TailE P ops Q S rest a' w' → K a' w') → o.wp P a w K NoQ) : TailE P ops Q S (o :: rest) a w0 :=
  ⟨hg, fun w hS hE => hv w hS hE _ fun _ _ h1 h2 => ⟨h1, h2⟩⟩

theorem sure_cons {n : Nat} {o : Oper} {rest : List Oper} {a a' : Act} {w0 : World} (hg : o.guard = none)
    (hv : ∀ w, S w → ∀ K : Act → World → Prop, (∀ w', S w' → Ext w w' → K a' w') → o.wp P a w K NoQ)
    (hput : a' = a.put o.dst (a'.tmps.getD (o.dst.getD 0) undef)) (hlt : (o.dst.all fun d => Nat.blt d a.tmps.size) = true)
    (h : SureT P ops Q S n rest a' w0) : SureT P ops Q S (n + 1) (o :: rest) a w0 := by
  generalize a'.tmps.getD (o.dst.getD 0) undef = v at hput
  subst hput
  refine ⟨v, .inl ⟨by unfold Region.wanted; rw [hg], fun w hS => ?_⟩, h⟩
  have h1 := hv w hS (fun b w' => (S w' ∧ Ext w w') ∧ b.defers = a.defers ∧ ∀ d, o.dst = some d → b.tmps[d]? = some v) (fun w' hS' hE => ⟨⟨hS', hE⟩, by cases o.dst <;> rfl, fun d hd => by
    rw [hd] at hlt ⊢
    have hlt' : d < a.tmps.size := by simpa [Nat.blt_eq] using hlt
    simp [Act.put, hlt']⟩)
  have key : ∀ u w', ((S w' ∧ Ext w w') ∧ (a.put o.dst u).defers = a.defers ∧ ∀ d, o.dst = some d → (a.put o.dst u).tmps[d]? = some v) → ((o.dst.isSome = true → u = v) ∧ S w' ∧ Ext w w') := by
    rintro u w' ⟨h2, _, h3⟩
    refine ⟨fun hs => ?_, h2⟩
    obtain ⟨d, hd⟩ := Option.isSome_iff_exists.1 hs
    have h4 := h3 d hd
    rw [hd] at hlt h4
    have hlt' : d < a.tmps.size := by simpa [Nat.blt_eq] using hlt
    simpa [Act.put, hlt'] using h4
  unfold Oper.wp at h1
  generalize (execOp a.eval o).run P w = r at *
  cases r with
  | ok n w' =>
    cases n <;> simp only [Oper.upon] at h1 <;> simp only [Yv]
    case value u => exact key _ _ h1
    case skip => exact key _ _ h1
    case defer d =>
      have h2 := h1.2.1
      have h3 : d :: a.defers = a.defers := Eq.trans (by cases o.dst <;> rfl) h2
      exact absurd (congrArg List.length h3) (by simp)
    case enter f args =>
      refine Calls.mono h1 fun e w'' he => ?_
      cases e with
      | returned u => exact key _ _ he
      | panicked c => exact he.elim
      | outgrown => obtain ⟨_, _, hf⟩ := he; exact hf.elim
    case row row args => exact Rows.mono h1 fun u w'' he => key _ _ he
    all_goals exact h1.elim
  | halt x w' =>
    cases x <;> simp only [Oper.upon] at h1
    all_goals exact h1.elim
end
end Go.Proofs.Ytiebggfpjkhlaaa
