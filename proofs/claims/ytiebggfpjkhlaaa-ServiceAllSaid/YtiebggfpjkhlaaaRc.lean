/- A region that draws its order: sure operations picked out of it and walked first, the others (each waits for the one ahead) behind them, guards let in. No condition. -/
import Derived.Test.YtiebggfpjkhlaaaRa
namespace Go.Proofs.Ytiebggfpjkhlaaa
open Go
section
variable {P : Program} {ops : Array Oper} {Q : Exit → Act → World → Prop} {S : World → Prop}

/-- The operations behind the sure ones, in their order. -/
def TailO (P : Program) (ops : Array Oper) (Q : Exit → Act → World → Prop) (S : World → Prop) : List Oper → Act → World → Prop
  | [], a, w0 => ∀ w, S w → Ext w0 w → Q .normal a w
  | o :: rest, a, w0 => (Region.wanted o (yielded ops a.tmps) = true ∧ ∀ w, S w → Ext w0 w → o.wp P a w (fun a' w' => S w' ∧ TailO P ops Q S rest a' w') NoQ) ∨
      (Region.wanted o (yielded ops a.tmps) = false ∧ TailO P ops Q S rest (a.put o.dst undef) w0)

def SureO (P : Program) (ops : Array Oper) (Q : Exit → Act → World → Prop) (S : World → Prop) : Nat → List Oper → Act → World → Prop
  | n + 1, o :: rest, a, w0 => ∃ v, SureIf P ops S o v a ∧ SureO P ops Q S n rest (a.put o.dst v) w0
  | _, rest, a, w0 => TailO P ops Q S rest a w0

def noSel (o : Oper) : Bool := match o.op with | .select .. => false | _ => true

def inOrd (ops : Array Oper) : Nat → List Nat → List Nat → Bool
  | n + 1, done, i :: rest =>
    (match ops[i]? with
      | some o => (o.after.toList.all fun e => !Region.binds .any e || done.elem e.on) && rest.all fun j => match ops[j]? with | some oj => (oj.after.toList.any fun e => Region.binds .any e && Nat.beq e.on i) || o.apart ops oj | none => false
      | none => false) && !done.elem i && inOrd ops n (i :: done) rest
  | 0, done, i :: rest =>
    (match ops[i]? with
      | some o => (o.after.toList.all fun e => !Region.binds .any e || done.elem e.on) && rest.all fun j => match ops[j]? with | some oj => (oj.after.toList.any fun e => Region.binds .any e && Nat.beq e.on i) | none => false
      | none => false) && !done.elem i && inOrd ops 0 (i :: done) rest
  | _, _, [] => true

def maskL (n : Nat) (done : List Nat) : Array Bool := (Array.range n).map fun i => done.elem i

theorem maskL_set (n : Nat) (done : List Nat) (i : Nat) : (maskL n done).setIfInBounds i true = maskL n (i :: done) := by
  apply Array.ext
  · simp [maskL]
  · intro j h1 h2
    rw [Array.getElem_setIfInBounds (by simpa using h1)]
    simp only [maskL, Array.getElem_map, Array.getElem_range]
    split
    · rename_i h; subst h; simp
    · rename_i h
      simp
      omega

theorem maskL_getD (n : Nat) (done : List Nat) (i : Nat) (d : Bool) (h : i < n) : (maskL n done).getD i d = done.elem i := by
  simp [maskL, h]

/-- The places that are left, and those that are done, are all. -/
def cover (n : Nat) (done rest : List Nat) : Prop := ∀ j, j < n → j ∈ done ∨ j ∈ rest
theorem cover.next {n i : Nat} {done rest : List Nat} (h : cover n done (i :: rest)) : cover n (i :: done) rest := by
  intro j hj
  rcases h j hj with h | h
  · exact .inl (List.mem_cons_of_mem _ h)
  · rcases List.mem_cons.1 h with h | h
    · subst h; exact .inl (List.mem_cons_self)
    · exact .inr h

theorem readyL {i : Nat} {o : Oper} {done : List Nat} (hok : ops[i]? = some o) (hd : done.elem i = false) (hlt : ∀ j ∈ done, j < ops.size) (hc : (o.after.toList.all fun e => !Region.binds .any e || done.elem e.on) = true) :
    i ∈ Region.ready .any ops (maskL ops.size done) := by
  have hi : i < ops.size := (Array.getElem?_eq_some_iff.1 hok).1
  rw [mem_ready]
  refine ⟨by rw [maskL_getD _ _ _ _ hi]; exact hd, o, hok, fun e he hb => ?_⟩
  have := List.all_eq_true.1 hc e (by simpa using he)
  rw [hb] at this
  simp only [Bool.not_true, Bool.false_or] at this
  have hm : e.on ∈ done := by simpa using this
  rw [maskL_getD _ _ _ _ (hlt _ hm)]
  exact this

theorem noneL {done : List Nat} (h : cover ops.size done []) : Region.ready .any ops (maskL ops.size done) = [] := by
  rw [List.eq_nil_iff_forall_not_mem]
  intro j hj
  obtain ⟨h0, o, ho, _⟩ := mem_ready.1 hj
  have hlt : j < ops.size := (Array.getElem?_eq_some_iff.1 ho).1
  rw [maskL_getD _ _ _ _ hlt] at h0
  rcases h j hlt with h | h
  · simp at h0; exact h0 h
  · simp at h

theorem tailO_mono : ∀ (rest : List Oper) (a : Act) (w0 w1 : World), Ext w0 w1 → TailO P ops Q S rest a w0 → TailO P ops Q S rest a w1
  | [], _, _, _, he, h => fun w hS hE => h w hS (he.trans hE)
  | _ :: rest, _, _, _, he, h => h.elim (fun h => .inl ⟨h.1, fun w hS hE => h.2 w hS (he.trans hE)⟩) fun h => .inr ⟨h.1, tailO_mono rest _ _ _ he h.2⟩

theorem tailO_any : ∀ (rest : List Nat) (ro : List Oper) (done : List Nat) (a : Act) (w0 : World), rest.map (fun i => ops[i]?) = ro.map some → cover ops.size done rest → (∀ j ∈ done, j < ops.size) →
    inOrd ops 0 done rest = true → TailO P ops Q S ro a w0 → wpAnyS P ops Q S rest.length (maskL ops.size done) a w0
  | [], ro, done, a, w0, hm, hcv, _, _, h => by
    cases ro with
    | nil => exact ⟨noneL hcv, h⟩
    | cons o ro => simp at hm
  | i :: rest, [], done, a, w0, hm, _, _, _, _ => by simp at hm
  | i :: rest, o :: ro, done, a, w0, hm, hcv, hlt, hc, h => by
    simp only [List.map_cons, List.cons.injEq] at hm
    obtain ⟨hok, hm⟩ := hm
    simp only [inOrd, hok, Bool.and_eq_true, Bool.not_eq_true'] at hc
    obtain ⟨⟨⟨hc1, hc2⟩, hcd⟩, hc3⟩ := hc
    have hi : i < ops.size := (Array.getElem?_eq_some_iff.1 hok).1
    have hr := readyL hok hcd hlt hc1
    have hlt' : ∀ j ∈ i :: done, j < ops.size := fun j hj => by
      rcases List.mem_cons.1 hj with h | h
      · subst h; exact hi
      · exact hlt j h
    refine ⟨fun h0 => (by rw [h0] at hr; cases hr), fun j hj w hS hE => ?_⟩
    have hjk : j = i := by
      obtain ⟨hun, oj, hoj, hall⟩ := mem_ready.1 hj
      have hjlt : j < ops.size := (Array.getElem?_eq_some_iff.1 hoj).1
      rw [maskL_getD _ _ _ _ hjlt] at hun
      rcases hcv j hjlt with hd | hd
      · simp at hun; exact absurd hd hun
      · rcases List.mem_cons.1 hd with hd | hd
        · exact hd
        · exfalso
          have h2 := List.all_eq_true.1 hc2 j hd
          rw [hoj] at h2
          simp only [List.any_eq_true] at h2
          obtain ⟨e, he, hb⟩ := h2
          rw [Bool.and_eq_true] at hb
          have h3 := hall e (by simpa using he) hb.1
          rw [Nat.eq_of_beq_eq_true hb.2, maskL_getD _ _ _ _ hi, hcd] at h3
          cases h3
    subst hjk
    unfold wpOp
    simp only [hok]
    rcases h with ⟨hw, h⟩ | ⟨hw, h⟩
    · rw [if_pos hw]
      refine .inl (Oper.wp_any (Oper.wp_mono (fun a' w' h' => ⟨h'.1, ?_⟩) (h w hS hE)))
      rw [maskL_set]
      exact tailO_any rest ro (j :: done) a' w' hm hcv.next hlt' hc3 h'.2
    · rw [if_neg (by rw [hw]; exact Bool.false_ne_true)]
      refine ⟨hS, ?_⟩
      rw [maskL_set]
      exact tailO_any rest ro (j :: done) _ w hm hcv.next hlt' hc3 (tailO_mono ro _ _ _ hE h)

theorem sureO_any (hQ : ∀ (c) (a : Act) (d v) (w), Q (.panic c) (a.put d v) w → Q (.panic c) a w) (hsel : ∀ (j : Nat) (o : Oper) cs b, ops[j]? = some o → o.op ≠ .select cs b) :
    ∀ (n : Nat) (rest : List Nat) (ro : List Oper) (done : List Nat) (a : Act) (w0 : World), rest.map (fun i => ops[i]?) = ro.map some → cover ops.size done rest → (∀ j ∈ done, j < ops.size) →
    inOrd ops n done rest = true → SureO P ops Q S n ro a w0 → wpAnyS P ops Q S rest.length (maskL ops.size done) a w0
  | 0, rest, ro, done, a, w0, hm, hcv, hlt, hc, h => by
    refine tailO_any rest ro done a w0 hm hcv hlt hc ?_
    cases ro <;> exact h
  | n + 1, [], ro, done, a, w0, hm, hcv, hlt, hc, h => by
    cases ro with
    | nil => exact tailO_any [] [] done a w0 hm hcv hlt rfl h
    | cons o ro => simp at hm
  | n + 1, i :: rest, [], done, a, w0, hm, _, _, _, _ => by simp at hm
  | n + 1, i :: rest, o :: ro, done, a, w0, hm, hcv, hlt, hc, ⟨v, hy, hr⟩ => by
    simp only [List.map_cons, List.cons.injEq] at hm
    obtain ⟨hok, hm⟩ := hm
    simp only [inOrd, hok, Bool.and_eq_true, Bool.not_eq_true'] at hc
    obtain ⟨⟨⟨hc1, hc2⟩, hcd⟩, hc3⟩ := hc
    have hi : i < ops.size := (Array.getElem?_eq_some_iff.1 hok).1
    have hlt' : ∀ j ∈ i :: done, j < ops.size := fun j hj => by
      rcases List.mem_cons.1 hj with h | h
      · subst h; exact hi
      · exact hlt j h
    have ih := sureO_any hQ hsel n rest ro (i :: done) (a.put o.dst v) w0 hm hcv.next hlt' hc3 hr
    rw [← maskL_set] at ih
    refine wpAnyS_first hok hsel (fun c a w => hQ c a o.dst v w) rest.length _ a w0 ?_ (readyL hok hcd hlt hc1) hy ih
    intro j oj hj hji hun hno
    have hjlt : j < ops.size := (Array.getElem?_eq_some_iff.1 hj).1
    rw [maskL_getD _ _ _ _ hjlt] at hun
    have hmem : j ∈ rest := by
      rcases hcv j hjlt with hd | hd
      · simp at hun; exact absurd hd hun
      · rcases List.mem_cons.1 hd with hd | hd
        · exact absurd hd hji
        · exact hd
    have h2 := List.all_eq_true.1 hc2 j hmem
    rw [hj] at h2
    simp only [Bool.or_eq_true] at h2
    rcases h2 with h | h
    · exfalso
      rw [List.any_eq_true] at h
      obtain ⟨e, he, hb⟩ := h
      rw [Bool.and_eq_true] at hb
      exact hno e (by simpa using he) hb.1 (Nat.eq_of_beq_eq_true hb.2)
    · exact h

/-- What is asked of an order: sure ones first. -/
def ordOk (l : List Oper) (n : Nat) (ord : List Nat) : Bool :=
  l.all noSel && ord.all (fun j => Nat.blt j l.length) && (List.range l.length).all (fun j => ord.elem j) && Nat.beq ord.length l.length && inOrd l.toArray n [] ord

/-- The operations in the order ord. -/
def pick (l : List Oper) : List Nat → List Oper
  | [] => []
  | i :: r => match l[i]? with
    | some o => o :: pick l r
    | none => pick l r
theorem pick_map (l : List Oper) : ∀ (ord : List Nat), (∀ i ∈ ord, i < l.length) → ord.map (fun i => l[i]?) = (pick l ord).map some
  | [], _ => rfl
  | i :: r, h => by
    have hi := h i (by simp)
    have ih := pick_map l r fun j hj => h j (by simp [hj])
    simp only [pick, List.map_cons, List.getElem?_eq_getElem hi, ih]

/-- THE LAW: the region, walked in the order ord: n sure operations, then the others. -/
theorem wp_region_order {id : Nat} {l : List Oper} {a : Act} {w : World} (n : Nat) (ord : List Nat) (S : World → Prop) (hm : P.follows .mixedOrders = true) (hc : ordOk l n ord = true)
    (hQ : ∀ (c) (a : Act) (d v) (w), Q (.panic c) (a.put d v) w → Q (.panic c) a w)
    (hS : S w.drew) (h : SureO P l.toArray Q S n (pick l ord) a w.drew) : (Code.region id l.toArray true).wp P Q a w := by
  simp only [ordOk, Bool.and_eq_true] at hc
  obtain ⟨⟨⟨⟨h1, h0⟩, h2⟩, h3⟩, h4⟩ := hc
  have hl := pick_map l ord fun i hi => Nat.le_of_ble_eq_true (List.all_eq_true.1 h0 i hi)
  refine wp_region_any hm (wpAny_of_sure _ _ _ _ hS ?_)
  have e : Array.replicate l.toArray.size false = maskL l.toArray.size [] := by
    apply Array.ext
    · simp [maskL]
    · intro i h1 h2; simp [maskL]
  have hsel : ∀ (j : Nat) (o : Oper) cs b, l.toArray[j]? = some o → o.op ≠ .select cs b := fun j o cs b hj he => by
    have hm : o ∈ l := by simpa using Array.mem_of_getElem? hj
    have := List.all_eq_true.1 h1 o hm
    simp [noSel, he] at this
  have hlen : ord.length = l.length := Nat.eq_of_beq_eq_true h3
  have := sureO_any (ops := l.toArray) hQ hsel n ord (pick l ord) [] a w.drew (by simpa using hl) (fun j hj => .inr (by
    have := List.all_eq_true.1 h2 j (by simpa using hj)
    simpa using this)) (by simp) h4 h
  rw [hlen, show l.length = l.toArray.size by simp] at this
  rw [e]
  exact this

theorem tailO_nil {a : Act} {w0 : World} (h : ∀ w, S w → Ext w0 w → Q .normal a w) : TailO P ops Q S [] a w0 := h
theorem tailO_cons {o : Oper} {rest : List Oper} {a : Act} {w0 : World} (hg : Region.wanted o (yielded ops a.tmps) = true)
    (hv : ∀ w, S w → Ext w0 w → ∀ K : Act → World → Prop, (∀ a' w', S w' → TailO P ops Q S rest a' w' → K a' w') → o.wp P a w K NoQ) : TailO P ops Q S (o :: rest) a w0 :=
  .inl ⟨hg, fun w hS hE => hv w hS hE _ fun _ _ h1 h2 => ⟨h1, h2⟩⟩
theorem sureO_end {l : List Oper} {a : Act} {w0 : World} (h : TailO P ops Q S l a w0) : SureO P ops Q S 0 l a w0 := by
  cases l <;> exact h
theorem sureO_cons {n : Nat} {o : Oper} {rest : List Oper} {a a' : Act} {w0 : World} (hg : Region.wanted o (yielded ops a.tmps) = true)
    (hv : ∀ w, S w → ∀ K : Act → World → Prop, (∀ w', S w' → Ext w w' → K a' w') → o.wp P a w K NoQ)
    (hput : a' = a.put o.dst (a'.tmps.getD (o.dst.getD 0) undef)) (hlt : (o.dst.all fun d => Nat.blt d a.tmps.size) = true)
    (h : SureO P ops Q S n rest a' w0) : SureO P ops Q S (n + 1) (o :: rest) a w0 := by
  generalize a'.tmps.getD (o.dst.getD 0) undef = v at hput
  subst hput
  refine ⟨v, .inl ⟨hg, fun w hS => ?_⟩, h⟩
  have h1 := hv w hS (fun b w' => (S w' ∧ Ext w w') ∧ b.defers = a.defers ∧ ∀ d, o.dst = some d → b.tmps[d]? = some v) (fun w' hS' hE => ⟨⟨hS', hE⟩, by cases o.dst <;> rfl, fun d hd => by
    rw [hd] at hlt ⊢
    have hlt' : d < a.tmps.size := by simpa [Nat.blt_eq] using hlt
    simp [Act.put, hlt']⟩)
  have key : ∀ u w', ((S w' ∧ Ext w w') ∧ (a.put o.dst u).defers = a.defers ∧ ∀ d, o.dst = some d → (a.put o.dst u).tmps[d]? = some v) → ((o.dst.isSome = true → u = v) ∧ S w' ∧ Ext w w') := by
    rintro u w' ⟨h2, _, h3⟩
    refine ⟨fun hs => ?_, h2⟩
    obtain ⟨d, hd⟩ := Option.isSome_iff_exists.1 hs
    have h4 := h3 d hd
    rw [hd] at hlt h4
    have hlt' : d < a.tmps.size := by simpa [Nat.blt_eq] using hlt
    simpa [Act.put, hlt'] using h4
  unfold Oper.wp at h1
  generalize (execOp a.eval o).run P w = r at *
  cases r with
  | ok n w' =>
    cases n <;> simp only [Oper.upon] at h1 <;> simp only [Yv]
    case value u => exact key _ _ h1
    case skip => exact key _ _ h1
    case defer d =>
      have h2 := h1.2.1
      have h3 : d :: a.defers = a.defers := Eq.trans (by cases o.dst <;> rfl) h2
      exact absurd (congrArg List.length h3) (by simp)
    case enter f args =>
      refine Calls.mono h1 fun e w'' he => ?_
      cases e with
      | returned u => exact key _ _ he
      | panicked c => exact he.elim
      | outgrown => obtain ⟨_, _, hf⟩ := he; exact hf.elim
    case row row args => exact Rows.mono h1 fun u w'' he => key _ _ he
    all_goals exact h1.elim
  | halt x w' =>
    cases x <;> simp only [Oper.upon] at h1
    all_goals exact h1.elim
end
end Go.Proofs.Ytiebggfpjkhlaaa
