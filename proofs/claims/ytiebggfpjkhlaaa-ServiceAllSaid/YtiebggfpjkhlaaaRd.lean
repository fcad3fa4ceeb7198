/- A region that draws its order: sure operations walked first, the others in every order that the edges allow. No condition. -/
import Derived.Test.YtiebggfpjkhlaaaRc
namespace Go.Proofs.Ytiebggfpjkhlaaa
open Go
section
variable {P : Program} {ops : Array Oper} {Q : Exit → Act → World → Prop} {S : World → Prop}

def readyIn (ops : Array Oper) (rem : List Nat) (i : Nat) : Bool :=
  match ops[i]? with
  | some o => o.after.toList.all fun e => !Region.binds .any e || (!rem.elem e.on && Nat.blt e.on ops.size)
  | none => false
def minus (rem : List Nat) (i : Nat) : List Nat := rem.filter fun j => j != i

/-- The operations of rem, in whatever order. -/
def TailX (P : Program) (ops : Array Oper) (Q : Exit → Act → World → Prop) (S : World → Prop) : Nat → List Nat → Act → World → Prop
  | 0, rem, a, w0 => rem = [] ∧ ∀ w, S w → Ext w0 w → Q .normal a w
  | fuel + 1, rem, a, w0 => (∃ i, i ∈ rem ∧ readyIn ops rem i = true) ∧ ∀ i, i ∈ rem → readyIn ops rem i = true → ∃ o, ops[i]? = some o ∧
      ((Region.wanted o (yielded ops a.tmps) = true ∧ ∀ w, S w → Ext w0 w → o.wp P a w (fun a' w' => S w' ∧ TailX P ops Q S fuel (minus rem i) a' w') NoQ) ∨
       (Region.wanted o (yielded ops a.tmps) = false ∧ TailX P ops Q S fuel (minus rem i) (a.put o.dst undef) w0))

theorem tailX_mono : ∀ (fuel : Nat) (rem : List Nat) (a : Act) (w0 w1 : World), Ext w0 w1 → TailX P ops Q S fuel rem a w0 → TailX P ops Q S fuel rem a w1
  | 0, _, _, _, _, he, h => ⟨h.1, fun w hS hE => h.2 w hS (he.trans hE)⟩
  | fuel + 1, rem, _, _, _, he, h => ⟨h.1, fun i hi hr => by
      obtain ⟨o, ho, h'⟩ := h.2 i hi hr
      refine ⟨o, ho, ?_⟩
      rcases h' with ⟨hw, h'⟩ | ⟨hw, h'⟩
      · exact .inl ⟨hw, fun w hS hE => h' w hS (he.trans hE)⟩
      · exact .inr ⟨hw, tailX_mono fuel _ _ _ _ he h'⟩⟩

theorem tailX_any : ∀ (fuel : Nat) (rem done : List Nat) (a : Act) (w0 : World), (∀ j, j < ops.size → done.elem j = !rem.elem j) → (∀ j ∈ rem, j < ops.size) → (∀ j ∈ done, j < ops.size) →
    TailX P ops Q S fuel rem a w0 → wpAnyS P ops Q S fuel (maskL ops.size done) a w0
  | 0, rem, done, a, w0, hc, _, _, h => by
    refine ⟨noneL fun j hj => ?_, h.2⟩
    have := hc j hj
    rw [h.1] at this
    simp at this
    exact .inl this
  | fuel + 1, rem, done, a, w0, hc, hr, hd, h => by
    have back : ∀ j, j ∈ Region.ready .any ops (maskL ops.size done) → j ∈ rem ∧ readyIn ops rem j = true ∧ j < ops.size := by
      intro j hj
      obtain ⟨hun, oj, hoj, hall⟩ := mem_ready.1 hj
      have hjlt : j < ops.size := (Array.getElem?_eq_some_iff.1 hoj).1
      rw [maskL_getD _ _ _ _ hjlt] at hun
      have h1 := hc j hjlt
      rw [hun] at h1
      refine ⟨by simpa using h1.symm, ?_, hjlt⟩
      unfold readyIn
      rw [hoj]
      rw [List.all_eq_true]
      intro e he
      by_cases hb : Region.binds .any e = true
      · have h2 := hall e (by simpa using he) hb
        rw [hb]
        rcases Nat.lt_or_ge e.on ops.size with h3 | h3
        · rw [maskL_getD _ _ _ _ h3] at h2
          have h4 := hc e.on h3
          rw [h2] at h4
          simp only [Bool.not_true, Bool.false_or, Bool.and_eq_true]
          exact ⟨h4.symm, by simpa [Nat.blt_eq] using h3⟩
        · simp [maskL, h3] at h2
      · simp [hb]
    refine ⟨fun h0 => ?_, fun j hj w hS hE => ?_⟩
    · exfalso
      obtain ⟨i, hi, hri⟩ := h.1
      have hilt := hr i hi
      have : i ∈ Region.ready .any ops (maskL ops.size done) := by
        unfold readyIn at hri
        cases hoi : ops[i]? with
        | none => rw [hoi] at hri; cases hri
        | some o =>
          rw [hoi] at hri
          have h5 := hc i hilt
          have h6 : rem.elem i = true := by simpa using hi
          rw [h6] at h5
          refine readyL hoi h5 hd ?_
          rw [List.all_eq_true]
          intro e he
          have h7 := List.all_eq_true.1 hri e he
          by_cases hb : Region.binds .any e = true
          · rw [hb] at h7 ⊢
            simp only [Bool.not_true, Bool.false_or, Bool.and_eq_true] at h7 ⊢
            rw [hc e.on (by simpa [Nat.blt_eq] using h7.2)]
            exact h7.1
          · simp [hb]
      rw [h0] at this
      cases this
    · obtain ⟨hj1, hj2, hjlt⟩ := back j hj
      obtain ⟨o, ho, h'⟩ := h.2 j hj1 hj2
      have hc' : ∀ k, k < ops.size → (j :: done).elem k = !(minus rem j).elem k := by
        intro k hk
        have h1 := hc k hk
        by_cases hkj : k = j
        · subst hkj
          simp [minus]
        · have e1 : (j :: done).elem k = done.elem k := by simp [hkj]
          have e2 : (minus rem j).elem k = rem.elem k := by
            rw [Bool.eq_iff_iff]
            simp [minus, hkj]
          rw [e1, e2, h1]
      have hr' : ∀ k ∈ minus rem j, k < ops.size := fun k hk => hr k (List.mem_filter.1 hk).1
      have hd' : ∀ k ∈ j :: done, k < ops.size := fun k hk => by
        rcases List.mem_cons.1 hk with h | h
        · subst h; exact hjlt
        · exact hd k h
      unfold wpOp
      simp only [ho]
      rcases h' with ⟨hw, h'⟩ | ⟨hw, h'⟩
      · rw [if_pos hw]
        refine .inl (Oper.wp_any (Oper.wp_mono (fun a' w' h' => ⟨h'.1, ?_⟩) (h' w hS hE)))
        rw [maskL_set]
        exact tailX_any fuel _ (j :: done) a' w' hc' hr' hd' h'.2
      · rw [if_neg (by rw [hw]; exact Bool.false_ne_true)]
        refine ⟨hS, ?_⟩
        rw [maskL_set]
        exact tailX_any fuel _ (j :: done) _ w hc' hr' hd' (tailX_mono _ _ _ _ _ hE h')

def SureX (P : Program) (ops : Array Oper) (Q : Exit → Act → World → Prop) (S : World → Prop) (rem : List Nat) : List Oper → Act → World → Prop
  | o :: rest, a, w0 => ∃ v, SureIf P ops S o v a ∧ SureX P ops Q S rem rest (a.put o.dst v) w0
  | [], a, w0 => TailX P ops Q S rem.length rem a w0

/-- The sure ones, ord, each ready in its turn; whatever is left is apart from them or waits for them. -/
def inOrdX (ops : Array Oper) (rem : List Nat) : List Nat → List Nat → Bool
  | done, i :: rest =>
    (match ops[i]? with
      | some o => (o.after.toList.all fun e => !Region.binds .any e || done.elem e.on) && (rest ++ rem).all fun j => match ops[j]? with | some oj => (oj.after.toList.any fun e => Region.binds .any e && Nat.beq e.on i) || o.apart ops oj | none => false
      | none => false) && !done.elem i && inOrdX ops rem (i :: done) rest
  | done, [] => (List.range ops.size).all (fun j => done.elem j == !rem.elem j) && rem.all (fun j => Nat.blt j ops.size)

theorem sureX_any (hQ : ∀ (c) (a : Act) (d v) (w), Q (.panic c) (a.put d v) w → Q (.panic c) a w) (hsel : ∀ (j : Nat) (o : Oper) cs b, ops[j]? = some o → o.op ≠ .select cs b) (rem : List Nat) :
    ∀ (rest : List Nat) (ro : List Oper) (done : List Nat) (a : Act) (w0 : World), rest.map (fun i => ops[i]?) = ro.map some → cover ops.size done (rest ++ rem) → (∀ j ∈ done, j < ops.size) →
    inOrdX ops rem done rest = true → SureX P ops Q S rem ro a w0 → wpAnyS P ops Q S (rest.length + rem.length) (maskL ops.size done) a w0
  | [], ro, done, a, w0, hm, hcv, hlt, hc, h => by
    cases ro with
    | nil =>
      simp only [inOrdX, Bool.and_eq_true] at hc
      rw [List.length_nil, Nat.zero_add]
      exact tailX_any _ rem done a w0 (fun j hj => by have := List.all_eq_true.1 hc.1 j (by simpa using hj); simpa using this) (fun j hj => by have := List.all_eq_true.1 hc.2 j hj; simpa [Nat.blt_eq] using this) hlt h
    | cons o ro => simp at hm
  | i :: rest, [], done, a, w0, hm, _, _, _, _ => by simp at hm
  | i :: rest, o :: ro, done, a, w0, hm, hcv, hlt, hc, ⟨v, hy, hr⟩ => by
    simp only [List.map_cons, List.cons.injEq] at hm
    obtain ⟨hok, hm⟩ := hm
    simp only [inOrdX, hok, Bool.and_eq_true, Bool.not_eq_true'] at hc
    obtain ⟨⟨⟨hc1, hc2⟩, hcd⟩, hc3⟩ := hc
    have hi : i < ops.size := (Array.getElem?_eq_some_iff.1 hok).1
    have hlt' : ∀ j ∈ i :: done, j < ops.size := fun j hj => by
      rcases List.mem_cons.1 hj with h | h
      · subst h; exact hi
      · exact hlt j h
    have ih := sureX_any hQ hsel rem rest ro (i :: done) (a.put o.dst v) w0 hm hcv.next hlt' hc3 hr
    rw [← maskL_set] at ih
    rw [List.length_cons, Nat.add_right_comm]
    refine wpAnyS_first hok hsel (fun c a w => hQ c a o.dst v w) (rest.length + rem.length) _ a w0 ?_ (readyL hok hcd hlt hc1) hy ih
    intro j oj hj hji hun hno
    have hjlt : j < ops.size := (Array.getElem?_eq_some_iff.1 hj).1
    rw [maskL_getD _ _ _ _ hjlt] at hun
    have hmem : j ∈ rest ++ rem := by
      rcases hcv j hjlt with hd | hd
      · simp at hun; exact absurd hd hun
      · rcases List.mem_cons.1 hd with hd | hd
        · exact absurd hd hji
        · exact hd
    have h2 := List.all_eq_true.1 hc2 j hmem
    rw [hj] at h2
    simp only [Bool.or_eq_true] at h2
    rcases h2 with h | h
    · exfalso
      rw [List.any_eq_true] at h
      obtain ⟨e, he, hb⟩ := h
      rw [Bool.and_eq_true] at hb
      exact hno e (by simpa using he) hb.1 (Nat.eq_of_beq_eq_true hb.2)
    · exact h

def ordOkX (l : List Oper) (ord rem : List Nat) : Bool :=
  l.all noSel && ord.all (fun j => Nat.blt j l.length) && (List.range l.length).all (fun j => (ord ++ rem).elem j) && Nat.beq (ord.length + rem.length) l.length && inOrdX l.toArray rem [] ord

/-- THE LAW: the sure operations ord first, in this order; then the others, rem, in every order. -/
theorem wp_region_free {id : Nat} {l : List Oper} {a : Act} {w : World} (ord rem : List Nat) (S : World → Prop) (hm : P.follows .mixedOrders = true) (hc : ordOkX l ord rem = true)
    (hQ : ∀ (c) (a : Act) (d v) (w), Q (.panic c) (a.put d v) w → Q (.panic c) a w)
    (hS : S w.drew) (h : SureX P l.toArray Q S rem (pick l ord) a w.drew) : (Code.region id l.toArray true).wp P Q a w := by
  simp only [ordOkX, Bool.and_eq_true] at hc
  obtain ⟨⟨⟨⟨h1, h0⟩, h2⟩, h3⟩, h4⟩ := hc
  have hl := pick_map l ord fun i hi => Nat.le_of_ble_eq_true (List.all_eq_true.1 h0 i hi)
  refine wp_region_any hm (wpAny_of_sure _ _ _ _ hS ?_)
  have e : Array.replicate l.toArray.size false = maskL l.toArray.size [] := by
    apply Array.ext
    · simp [maskL]
    · intro i h1 h2; simp [maskL]
  have hsel : ∀ (j : Nat) (o : Oper) cs b, l.toArray[j]? = some o → o.op ≠ .select cs b := fun j o cs b hj he => by
    have hm : o ∈ l := by simpa using Array.mem_of_getElem? hj
    have := List.all_eq_true.1 h1 o hm
    simp [noSel, he] at this
  have hlen : ord.length + rem.length = l.length := Nat.eq_of_beq_eq_true h3
  have := sureX_any (ops := l.toArray) hQ hsel rem ord (pick l ord) [] a w.drew (by simpa using hl) (fun j hj => .inr (by
    have := List.all_eq_true.1 h2 j (by simpa using hj)
    simpa using this)) (by simp) h4 h
  rw [hlen, show l.length = l.toArray.size by simp] at this
  rw [e]
  exact this

theorem sureIf_of {o : Oper} {a a' : Act} (hg : Region.wanted o (yielded ops a.tmps) = true)
    (hv : ∀ w, S w → ∀ K : Act → World → Prop, (∀ w', S w' → Ext w w' → K a' w') → o.wp P a w K NoQ)
    (hput : a' = a.put o.dst (a'.tmps.getD (o.dst.getD 0) undef)) (hlt : (o.dst.all fun d => Nat.blt d a.tmps.size) = true) : SureIf P ops S o (a'.tmps.getD (o.dst.getD 0) undef) a := by
  generalize a'.tmps.getD (o.dst.getD 0) undef = v at hput ⊢
  subst hput
  refine .inl ⟨hg, fun w hS => ?_⟩
  have h1 := hv w hS (fun b w' => (S w' ∧ Ext w w') ∧ b.defers = a.defers ∧ ∀ d, o.dst = some d → b.tmps[d]? = some v) (fun w' hS' hE => ⟨⟨hS', hE⟩, by cases o.dst <;> rfl, fun d hd => by
    rw [hd] at hlt ⊢
    have hlt' : d < a.tmps.size := by simpa [Nat.blt_eq] using hlt
    simp [Act.put, hlt']⟩)
  have key : ∀ u w', ((S w' ∧ Ext w w') ∧ (a.put o.dst u).defers = a.defers ∧ ∀ d, o.dst = some d → (a.put o.dst u).tmps[d]? = some v) → ((o.dst.isSome = true → u = v) ∧ S w' ∧ Ext w w') := by
    rintro u w' ⟨h2, _, h3⟩
    refine ⟨fun hs => ?_, h2⟩
    obtain ⟨d, hd⟩ := Option.isSome_iff_exists.1 hs
    have h4 := h3 d hd
    rw [hd] at hlt h4
    have hlt' : d < a.tmps.size := by simpa [Nat.blt_eq] using hlt
    simpa [Act.put, hlt'] using h4
  unfold Oper.wp at h1
  generalize (execOp a.eval o).run P w = r at *
  cases r with
  | ok n w' =>
    cases n <;> simp only [Oper.upon] at h1 <;> simp only [Yv]
    case value u => exact key _ _ h1
    case skip => exact key _ _ h1
    case defer d =>
      have h2 := h1.2.1
      have h3 : d :: a.defers = a.defers := Eq.trans (by cases o.dst <;> rfl) h2
      exact absurd (congrArg List.length h3) (by simp)
    case enter f args =>
      refine Calls.mono h1 fun e w'' he => ?_
      cases e with
      | returned u => exact key _ _ he
      | panicked c => exact he.elim
      | outgrown => obtain ⟨_, _, hf⟩ := he; exact hf.elim
    case row row args => exact Rows.mono h1 fun u w'' he => key _ _ he
    all_goals exact h1.elim
  | halt x w' =>
    cases x <;> simp only [Oper.upon] at h1
    all_goals exact h1.elim

theorem sureX_cons {o : Oper} {rest : List Oper} {a a' : Act} {w0 : World} {rem : List Nat} (hg : Region.wanted o (yielded ops a.tmps) = true)
    (hv : ∀ w, S w → ∀ K : Act → World → Prop, (∀ w', S w' → Ext w w' → K a' w') → o.wp P a w K NoQ)
    (hput : a' = a.put o.dst (a'.tmps.getD (o.dst.getD 0) undef)) (hlt : (o.dst.all fun d => Nat.blt d a.tmps.size) = true)
    (h : SureX P ops Q S rem rest a' w0) : SureX P ops Q S rem (o :: rest) a w0 :=
  ⟨_, sureIf_of hg hv hput hlt, by rw [← hput]; exact h⟩

/-- One of rem is ready: this one. -/
theorem tailX_one {fuel : Nat} {rem : List Nat} {a : Act} {w0 : World} (i : Nat) {o : Oper} (hl : rem.filter (readyIn ops rem) = [i]) (ho : ops[i]? = some o) (hg : Region.wanted o (yielded ops a.tmps) = true)
    (hv : ∀ w, S w → Ext w0 w → ∀ K : Act → World → Prop, (∀ a' w', S w' → TailX P ops Q S fuel (minus rem i) a' w' → K a' w') → o.wp P a w K NoQ) : TailX P ops Q S (fuel + 1) rem a w0 := by
  have hm : ∀ j, (j ∈ rem ∧ readyIn ops rem j = true) ↔ j = i := fun j => by rw [← List.mem_filter, hl, List.mem_singleton]
  refine ⟨⟨i, (hm i).2 rfl⟩, fun j hj hr => ?_⟩
  obtain rfl := (hm j).1 ⟨hj, hr⟩
  exact ⟨o, ho, .inl ⟨hg, fun w hS hE => hv w hS hE _ fun _ _ h1 h2 => ⟨h1, h2⟩⟩⟩
/-- Two of rem are ready: these. -/
theorem tailX_two {fuel : Nat} {rem : List Nat} {a : Act} {w0 : World} (i j : Nat) {o u : Oper} (hl : rem.filter (readyIn ops rem) = [i, j]) (ho : ops[i]? = some o) (hu : ops[j]? = some u) (hg : Region.wanted o (yielded ops a.tmps) = true) (hg' : Region.wanted u (yielded ops a.tmps) = true)
    (hv : ∀ w, S w → Ext w0 w → ∀ K : Act → World → Prop, (∀ a' w', S w' → TailX P ops Q S fuel (minus rem i) a' w' → K a' w') → o.wp P a w K NoQ)
    (hv' : ∀ w, S w → Ext w0 w → ∀ K : Act → World → Prop, (∀ a' w', S w' → TailX P ops Q S fuel (minus rem j) a' w' → K a' w') → u.wp P a w K NoQ) : TailX P ops Q S (fuel + 1) rem a w0 := by
  have hm : ∀ k, (k ∈ rem ∧ readyIn ops rem k = true) ↔ k = i ∨ k = j := fun k => by rw [← List.mem_filter, hl, List.mem_cons, List.mem_singleton]
  refine ⟨⟨i, (hm i).2 (.inl rfl)⟩, fun k hk hr => ?_⟩
  rcases (hm k).1 ⟨hk, hr⟩ with rfl | rfl
  · exact ⟨o, ho, .inl ⟨hg, fun w hS hE => hv w hS hE _ fun _ _ h1 h2 => ⟨h1, h2⟩⟩⟩
  · exact ⟨u, hu, .inl ⟨hg', fun w hS hE => hv' w hS hE _ fun _ _ h1 h2 => ⟨h1, h2⟩⟩⟩
theorem tailX_nil {a : Act} {w0 : World} (h : ∀ w, S w → Ext w0 w → Q .normal a w) : TailX P ops Q S 0 [] a w0 := ⟨rfl, h⟩
/-- A region, and what follows when it has ended. -/
theorem wp_region_then {id : Nat} {l : Array Oper} {d : Bool} {a : Act} {w : World} (R : Act → Act → World → Prop) (h : (Code.region id l d).wp P (fun x b w' => match x with | .normal => R a b w' | _ => False) a w)
    (hR : ∀ b w', R a b w' → Q .normal b w') : (Code.region id l d).wp P Q a w :=
  Code.wp_mono (fun x b w' h => by cases x <;> first | exact hR _ _ h | exact h.elim) h
end
end Go.Proofs.Ytiebggfpjkhlaaa
