/- A region that draws its order, walked operation by operation: a sure one may be taken at once, of the others each that is ready. No condition. -/
import Derived.Test.YtiebggfpjkhlaaaRd
namespace Go.Proofs.Ytiebggfpjkhlaaa
open Go
section
variable {P : Program} {ops : Array Oper} {Q : Exit → Act → World → Prop} {S : World → Prop}

def compl (n : Nat) (rem : List Nat) : List Nat := (List.range n).filter fun j => !rem.elem j
theorem compl_elem {n : Nat} (rem : List Nat) {j : Nat} (h : j < n) : (compl n rem).elem j = !rem.elem j := by
  rw [Bool.eq_iff_iff]
  simp [compl, h]
theorem maskL_congr {n : Nat} {d d' : List Nat} (h : ∀ j, j < n → d.elem j = d'.elem j) : maskL n d = maskL n d' := by
  apply Array.ext
  · simp [maskL]
  · intro j h1 h2
    have hj : j < n := by simpa [maskL] using h1
    simpa [maskL] using h j hj
theorem minus_elem (rem : List Nat) (i j : Nat) : (minus rem i).elem j = (rem.elem j && j != i) := by
  rw [Bool.eq_iff_iff]
  simp [minus]
theorem mask_next {n : Nat} (rem : List Nat) (i : Nat) : (maskL n (compl n rem)).setIfInBounds i true = maskL n (compl n (minus rem i)) := by
  rw [maskL_set]
  refine maskL_congr fun j hj => ?_
  rw [compl_elem _ hj, minus_elem, List.elem_cons, compl_elem _ hj]
  by_cases h : j = i
  · subst h; simp
  · have : (j == i) = false := by simpa using h
    have h2 : (j != i) = true := by simpa using h
    rw [this, h2]
    simp

/-- The operations rem are still to come. -/
def Rem (P : Program) (ops : Array Oper) (Q : Exit → Act → World → Prop) (S : World → Prop) (rem : List Nat) (a : Act) (w0 : World) : Prop :=
  (∀ (j : Nat) (o : Oper) cs b, ops[j]? = some o → o.op ≠ .select cs b) → (∀ (c) (a : Act) (d v) (w), Q (.panic c) (a.put d v) w → Q (.panic c) a w) →
  wpAnyS P ops Q S rem.length (maskL ops.size (compl ops.size rem)) a w0

theorem ready_of {rem : List Nat} {i : Nat} (hi : rem.elem i = true) (hr : readyIn ops rem i = true) : i ∈ Region.ready .any ops (maskL ops.size (compl ops.size rem)) := by
  unfold readyIn at hr
  cases hoi : ops[i]? with
  | none => rw [hoi] at hr; cases hr
  | some o =>
    rw [hoi] at hr
    have hlt : i < ops.size := (Array.getElem?_eq_some_iff.1 hoi).1
    refine readyL hoi (by rw [compl_elem _ hlt, hi]; rfl) (fun j hj => by simp only [compl, List.mem_filter, List.mem_range] at hj; exact hj.1) ?_
    rw [List.all_eq_true]
    intro e he
    have h7 := List.all_eq_true.1 hr e he
    by_cases hb : Region.binds .any e = true
    · rw [hb] at h7 ⊢
      simp only [Bool.not_true, Bool.false_or, Bool.and_eq_true] at h7 ⊢
      rw [compl_elem _ (by simpa [Nat.blt_eq] using h7.2)]
      exact h7.1
    · simp [hb]

theorem of_ready {rem : List Nat} {j : Nat} (hj : j ∈ Region.ready .any ops (maskL ops.size (compl ops.size rem))) : rem.elem j = true ∧ readyIn ops rem j = true ∧ j < ops.size := by
  obtain ⟨hun, oj, hoj, hall⟩ := mem_ready.1 hj
  have hjlt : j < ops.size := (Array.getElem?_eq_some_iff.1 hoj).1
  rw [maskL_getD _ _ _ _ hjlt, compl_elem _ hjlt] at hun
  refine ⟨by simpa using hun, ?_, hjlt⟩
  unfold readyIn
  rw [hoj]
  rw [List.all_eq_true]
  intro e he
  by_cases hb : Region.binds .any e = true
  · have h2 := hall e (by simpa using he) hb
    rw [hb]
    rcases Nat.lt_or_ge e.on ops.size with h3 | h3
    · rw [maskL_getD _ _ _ _ h3, compl_elem _ h3] at h2
      simp only [Bool.not_true, Bool.false_or, Bool.and_eq_true]
      exact ⟨h2, by simpa [Nat.blt_eq] using h3⟩
    · simp [maskL, h3] at h2
  · simp [hb]

theorem rem_nil {a : Act} {w0 : World} (h : ∀ w, S w → Ext w0 w → Q .normal a w) : Rem P ops Q S [] a w0 := fun _ _ =>
  ⟨by
    rw [List.eq_nil_iff_forall_not_mem]
    intro j hj
    have := (of_ready hj).1
    simp at this, h⟩

theorem rem_mono {rem : List Nat} {a : Act} {w0 w1 : World} (he : Ext w0 w1) (h : Rem P ops Q S rem a w0) : Rem P ops Q S rem a w1 := fun h1 h2 => wpAnyS_mono _ _ _ _ _ he (h h1 h2)

/-- What must hold for the operation i to be taken at once. -/
def canFirst (ops : Array Oper) (rem : List Nat) (i : Nat) : Bool :=
  rem.elem i && readyIn ops rem i && Nat.beq rem.length ((minus rem i).length + 1) &&
  match ops[i]? with
  | some oi => rem.all fun j => Nat.beq j i || match ops[j]? with | some oj => (oj.after.toList.any fun e => Region.binds .any e && Nat.beq e.on i) || oi.apart ops oj | none => true
  | none => false

theorem rem_first {rem : List Nat} {a : Act} {w0 : World} {i : Nat} {o : Oper} {v : Value} (hc : canFirst ops rem i = true) (ho : ops[i]? = some o) (hy : SureIf P ops S o v a)
    (h : Rem P ops Q S (minus rem i) (a.put o.dst v) w0) : Rem P ops Q S rem a w0 := fun hsel hQ => by
  simp only [canFirst, ho, Bool.and_eq_true] at hc
  obtain ⟨⟨⟨h1, h2⟩, h3⟩, h4⟩ := hc
  have h5 := h hsel hQ
  rw [Nat.eq_of_beq_eq_true h3]
  rw [← mask_next] at h5
  refine wpAnyS_first ho hsel (fun c a w => hQ c a o.dst v w) _ _ a w0 ?_ (ready_of h1 h2) hy h5
  intro j oj hj hji hun hno
  have hjlt : j < ops.size := (Array.getElem?_eq_some_iff.1 hj).1
  rw [maskL_getD _ _ _ _ hjlt, compl_elem _ hjlt] at hun
  have hm : j ∈ rem := by simpa using hun
  have h6 := List.all_eq_true.1 h4 j hm
  rw [hj] at h6
  simp only [Bool.or_eq_true] at h6
  rcases h6 with h6 | h6 | h6
  · exact absurd (Nat.eq_of_beq_eq_true h6) hji
  · exfalso
    rw [List.any_eq_true] at h6
    obtain ⟨e, he, hb⟩ := h6
    rw [Bool.and_eq_true] at hb
    exact hno e (by simpa using he) hb.1 (Nat.eq_of_beq_eq_true hb.2)
  · exact h6

/-- The operation i, sure, taken at once; a' is the act behind it. -/
theorem rem_sure {rem : List Nat} {a a' : Act} {w0 : World} (i : Nat) {o : Oper} (hc : canFirst ops rem i = true) (ho : ops[i]? = some o) (hg : Region.wanted o (yielded ops a.tmps) = true)
    (hv : ∀ w, S w → ∀ K : Act → World → Prop, (∀ w', S w' → Ext w w' → K a' w') → o.wp P a w K NoQ)
    (hput : a' = a.put o.dst (a'.tmps.getD (o.dst.getD 0) undef)) (hlt : (o.dst.all fun d => Nat.blt d a.tmps.size) = true)
    (h : Rem P ops Q S (minus rem i) a' w0) : Rem P ops Q S rem a w0 := by
  exact rem_first hc ho (sureIf_of (a' := a') hg hv hput hlt) (by rw [← hput]; exact h)
/-- An operation that its guard leaves out. -/
theorem rem_skip {rem : List Nat} {a : Act} {w0 : World} (i : Nat) {o : Oper} (hc : canFirst ops rem i = true) (ho : ops[i]? = some o) (hg : Region.wanted o (yielded ops a.tmps) = false)
    (h : Rem P ops Q S (minus rem i) (a.put o.dst undef) w0) : Rem P ops Q S rem a w0 := rem_first hc ho (.inr ⟨hg, rfl⟩) h

/-- One step of whatever is ready. -/
def Step (P : Program) (ops : Array Oper) (Q : Exit → Act → World → Prop) (S : World → Prop) (rem : List Nat) (a : Act) (w0 : World) (i : Nat) : Prop :=
  ∃ o, ops[i]? = some o ∧ Region.wanted o (yielded ops a.tmps) = true ∧ ∀ w, S w → Ext w0 w → o.wp P a w (fun a' w' => S w' ∧ Rem P ops Q S (minus rem i) a' w') NoQ
theorem step_of {rem : List Nat} {a : Act} {w0 : World} {i : Nat} {o : Oper} (ho : ops[i]? = some o) (hg : Region.wanted o (yielded ops a.tmps) = true)
    (hv : ∀ w, S w → Ext w0 w → ∀ K : Act → World → Prop, (∀ a' w', S w' → Rem P ops Q S (minus rem i) a' w' → K a' w') → o.wp P a w K NoQ) : Step P ops Q S rem a w0 i :=
  ⟨o, ho, hg, fun w hS hE => hv w hS hE _ fun _ _ h1 h2 => ⟨h1, h2⟩⟩
def stepOk (ops : Array Oper) (rem : List Nat) (l : List Nat) : Bool :=
  (rem.filter (readyIn ops rem)) == l && !l.isEmpty && l.all fun i => Nat.beq rem.length ((minus rem i).length + 1)
theorem rem_step {rem : List Nat} {a : Act} {w0 : World} (l : List Nat) (hc : stepOk ops rem l = true) (h : ∀ i ∈ l, Step P ops Q S rem a w0 i) : Rem P ops Q S rem a w0 := fun hsel hQ => by
  simp only [stepOk, Bool.and_eq_true, beq_iff_eq] at hc
  obtain ⟨⟨h1, h2⟩, h3⟩ := hc
  cases l with
  | nil => simp at h2
  | cons i0 l0 =>
    have e0 := Nat.eq_of_beq_eq_true (List.all_eq_true.1 h3 i0 (by simp))
    have hin : ∀ i, i ∈ i0 :: l0 → rem.elem i = true ∧ readyIn ops rem i = true := fun i hi => by
      rw [← h1, List.mem_filter] at hi
      exact ⟨by simpa using hi.1, hi.2⟩
    rw [e0]
    refine ⟨fun h0 => ?_, fun j hj w hS hE => ?_⟩
    · have := ready_of (hin i0 (by simp)).1 (hin i0 (by simp)).2
      rw [h0] at this
      cases this
    · obtain ⟨g1, g2, g3⟩ := of_ready hj
      have hjl : j ∈ i0 :: l0 := by rw [← h1, List.mem_filter]; exact ⟨by simpa using g1, g2⟩
      obtain ⟨o, ho, hg, hv⟩ := h j hjl
      have ej := Nat.eq_of_beq_eq_true (List.all_eq_true.1 h3 j hjl)
      unfold wpOp
      simp only [ho]
      rw [if_pos hg]
      refine .inl (Oper.wp_any (Oper.wp_mono (fun a' w' h' => ⟨h'.1, ?_⟩) (hv w hS hE)))
      have h5 := h'.2 hsel hQ
      rw [mask_next, show (minus rem i0).length = (minus rem j).length by omega]
      exact h5
theorem rem_one {rem : List Nat} {a : Act} {w0 : World} (i : Nat) (hc : stepOk ops rem [i] = true) (h : Step P ops Q S rem a w0 i) : Rem P ops Q S rem a w0 :=
  rem_step [i] hc fun j hj => by rw [List.mem_singleton] at hj; subst hj; exact h
theorem rem_two {rem : List Nat} {a : Act} {w0 : World} (i j : Nat) (hc : stepOk ops rem [i, j] = true) (h : Step P ops Q S rem a w0 i) (h' : Step P ops Q S rem a w0 j) : Rem P ops Q S rem a w0 :=
  rem_step [i, j] hc fun k hk => by
    rcases List.mem_cons.1 hk with rfl | hk
    · exact h
    · rw [List.mem_singleton] at hk; subst hk; exact h'
theorem rem_three {rem : List Nat} {a : Act} {w0 : World} (i j m : Nat) (hc : stepOk ops rem [i, j, m] = true) (h : Step P ops Q S rem a w0 i) (h' : Step P ops Q S rem a w0 j) (h'' : Step P ops Q S rem a w0 m) : Rem P ops Q S rem a w0 :=
  rem_step [i, j, m] hc fun k hk => by
    rcases List.mem_cons.1 hk with rfl | hk
    · exact h
    · rcases List.mem_cons.1 hk with rfl | hk
      · exact h'
      · rw [List.mem_singleton] at hk; subst hk; exact h''

/-- THE LAW: a region that draws its order. -/
theorem wp_region_rem {id : Nat} {l : List Oper} {a : Act} {w : World} (S : World → Prop) (hm : P.follows .mixedOrders = true) (hc : l.all noSel = true)
    (hQ : ∀ (c) (a : Act) (d v) (w), Q (.panic c) (a.put d v) w → Q (.panic c) a w)
    (hS : S w.drew) (h : Rem P l.toArray Q S (List.range l.length) a w.drew) : (Code.region id l.toArray true).wp P Q a w := by
  refine wp_region_any hm (wpAny_of_sure _ _ _ _ hS ?_)
  have hsel : ∀ (j : Nat) (o : Oper) cs b, l.toArray[j]? = some o → o.op ≠ .select cs b := fun j o cs b hj he => by
    have hm : o ∈ l := by simpa using Array.mem_of_getElem? hj
    have := List.all_eq_true.1 hc o hm
    simp [noSel, he] at this
  have := h hsel hQ
  have e : Array.replicate l.toArray.size false = maskL l.toArray.size (compl l.toArray.size (List.range l.length)) := by
    apply Array.ext
    · simp [maskL]
    · intro i h1 h2
      have hi : i < l.length := by simpa using h1
      have h3 := compl_elem (n := l.length) (List.range l.length) hi
      have h4 : (List.range l.length).elem i = true := by simpa using hi
      rw [h4] at h3
      have h5 : i ∉ compl l.length (List.range l.length) := by simpa using h3
      simp [maskL, h5]
  rw [e]
  rw [List.length_range] at this
  simpa using this
end
end Go.Proofs.Ytiebggfpjkhlaaa
