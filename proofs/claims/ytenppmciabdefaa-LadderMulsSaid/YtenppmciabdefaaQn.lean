/- The reference's ladder: pairs of numbers in one block. No condition. -/
import Derived.Test.YtenppmciabdefaaGc
import Derived.Test.YtenppmciabdefaaQd
import Derived.Test.YtenppmciabdefaaRf
import Derived.Deep.MidRow
namespace Go.Proofs.Ytenppmciabdefaa
open Go Go.RowKit
/-- Two reference numbers, one behind the other. -/
def pc (A B : List Int) : Array Value := arrI A ++ arrI B
theorem pc_size {A B : List Int} (hA : A.length = 16) (hB : B.length = 16) : (pc A B).size = 32 := by
  unfold pc
  rw [Array.size_append, arrI_size, arrI_size, hA, hB]
theorem pc_one (A B : List Int) : (pc A B).all (·.oneCell') = true := by
  have h1 := arrI_one A
  have h2 := arrI_one B
  rw [Array.all_eq_true_iff_forall_mem] at *
  intro x hx
  rcases Array.mem_append.1 hx with hx | hx
  · exact h1 x hx
  · exact h2 x hx
theorem pc_fst {w : World} {g : Nat} {A B : List Int} {t : TypeId} (hA : A.length = 16) (_hB : B.length = 16) (h : w.heap[g]? = some (.cells (pc A B) t (0, 0))) : w.rangeAt g 0 (arrI A).toList := by
  have := World.rangeAt_of_block h 0 16
  have e : ((pc A B).extract 0 (0 + 16)) = arrI A := by
    unfold pc
    have hs : (arrI A).size = 16 := by rw [arrI_size, hA]
    rw [Array.extract_append]
    simp [hs]
  rw [e] at this
  exact this
theorem pc_snd {w : World} {g : Nat} {A B : List Int} {t : TypeId} (hA : A.length = 16) (hB : B.length = 16) (h : w.heap[g]? = some (.cells (pc A B) t (0, 0))) : w.rangeAt g 16 (arrI B).toList := by
  have := World.rangeAt_of_block h 16 16
  have e : ((pc A B).extract 16 (16 + 16)) = arrI B := by
    unfold pc
    have hs : (arrI A).size = 16 := by rw [arrI_size, hA]
    have hs2 : (arrI B).size = 16 := by rw [arrI_size, hB]
    have q1 : (arrI A).extract 16 (16 + 16) = #[] := by
      apply Array.eq_empty_of_size_eq_zero
      simp [hs]
    have q2 : (arrI B).extract 0 16 = arrI B := by
      rw [← hs2]
      simp
    rw [Array.extract_append, hs, q1]
    simpa using q2
  rw [e] at this
  exact this
theorem infoQ : (Try.prog.info? 91).map (·.size) = some 32 := by kernel_rfl
theorem sixteen {L : List Int} (h : L.length = 16) : ∃ a b c d e f g i j k l m n o p q : Int, L = [a, b, c, d, e, f, g, i, j, k, l, m, n, o, p, q] := by
  rcases L with _ | ⟨a, _ | ⟨b, _ | ⟨c, _ | ⟨d, _ | ⟨e, _ | ⟨f, _ | ⟨g, _ | ⟨i, _ | ⟨j, _ | ⟨k, _ | ⟨l, _ | ⟨m, _ | ⟨n, _ | ⟨o, _ | ⟨p, _ | ⟨q, _ | ⟨r, L⟩⟩⟩⟩⟩⟩⟩⟩⟩⟩⟩⟩⟩⟩⟩⟩⟩ <;> simp at h
  exact ⟨a, b, c, d, e, f, g, i, j, k, l, m, n, o, p, q, rfl⟩
set_option maxRecDepth 100000 in
theorem built_pair {A B : List Int} (hA : A.length = 16) (hB : B.length = 16) : Try.prog.built 91 [(0, .agg (arrI A)), (1, .agg (arrI B))] = some (pc A B) := by
  obtain ⟨a0, a1, a2, a3, a4, a5, a6, a7, a8, a9, a10, a11, a12, a13, a14, a15, rfl⟩ := sixteen hA
  obtain ⟨b0, b1, b2, b3, b4, b5, b6, b7, b8, b9, b10, b11, b12, b13, b14, b15, rfl⟩ := sixteen hB
  kernel_rfl
theorem wp_build_pair {o : Oper} {a : Act} {w : World} {K : Act → World → Prop} {Q : Exit → Act → World → Prop} (x y : Operand) (ho : o.op = .build 91 #[(0, x), (1, y)]) (A B : List Int) (hx : a.eval x = .agg (arrI A)) (hy : a.eval y = .agg (arrI B)) (hA : A.length = 16) (hB : B.length = 16)
    (h : K (a.put o.dst (.agg (pc A B))) w) : o.wp Try.prog a w K Q := by
  have e : Try.prog.built 91 ((#[((0 : Nat), x), (1, y)] : Array (Nat × Operand)).map fun (i, x) => (i, a.eval x)).toList = some (pc A B) := by
    simp only [List.map_toArray, List.map_cons, List.map_nil, hx, hy]
    exact built_pair hA hB
  refine wp_build _ _ ho (by rw [e]; rfl) ?_
  rw [e]
  exact h
theorem wpList_build_pair {ops : Array Oper} {rest : List Oper} {o : Oper} {a : Act} {w : World} {Q : Exit → Act → World → Prop} (hg : o.guard = none) (x y : Operand) (ho : o.op = .build 91 #[(0, x), (1, y)]) (A B : List Int) (hx : a.eval x = .agg (arrI A)) (hy : a.eval y = .agg (arrI B)) (hA : A.length = 16) (hB : B.length = 16)
    (h : wpList Try.prog ops Q rest (a.put o.dst (.agg (pc A B))) w) : wpList Try.prog ops Q (o :: rest) a w :=
  wpList_plain hg fun _ hK => wp_build_pair x y ho A B hx hy hA hB (hK _ _ h)
/-- Known blocks of any kind. -/
def Kq (w : World) (bl : List (Nat × Obj)) (w' : World) : Prop := (∀ p ∈ bl, w'.heap[p.1]? = some p.2) ∧ Below w.heap.size w w'
namespace Kq
variable {w w1 w2 : World} {bl : List (Nat × Obj)}
theorem at_ (h : Kq w bl w1) {g : Nat} {ob : Obj} (hm : (g, ob) ∈ bl) : w1.heap[g]? = some ob := h.1 _ hm
theorem size (h : Kq w bl w1) : w.heap.size ≤ w1.heap.size := h.2.size
theorem lt (h : Kq w bl w1) {p : Nat × Obj} (hm : p ∈ bl) : p.1 < w1.heap.size := (Array.getElem?_eq_some_iff.1 (h.1 _ hm)).1
theorem keep (h : Kq w bl w1) (hb : Below w1.heap.size w1 w2) : Kq w bl w2 := ⟨fun p hp => block_stay hb (h.1 p hp), Below.join h.2 hb⟩
theorem alloc (h : Kq w bl w1) (ob : Obj) : Kq w bl (w1.alloc ob) := h.keep ((Below.refl _ _).alloc (Nat.le_refl _) _)
theorem drew (h : Kq w bl w1) : Kq w bl w1.drew := ⟨h.1, h.2.drew⟩
theorem add (h : Kq w bl w1) {g : Nat} {ob : Obj} (hg : w1.heap[g]? = some ob) : Kq w ((g, ob) :: bl) w1 :=
  ⟨fun p hp => by
    rcases List.mem_cons.1 hp with rfl | hp
    · exact hg
    · exact h.1 p hp, h.2⟩
theorem sub {bm : List (Nat × Obj)} (h : Kq w bl w1) (hs : ∀ p ∈ bm, p ∈ bl) : Kq w bm w1 := ⟨fun p hp => h.1 p (hs p hp), h.2⟩
theorem store (h : Kq w bl w1) {g : Nat} (hg : w.heap.size ≤ g) (hne : ∀ p ∈ bl, p.1 ≠ g) (cs : Array Value) : Kq w bl (w1.setRow g cs) :=
  ⟨fun p hp => by rw [setRow_other _ _ _ _ (hne p hp)]; exact h.1 p hp, below_setRow h.2 hg _⟩
theorem storeNew (h1 : Kq w bl w1) (h : Kq w bl w2) (cs : Array Value) : Kq w bl (w2.setRow w1.heap.size cs) :=
  h.store h1.size (fun _ hp => Nat.ne_of_lt (h1.lt hp)) cs
end Kq
/-- 32 zeros. -/
def zero32 : Array Value := zero16 ++ zero16
end Go.Proofs.Ytenppmciabdefaa
