/- The walks of field.element.same, zero and minus1. No condition. -/
import Derived.Test.YtenppmciabdefaaHa
import Derived.Test.YtenppmciabdefaaMb
namespace Go.Proofs.Ytenppmciabdefaa
open Go Go.RowKit
/-- The blocks of bl are known; what stood in w stands. -/
def Kn (w : World) (bl : List (Nat × Obj)) (w' : World) : Prop := (∀ p ∈ bl, w'.heap[p.1]? = some p.2) ∧ Below w.heap.size w w'
theorem Kn.at_ {w w' : World} {bl : List (Nat × Obj)} (h : Kn w bl w') {g : Nat} {ob : Obj} (hm : (g, ob) ∈ bl) : w'.heap[g]? = some ob := h.1 _ hm
theorem Kn.size {w w' : World} {bl : List (Nat × Obj)} (h : Kn w bl w') : w.heap.size ≤ w'.heap.size := h.2.size
theorem Kn.lt {w w' : World} {bl : List (Nat × Obj)} (h : Kn w bl w') {p : Nat × Obj} (hm : p ∈ bl) : p.1 < w'.heap.size := (Array.getElem?_eq_some_iff.1 (h.1 _ hm)).1
theorem Kn.keep {w w1 w2 : World} {bl : List (Nat × Obj)} (h : Kn w bl w1) (hb : Below w1.heap.size w1 w2) : Kn w bl w2 := ⟨fun p hp => block_stay hb (h.1 p hp), Below.join h.2 hb⟩
theorem Kn.alloc {w w1 : World} {bl : List (Nat × Obj)} (h : Kn w bl w1) (ob : Obj) : Kn w bl (w1.alloc ob) := h.keep ((Below.refl _ _).alloc (Nat.le_refl _) _)
theorem Kn.drew {w w1 : World} {bl : List (Nat × Obj)} (h : Kn w bl w1) : Kn w bl w1.drew := ⟨h.1, h.2.drew⟩
theorem Kn.add {w w1 : World} {bl : List (Nat × Obj)} (h : Kn w bl w1) {g : Nat} {ob : Obj} (hg : w1.heap[g]? = some ob) : Kn w ((g, ob) :: bl) w1 :=
  ⟨fun p hp => by
    rcases List.mem_cons.1 hp with rfl | hp
    · exact hg
    · exact h.1 p hp, h.2⟩
theorem Kn.sub {w w1 : World} {bl bm : List (Nat × Obj)} (h : Kn w bl w1) (hs : ∀ p ∈ bm, p ∈ bl) : Kn w bm w1 := ⟨fun p hp => h.1 p (hs p hp), h.2⟩
theorem Kn.store {w w1 : World} {bl : List (Nat × Obj)} (h : Kn w bl w1) {g : Nat} (hg : w.heap.size ≤ g) (hne : ∀ p ∈ bl, p.1 ≠ g) (cs : Array Value) : Kn w bl (w1.setRow g cs) :=
  ⟨fun p hp => by rw [setRow_other _ _ _ _ (hne p hp)]; exact h.1 p hp, below_setRow h.2 hg _⟩
theorem remK {P : Program} {ops : Array Oper} {Q : Exit → Act → World → Prop} {w : World} {bl : List (Nat × Obj)} {rem : List Nat} {a : Act} {w0 : World} {g : Nat} {ob : Obj} (hg : w0.heap[g]? = some ob)
    (h : Rem P ops Q (Kn w ((g, ob) :: bl)) rem a w0) : Rem P ops Q (Kn w bl) rem a w0 :=
  rem_to _ (fun _ hS hE => hS.add (hE _ _ hg)) (fun _ h => h.sub (fun p hp => by simp [hp])) (fun _ _ h hE hS => hS.add (hE _ _ (h.at_ (g := g) (ob := ob) (by simp)))) h
/-- Are two numbers the same mod p? -/
def sameB (N M : Int) : Bool := leB (N % PP) == leB (M % PP)
theorem sameB_yes {N M : Int} (h : PP ∣ N - M) : sameB N M = true := by
  unfold sameB
  rw [mod_of h]
  exact beq_self_eq_true _
theorem sameB_no {N M : Int} (h : ¬ PP ∣ N - M) : sameB N M = false := by
  unfold sameB
  rw [beq_eq_false_iff_ne]
  intro he
  exact h (Int.dvd_of_emod_eq_zero (Int.emod_eq_emod_iff_emod_sub_eq_zero.1 (leB_inj (mod_in N) (mod_in M) he)))
theorem info32 : (Try.prog.info? 109).map (·.size) = some 32 := by kernel_rfl
theorem leB_cells (N : Int) : ((leB N).map (Value.int .u8)).toArray.size = 32 := rfl
set_option maxRecDepth 100000 in
set_option maxHeartbeats 4000000 in
theorem same_fe (X Y : Array Value) (N M : Int) (w : World) (hX : FeA X N) (hY : FeA Y M) : Calls Try.prog 93 #[.agg X, .agg Y] w fun e w' => e = .returned (.bool (sameB N M)) ∧ Below w.heap.size w w' := by
  have sX := hX.size
  have sY := hY.size
  have HX := Lib.hid hX
  have HY := Lib.hid hY
  have hgd : Try.prog.eqGuardType Try.prog.depth 109 = false := by kernel_rfl
  have hsp : ∀ (b : Nat) (w : World), (Instr.arrayAt 109 (.slice (some ⟨b, 0, none⟩) 32 32)).run Try.prog w = .ok (.pointer (some ⟨b, 0, none⟩)) w := fun _ _ => by kernel_rfl
  have heq : ∀ w : World, (Op.equalIn 10000 109 (.agg ((leB (N % PP)).map (Value.int .u8)).toArray) (.agg ((leB (M % PP)).map (Value.int .u8)).toArray)).run Try.prog w = .ok (sameB N M) w := fun w => run_equal_arr w 9998 _ 5 32 Try.underlying109 Try.underlying5 (isAgg_u8 w) (sizeOf_u8 w) _ _ rfl rfl
  generalize hCX : ((leB (N % PP)).map (Value.int .u8)).toArray = CX at *
  generalize hCY : ((leB (M % PP)).map (Value.int .u8)).toArray = CY at *
  generalize sameB N M = b at *
  have zX : CX.size = 32 := by rw [← hCX]; rfl
  have zY : CY.size = 32 := by rw [← hCY]; rfl
  obtain ⟨W0, hW0, hz, hb0, q0, q1⟩ := two_new w (.cells X 44) (.cells Y 44)
  have hst0 : Kn w [] W0 := ⟨by simp, hb0⟩
  have hst := (hst0.add q1).add q0
  have HW := Lib.hid hW0
  have EX := Lib.hid hCX
  have EY := Lib.hid hCY
  clear hz hb0 q0 q1 hW0 hst0 hX hY hCX hCY
  go_enter Try.func93, Try.ntmps93
  go_wp2_with fail
  rw [HW.out]
  refine wp_region_rem (Kn w [(w.heap.size, .cells X 44 (0, 0)), (w.heap.size + 1, .cells Y 44 (0, 0))]) (by kernel_rfl) (by kernel_rfl) (fun _ _ d _ _ h => by cases d <;> exact h) hst.drew ?_
  apply rem_sure 0 (by kernel_rfl) rfl (wanted_none rfl)
  · intro w2 hS K hK
    exact wp_load_row 44 _ rfl w.heap.size rfl _ X _ _ (hS.at_ (g := w.heap.size) (ob := .cells X 44 (0, 0)) (by simp)) Try.underlying44 rfl (by rw [sX]; exact infoFe) (hK _ hS (Ext.refl _))
  · kernel_rfl
  · kernel_rfl
  try simp only [put_some, List.setIfInBounds_toArray, List.set_cons_succ, List.set_cons_zero]
  apply rem_sure 4 (by kernel_rfl) rfl (wanted_none rfl)
  · intro w2 hS K hK
    exact wp_load_row 44 _ rfl (w.heap.size + 1) rfl _ Y _ _ (hS.at_ (g := (w.heap.size + 1)) (ob := .cells Y 44 (0, 0)) (by simp)) Try.underlying44 rfl (by rw [sY]; exact infoFe) (hK _ hS (Ext.refl _))
  · kernel_rfl
  · kernel_rfl
  try simp only [put_some, List.setIfInBounds_toArray, List.set_cons_succ, List.set_cons_zero]
  refine rem_one 1 (by kernel_rfl) (step_of rfl (wanted_none rfl) ?_)
  intro v1 hS1 _ K hK
  go_wp2_with fail
  refine (eput_fe X _ _ HX.out).mono ?_
  rintro e u1 ⟨b1, rfl, _, hB1, hk1⟩
  have hB1 : u1.heap[b1]? = some (.cells CX 5 (0, 0)) := by rw [← EX.out]; exact hB1
  refine hK _ _ (hS1.keep hk1) ?_
  clear hK K
  try simp only [put_some, List.setIfInBounds_toArray, List.set_cons_succ, List.set_cons_zero]
  refine remK hB1 ?_
  apply rem_sure 2 (by kernel_rfl) rfl (wanted_none rfl)
  · intro w2 hS K hK
    go_wp2_with fail
    exact hK _ hS (Ext.refl _)
  · kernel_rfl
  · kernel_rfl
  try simp only [put_some, List.setIfInBounds_toArray, List.set_cons_succ, List.set_cons_zero]
  apply rem_sure 3 (by kernel_rfl) rfl (wanted_none rfl)
  · intro w2 hS K hK
    exact wp_load_row 109 _ rfl b1 rfl _ CX _ _ (hS.at_ (g := b1) (ob := .cells CX 5 (0, 0)) (by simp)) Try.underlying109 rfl (by rw [zX]; exact info32) (hK _ hS (Ext.refl _))
  · kernel_rfl
  · kernel_rfl
  try simp only [put_some, List.setIfInBounds_toArray, List.set_cons_succ, List.set_cons_zero]
  refine rem_one 5 (by kernel_rfl) (step_of rfl (wanted_none rfl) ?_)
  intro v2 hS2 _ K hK
  go_wp2_with fail
  refine (eput_fe Y _ _ HY.out).mono ?_
  rintro e u2 ⟨b2, rfl, _, hB2, hk2⟩
  have hB2 : u2.heap[b2]? = some (.cells CY 5 (0, 0)) := by rw [← EY.out]; exact hB2
  refine hK _ _ (hS2.keep hk2) ?_
  clear hK K
  try simp only [put_some, List.setIfInBounds_toArray, List.set_cons_succ, List.set_cons_zero]
  refine remK hB2 ?_
  apply rem_sure 6 (by kernel_rfl) rfl (wanted_none rfl)
  · intro w2 hS K hK
    go_wp2_with fail
    exact hK _ hS (Ext.refl _)
  · kernel_rfl
  · kernel_rfl
  try simp only [put_some, List.setIfInBounds_toArray, List.set_cons_succ, List.set_cons_zero]
  apply rem_sure 7 (by kernel_rfl) rfl (wanted_none rfl)
  · intro w2 hS K hK
    exact wp_load_row 109 _ rfl b2 rfl _ CY _ _ (hS.at_ (g := b2) (ob := .cells CY 5 (0, 0)) (by simp)) Try.underlying109 rfl (by rw [zY]; exact info32) (hK _ hS (Ext.refl _))
  · kernel_rfl
  · kernel_rfl
  try simp only [put_some, List.setIfInBounds_toArray, List.set_cons_succ, List.set_cons_zero]
  apply rem_sure 8 (by kernel_rfl) rfl (wanted_none rfl)
  · intro w2 hS K hK
    go_wp2_with fail
    exact hK _ hS (Ext.refl _)
  · kernel_rfl
  · kernel_rfl
  try simp only [put_some, List.setIfInBounds_toArray, List.set_cons_succ, List.set_cons_zero]
  apply rem_sure 9 (by kernel_rfl) rfl (wanted_none rfl)
  · intro w2 hS K hK
    go_wp2_with fail
    exact hK _ hS (Ext.refl _)
  · kernel_rfl
  · kernel_rfl
  try simp only [put_some, List.setIfInBounds_toArray, List.set_cons_succ, List.set_cons_zero]
  refine rem_nil ?_
  intro v9 hS9 hE9
  go_wp2
  go_ret
  exact ⟨rfl, hS9.2⟩
end Go.Proofs.Ytenppmciabdefaa
