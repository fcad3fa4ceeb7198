/- The walk of service.Send where the epoch is another one. No condition. -/
import Derived.Test.YtiebggfpjkhlaaaZf
import Derived.ScopeJumps
namespace Go.Proofs.Ytiebggfpjkhlaaa
open Go Go.RowKit
open Go.ChangeMaps (setBlock heap_setBlock_same heap_setBlock_other)
set_option linter.unusedSimpArgs false
attribute [local go_sem] map_neq_some map_neq_nil
theorem jump_ret {l : Nat} {J : Act → World → Prop} {Q : Exit → Act → World → Prop} {a : Act} {w : World} : Exit.jump l J Q .ret a w = Q .ret a w := rfl
/-- A jump ahead: what stands behind the label goes on. -/
theorem wp_scope_fwd {P : Program} {a : Act} {w : World} {Q : Exit → Act → World → Prop} {c rest : Code} (l : Nat) (hf : findLabel c l = some rest)
    (first : c.wp P (Exit.jump l (fun a w => rest.wp P (Exit.jump l (fun _ _ => False) Q) a w) Q) a w) : (Code.scope c).wp P Q a w :=
  wp_scope_jumps l (fun a w => rest.wp P (Exit.jump l (fun _ _ => False) Q) a w) (fun _ _ => 0) hf first fun a w h => by
    refine Code.wp_mono (fun e a' w' he => ?_) h
    cases e <;> first | exact he | exact he.elim | exact he.2.elim
set_option maxRecDepth 100000 in
set_option maxHeartbeats 40000000 in
theorem send_two (b m0 m1 m2 bg br gw cw gb : Nat) (l s : Value) (x : Int) (w W : World)
    (hst : Kq w [(br, rowB (.slice (some ⟨gw, 0, none⟩) 1 cw)), (m2, one sA br), (bg, grp 1 l s), (m1, one sG bg), (b, svc m0 m1 m2)] W) (hgb : W.heap[gb]? = some (.cells #[.int .u8 x] 5 (0, 0))) :
    Calls Try.prog 13 #[.pointer (some ⟨b, 0, none⟩), .string sG, entry0 gb] W fun e W' => e = .returned (.tuple #[.int .i64 0, .int .i64 60]) ∧ Below W.heap.size W W' := by
  have hself : Kq W [(gb, .cells #[.int .u8 x] 5 (0, 0)), (bg, grp 1 l s), (m1, one sG bg), (b, svc m0 m1 m2)] W := ⟨fun p hp => ((hst.add hgb).sub (bm := [(gb, .cells #[.int .u8 x] 5 (0, 0)), (bg, grp 1 l s), (m1, one sG bg), (b, svc m0 m1 m2)]) (by simp)).1 p hp, Below.refl _ _⟩
  clear hst hgb
  have h1 := hself.new rfl (.cells #[.pointer (some ⟨b, 0, none⟩)] 22)
  have h2 := h1.new (n := W.heap.size + 1) (by simp) (.cells #[.int .i64 0, .int .i64 3, .slice (some ⟨gb, 0, none⟩) 1 1] 33)
  have c3' : ((W.alloc (.cells #[.pointer (some ⟨b, 0, none⟩)] 22)).alloc (.cells #[.int .i64 0, .int .i64 3, .slice (some ⟨gb, 0, none⟩) 1 1] 33)).cell? ⟨W.heap.size, 0, none⟩ = some (.pointer (some ⟨b, 0, none⟩)) := (cell_of_row _ W.heap.size 0 _ _ _ (h2.at_ (g := W.heap.size) (ob := .cells #[.pointer (some ⟨b, 0, none⟩)] 22 (0, 0)) (by simp))).trans rfl
  have h3 := h2.new (n := W.heap.size + 2) (by simp) (.cells #[.string sG] 9)
  have hst := h3.sub (bm := [((W.heap.size + 1), .cells #[.int .i64 0, .int .i64 3, .slice (some ⟨gb, 0, none⟩) 1 1] 33 (0, 0)), (gb, .cells #[.int .u8 x] 5 (0, 0)), (bg, grp 1 l s), (m1, one sG bg), (b, svc m0 m1 m2)]) (by simp)
  have hmay := may_one (c := 1) (h3.at_ (g := b) (ob := svc m0 m1 m2) (by simp)) (h3.at_ (g := W.heap.size + 2) (ob := .cells #[.string sG] 9 (0, 0)) (by simp)) szG
  have c3 : (((W.alloc (.cells #[.pointer (some ⟨b, 0, none⟩)] 22)).alloc (.cells #[.int .i64 0, .int .i64 3, .slice (some ⟨gb, 0, none⟩) 1 1] 33)).alloc (.cells #[.string sG] 9)).cell? ⟨W.heap.size, 0, none⟩ = some (.pointer (some ⟨b, 0, none⟩)) := (cell_of_row _ W.heap.size 0 _ _ _ (h3.at_ (g := W.heap.size) (ob := .cells #[.pointer (some ⟨b, 0, none⟩)] 22 (0, 0)) (by simp))).trans rfl
  have c50 : (((W.alloc (.cells #[.pointer (some ⟨b, 0, none⟩)] 22)).alloc (.cells #[.int .i64 0, .int .i64 3, .slice (some ⟨gb, 0, none⟩) 1 1] 33)).alloc (.cells #[.string sG] 9)).cell? ⟨W.heap.size + 1, 0, none⟩ = some (.int .i64 0) := (cell_of_row _ (W.heap.size + 1) 0 _ _ _ (h3.at_ (g := W.heap.size + 1) (ob := .cells #[.int .i64 0, .int .i64 3, .slice (some ⟨gb, 0, none⟩) 1 1] 33 (0, 0)) (by simp))).trans rfl
  have c51 : (((W.alloc (.cells #[.pointer (some ⟨b, 0, none⟩)] 22)).alloc (.cells #[.int .i64 0, .int .i64 3, .slice (some ⟨gb, 0, none⟩) 1 1] 33)).alloc (.cells #[.string sG] 9)).cell? ⟨W.heap.size + 1, 1, none⟩ = some (.int .i64 3) := (cell_of_row _ (W.heap.size + 1) 1 _ _ _ (h3.at_ (g := W.heap.size + 1) (ob := .cells #[.int .i64 0, .int .i64 3, .slice (some ⟨gb, 0, none⟩) 1 1] 33 (0, 0)) (by simp))).trans rfl
  have c52 : (((W.alloc (.cells #[.pointer (some ⟨b, 0, none⟩)] 22)).alloc (.cells #[.int .i64 0, .int .i64 3, .slice (some ⟨gb, 0, none⟩) 1 1] 33)).alloc (.cells #[.string sG] 9)).cell? ⟨W.heap.size + 1, 2, none⟩ = some (.slice (some ⟨gb, 0, none⟩) 1 1) := (cell_of_row _ (W.heap.size + 1) 2 _ _ _ (h3.at_ (g := W.heap.size + 1) (ob := .cells #[.int .i64 0, .int .i64 3, .slice (some ⟨gb, 0, none⟩) 1 1] 33 (0, 0)) (by simp))).trans rfl
  have cb1 : (((W.alloc (.cells #[.pointer (some ⟨b, 0, none⟩)] 22)).alloc (.cells #[.int .i64 0, .int .i64 3, .slice (some ⟨gb, 0, none⟩) 1 1] 33)).alloc (.cells #[.string sG] 9)).cell? ⟨b, 1, none⟩ = some (.map (some m1)) := (cell_of_row _ b 1 _ _ _ (h3.at_ (g := b) (ob := svc m0 m1 m2) (by simp))).trans rfl
  have hr1 := h3.at_ (g := m1) (ob := one sG bg) (by simp)
  clear h1 h2 h3 hself
  unfold entry0
  go_enter Try.func13, Try.ntmps13
  go_wp2_with fail
  refine wp_scope_fwd 0 rfl ?_
  go_wp2_with fail
  refine hmay.mono ?_
  rintro e w' ⟨rfl, rfl⟩
  go_wp2_with fail
  refine (sized_one gb 1 _).mono ?_
  rintro e w' ⟨rfl, hw⟩
  subst hw
  go_wp2_with (first | (at_lookup; refine wpList_lookW rfl 54 9 62 _ _ rfl Try.underlying54 Try.underlying9 m1 sG rfl rfl _ 1 hr1 (.pointer none) zero_g _ (look_one sG bg rfl) (.pointer (some ⟨bg, 0, none⟩)) rfl ?_))
  clear c3 c3' c50 c51 c52 cb1 hr1 hmay
  refine wp_region_then (fun a b' w' => b' = (((((((a.put (some 50) (.pointer (some ⟨(W.heap.size + 1), 0, none⟩))).put (some 51) (.int .i64 0)).put (some 52) (.pointer (some ⟨bg, 0, none⟩))).put (some 53) (.pointer (some ⟨bg, 0, none⟩))).put (some 54) (.pointer (some ⟨bg, 0, none⟩))).put (some 55) (.int .i64 1)).put (some 56) (.bool true)) ∧ Kq W [((W.heap.size + 1), .cells #[.int .i64 0, .int .i64 3, .slice (some ⟨gb, 0, none⟩) 1 1] 33 (0, 0)), (gb, .cells #[.int .u8 x] 5 (0, 0)), (bg, grp 1 l s), (m1, one sG bg), (b, svc m0 m1 m2)] w') ?_ ?_
  · refine wp_region_rem (Kq W [((W.heap.size + 1), .cells #[.int .i64 0, .int .i64 3, .slice (some ⟨gb, 0, none⟩) 1 1] 33 (0, 0)), (gb, .cells #[.int .u8 x] 5 (0, 0)), (bg, grp 1 l s), (m1, one sG bg), (b, svc m0 m1 m2)]) (by kernel_rfl) (by kernel_rfl) (fun _ _ _ _ _ h => h.elim) hst.drew ?_
    apply rem_sure 0 (by kernel_rfl) rfl (wanted_none rfl)
    · intro w2 hS K hK
      go_wp2_with fail
      exact hK _ hS (Ext.refl _)
    · kernel_rfl
    · kernel_rfl
    try ((repeat rw [put_none]); (try simp only [put_some, List.setIfInBounds_toArray, List.set_cons_succ, List.set_cons_zero]))
    apply rem_sure 1 (by kernel_rfl) rfl (wanted_none rfl)
    · intro w2 hS K hK
      have cq : w2.cell? ⟨(W.heap.size + 1), 0, none⟩ = some (.int .i64 0) := (cell_of_row w2 (W.heap.size + 1) 0 _ _ _ (hS.at_ (g := (W.heap.size + 1)) (ob := .cells #[.int .i64 0, .int .i64 3, .slice (some ⟨gb, 0, none⟩) 1 1] 33 (0, 0)) (by simp))).trans rfl
      go_wp2_with fail
      exact hK _ hS (Ext.refl _)
    · kernel_rfl
    · kernel_rfl
    try ((repeat rw [put_none]); (try simp only [put_some, List.setIfInBounds_toArray, List.set_cons_succ, List.set_cons_zero]))
    apply rem_sure 2 (by kernel_rfl) rfl (wanted_none rfl)
    · intro w2 hS K hK
      go_wp2_with fail
      exact hK _ hS (Ext.refl _)
    · kernel_rfl
    · kernel_rfl
    try ((repeat rw [put_none]); (try simp only [put_some, List.setIfInBounds_toArray, List.set_cons_succ, List.set_cons_zero]))
    apply rem_sure 3 (by kernel_rfl) rfl (wanted_none rfl)
    · intro w2 hS K hK
      go_wp2_with fail
      exact hK _ hS (Ext.refl _)
    · kernel_rfl
    · kernel_rfl
    try ((repeat rw [put_none]); (try simp only [put_some, List.setIfInBounds_toArray, List.set_cons_succ, List.set_cons_zero]))
    apply rem_sure 4 (by kernel_rfl) rfl (wanted_none rfl)
    · intro w2 hS K hK
      go_wp2_with fail
      exact hK _ hS (Ext.refl _)
    · kernel_rfl
    · kernel_rfl
    try ((repeat rw [put_none]); (try simp only [put_some, List.setIfInBounds_toArray, List.set_cons_succ, List.set_cons_zero]))
    apply rem_sure 5 (by kernel_rfl) rfl (wanted_none rfl)
    · intro w2 hS K hK
      have cq : w2.cell? ⟨bg, 0, none⟩ = some (.int .i64 1) := (cell_of_row w2 bg 0 _ _ _ (hS.at_ (g := bg) (ob := grp 1 l s) (by simp))).trans rfl
      go_wp2_with fail
      exact hK _ hS (Ext.refl _)
    · kernel_rfl
    · kernel_rfl
    try ((repeat rw [put_none]); (try simp only [put_some, List.setIfInBounds_toArray, List.set_cons_succ, List.set_cons_zero]))
    apply rem_sure 6 (by kernel_rfl) rfl (wanted_none rfl)
    · intro w2 hS K hK
      go_wp2_with fail
      exact hK _ hS (Ext.refl _)
    · kernel_rfl
    · kernel_rfl
    try ((repeat rw [put_none]); (try simp only [put_some, List.setIfInBounds_toArray, List.set_cons_succ, List.set_cons_zero]))
    refine rem_nil ?_
    intro v9 hS9 hE9
    exact ⟨rfl, hS9⟩
  rintro b' w4 ⟨rfl, hst⟩
  have hbel := hst.2
  clear hst
  try ((repeat rw [put_none]); (try simp only [put_some, List.setIfInBounds_toArray, List.set_cons_succ, List.set_cons_zero]))
  go_wp2_with fail
  go_step3
  change _ ∧ _
  refine ⟨rfl, ?_⟩
  go_wp2_with fail
  rw [jump_ret]
  go_ret2
  exact ⟨rfl, hbel⟩
end Go.Proofs.Ytiebggfpjkhlaaa
