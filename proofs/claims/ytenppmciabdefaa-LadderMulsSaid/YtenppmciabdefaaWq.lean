/- The walks of synodlaw03.num, small, knows. No condition. -/
import Derived.Test.YtenppmciabdefaaWp
import Derived.Test.YtenppmciabdefaaWn
import Derived.Test.YtenppmciabdefaaWm
import Derived.Deep.RegionWith
namespace Go.Proofs.Ytenppmciabdefaa
open Go.RowKit
def zl31 : List Int := [0, 0, 0, 0, 0, 0, 0, 0, 0, 0, 0, 0, 0, 0, 0, 0, 0, 0, 0, 0, 0, 0, 0, 0, 0, 0, 0, 0, 0, 0, 0]
def zl30 : List Int := [0, 0, 0, 0, 0, 0, 0, 0, 0, 0, 0, 0, 0, 0, 0, 0, 0, 0, 0, 0, 0, 0, 0, 0, 0, 0, 0, 0, 0, 0, 0]
def sm (n : Int) : Array Value := #[.int .u8 n, .int .u8 0, .int .u8 0, .int .u8 0, .int .u8 0, .int .u8 0, .int .u8 0, .int .u8 0, .int .u8 0, .int .u8 0, .int .u8 0, .int .u8 0, .int .u8 0, .int .u8 0, .int .u8 0, .int .u8 0, .int .u8 0, .int .u8 0, .int .u8 0, .int .u8 0, .int .u8 0, .int .u8 0, .int .u8 0, .int .u8 0, .int .u8 0, .int .u8 0, .int .u8 0, .int .u8 0, .int .u8 0, .int .u8 0, .int .u8 0, .int .u8 0]
theorem bs_block {w : World} {g n : Nat} {cs : Array Value} {t : TypeId} {fr : Nat × Nat} {l : List Int} (h : w.heap[g]? = some (.cells cs t fr)) (e : cs = (l.map (Value.int .u8)).toArray) (hl : l.length = n) (hb : ∀ x ∈ l, 0 ≤ x ∧ x < 256) : Bs w (some ⟨g, 0, none⟩) n l := by
  subst e
  refine ⟨hl, hb, fun _ => ⟨g, 0, rfl, fun i hi => ?_⟩⟩
  rw [cell_of_row w g (0 + i) _ _ _ h, Nat.zero_add]
  simp [List.getD, show i < l.length by omega]
theorem Bs.rd {w : World} {p : Option Addr} {l : List Int} (h : Bs w p 32 l) : ∃ B off, p = some ⟨B, off, none⟩ ∧ RdB w B off l := by
  obtain ⟨B, off, e, hc⟩ := h.2.2 (by omega)
  exact ⟨B, off, e, fun i hi => hc i (by rw [h.1] at hi; exact hi), h.2.1⟩
theorem Bs.of_isB {w : World} {b : Nat} {l : List Int} (h : IsB w b l) (hl : l.length = 32) (hb : ∀ x ∈ l, 0 ≤ x ∧ x < 256) : Bs w (some ⟨b, 0, none⟩) 32 l := bs_block h rfl hl hb
theorem Bs.of_rd {w : World} {B off : Nat} {l : List Int} (h : RdB w B off l) (hl : l.length = 32) : Bs w (some ⟨B, off, none⟩) 32 l :=
  ⟨hl, h.2, fun _ => ⟨B, off, rfl, fun i hi => h.1 i (by omega)⟩⟩
theorem Bs.leB {w : World} {b : Nat} {N : Int} (h : IsB w b (leB N)) : Bs w (some ⟨b, 0, none⟩) 32 (leB N) := Bs.of_isB h rfl (leB_in N)
theorem zl31_in : ∀ x ∈ zl31, 0 ≤ x ∧ x < 256 := by decide
theorem bs_sm {w : World} {g : Nat} {n : Int} {t : TypeId} {fr : Nat × Nat} (hn : 0 ≤ n ∧ n < 256) (h : w.heap[g]? = some (.cells (sm n) t fr)) : Bs w (some ⟨g, 0, none⟩) 32 (n :: zl31) :=
  bs_block h rfl rfl fun x hx => by
    rcases List.mem_cons.1 hx with h | h
    · subst h; exact hn
    · exact zl31_in x h
theorem make32 (w : World) : (Instr.makeSlice 22 (.int .i64 32) (.int .i64 32)).run Try.prog w = .ok (.slice (some ⟨w.heap.size, 0, none⟩) 32 32) (w.alloc (.cells #[.int .u8 0, .int .u8 0, .int .u8 0, .int .u8 0, .int .u8 0, .int .u8 0, .int .u8 0, .int .u8 0, .int .u8 0, .int .u8 0, .int .u8 0, .int .u8 0, .int .u8 0, .int .u8 0, .int .u8 0, .int .u8 0, .int .u8 0, .int .u8 0, .int .u8 0, .int .u8 0, .int .u8 0, .int .u8 0, .int .u8 0, .int .u8 0, .int .u8 0, .int .u8 0, .int .u8 0, .int .u8 0, .int .u8 0, .int .u8 0, .int .u8 0, .int .u8 0] 5)) := by kernel_rfl
set_option maxRecDepth 100000 in
theorem small_any (n : Int) (w : World) :
    Calls Try.prog 33 #[.int .u8 n] w fun e w' => e = .returned (.slice (some ⟨w.heap.size, 0, none⟩) 32 32) ∧ w.alloc (.cells (sm n) 5) = w' := by
  have hmk := make32
  go_enter Try.func33, Try.ntmps33
  go_wp2
  go_ret
  exact ⟨rfl, rfl⟩
theorem num_any (n : Int) (w : World) : Calls Try.prog 20 #[.int .i64 n] w fun e w' => e = .returned (.int .i64 n) ∧ w = w' := by
  go_enter Try.func20, Try.ntmps20
  go_wp2
  go_ret
  exact ⟨rfl, rfl⟩

theorem knows_num : (valB (2 :: zl31) * valB (zl30 ++ [64])) % PP = 19 := by decide +kernel
theorem leB_19 : leB 19 = 19 :: zl31 := by decide +kernel
theorem conv_at {w : World} {p : Option Addr} {n cap : Nat} {l : List Int} (h : Bs w p n l) : (convert 22 9 (.slice p n cap)).run Try.prog w = .ok (.string (strOfNums l)) w := h.string _ 5 _ cap Try.underlying22 Try.underlying5 Try.underlying9
theorem Bs.drew {w : World} {p : Option Addr} {n : Nat} {l : List Int} (h : Bs w p n l) : Bs w.drew p n l := h.drewN 1
theorem Bs.alloc {w : World} {p : Option Addr} {n : Nat} {l : List Int} (h : Bs w p n l) (o : Obj) : Bs (w.alloc o) p n l := h.keep ((Below.refl _ _).alloc (Nat.le_refl _) _)
set_option maxHeartbeats 1000000 in
set_option maxRecDepth 100000 in
theorem knows_any (w : World) :
    Calls Try.prog 22 #[] w fun e w' => e = .returned (.bool true) ∧ Below w.heap.size w w' := by
  have hmk := make32
  obtain ⟨W1, hW1, hs1, hb1, hB1⟩ := one_new w (.cells ((zl30 ++ [64]).map (Value.int .u8)).toArray 5)
  have hb64 := bs_block hB1 rfl rfl (by decide)
  have hW1' := Lib.hid hW1
  clear hW1 hB1 hs1
  go_enter Try.func22, Try.ntmps22
  go_wp2_with fail
  rw [show w.alloc (.cells #[.int .u8 0, .int .u8 0, .int .u8 0, .int .u8 0, .int .u8 0, .int .u8 0, .int .u8 0, .int .u8 0, .int .u8 0, .int .u8 0, .int .u8 0, .int .u8 0, .int .u8 0, .int .u8 0, .int .u8 0, .int .u8 0, .int .u8 0, .int .u8 0, .int .u8 0, .int .u8 0, .int .u8 0, .int .u8 0, .int .u8 0, .int .u8 0, .int .u8 0, .int .u8 0, .int .u8 0, .int .u8 0, .int .u8 0, .int .u8 0, .int .u8 0, .int .u8 64] 5) = W1 from hW1'.out]
  refine (small_any 2 _).mono ?_
  rintro e w2 ⟨rfl, hw2⟩
  have hb2 : Below W1.heap.size W1 w2 := by rw [← hw2]; exact (Below.refl _ _).alloc (Nat.le_refl _) _
  have hB2 : Bs w2 (some ⟨W1.heap.size, 0, none⟩) 32 (2 :: zl31) := by rw [← hw2]; exact bs_sm (by omega) (heap_alloc_new W1 _)
  clear hw2 hmk
  obtain ⟨_, _, e2, r2⟩ := hB2.rd
  obtain ⟨_, _, e1, r1⟩ := (hb64.keep hb2).rd
  simp at e1 e2
  obtain ⟨rfl, rfl⟩ := e1
  obtain ⟨rfl, rfl⟩ := e2
  go_wp2_with fail
  refine (gMul_yes _ _ _ _ _ _ (2 :: zl31) (zl30 ++ [64]) _ (by omega) (by omega) rfl rfl r2 r1).mono ?_
  rintro e w3 ⟨b, rfl, hlt, hB, hb3⟩
  rw [knows_num, leB_19] at hB
  go_wp2_with fail
  refine (gAdd_no _ _ _ _ _ _ _ (by decide) (by decide) (by decide)).mono ?_
  rintro e w4 ⟨rfl, rfl⟩
  have hR := Bs.of_isB hB rfl (by decide)
  have cA := conv_at (cap := 32) hR.drew
  have cB := conv_at (cap := 32) (hR.alloc (.cells (sm 19) 5)).drew
  have cC := conv_at (cap := 32) (bs_sm (n := 19) (by omega) (heap_alloc_new w3 (.cells (sm 19) 5))).drew
  have hb13 := Below.join (Below.join hb1 hb2) hb3
  clear hb1 hb2 hb3 hR hB r1 r2 hb64 hW1' hB2
  generalize strOfNums (19 :: zl31) = S at *
  go_wp2_with fail
  go_region_with (first | (go_at_call 20; refine (num_any _ _).mono ?_; rintro e w' ⟨rfl, rfl⟩) | (go_at_call 33; refine (small_any 19 _).mono ?_; rintro e w' ⟨rfl, rfl⟩))
  all_goals (go_wp2; go_ret; exact ⟨rfl, (hb13.alloc hb13.size _).drew⟩)
end Go.Proofs.Ytenppmciabdefaa
