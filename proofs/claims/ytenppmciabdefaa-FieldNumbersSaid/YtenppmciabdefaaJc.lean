/- The walk of FieldNumbers. No condition. -/
import Derived.Test.YtenppmciabdefaaJa
import Derived.Test.YtenppmciabdefaaHb
import Derived.Test.YtenppmciabdefaaMb
namespace Go.Proofs.Ytenppmciabdefaa
open Go Go.RowKit
/-- The operations that a slice of them reads as. -/
structure OpD where
  kind : Int
  p : Option Addr
  n : Nat
  c : Nat
  b : List Int
  num : Int
def OpsAt (w : World) (p : Option Addr) (n : Nat) (D : List OpD) : Prop :=
  D.length = n ∧ (0 < n → ∃ B off, p = some ⟨B, off, none⟩ ∧ ∀ i (h : i < D.length), w.cell? ⟨B, off + i * 3, none⟩ = some (.int .i64 D[i].kind) ∧ w.cell? ⟨B, off + i * 3 + 1, none⟩ = some (.slice D[i].p D[i].n D[i].c) ∧
    w.cell? ⟨B, off + i * 3 + 1 + 1, none⟩ = some (.int .i64 D[i].num)) ∧
  ∀ d ∈ D, Bs w d.p d.n d.b ∧ d.n ≤ d.c ∧ d.c ≤ 9223372036854775807 ∧ (-9223372036854775808 ≤ d.kind ∧ d.kind ≤ 9223372036854775807) ∧ (-9223372036854775808 ≤ d.num ∧ d.num ≤ 9223372036854775807)
/-- Known blocks and known slices of 32 bytes. -/
def KS (w : World) (bl : List (Nat × Obj)) (sl : List (Option Addr × List Int)) (w' : World) : Prop := Kn w bl w' ∧ SBy w sl w'
theorem KS.keep {w w1 w2 : World} {bl : List (Nat × Obj)} {sl : List (Option Addr × List Int)} (h : KS w bl sl w1) (hb : Below w1.heap.size w1 w2) : KS w bl sl w2 := ⟨h.1.keep hb, h.2.keep hb⟩
theorem KS.drew {w w1 : World} {bl : List (Nat × Obj)} {sl : List (Option Addr × List Int)} (h : KS w bl sl w1) : KS w bl sl w1.drew := ⟨h.1.drew, h.2.drew⟩
theorem Kn.ext {w w0 w1 : World} {bl : List (Nat × Obj)} (h : Kn w bl w0) (hE : Ext w0 w1) (hb : Below w.heap.size w w1) : Kn w bl w1 := ⟨fun p hp => hE _ _ (h.1 p hp), hb⟩
theorem remS {P : Program} {ops : Array Oper} {Q : Exit → Act → World → Prop} {w : World} {bl : List (Nat × Obj)} {sl : List (Option Addr × List Int)} {rem : List Nat} {a : Act} {w0 : World} {p : Option Addr} {l : List Int} (hb : Bs w0 p 32 l)
    (h : Rem P ops Q (KS w bl ((p, l) :: sl)) rem a w0) : Rem P ops Q (KS w bl sl) rem a w0 :=
  rem_to _ (fun _ hS hE => ⟨hS.1, hS.2.add (hb.ext hE)⟩) (fun _ h => ⟨h.1, h.2.tail⟩) (fun _ _ h hE hS => ⟨hS.1, hS.2.add ((h.2.at_ (p := p) (l := l) (by simp)).ext hE)⟩) h
theorem Kn.free {w w' : World} {bl : List (Nat × Obj)} (h : Kn w bl w') {g : Nat} {ob : Obj} (hm : (g, ob) ∈ bl) : w'.heap[g]? = some ob := h.1 _ hm
set_option maxRecDepth 100000 in
set_option maxHeartbeats 40000000 in
theorem fieldNumbers_walk (a0 : Option Addr) (n0 c0 : Nat) (l0 : List Int) (a1 : Option Addr) (n1 c1 : Nat) (D : List OpD) (w : World) (b0 : Bs w a0 n0 l0) (e0 : n0 ≤ c0) (g0 : c0 ≤ 140737488351232) (hD : OpsAt w a1 n1 D) (_e1 : n1 ≤ c1) (_g1 : c1 ≤ 9223372036854775807) :
    Calls Try.prog 9 #[.slice a0 n0 c0, .slice a1 n1 c1] w fun e w' => e = .returned (.bool true) ∧ Below w.heap.size w w' := by
  have hl0 := Lib.hid b0.1
  have HD := Lib.hid hD
  clear hD
  go_enter Try.func9, Try.ntmps9
  go_wp2_with fail
  refine (lent_any a0 n0 c0 l0 _ (by omega) b0).mono ?_
  rintro e w1 ⟨gx, cx, rfl, hcx, hcx2, hgx, hgxlt, hBx, hb1⟩
  have hBx := hBx.head hl0.out
  have b0 := b0.keep hb1
  by_cases h32 : n0 = 32
  · subst h32
    go_wp2_with fail
    refine (gFrom_yes _ cx l0 _ (by omega) hBx).mono ?_
    rintro e w2 ⟨X, rfl, hX, hb2⟩
    have hX' := hX
    obtain ⟨x0, x1, x2, x3, x4, rfl, _⟩ := hX'
    have b0 := b0.keep hb2
    have hb12 := Below.join hb1 hb2
    clear hBx hb1 hb2 hcx hcx2 hgx hgxlt
    go_wp2_with fail
    obtain ⟨W0, hW0, hz, hbW, q0, q1⟩ := two_new w2 (.cells #[.int .u64 x0, .int .u64 x1, .int .u64 x2, .int .u64 x3, .int .u64 x4] 46) (.cells #[.int .u64 0, .int .u64 0, .int .u64 0, .int .u64 0, .int .u64 0] 46)
    rw [hW0]
    have b0 := b0.keep hbW
    have hbel := Below.join hb12 hbW
    have hsz := hb12.size
    have HZ := Lib.hid hz
    clear hW0 hz hb12 hbW
    refine (rfrom_num a0 c0 l0 _ b0).mono ?_
    rintro e w3 ⟨L, rfl, hL, hb3⟩
    have hKn : Kn w [] w3 := ⟨by simp, Below.join hbel hb3⟩
    have hKn := (hKn.add (block_stay hb3 q1)).add (block_stay hb3 q0)
    have sL : (arrI L).size = 16 := by rw [arrI_size, hL.1]
    have hs3 := hb3.size
    generalize hg5 : w2.heap.size = g5 at *
    have hg8 : g5 + 1 < w3.heap.size := by have := HZ.out; omega
    clear b0 hbel hb3 q0 q1 hg5
    rw [show numV L = .agg (arrI L) from rfl]
    go_wp2_with (refine wpList_store_row rfl 52 (.tmp 8) (.tmp 37) rfl w3.heap.size (arrI L) rfl rfl 52 _ (heap_alloc_new w3 _) (by rw [sL]; exact info_num) (by rw [sL]; rfl) (arrI_one L) ?_)
    have hnew := setRow_here (heap_alloc_new w3 (.cells #[.int .i64 0, .int .i64 0, .int .i64 0, .int .i64 0, .int .i64 0, .int .i64 0, .int .i64 0, .int .i64 0, .int .i64 0, .int .i64 0, .int .i64 0, .int .i64 0, .int .i64 0, .int .i64 0, .int .i64 0, .int .i64 0] 52)) (arrI L)
    have hKn := ((hKn.alloc (.cells #[.int .i64 0, .int .i64 0, .int .i64 0, .int .i64 0, .int .i64 0, .int .i64 0, .int .i64 0, .int .i64 0, .int .i64 0, .int .i64 0, .int .i64 0, .int .i64 0, .int .i64 0, .int .i64 0, .int .i64 0, .int .i64 0] 52)).store (g := w3.heap.size) (by omega) (by simp; omega) (arrI L)).add hnew
    generalize (w3.alloc (.cells #[.int .i64 0, .int .i64 0, .int .i64 0, .int .i64 0, .int .i64 0, .int .i64 0, .int .i64 0, .int .i64 0, .int .i64 0, .int .i64 0, .int .i64 0, .int .i64 0, .int .i64 0, .int .i64 0, .int .i64 0, .int .i64 0] 52)).setRow w3.heap.size (arrI L) = w4 at *
    generalize w3.heap.size = g8 at *
    have HXL : Hid (FeA #[.int .u64 x0, .int .u64 x1, .int .u64 x2, .int .u64 x3, .int .u64 x4] (valB l0) ∧ NumP L (valB l0)) := ⟨hX, hL⟩
    clear hnew hX hL hs3 sL
    go_loopw [9] (fun i wr => ∃ (k : Nat) (A : Array Value) (M : List Int) (V : Int), k ≤ n1 ∧ k ≤ 40 ∧ i = .int .i64 k ∧ Hid (FeA A V ∧ NumP M V) ∧ Kn w [(g8, .cells (arrI M) 52 (0, 0)), (g5, .cells A 46 (0, 0)), (g5 + 1, .cells #[.int .u64 0, .int .u64 0, .int .u64 0, .int .u64 0, .int .u64 0] 46 (0, 0))] wr) (fun i _ => 40 - (intOf i).toNat)
    case atStart => exact ⟨0, _, L, _, by omega, by omega, rfl, HXL, hKn⟩
    case round =>
      clear hKn HXL
      obtain ⟨k, A, M, V, hkn, hk40, rfl, hAM, hKn⟩ := hrel
      have hDl := Lib.hid HD.out.1
      by_cases hlt : k < n1 ∧ k < 40
      · obtain ⟨hlt1, hlt2⟩ := hlt
        have hd1 : decide (k < n1) = true := by simpa using hlt1
        have hd2 : decide ((k : Int) < 40) = true := by simp; omega
        obtain ⟨Bl, ol, rfl, hcl⟩ := HD.out.2.1 (by omega)
        have hkD : k < D.length := by rw [hDl.out]; exact hlt1
        obtain ⟨k0, k1, k2⟩ := hcl k hkD
        obtain ⟨m0, m1, m2, m3, m4⟩ := HD.out.2.2 D[k] (List.getElem_mem hkD)
        have hbw := hKn.2
        have c0 := (hbw.cell (p := ⟨Bl, ol + k * 3, none⟩) (World.block_lt_of_cell? w _ k0)).trans k0
        have c1 := (hbw.cell (p := ⟨Bl, ol + k * 3 + 1, none⟩) (World.block_lt_of_cell? w _ k1)).trans k1
        have c2 := (hbw.cell (p := ⟨Bl, ol + k * 3 + 1 + 1, none⟩) (World.block_lt_of_cell? w _ k2)).trans k2
        generalize D[k].kind = dk at *
        generalize D[k].p = dp at *
        generalize D[k].n = dn at *
        generalize D[k].c = dc at *
        generalize D[k].b = db at *
        generalize D[k].num = du at *
        have HM0 := Lib.hid m0
        have HDL := Lib.hid hkD
        clear k0 k1 k2 hcl m0 hkD hbw hDl
        go_wp2_with fail
        have l8 := hKn.lt (p := (g8, .cells (arrI M) 52 (0, 0))) (by simp)
        have l5 := hKn.lt (p := (g5 + 1, .cells #[.int .u64 0, .int .u64 0, .int .u64 0, .int .u64 0, .int .u64 0] 46 (0, 0))) (by simp)
        have lw := hKn.size
        have hKn := (hKn.alloc (.cells #[.int .i64 dk, .slice dp dn dc, .int .i64 du] 55)).add (heap_alloc_new wr _)
        refine (gSmall_fe du _ m4.1 m4.2).mono ?_
        rintro e w5 ⟨X, rfl, hX, hb5⟩
        have hs5 := hb5.size
        rw [size_at] at hs5
        have hKn := hKn.keep hb5
        generalize wr.heap.size = g10 at *
        have sX := hX.size
        have oX := hX.one
        have cOp := hKn.at_ (g := g10) (ob := .cells #[.int .i64 dk, .slice dp dn dc, .int .i64 du] 55 (0, 0)) (by simp)
        have n0 := (cell_of_row w5 g10 0 _ _ _ cOp).trans rfl
        have hnew := setRow_here (heap_alloc_new w5 (.cells #[.int .u64 0, .int .u64 0, .int .u64 0, .int .u64 0, .int .u64 0] 46)) X
        have hKn := ((hKn.alloc (.cells #[.int .u64 0, .int .u64 0, .int .u64 0, .int .u64 0, .int .u64 0] 46)).store (g := w5.heap.size) (by omega) (by simp; omega) X).add hnew
        have cOp := hKn.at_ (g := g10) (ob := .cells #[.int .i64 dk, .slice dp dn dc, .int .i64 du] 55 (0, 0)) (by simp)
        have HX := Lib.hid hX
        have HSX := Lib.hid sX
        have HOX := Lib.hid oX
        have hs6 : ((w5.alloc (.cells #[.int .u64 0, .int .u64 0, .int .u64 0, .int .u64 0, .int .u64 0] 46)).setRow w5.heap.size X).heap.size = w5.heap.size + 1 := by rw [setRow_size, size_at]
        obtain ⟨w6, hw6⟩ : ∃ w6, w6 = (w5.alloc (.cells #[.int .u64 0, .int .u64 0, .int .u64 0, .int .u64 0, .int .u64 0] 46)).setRow w5.heap.size X := ⟨_, rfl⟩
        rw [← hw6] at hKn cOp hs6
        have n2 := (cell_of_row w6 g10 2 _ _ _ cOp).trans rfl
        have HW6 := Lib.hid hw6
        clear hnew hX sX oX hb5 n0 hw6
        go_wp2_with (refine wpList_store_row rfl 46 (.tmp 11) (.tmp 54) rfl w5.heap.size X rfl rfl 46 _ (heap_alloc_new w5 _) (by rw [HSX.out]; exact infoNu) (by rw [HSX.out]; rfl) HOX.out ?_; rw [← HW6.out])
        clear HW6
        have hl11 : g10 < w5.heap.size := by omega
        generalize w5.heap.size = g11 at *
        refine (rsmall_any du _ m4.1 m4.2).mono ?_
        rintro e w7 ⟨Y, rfl, hY, hb7⟩
        rw [show numV Y = .agg (arrI Y) from rfl]
        have hs7 := hb7.size
        have hKn := hKn.keep hb7
        have sY : (arrI Y).size = 16 := by rw [arrI_size, hY.1]
        have hnew := setRow_here (heap_alloc_new w7 (.cells #[.int .i64 0, .int .i64 0, .int .i64 0, .int .i64 0, .int .i64 0, .int .i64 0, .int .i64 0, .int .i64 0, .int .i64 0, .int .i64 0, .int .i64 0, .int .i64 0, .int .i64 0, .int .i64 0, .int .i64 0, .int .i64 0] 52)) (arrI Y)
        have hKn := ((hKn.alloc (.cells #[.int .i64 0, .int .i64 0, .int .i64 0, .int .i64 0, .int .i64 0, .int .i64 0, .int .i64 0, .int .i64 0, .int .i64 0, .int .i64 0, .int .i64 0, .int .i64 0, .int .i64 0, .int .i64 0, .int .i64 0, .int .i64 0] 52)).store (g := w7.heap.size) (by omega) (by simp; omega) (arrI Y)).add hnew
        have hs8 : ((w7.alloc (.cells #[.int .i64 0, .int .i64 0, .int .i64 0, .int .i64 0, .int .i64 0, .int .i64 0, .int .i64 0, .int .i64 0, .int .i64 0, .int .i64 0, .int .i64 0, .int .i64 0, .int .i64 0, .int .i64 0, .int .i64 0, .int .i64 0] 52)).setRow w7.heap.size (arrI Y)).heap.size = w7.heap.size + 1 := by rw [setRow_size, size_at]
        obtain ⟨w8, hw8⟩ : ∃ w8, w8 = (w7.alloc (.cells #[.int .i64 0, .int .i64 0, .int .i64 0, .int .i64 0, .int .i64 0, .int .i64 0, .int .i64 0, .int .i64 0, .int .i64 0, .int .i64 0, .int .i64 0, .int .i64 0, .int .i64 0, .int .i64 0, .int .i64 0, .int .i64 0] 52)).setRow w7.heap.size (arrI Y) := ⟨_, rfl⟩
        rw [← hw8] at hKn hs8
        have cOp := hKn.at_ (g := g10) (ob := .cells #[.int .i64 dk, .slice dp dn dc, .int .i64 du] 55 (0, 0)) (by simp)
        have n1 := (cell_of_row w8 g10 1 _ _ _ cOp).trans rfl
        have n0 := (cell_of_row w8 g10 0 _ _ _ cOp).trans rfl
        have HY := Lib.hid hY
        have HSY := Lib.hid sY
        have HW8 := Lib.hid hw8
        clear hnew hY sY hb7 hw8 cOp n2
        obtain ⟨AV, MV⟩ := hAM.out
        have HAV := Lib.hid AV
        have HMV := Lib.hid MV
        have HSA := Lib.hid AV.size
        have HOA := Lib.hid AV.one
        have sM : (arrI M).size = 16 := by rw [arrI_size, MV.1]
        have HSM := Lib.hid sM
        clear AV MV sM
        by_cases hb32 : dn = 32
        · subst hb32
          go_wp2_with (first | (refine wpList_store_row rfl 52 (.tmp 12) (.tmp 57) rfl w7.heap.size (arrI Y) rfl rfl 52 _ (heap_alloc_new w7 _) (by rw [HSY.out]; exact info_num) (by rw [HSY.out]; rfl) (arrI_one Y) ?_; rw [← HW8.out]) | fail)
          clear HW8
          have hl12 : g11 < w7.heap.size := by omega
          generalize w7.heap.size = g12 at *
          refine (gFrom_yes dp dc db _ (by omega) (HM0.out.keep hKn.2)).mono ?_
          rintro e wA ⟨X2, rfl, hX2, hbA⟩
          have hKn := hKn.keep hbA
          have hsA := hbA.size
          have h11 := hKn.at_ (g := g11) (ob := .cells X 46 (0, 0)) (by simp)
          have sX2 := hX2.size
          have HSX2 := Lib.hid sX2
          have HOX2 := Lib.hid hX2.one
          have HX2 := Lib.hid hX2
          have hKs := ((hKn.sub (bm := [(g12, .cells (arrI Y) 52 (0, 0)), (g10, .cells #[.int .i64 dk, .slice dp 32 dc, .int .i64 du] 55 (0, 0)), (g8, .cells (arrI M) 52 (0, 0)), (g5, .cells A 46 (0, 0)), (g5 + 1, .cells #[.int .u64 0, .int .u64 0, .int .u64 0, .int .u64 0, .int .u64 0] 46 (0, 0))]) (by simp)).store (g := g11) (by omega) (by simp; omega) X2).add (setRow_here h11 X2)
          have hsB : (wA.setRow g11 X2).heap.size = wA.heap.size := setRow_size _ _ _
          obtain ⟨wB, hwB⟩ : ∃ wB, wB = wA.setRow g11 X2 := ⟨_, rfl⟩
          rw [← hwB] at hKs hsB
          have HWB := Lib.hid hwB
          have n1 := (cell_of_row wB g10 1 _ _ _ (hKs.at_ (g := g10) (ob := .cells #[.int .i64 dk, .slice dp 32 dc, .int .i64 du] 55 (0, 0)) (by simp))).trans rfl
          clear hX2 hbA hKn sX2 hwB
          go_wp2_with (first | (refine wpList_store_row rfl 46 (.tmp 11) (.tmp 66) rfl g11 X2 rfl rfl 46 _ h11 (by rw [HSX2.out]; exact infoNu) (by rw [HSX2.out, HSX.out]) HOX2.out ?_; rw [← HWB.out]) | fail)
          clear h11 HWB
          refine (rfrom_num dp dc db _ (HM0.out.keep hKs.2)).mono ?_
          rintro e wC ⟨Y2, rfl, hY2, hbC⟩
          rw [show numV Y2 = .agg (arrI Y2) from rfl]
          have hKn := hKs.keep hbC
          have sY2 : (arrI Y2).size = 16 := by rw [arrI_size, hY2.1]
          have HSY2 := Lib.hid sY2
          have HY2 := Lib.hid hY2
          have h12 := hKn.at_ (g := g12) (ob := .cells (arrI Y) 52 (0, 0)) (by simp)
          have hKs := ((hKn.sub (bm := [(g11, .cells X2 46 (0, 0)), (g10, .cells #[.int .i64 dk, .slice dp 32 dc, .int .i64 du] 55 (0, 0)), (g8, .cells (arrI M) 52 (0, 0)), (g5, .cells A 46 (0, 0)), (g5 + 1, .cells #[.int .u64 0, .int .u64 0, .int .u64 0, .int .u64 0, .int .u64 0] 46 (0, 0))]) (by simp)).store (g := g12) (by omega) (by simp; omega) (arrI Y2)).add (setRow_here h12 (arrI Y2))
          have hsD : (wC.setRow g12 (arrI Y2)).heap.size = wC.heap.size := setRow_size _ _ _
          have hsC := hbC.size
          obtain ⟨wD, hwD⟩ : ∃ wD, wD = wC.setRow g12 (arrI Y2) := ⟨_, rfl⟩
          rw [← hwD] at hKs hsD
          have HWD := Lib.hid hwD
          have hKn := hKs
          have cOp := hKn.at_ (g := g10) (ob := .cells #[.int .i64 dk, .slice dp 32 dc, .int .i64 du] 55 (0, 0)) (by simp)
          have n1 : True := trivial
          have n0 := (cell_of_row wD g10 0 _ _ _ cOp).trans rfl
          clear hY2 hbC hKs sY2 hwD cOp
          have hk4 : dk = 0 ∨ dk = 1 ∨ dk = 2 ∨ (dk ≠ 0 ∧ dk ≠ 1 ∧ dk ≠ 2) := by omega
          have cA := hKn.at_ (g := g5) (ob := .cells A 46 (0, 0)) (by simp)
          have cX := hKn.at_ (g := g11) (ob := .cells X2 46 (0, 0)) (by simp)
          rcases hk4 with rfl | rfl | rfl | hk
          · have hk0 : True := trivial
            go_wp2_with (first | (refine wpList_store_row rfl 52 (.tmp 12) (.tmp 70) rfl g12 (arrI Y2) rfl rfl 52 _ h12 (by rw [HSY2.out]; exact info_num) (by rw [HSY2.out, HSY.out]) (arrI_one Y2) ?_; rw [← HWD.out]; clear h12) | (refine wpList_load_row rfl 46 (.tmp 5) rfl g5 rfl _ A _ _ cA Try.underlying46 rfl (by rw [HSA.out]; exact infoNu) ?_) | (refine wpList_load_row rfl 46 (.tmp 11) rfl g11 rfl _ X2 _ _ cX Try.underlying46 rfl (by rw [HSX2.out]; exact infoNu) ?_) | fail)
            clear cA cX n0 n1
            refine (gPlus_fe A X2 V (valB db) _ HAV.out HX2.out).mono ?_
            rintro e w9 ⟨A2, rfl, hA2, hb9⟩
            have hKn := hKn.keep hb9
            have sA2 := Lib.hid hA2.size
            have oA2 := Lib.hid hA2.one
            have HA2 := Lib.hid hA2
            have hKs := ((hKn.sub (bm := [(g12, .cells (arrI Y2) 52 (0, 0)), (g11, .cells X2 46 (0, 0)), (g10, .cells #[.int .i64 0, .slice dp 32 dc, .int .i64 du] 55 (0, 0)), (g8, .cells (arrI M) 52 (0, 0)), (g5 + 1, .cells #[.int .u64 0, .int .u64 0, .int .u64 0, .int .u64 0, .int .u64 0] 46 (0, 0))]) (by simp)).store (g := g5) (by omega) (by simp; omega) A2).add (setRow_here (hKn.at_ (g := g5) (ob := .cells A 46 (0, 0)) (by simp)) A2)
            have h5 := hKn.at_ (g := g5) (ob := .cells A 46 (0, 0)) (by simp)
            have hM' := hKs.at_ (g := g8) (ob := .cells (arrI M) 52 (0, 0)) (by simp)
            have hY' := hKs.at_ (g := g12) (ob := .cells (arrI Y2) 52 (0, 0)) (by simp)
            clear hA2 hb9 hKn
            go_wp2_with (first | (refine wpList_store_row rfl 46 (.tmp 5) (.tmp 81) rfl g5 A2 rfl rfl 46 _ h5 (by rw [sA2.out]; exact infoNu) (by rw [sA2.out, HSA.out]) oA2.out ?_) | (refine wpList_load_row rfl 52 (.tmp 8) rfl g8 rfl _ (arrI M) _ _ hM' Try.underlying52 rfl (by rw [HSM.out]; exact info_num) ?_) | (refine wpList_load_row rfl 52 (.tmp 12) rfl g12 rfl _ (arrI Y2) _ _ hY' Try.underlying52 rfl (by rw [HSY2.out]; exact info_num) ?_) | fail)
            generalize w9.setRow g5 A2 = w10 at *
            clear h5
            rw [show Value.agg (arrI M) = numV M from rfl]
            rw [show Value.agg (arrI Y2) = numV Y2 from rfl]
            refine (rplus_num M Y2 V (valB db) _ HMV.out HY2.out).mono ?_
            rintro e w11 ⟨M2, rfl, hM2, hb11⟩
            rw [show numV M2 = .agg (arrI M2) from rfl]
            have hKn := hKs.keep hb11
            have sM2 : (arrI M2).size = 16 := by rw [arrI_size, hM2.1]
            have HSM2 := Lib.hid sM2
            have HM2 := Lib.hid hM2
            have hKs2 := ((hKn.sub (bm := [(g5, .cells A2 46 (0, 0)), (g12, .cells (arrI Y2) 52 (0, 0)), (g11, .cells X2 46 (0, 0)), (g10, .cells #[.int .i64 0, .slice dp 32 dc, .int .i64 du] 55 (0, 0)), (g5 + 1, .cells #[.int .u64 0, .int .u64 0, .int .u64 0, .int .u64 0, .int .u64 0] 46 (0, 0))]) (by simp)).store (g := g8) (by omega) (by simp; omega) (arrI M2)).add (setRow_here (hKn.at_ (g := g8) (ob := .cells (arrI M) 52 (0, 0)) (by simp)) (arrI M2))
            have h8 := hKn.at_ (g := g8) (ob := .cells (arrI M) 52 (0, 0)) (by simp)
            clear hM2 hb11 hKn hKs hM' hY' sM2
            go_wp2_with (refine wpList_store_row rfl 52 (.tmp 8) (.tmp 84) rfl g8 (arrI M2) rfl rfl 52 _ h8 (by rw [HSM2.out]; exact info_num) (by rw [HSM2.out, HSM.out]) (arrI_one M2) ?_)
            go_roundw
            case rel => exact ⟨k + 1, A2, M2, V + (valB db), by omega, by omega, by go_num, ⟨HA2.out, HM2.out⟩, hKs2.sub (by simp)⟩
            case measure => simp [intOf]; omega
          · have hk0 : True := trivial
            go_wp2_with (first | (refine wpList_store_row rfl 52 (.tmp 12) (.tmp 70) rfl g12 (arrI Y2) rfl rfl 52 _ h12 (by rw [HSY2.out]; exact info_num) (by rw [HSY2.out, HSY.out]) (arrI_one Y2) ?_; rw [← HWD.out]; clear h12) | (refine wpList_load_row rfl 46 (.tmp 5) rfl g5 rfl _ A _ _ cA Try.underlying46 rfl (by rw [HSA.out]; exact infoNu) ?_) | (refine wpList_load_row rfl 46 (.tmp 11) rfl g11 rfl _ X2 _ _ cX Try.underlying46 rfl (by rw [HSX2.out]; exact infoNu) ?_) | fail)
            clear cA cX n0 n1
            refine (gMinus_fe A X2 V (valB db) _ HAV.out HX2.out).mono ?_
            rintro e w9 ⟨A2, rfl, hA2, hb9⟩
            have hKn := hKn.keep hb9
            have sA2 := Lib.hid hA2.size
            have oA2 := Lib.hid hA2.one
            have HA2 := Lib.hid hA2
            have hKs := ((hKn.sub (bm := [(g12, .cells (arrI Y2) 52 (0, 0)), (g11, .cells X2 46 (0, 0)), (g10, .cells #[.int .i64 1, .slice dp 32 dc, .int .i64 du] 55 (0, 0)), (g8, .cells (arrI M) 52 (0, 0)), (g5 + 1, .cells #[.int .u64 0, .int .u64 0, .int .u64 0, .int .u64 0, .int .u64 0] 46 (0, 0))]) (by simp)).store (g := g5) (by omega) (by simp; omega) A2).add (setRow_here (hKn.at_ (g := g5) (ob := .cells A 46 (0, 0)) (by simp)) A2)
            have h5 := hKn.at_ (g := g5) (ob := .cells A 46 (0, 0)) (by simp)
            have hM' := hKs.at_ (g := g8) (ob := .cells (arrI M) 52 (0, 0)) (by simp)
            have hY' := hKs.at_ (g := g12) (ob := .cells (arrI Y2) 52 (0, 0)) (by simp)
            clear hA2 hb9 hKn
            go_wp2_with (first | (refine wpList_store_row rfl 46 (.tmp 5) (.tmp 89) rfl g5 A2 rfl rfl 46 _ h5 (by rw [sA2.out]; exact infoNu) (by rw [sA2.out, HSA.out]) oA2.out ?_) | (refine wpList_load_row rfl 52 (.tmp 8) rfl g8 rfl _ (arrI M) _ _ hM' Try.underlying52 rfl (by rw [HSM.out]; exact info_num) ?_) | (refine wpList_load_row rfl 52 (.tmp 12) rfl g12 rfl _ (arrI Y2) _ _ hY' Try.underlying52 rfl (by rw [HSY2.out]; exact info_num) ?_) | fail)
            generalize w9.setRow g5 A2 = w10 at *
            clear h5
            rw [show Value.agg (arrI M) = numV M from rfl]
            rw [show Value.agg (arrI Y2) = numV Y2 from rfl]
            refine (rminus_num M Y2 V (valB db) _ HMV.out HY2.out).mono ?_
            rintro e w11 ⟨M2, rfl, hM2, hb11⟩
            rw [show numV M2 = .agg (arrI M2) from rfl]
            have hKn := hKs.keep hb11
            have sM2 : (arrI M2).size = 16 := by rw [arrI_size, hM2.1]
            have HSM2 := Lib.hid sM2
            have HM2 := Lib.hid hM2
            have hKs2 := ((hKn.sub (bm := [(g5, .cells A2 46 (0, 0)), (g12, .cells (arrI Y2) 52 (0, 0)), (g11, .cells X2 46 (0, 0)), (g10, .cells #[.int .i64 1, .slice dp 32 dc, .int .i64 du] 55 (0, 0)), (g5 + 1, .cells #[.int .u64 0, .int .u64 0, .int .u64 0, .int .u64 0, .int .u64 0] 46 (0, 0))]) (by simp)).store (g := g8) (by omega) (by simp; omega) (arrI M2)).add (setRow_here (hKn.at_ (g := g8) (ob := .cells (arrI M) 52 (0, 0)) (by simp)) (arrI M2))
            have h8 := hKn.at_ (g := g8) (ob := .cells (arrI M) 52 (0, 0)) (by simp)
            clear hM2 hb11 hKn hKs hM' hY' sM2
            go_wp2_with (refine wpList_store_row rfl 52 (.tmp 8) (.tmp 92) rfl g8 (arrI M2) rfl rfl 52 _ h8 (by rw [HSM2.out]; exact info_num) (by rw [HSM2.out, HSM.out]) (arrI_one M2) ?_)
            go_roundw
            case rel => exact ⟨k + 1, A2, M2, V - (valB db), by omega, by omega, by go_num, ⟨HA2.out, HM2.out⟩, hKs2.sub (by simp)⟩
            case measure => simp [intOf]; omega
          · have hk0 : True := trivial
            go_wp2_with (first | (refine wpList_store_row rfl 52 (.tmp 12) (.tmp 70) rfl g12 (arrI Y2) rfl rfl 52 _ h12 (by rw [HSY2.out]; exact info_num) (by rw [HSY2.out, HSY.out]) (arrI_one Y2) ?_; rw [← HWD.out]; clear h12) | (refine wpList_load_row rfl 46 (.tmp 5) rfl g5 rfl _ A _ _ cA Try.underlying46 rfl (by rw [HSA.out]; exact infoNu) ?_) | (refine wpList_load_row rfl 46 (.tmp 11) rfl g11 rfl _ X2 _ _ cX Try.underlying46 rfl (by rw [HSX2.out]; exact infoNu) ?_) | fail)
            clear cA cX n0 n1
            refine (gTimes_fe A X2 V (valB db) _ HAV.out HX2.out).mono ?_
            rintro e w9 ⟨A2, rfl, hA2, hb9⟩
            have hKn := hKn.keep hb9
            have sA2 := Lib.hid hA2.size
            have oA2 := Lib.hid hA2.one
            have HA2 := Lib.hid hA2
            have hKs := ((hKn.sub (bm := [(g12, .cells (arrI Y2) 52 (0, 0)), (g11, .cells X2 46 (0, 0)), (g10, .cells #[.int .i64 2, .slice dp 32 dc, .int .i64 du] 55 (0, 0)), (g8, .cells (arrI M) 52 (0, 0)), (g5 + 1, .cells #[.int .u64 0, .int .u64 0, .int .u64 0, .int .u64 0, .int .u64 0] 46 (0, 0))]) (by simp)).store (g := g5) (by omega) (by simp; omega) A2).add (setRow_here (hKn.at_ (g := g5) (ob := .cells A 46 (0, 0)) (by simp)) A2)
            have h5 := hKn.at_ (g := g5) (ob := .cells A 46 (0, 0)) (by simp)
            have hM' := hKs.at_ (g := g8) (ob := .cells (arrI M) 52 (0, 0)) (by simp)
            have hY' := hKs.at_ (g := g12) (ob := .cells (arrI Y2) 52 (0, 0)) (by simp)
            clear hA2 hb9 hKn
            go_wp2_with (first | (refine wpList_store_row rfl 46 (.tmp 5) (.tmp 97) rfl g5 A2 rfl rfl 46 _ h5 (by rw [sA2.out]; exact infoNu) (by rw [sA2.out, HSA.out]) oA2.out ?_) | (refine wpList_load_row rfl 52 (.tmp 8) rfl g8 rfl _ (arrI M) _ _ hM' Try.underlying52 rfl (by rw [HSM.out]; exact info_num) ?_) | (refine wpList_load_row rfl 52 (.tmp 12) rfl g12 rfl _ (arrI Y2) _ _ hY' Try.underlying52 rfl (by rw [HSY2.out]; exact info_num) ?_) | fail)
            generalize w9.setRow g5 A2 = w10 at *
            clear h5
            rw [show Value.agg (arrI M) = numV M from rfl]
            rw [show Value.agg (arrI Y2) = numV Y2 from rfl]
            refine (rtimes_num M Y2 V (valB db) _ HMV.out HY2.out).mono ?_
            rintro e w11 ⟨M2, rfl, hM2, hb11⟩
            rw [show numV M2 = .agg (arrI M2) from rfl]
            have hKn := hKs.keep hb11
            have sM2 : (arrI M2).size = 16 := by rw [arrI_size, hM2.1]
            have HSM2 := Lib.hid sM2
            have HM2 := Lib.hid hM2
            have hKs2 := ((hKn.sub (bm := [(g5, .cells A2 46 (0, 0)), (g12, .cells (arrI Y2) 52 (0, 0)), (g11, .cells X2 46 (0, 0)), (g10, .cells #[.int .i64 2, .slice dp 32 dc, .int .i64 du] 55 (0, 0)), (g5 + 1, .cells #[.int .u64 0, .int .u64 0, .int .u64 0, .int .u64 0, .int .u64 0] 46 (0, 0))]) (by simp)).store (g := g8) (by omega) (by simp; omega) (arrI M2)).add (setRow_here (hKn.at_ (g := g8) (ob := .cells (arrI M) 52 (0, 0)) (by simp)) (arrI M2))
            have h8 := hKn.at_ (g := g8) (ob := .cells (arrI M) 52 (0, 0)) (by simp)
            clear hM2 hb11 hKn hKs hM' hY' sM2
            go_wp2_with (refine wpList_store_row rfl 52 (.tmp 8) (.tmp 100) rfl g8 (arrI M2) rfl rfl 52 _ h8 (by rw [HSM2.out]; exact info_num) (by rw [HSM2.out, HSM.out]) (arrI_one M2) ?_)
            go_roundw
            case rel => exact ⟨k + 1, A2, M2, V * (valB db), by omega, by omega, by go_num, ⟨HA2.out, HM2.out⟩, hKs2.sub (by simp)⟩
            case measure => simp [intOf]; omega
          · have hk0 : (dk == 0) = false := by simpa using hk.1
            have hk1 : (dk == 1) = false := by simpa using hk.2.1
            have hk2 : (dk == 2) = false := by simpa using hk.2.2
            clear hk
            go_wp2_with (first | (refine wpList_store_row rfl 52 (.tmp 12) (.tmp 70) rfl g12 (arrI Y2) rfl rfl 52 _ h12 (by rw [HSY2.out]; exact info_num) (by rw [HSY2.out, HSY.out]) (arrI_one Y2) ?_; rw [← HWD.out]; clear h12) | (refine wpList_load_row rfl 46 (.tmp 5) rfl g5 rfl _ A _ _ cA Try.underlying46 rfl (by rw [HSA.out]; exact infoNu) ?_) | fail)
            clear cA cX n0 n1
            refine (gInverse_fe A V _ HAV.out).mono ?_
            rintro e w9 ⟨A2, rfl, hA2, hb9⟩
            have hKn := hKn.keep hb9
            have sA2 := Lib.hid hA2.size
            have oA2 := Lib.hid hA2.one
            have HA2 := Lib.hid hA2
            have hKs := ((hKn.sub (bm := [(g12, .cells (arrI Y2) 52 (0, 0)), (g11, .cells X2 46 (0, 0)), (g10, .cells #[.int .i64 dk, .slice dp 32 dc, .int .i64 du] 55 (0, 0)), (g8, .cells (arrI M) 52 (0, 0)), (g5 + 1, .cells #[.int .u64 0, .int .u64 0, .int .u64 0, .int .u64 0, .int .u64 0] 46 (0, 0))]) (by simp)).store (g := g5) (by omega) (by simp; omega) A2).add (setRow_here (hKn.at_ (g := g5) (ob := .cells A 46 (0, 0)) (by simp)) A2)
            have h5 := hKn.at_ (g := g5) (ob := .cells A 46 (0, 0)) (by simp)
            have hM' := hKs.at_ (g := g8) (ob := .cells (arrI M) 52 (0, 0)) (by simp)
            have hY' := hKs.at_ (g := g12) (ob := .cells (arrI Y2) 52 (0, 0)) (by simp)
            clear hA2 hb9 hKn
            go_wp2_with (first | (refine wpList_store_row rfl 46 (.tmp 5) (.tmp 74) rfl g5 A2 rfl rfl 46 _ h5 (by rw [sA2.out]; exact infoNu) (by rw [sA2.out, HSA.out]) oA2.out ?_) | (refine wpList_load_row rfl 52 (.tmp 8) rfl g8 rfl _ (arrI M) _ _ hM' Try.underlying52 rfl (by rw [HSM.out]; exact info_num) ?_) | (refine wpList_load_row rfl 52 (.tmp 12) rfl g12 rfl _ (arrI Y2) _ _ hY' Try.underlying52 rfl (by rw [HSY2.out]; exact info_num) ?_) | fail)
            generalize w9.setRow g5 A2 = w10 at *
            clear h5
            rw [show Value.agg (arrI M) = numV M from rfl]
            refine (rinverse_num M V _ HMV.out).mono ?_
            rintro e w11 ⟨M2, rfl, hM2, hb11⟩
            rw [show numV M2 = .agg (arrI M2) from rfl]
            have hKn := hKs.keep hb11
            have sM2 : (arrI M2).size = 16 := by rw [arrI_size, hM2.1]
            have HSM2 := Lib.hid sM2
            have HM2 := Lib.hid hM2
            have hKs2 := ((hKn.sub (bm := [(g5, .cells A2 46 (0, 0)), (g12, .cells (arrI Y2) 52 (0, 0)), (g11, .cells X2 46 (0, 0)), (g10, .cells #[.int .i64 dk, .slice dp 32 dc, .int .i64 du] 55 (0, 0)), (g5 + 1, .cells #[.int .u64 0, .int .u64 0, .int .u64 0, .int .u64 0, .int .u64 0] 46 (0, 0))]) (by simp)).store (g := g8) (by omega) (by simp; omega) (arrI M2)).add (setRow_here (hKn.at_ (g := g8) (ob := .cells (arrI M) 52 (0, 0)) (by simp)) (arrI M2))
            have h8 := hKn.at_ (g := g8) (ob := .cells (arrI M) 52 (0, 0)) (by simp)
            clear hM2 hb11 hKn hKs hM' hY' sM2
            go_wp2_with (refine wpList_store_row rfl 52 (.tmp 8) (.tmp 76) rfl g8 (arrI M2) rfl rfl 52 _ h8 (by rw [HSM2.out]; exact info_num) (by rw [HSM2.out, HSM.out]) (arrI_one M2) ?_)
            go_roundw
            case rel => exact ⟨k + 1, A2, M2, pinv V, by omega, by omega, by go_num, ⟨HA2.out, HM2.out⟩, hKs2.sub (by simp)⟩
            case measure => simp [intOf]; omega
        · have hb32d : ((dn : Int) == 32) = false := by rw [beq_eq_false_iff_ne]; omega
          have hk4 : dk = 0 ∨ dk = 1 ∨ dk = 2 ∨ (dk ≠ 0 ∧ dk ≠ 1 ∧ dk ≠ 2) := by omega
          have cA := hKn.at_ (g := g5) (ob := .cells A 46 (0, 0)) (by simp)
          have cX := hKn.at_ (g := g11) (ob := .cells X 46 (0, 0)) (by simp)
          rcases hk4 with rfl | rfl | rfl | hk
          · have hk0 : True := trivial
            go_wp2_with (first | (refine wpList_store_row rfl 52 (.tmp 12) (.tmp 57) rfl w7.heap.size (arrI Y) rfl rfl 52 _ (heap_alloc_new w7 _) (by rw [HSY.out]; exact info_num) (by rw [HSY.out]; rfl) (arrI_one Y) ?_; rw [← HW8.out]) | (refine wpList_load_row rfl 46 (.tmp 5) rfl g5 rfl _ A _ _ cA Try.underlying46 rfl (by rw [HSA.out]; exact infoNu) ?_) | (refine wpList_load_row rfl 46 (.tmp 11) rfl g11 rfl _ X _ _ cX Try.underlying46 rfl (by rw [HSX.out]; exact infoNu) ?_) | fail)
            clear cA cX n0 n1
            clear HW8
            generalize w7.heap.size = g12 at *
            refine (gPlus_fe A X V du _ HAV.out HX.out).mono ?_
            rintro e w9 ⟨A2, rfl, hA2, hb9⟩
            have hKn := hKn.keep hb9
            have sA2 := Lib.hid hA2.size
            have oA2 := Lib.hid hA2.one
            have HA2 := Lib.hid hA2
            have hKs := ((hKn.sub (bm := [(g12, .cells (arrI Y) 52 (0, 0)), (g11, .cells X 46 (0, 0)), (g10, .cells #[.int .i64 0, .slice dp dn dc, .int .i64 du] 55 (0, 0)), (g8, .cells (arrI M) 52 (0, 0)), (g5 + 1, .cells #[.int .u64 0, .int .u64 0, .int .u64 0, .int .u64 0, .int .u64 0] 46 (0, 0))]) (by simp)).store (g := g5) (by omega) (by simp; omega) A2).add (setRow_here (hKn.at_ (g := g5) (ob := .cells A 46 (0, 0)) (by simp)) A2)
            have h5 := hKn.at_ (g := g5) (ob := .cells A 46 (0, 0)) (by simp)
            have hM' := hKs.at_ (g := g8) (ob := .cells (arrI M) 52 (0, 0)) (by simp)
            have hY' := hKs.at_ (g := g12) (ob := .cells (arrI Y) 52 (0, 0)) (by simp)
            clear hA2 hb9 hKn
            go_wp2_with (first | (refine wpList_store_row rfl 46 (.tmp 5) (.tmp 81) rfl g5 A2 rfl rfl 46 _ h5 (by rw [sA2.out]; exact infoNu) (by rw [sA2.out, HSA.out]) oA2.out ?_) | (refine wpList_load_row rfl 52 (.tmp 8) rfl g8 rfl _ (arrI M) _ _ hM' Try.underlying52 rfl (by rw [HSM.out]; exact info_num) ?_) | (refine wpList_load_row rfl 52 (.tmp 12) rfl g12 rfl _ (arrI Y) _ _ hY' Try.underlying52 rfl (by rw [HSY.out]; exact info_num) ?_) | fail)
            generalize w9.setRow g5 A2 = w10 at *
            clear h5
            rw [show Value.agg (arrI M) = numV M from rfl]
            rw [show Value.agg (arrI Y) = numV Y from rfl]
            refine (rplus_num M Y V du _ HMV.out HY.out).mono ?_
            rintro e w11 ⟨M2, rfl, hM2, hb11⟩
            rw [show numV M2 = .agg (arrI M2) from rfl]
            have hKn := hKs.keep hb11
            have sM2 : (arrI M2).size = 16 := by rw [arrI_size, hM2.1]
            have HSM2 := Lib.hid sM2
            have HM2 := Lib.hid hM2
            have hKs2 := ((hKn.sub (bm := [(g5, .cells A2 46 (0, 0)), (g12, .cells (arrI Y) 52 (0, 0)), (g11, .cells X 46 (0, 0)), (g10, .cells #[.int .i64 0, .slice dp dn dc, .int .i64 du] 55 (0, 0)), (g5 + 1, .cells #[.int .u64 0, .int .u64 0, .int .u64 0, .int .u64 0, .int .u64 0] 46 (0, 0))]) (by simp)).store (g := g8) (by omega) (by simp; omega) (arrI M2)).add (setRow_here (hKn.at_ (g := g8) (ob := .cells (arrI M) 52 (0, 0)) (by simp)) (arrI M2))
            have h8 := hKn.at_ (g := g8) (ob := .cells (arrI M) 52 (0, 0)) (by simp)
            clear hM2 hb11 hKn hKs hM' hY' sM2
            go_wp2_with (refine wpList_store_row rfl 52 (.tmp 8) (.tmp 84) rfl g8 (arrI M2) rfl rfl 52 _ h8 (by rw [HSM2.out]; exact info_num) (by rw [HSM2.out, HSM.out]) (arrI_one M2) ?_)
            go_roundw
            case rel => exact ⟨k + 1, A2, M2, V + du, by omega, by omega, by go_num, ⟨HA2.out, HM2.out⟩, hKs2.sub (by simp)⟩
            case measure => simp [intOf]; omega
          · have hk0 : True := trivial
            go_wp2_with (first | (refine wpList_store_row rfl 52 (.tmp 12) (.tmp 57) rfl w7.heap.size (arrI Y) rfl rfl 52 _ (heap_alloc_new w7 _) (by rw [HSY.out]; exact info_num) (by rw [HSY.out]; rfl) (arrI_one Y) ?_; rw [← HW8.out]) | (refine wpList_load_row rfl 46 (.tmp 5) rfl g5 rfl _ A _ _ cA Try.underlying46 rfl (by rw [HSA.out]; exact infoNu) ?_) | (refine wpList_load_row rfl 46 (.tmp 11) rfl g11 rfl _ X _ _ cX Try.underlying46 rfl (by rw [HSX.out]; exact infoNu) ?_) | fail)
            clear cA cX n0 n1
            clear HW8
            generalize w7.heap.size = g12 at *
            refine (gMinus_fe A X V du _ HAV.out HX.out).mono ?_
            rintro e w9 ⟨A2, rfl, hA2, hb9⟩
            have hKn := hKn.keep hb9
            have sA2 := Lib.hid hA2.size
            have oA2 := Lib.hid hA2.one
            have HA2 := Lib.hid hA2
            have hKs := ((hKn.sub (bm := [(g12, .cells (arrI Y) 52 (0, 0)), (g11, .cells X 46 (0, 0)), (g10, .cells #[.int .i64 1, .slice dp dn dc, .int .i64 du] 55 (0, 0)), (g8, .cells (arrI M) 52 (0, 0)), (g5 + 1, .cells #[.int .u64 0, .int .u64 0, .int .u64 0, .int .u64 0, .int .u64 0] 46 (0, 0))]) (by simp)).store (g := g5) (by omega) (by simp; omega) A2).add (setRow_here (hKn.at_ (g := g5) (ob := .cells A 46 (0, 0)) (by simp)) A2)
            have h5 := hKn.at_ (g := g5) (ob := .cells A 46 (0, 0)) (by simp)
            have hM' := hKs.at_ (g := g8) (ob := .cells (arrI M) 52 (0, 0)) (by simp)
            have hY' := hKs.at_ (g := g12) (ob := .cells (arrI Y) 52 (0, 0)) (by simp)
            clear hA2 hb9 hKn
            go_wp2_with (first | (refine wpList_store_row rfl 46 (.tmp 5) (.tmp 89) rfl g5 A2 rfl rfl 46 _ h5 (by rw [sA2.out]; exact infoNu) (by rw [sA2.out, HSA.out]) oA2.out ?_) | (refine wpList_load_row rfl 52 (.tmp 8) rfl g8 rfl _ (arrI M) _ _ hM' Try.underlying52 rfl (by rw [HSM.out]; exact info_num) ?_) | (refine wpList_load_row rfl 52 (.tmp 12) rfl g12 rfl _ (arrI Y) _ _ hY' Try.underlying52 rfl (by rw [HSY.out]; exact info_num) ?_) | fail)
            generalize w9.setRow g5 A2 = w10 at *
            clear h5
            rw [show Value.agg (arrI M) = numV M from rfl]
            rw [show Value.agg (arrI Y) = numV Y from rfl]
            refine (rminus_num M Y V du _ HMV.out HY.out).mono ?_
            rintro e w11 ⟨M2, rfl, hM2, hb11⟩
            rw [show numV M2 = .agg (arrI M2) from rfl]
            have hKn := hKs.keep hb11
            have sM2 : (arrI M2).size = 16 := by rw [arrI_size, hM2.1]
            have HSM2 := Lib.hid sM2
            have HM2 := Lib.hid hM2
            have hKs2 := ((hKn.sub (bm := [(g5, .cells A2 46 (0, 0)), (g12, .cells (arrI Y) 52 (0, 0)), (g11, .cells X 46 (0, 0)), (g10, .cells #[.int .i64 1, .slice dp dn dc, .int .i64 du] 55 (0, 0)), (g5 + 1, .cells #[.int .u64 0, .int .u64 0, .int .u64 0, .int .u64 0, .int .u64 0] 46 (0, 0))]) (by simp)).store (g := g8) (by omega) (by simp; omega) (arrI M2)).add (setRow_here (hKn.at_ (g := g8) (ob := .cells (arrI M) 52 (0, 0)) (by simp)) (arrI M2))
            have h8 := hKn.at_ (g := g8) (ob := .cells (arrI M) 52 (0, 0)) (by simp)
            clear hM2 hb11 hKn hKs hM' hY' sM2
            go_wp2_with (refine wpList_store_row rfl 52 (.tmp 8) (.tmp 92) rfl g8 (arrI M2) rfl rfl 52 _ h8 (by rw [HSM2.out]; exact info_num) (by rw [HSM2.out, HSM.out]) (arrI_one M2) ?_)
            go_roundw
            case rel => exact ⟨k + 1, A2, M2, V - du, by omega, by omega, by go_num, ⟨HA2.out, HM2.out⟩, hKs2.sub (by simp)⟩
            case measure => simp [intOf]; omega
          · have hk0 : True := trivial
            go_wp2_with (first | (refine wpList_store_row rfl 52 (.tmp 12) (.tmp 57) rfl w7.heap.size (arrI Y) rfl rfl 52 _ (heap_alloc_new w7 _) (by rw [HSY.out]; exact info_num) (by rw [HSY.out]; rfl) (arrI_one Y) ?_; rw [← HW8.out]) | (refine wpList_load_row rfl 46 (.tmp 5) rfl g5 rfl _ A _ _ cA Try.underlying46 rfl (by rw [HSA.out]; exact infoNu) ?_) | (refine wpList_load_row rfl 46 (.tmp 11) rfl g11 rfl _ X _ _ cX Try.underlying46 rfl (by rw [HSX.out]; exact infoNu) ?_) | fail)
            clear cA cX n0 n1
            clear HW8
            generalize w7.heap.size = g12 at *
            refine (gTimes_fe A X V du _ HAV.out HX.out).mono ?_
            rintro e w9 ⟨A2, rfl, hA2, hb9⟩
            have hKn := hKn.keep hb9
            have sA2 := Lib.hid hA2.size
            have oA2 := Lib.hid hA2.one
            have HA2 := Lib.hid hA2
            have hKs := ((hKn.sub (bm := [(g12, .cells (arrI Y) 52 (0, 0)), (g11, .cells X 46 (0, 0)), (g10, .cells #[.int .i64 2, .slice dp dn dc, .int .i64 du] 55 (0, 0)), (g8, .cells (arrI M) 52 (0, 0)), (g5 + 1, .cells #[.int .u64 0, .int .u64 0, .int .u64 0, .int .u64 0, .int .u64 0] 46 (0, 0))]) (by simp)).store (g := g5) (by omega) (by simp; omega) A2).add (setRow_here (hKn.at_ (g := g5) (ob := .cells A 46 (0, 0)) (by simp)) A2)
            have h5 := hKn.at_ (g := g5) (ob := .cells A 46 (0, 0)) (by simp)
            have hM' := hKs.at_ (g := g8) (ob := .cells (arrI M) 52 (0, 0)) (by simp)
            have hY' := hKs.at_ (g := g12) (ob := .cells (arrI Y) 52 (0, 0)) (by simp)
            clear hA2 hb9 hKn
            go_wp2_with (first | (refine wpList_store_row rfl 46 (.tmp 5) (.tmp 97) rfl g5 A2 rfl rfl 46 _ h5 (by rw [sA2.out]; exact infoNu) (by rw [sA2.out, HSA.out]) oA2.out ?_) | (refine wpList_load_row rfl 52 (.tmp 8) rfl g8 rfl _ (arrI M) _ _ hM' Try.underlying52 rfl (by rw [HSM.out]; exact info_num) ?_) | (refine wpList_load_row rfl 52 (.tmp 12) rfl g12 rfl _ (arrI Y) _ _ hY' Try.underlying52 rfl (by rw [HSY.out]; exact info_num) ?_) | fail)
            generalize w9.setRow g5 A2 = w10 at *
            clear h5
            rw [show Value.agg (arrI M) = numV M from rfl]
            rw [show Value.agg (arrI Y) = numV Y from rfl]
            refine (rtimes_num M Y V du _ HMV.out HY.out).mono ?_
            rintro e w11 ⟨M2, rfl, hM2, hb11⟩
            rw [show numV M2 = .agg (arrI M2) from rfl]
            have hKn := hKs.keep hb11
            have sM2 : (arrI M2).size = 16 := by rw [arrI_size, hM2.1]
            have HSM2 := Lib.hid sM2
            have HM2 := Lib.hid hM2
            have hKs2 := ((hKn.sub (bm := [(g5, .cells A2 46 (0, 0)), (g12, .cells (arrI Y) 52 (0, 0)), (g11, .cells X 46 (0, 0)), (g10, .cells #[.int .i64 2, .slice dp dn dc, .int .i64 du] 55 (0, 0)), (g5 + 1, .cells #[.int .u64 0, .int .u64 0, .int .u64 0, .int .u64 0, .int .u64 0] 46 (0, 0))]) (by simp)).store (g := g8) (by omega) (by simp; omega) (arrI M2)).add (setRow_here (hKn.at_ (g := g8) (ob := .cells (arrI M) 52 (0, 0)) (by simp)) (arrI M2))
            have h8 := hKn.at_ (g := g8) (ob := .cells (arrI M) 52 (0, 0)) (by simp)
            clear hM2 hb11 hKn hKs hM' hY' sM2
            go_wp2_with (refine wpList_store_row rfl 52 (.tmp 8) (.tmp 100) rfl g8 (arrI M2) rfl rfl 52 _ h8 (by rw [HSM2.out]; exact info_num) (by rw [HSM2.out, HSM.out]) (arrI_one M2) ?_)
            go_roundw
            case rel => exact ⟨k + 1, A2, M2, V * du, by omega, by omega, by go_num, ⟨HA2.out, HM2.out⟩, hKs2.sub (by simp)⟩
            case measure => simp [intOf]; omega
          · have hk0 : (dk == 0) = false := by simpa using hk.1
            have hk1 : (dk == 1) = false := by simpa using hk.2.1
            have hk2 : (dk == 2) = false := by simpa using hk.2.2
            clear hk
            go_wp2_with (first | (refine wpList_store_row rfl 52 (.tmp 12) (.tmp 57) rfl w7.heap.size (arrI Y) rfl rfl 52 _ (heap_alloc_new w7 _) (by rw [HSY.out]; exact info_num) (by rw [HSY.out]; rfl) (arrI_one Y) ?_; rw [← HW8.out]) | (refine wpList_load_row rfl 46 (.tmp 5) rfl g5 rfl _ A _ _ cA Try.underlying46 rfl (by rw [HSA.out]; exact infoNu) ?_) | fail)
            clear cA cX n0 n1
            clear HW8
            generalize w7.heap.size = g12 at *
            refine (gInverse_fe A V _ HAV.out).mono ?_
            rintro e w9 ⟨A2, rfl, hA2, hb9⟩
            have hKn := hKn.keep hb9
            have sA2 := Lib.hid hA2.size
            have oA2 := Lib.hid hA2.one
            have HA2 := Lib.hid hA2
            have hKs := ((hKn.sub (bm := [(g12, .cells (arrI Y) 52 (0, 0)), (g11, .cells X 46 (0, 0)), (g10, .cells #[.int .i64 dk, .slice dp dn dc, .int .i64 du] 55 (0, 0)), (g8, .cells (arrI M) 52 (0, 0)), (g5 + 1, .cells #[.int .u64 0, .int .u64 0, .int .u64 0, .int .u64 0, .int .u64 0] 46 (0, 0))]) (by simp)).store (g := g5) (by omega) (by simp; omega) A2).add (setRow_here (hKn.at_ (g := g5) (ob := .cells A 46 (0, 0)) (by simp)) A2)
            have h5 := hKn.at_ (g := g5) (ob := .cells A 46 (0, 0)) (by simp)
            have hM' := hKs.at_ (g := g8) (ob := .cells (arrI M) 52 (0, 0)) (by simp)
            have hY' := hKs.at_ (g := g12) (ob := .cells (arrI Y) 52 (0, 0)) (by simp)
            clear hA2 hb9 hKn
            go_wp2_with (first | (refine wpList_store_row rfl 46 (.tmp 5) (.tmp 74) rfl g5 A2 rfl rfl 46 _ h5 (by rw [sA2.out]; exact infoNu) (by rw [sA2.out, HSA.out]) oA2.out ?_) | (refine wpList_load_row rfl 52 (.tmp 8) rfl g8 rfl _ (arrI M) _ _ hM' Try.underlying52 rfl (by rw [HSM.out]; exact info_num) ?_) | (refine wpList_load_row rfl 52 (.tmp 12) rfl g12 rfl _ (arrI Y) _ _ hY' Try.underlying52 rfl (by rw [HSY.out]; exact info_num) ?_) | fail)
            generalize w9.setRow g5 A2 = w10 at *
            clear h5
            rw [show Value.agg (arrI M) = numV M from rfl]
            refine (rinverse_num M V _ HMV.out).mono ?_
            rintro e w11 ⟨M2, rfl, hM2, hb11⟩
            rw [show numV M2 = .agg (arrI M2) from rfl]
            have hKn := hKs.keep hb11
            have sM2 : (arrI M2).size = 16 := by rw [arrI_size, hM2.1]
            have HSM2 := Lib.hid sM2
            have HM2 := Lib.hid hM2
            have hKs2 := ((hKn.sub (bm := [(g5, .cells A2 46 (0, 0)), (g12, .cells (arrI Y) 52 (0, 0)), (g11, .cells X 46 (0, 0)), (g10, .cells #[.int .i64 dk, .slice dp dn dc, .int .i64 du] 55 (0, 0)), (g5 + 1, .cells #[.int .u64 0, .int .u64 0, .int .u64 0, .int .u64 0, .int .u64 0] 46 (0, 0))]) (by simp)).store (g := g8) (by omega) (by simp; omega) (arrI M2)).add (setRow_here (hKn.at_ (g := g8) (ob := .cells (arrI M) 52 (0, 0)) (by simp)) (arrI M2))
            have h8 := hKn.at_ (g := g8) (ob := .cells (arrI M) 52 (0, 0)) (by simp)
            clear hM2 hb11 hKn hKs hM' hY' sM2
            go_wp2_with (refine wpList_store_row rfl 52 (.tmp 8) (.tmp 76) rfl g8 (arrI M2) rfl rfl 52 _ h8 (by rw [HSM2.out]; exact info_num) (by rw [HSM2.out, HSM.out]) (arrI_one M2) ?_)
            go_roundw
            case rel => exact ⟨k + 1, A2, M2, pinv V, by omega, by omega, by go_num, ⟨HA2.out, HM2.out⟩, hKs2.sub (by simp)⟩
            case measure => simp [intOf]; omega
      · obtain ⟨AV, MV⟩ := hAM.out
        have HAV := Lib.hid AV
        have HMV := Lib.hid MV
        have HSA := Lib.hid AV.size
        have sM : (arrI M).size = 16 := by rw [arrI_size, MV.1]
        have HSM := Lib.hid sM
        have hKS : KS w [(g8, .cells (arrI M) 52 (0, 0)), (g5, .cells A 46 (0, 0)), (g5 + 1, .cells #[.int .u64 0, .int .u64 0, .int .u64 0, .int .u64 0, .int .u64 0] 46 (0, 0))] [] wr := ⟨hKn, by simp, hKn.2⟩
        clear AV MV sM hKn hDl
        by_cases h1 : k < n1
        · have hd1 : decide (k < n1) = true := by simpa using h1
          have hd2 : decide ((k : Int) < 40) = false := by simp; omega
          clear hlt h1
          go_wp2_with fail
          refine wp_region_rem (KS w [(g8, .cells (arrI M) 52 (0, 0)), (g5, .cells A 46 (0, 0)), (g5 + 1, .cells #[.int .u64 0, .int .u64 0, .int .u64 0, .int .u64 0, .int .u64 0] 46 (0, 0))] []) (by kernel_rfl) (by kernel_rfl) (fun _ _ d _ _ h => by cases d <;> exact h) hKS.drew ?_
          apply rem_sure 0 (by kernel_rfl) rfl (wanted_none rfl)
          · intro w2 hS K hK
            go_wp2_with fail
            exact hK _ hS (Ext.refl _)
          · kernel_rfl
          · kernel_rfl
          try simp only [put_some, List.setIfInBounds_toArray, List.set_cons_succ, List.set_cons_zero]
          refine rem_one 1 (by kernel_rfl) (step_of rfl (wanted_none rfl) ?_)
          intro v41 hS41 hE41 K hK
          go_wp2_with fail
          refine (num_any _ _).mono ?_
          rintro e u41 ⟨rfl, rfl⟩
          refine hK _ _ hS41 ?_
          clear hK K
          try simp only [put_some, List.setIfInBounds_toArray, List.set_cons_succ, List.set_cons_zero]
          apply rem_sure 2 (by kernel_rfl) rfl (wanted_none rfl)
          · intro w2 hS K hK
            go_wp2_with fail
            exact hK _ hS (Ext.refl _)
          · kernel_rfl
          · kernel_rfl
          try simp only [put_some, List.setIfInBounds_toArray, List.set_cons_succ, List.set_cons_zero]
          apply rem_sure 3 (by kernel_rfl) rfl (wanted_none rfl)
          · intro w2 hS K hK
            go_wp2_with fail
            exact hK _ hS (Ext.refl _)
          · kernel_rfl
          · kernel_rfl
          try simp only [put_some, List.setIfInBounds_toArray, List.set_cons_succ, List.set_cons_zero]
          apply rem_sure 4 (by kernel_rfl) rfl (by kernel_rfl)
          · intro w2 hS K hK
            exact wp_load_row 46 _ rfl g5 rfl _ A _ _ (hS.1.at_ (g := g5) (ob := .cells A 46 (0, 0)) (by simp)) Try.underlying46 rfl (by rw [HSA.out]; exact infoNu) (hK _ hS (Ext.refl _))
          · kernel_rfl
          · kernel_rfl
          try simp only [put_some, List.setIfInBounds_toArray, List.set_cons_succ, List.set_cons_zero]
          apply rem_sure 7 (by kernel_rfl) rfl (by kernel_rfl)
          · intro w2 hS K hK
            exact wp_load_row 52 _ rfl g8 rfl _ (arrI M) _ _ (hS.1.at_ (g := g8) (ob := .cells (arrI M) 52 (0, 0)) (by simp)) Try.underlying52 rfl (by rw [HSM.out]; exact info_num) (hK _ hS (Ext.refl _))
          · kernel_rfl
          · kernel_rfl
          try simp only [put_some, List.setIfInBounds_toArray, List.set_cons_succ, List.set_cons_zero]
          refine rem_one 5 (by kernel_rfl) (step_of rfl (by kernel_rfl) ?_)
          intro v42 hS42 hE42 K hK
          go_wp2_with fail
          refine (gBytes_fe A V _ HAV.out).mono ?_
          rintro e u42 ⟨b42, rfl, _, hB42, hk42⟩
          refine hK _ _ (hS42.keep hk42) ?_
          clear hK K
          try simp only [put_some, List.setIfInBounds_toArray, List.set_cons_succ, List.set_cons_zero]
          refine remS (p := (some ⟨b42, 0, none⟩)) (l := (leB (V % PP))) (Bs.leB hB42) ?_
          apply rem_sure 6 (by kernel_rfl) rfl (by kernel_rfl)
          · intro w2 hS K hK
            have cv := conv_at (cap := 32) (hS.2.at_ (p := (some ⟨b42, 0, none⟩)) (l := (leB (V % PP))) (by simp))
            go_wp2_with fail
            exact hK _ hS (Ext.refl _)
          · kernel_rfl
          · kernel_rfl
          try simp only [put_some, List.setIfInBounds_toArray, List.set_cons_succ, List.set_cons_zero]
          refine rem_one 8 (by kernel_rfl) (step_of rfl (by kernel_rfl) ?_)
          intro v43 hS43 hE43 K hK
          go_wp2_with fail
          refine (rbytes_num M V _ HMV.out).mono ?_
          rintro e u43 ⟨b43, c43, rfl, _, hB43, hk43⟩
          refine hK _ _ (hS43.keep hk43) ?_
          clear hK K
          try simp only [put_some, List.setIfInBounds_toArray, List.set_cons_succ, List.set_cons_zero]
          refine remS (p := (some ⟨b43, 0, none⟩)) (l := (leB (V % PP))) hB43 ?_
          apply rem_sure 9 (by kernel_rfl) rfl (by kernel_rfl)
          · intro w2 hS K hK
            have cv := conv_at (cap := c43) (hS.2.at_ (p := (some ⟨b43, 0, none⟩)) (l := (leB (V % PP))) (by simp))
            go_wp2_with fail
            exact hK _ hS (Ext.refl _)
          · kernel_rfl
          · kernel_rfl
          try simp only [put_some, List.setIfInBounds_toArray, List.set_cons_succ, List.set_cons_zero]
          apply rem_sure 10 (by kernel_rfl) rfl (by kernel_rfl)
          · intro w2 hS K hK
            go_wp2_with fail
            exact hK _ hS (Ext.refl _)
          · kernel_rfl
          · kernel_rfl
          try simp only [put_some, List.setIfInBounds_toArray, List.set_cons_succ, List.set_cons_zero]
          apply rem_sure 11 (by kernel_rfl) rfl (wanted_none rfl)
          · intro w2 hS K hK
            go_wp2_with fail
            exact hK _ hS (Ext.refl _)
          · kernel_rfl
          · kernel_rfl
          try simp only [put_some, List.setIfInBounds_toArray, List.set_cons_succ, List.set_cons_zero]
          apply rem_sure 12 (by kernel_rfl) rfl (wanted_none rfl)
          · intro w2 hS K hK
            go_wp2_with fail
            exact hK _ hS (Ext.refl _)
          · kernel_rfl
          · kernel_rfl
          try simp only [put_some, List.setIfInBounds_toArray, List.set_cons_succ, List.set_cons_zero]
          apply rem_sure 13 (by kernel_rfl) rfl (by kernel_rfl)
          · intro w2 hS K hK
            exact wp_load_row 46 _ rfl (g5 + 1) rfl _ #[.int .u64 0, .int .u64 0, .int .u64 0, .int .u64 0, .int .u64 0] _ _ (hS.1.at_ (g := g5 + 1) (ob := .cells #[.int .u64 0, .int .u64 0, .int .u64 0, .int .u64 0, .int .u64 0] 46 (0, 0)) (by simp)) Try.underlying46 rfl (by kernel_rfl) (hK _ hS (Ext.refl _))
          · kernel_rfl
          · kernel_rfl
          try simp only [put_some, List.setIfInBounds_toArray, List.set_cons_succ, List.set_cons_zero]
          refine rem_one 14 (by kernel_rfl) (step_of rfl (by kernel_rfl) ?_)
          intro v44 hS44 hE44 K hK
          go_wp2_with fail
          refine (gBytes_fe #[.int .u64 0, .int .u64 0, .int .u64 0, .int .u64 0, .int .u64 0] 0 _ fe_zero).mono ?_
          rintro e u44 ⟨b44, rfl, _, hB44, hk44⟩
          refine hK _ _ (hS44.keep hk44) ?_
          clear hK K
          try simp only [put_some, List.setIfInBounds_toArray, List.set_cons_succ, List.set_cons_zero]
          refine remS (p := (some ⟨b44, 0, none⟩)) (l := (leB (0 % PP))) (Bs.leB hB44) ?_
          apply rem_sure 15 (by kernel_rfl) rfl (by kernel_rfl)
          · intro w2 hS K hK
            have cv := conv_at (cap := 32) (hS.2.at_ (p := (some ⟨b44, 0, none⟩)) (l := (leB (0 % PP))) (by simp))
            go_wp2_with fail
            exact hK _ hS (Ext.refl _)
          · kernel_rfl
          · kernel_rfl
          try simp only [put_some, List.setIfInBounds_toArray, List.set_cons_succ, List.set_cons_zero]
          refine rem_one 16 (by kernel_rfl) (step_of rfl (by kernel_rfl) ?_)
          intro v45 hS45 hE45 K hK
          go_wp2_with fail
          refine (small_any 0 _).mono ?_
          rintro e u45 ⟨rfl, hu45⟩
          have hk45 : Below v45.heap.size v45 u45 := by rw [← hu45]; exact (Below.refl _ _).alloc (Nat.le_refl _) _
          have hB45 : Bs u45 (some ⟨v45.heap.size, 0, none⟩) 32 (leB (0 % PP)) := by rw [← hu45, small_can0]; exact bs_sm (by omega) (heap_alloc_new v45 _)
          refine hK _ _ (hS45.keep hk45) ?_
          clear hK K hu45
          try simp only [put_some, List.setIfInBounds_toArray, List.set_cons_succ, List.set_cons_zero]
          refine remS (p := (some ⟨v45.heap.size, 0, none⟩)) (l := (leB (0 % PP))) hB45 ?_
          apply rem_sure 17 (by kernel_rfl) rfl (by kernel_rfl)
          · intro w2 hS K hK
            have cv := conv_at (cap := 32) (hS.2.at_ (p := (some ⟨v45.heap.size, 0, none⟩)) (l := (leB (0 % PP))) (by simp))
            go_wp2_with fail
            exact hK _ hS (Ext.refl _)
          · kernel_rfl
          · kernel_rfl
          try simp only [put_some, List.setIfInBounds_toArray, List.set_cons_succ, List.set_cons_zero]
          apply rem_sure 18 (by kernel_rfl) rfl (by kernel_rfl)
          · intro w2 hS K hK
            go_wp2_with fail
            exact hK _ hS (Ext.refl _)
          · kernel_rfl
          · kernel_rfl
          try simp only [put_some, List.setIfInBounds_toArray, List.set_cons_succ, List.set_cons_zero]
          apply rem_sure 19 (by kernel_rfl) rfl (wanted_none rfl)
          · intro w2 hS K hK
            go_wp2_with fail
            exact hK _ hS (Ext.refl _)
          · kernel_rfl
          · kernel_rfl
          try simp only [put_some, List.setIfInBounds_toArray, List.set_cons_succ, List.set_cons_zero]
          apply rem_sure 20 (by kernel_rfl) rfl (wanted_none rfl)
          · intro w2 hS K hK
            go_wp2_with fail
            exact hK _ hS (Ext.refl _)
          · kernel_rfl
          · kernel_rfl
          try simp only [put_some, List.setIfInBounds_toArray, List.set_cons_succ, List.set_cons_zero]
          refine rem_one 21 (by kernel_rfl) (step_of rfl (by kernel_rfl) ?_)
          intro v46 hS46 hE46 K hK
          go_wp2_with fail
          refine (knows_any _).mono ?_
          rintro e u46 ⟨rfl, hk46⟩
          refine hK _ _ (hS46.keep hk46) ?_
          clear hK K
          try simp only [put_some, List.setIfInBounds_toArray, List.set_cons_succ, List.set_cons_zero]
          apply rem_sure 22 (by kernel_rfl) rfl (wanted_none rfl)
          · intro w2 hS K hK
            go_wp2_with fail
            exact hK _ hS (Ext.refl _)
          · kernel_rfl
          · kernel_rfl
          try simp only [put_some, List.setIfInBounds_toArray, List.set_cons_succ, List.set_cons_zero]
          apply rem_sure 23 (by kernel_rfl) rfl (wanted_none rfl)
          · intro w2 hS K hK
            go_wp2_with fail
            exact hK _ hS (Ext.refl _)
          · kernel_rfl
          · kernel_rfl
          try simp only [put_some, List.setIfInBounds_toArray, List.set_cons_succ, List.set_cons_zero]
          refine rem_nil ?_
          intro v9 hS9 hE9
          go_wp2
          go_ret
          exact ⟨rfl, hS9.1.2⟩
        · have hd1 : decide (k < n1) = false := by simpa using h1
          clear hlt h1
          go_wp2_with fail
          refine wp_region_rem (KS w [(g8, .cells (arrI M) 52 (0, 0)), (g5, .cells A 46 (0, 0)), (g5 + 1, .cells #[.int .u64 0, .int .u64 0, .int .u64 0, .int .u64 0, .int .u64 0] 46 (0, 0))] []) (by kernel_rfl) (by kernel_rfl) (fun _ _ d _ _ h => by cases d <;> exact h) hKS.drew ?_
          apply rem_sure 0 (by kernel_rfl) rfl (wanted_none rfl)
          · intro w2 hS K hK
            go_wp2_with fail
            exact hK _ hS (Ext.refl _)
          · kernel_rfl
          · kernel_rfl
          try simp only [put_some, List.setIfInBounds_toArray, List.set_cons_succ, List.set_cons_zero]
          refine rem_one 1 (by kernel_rfl) (step_of rfl (wanted_none rfl) ?_)
          intro v41 hS41 hE41 K hK
          go_wp2_with fail
          refine (num_any _ _).mono ?_
          rintro e u41 ⟨rfl, rfl⟩
          refine hK _ _ hS41 ?_
          clear hK K
          try simp only [put_some, List.setIfInBounds_toArray, List.set_cons_succ, List.set_cons_zero]
          apply rem_sure 2 (by kernel_rfl) rfl (wanted_none rfl)
          · intro w2 hS K hK
            go_wp2_with fail
            exact hK _ hS (Ext.refl _)
          · kernel_rfl
          · kernel_rfl
          try simp only [put_some, List.setIfInBounds_toArray, List.set_cons_succ, List.set_cons_zero]
          apply rem_sure 3 (by kernel_rfl) rfl (wanted_none rfl)
          · intro w2 hS K hK
            go_wp2_with fail
            exact hK _ hS (Ext.refl _)
          · kernel_rfl
          · kernel_rfl
          try simp only [put_some, List.setIfInBounds_toArray, List.set_cons_succ, List.set_cons_zero]
          apply rem_sure 4 (by kernel_rfl) rfl (by kernel_rfl)
          · intro w2 hS K hK
            exact wp_load_row 46 _ rfl g5 rfl _ A _ _ (hS.1.at_ (g := g5) (ob := .cells A 46 (0, 0)) (by simp)) Try.underlying46 rfl (by rw [HSA.out]; exact infoNu) (hK _ hS (Ext.refl _))
          · kernel_rfl
          · kernel_rfl
          try simp only [put_some, List.setIfInBounds_toArray, List.set_cons_succ, List.set_cons_zero]
          apply rem_sure 7 (by kernel_rfl) rfl (by kernel_rfl)
          · intro w2 hS K hK
            exact wp_load_row 52 _ rfl g8 rfl _ (arrI M) _ _ (hS.1.at_ (g := g8) (ob := .cells (arrI M) 52 (0, 0)) (by simp)) Try.underlying52 rfl (by rw [HSM.out]; exact info_num) (hK _ hS (Ext.refl _))
          · kernel_rfl
          · kernel_rfl
          try simp only [put_some, List.setIfInBounds_toArray, List.set_cons_succ, List.set_cons_zero]
          refine rem_one 5 (by kernel_rfl) (step_of rfl (by kernel_rfl) ?_)
          intro v42 hS42 hE42 K hK
          go_wp2_with fail
          refine (gBytes_fe A V _ HAV.out).mono ?_
          rintro e u42 ⟨b42, rfl, _, hB42, hk42⟩
          refine hK _ _ (hS42.keep hk42) ?_
          clear hK K
          try simp only [put_some, List.setIfInBounds_toArray, List.set_cons_succ, List.set_cons_zero]
          refine remS (p := (some ⟨b42, 0, none⟩)) (l := (leB (V % PP))) (Bs.leB hB42) ?_
          apply rem_sure 6 (by kernel_rfl) rfl (by kernel_rfl)
          · intro w2 hS K hK
            have cv := conv_at (cap := 32) (hS.2.at_ (p := (some ⟨b42, 0, none⟩)) (l := (leB (V % PP))) (by simp))
            go_wp2_with fail
            exact hK _ hS (Ext.refl _)
          · kernel_rfl
          · kernel_rfl
          try simp only [put_some, List.setIfInBounds_toArray, List.set_cons_succ, List.set_cons_zero]
          refine rem_one 8 (by kernel_rfl) (step_of rfl (by kernel_rfl) ?_)
          intro v43 hS43 hE43 K hK
          go_wp2_with fail
          refine (rbytes_num M V _ HMV.out).mono ?_
          rintro e u43 ⟨b43, c43, rfl, _, hB43, hk43⟩
          refine hK _ _ (hS43.keep hk43) ?_
          clear hK K
          try simp only [put_some, List.setIfInBounds_toArray, List.set_cons_succ, List.set_cons_zero]
          refine remS (p := (some ⟨b43, 0, none⟩)) (l := (leB (V % PP))) hB43 ?_
          apply rem_sure 9 (by kernel_rfl) rfl (by kernel_rfl)
          · intro w2 hS K hK
            have cv := conv_at (cap := c43) (hS.2.at_ (p := (some ⟨b43, 0, none⟩)) (l := (leB (V % PP))) (by simp))
            go_wp2_with fail
            exact hK _ hS (Ext.refl _)
          · kernel_rfl
          · kernel_rfl
          try simp only [put_some, List.setIfInBounds_toArray, List.set_cons_succ, List.set_cons_zero]
          apply rem_sure 10 (by kernel_rfl) rfl (by kernel_rfl)
          · intro w2 hS K hK
            go_wp2_with fail
            exact hK _ hS (Ext.refl _)
          · kernel_rfl
          · kernel_rfl
          try simp only [put_some, List.setIfInBounds_toArray, List.set_cons_succ, List.set_cons_zero]
          apply rem_sure 11 (by kernel_rfl) rfl (wanted_none rfl)
          · intro w2 hS K hK
            go_wp2_with fail
            exact hK _ hS (Ext.refl _)
          · kernel_rfl
          · kernel_rfl
          try simp only [put_some, List.setIfInBounds_toArray, List.set_cons_succ, List.set_cons_zero]
          apply rem_sure 12 (by kernel_rfl) rfl (wanted_none rfl)
          · intro w2 hS K hK
            go_wp2_with fail
            exact hK _ hS (Ext.refl _)
          · kernel_rfl
          · kernel_rfl
          try simp only [put_some, List.setIfInBounds_toArray, List.set_cons_succ, List.set_cons_zero]
          apply rem_sure 13 (by kernel_rfl) rfl (by kernel_rfl)
          · intro w2 hS K hK
            exact wp_load_row 46 _ rfl (g5 + 1) rfl _ #[.int .u64 0, .int .u64 0, .int .u64 0, .int .u64 0, .int .u64 0] _ _ (hS.1.at_ (g := g5 + 1) (ob := .cells #[.int .u64 0, .int .u64 0, .int .u64 0, .int .u64 0, .int .u64 0] 46 (0, 0)) (by simp)) Try.underlying46 rfl (by kernel_rfl) (hK _ hS (Ext.refl _))
          · kernel_rfl
          · kernel_rfl
          try simp only [put_some, List.setIfInBounds_toArray, List.set_cons_succ, List.set_cons_zero]
          refine rem_one 14 (by kernel_rfl) (step_of rfl (by kernel_rfl) ?_)
          intro v44 hS44 hE44 K hK
          go_wp2_with fail
          refine (gBytes_fe #[.int .u64 0, .int .u64 0, .int .u64 0, .int .u64 0, .int .u64 0] 0 _ fe_zero).mono ?_
          rintro e u44 ⟨b44, rfl, _, hB44, hk44⟩
          refine hK _ _ (hS44.keep hk44) ?_
          clear hK K
          try simp only [put_some, List.setIfInBounds_toArray, List.set_cons_succ, List.set_cons_zero]
          refine remS (p := (some ⟨b44, 0, none⟩)) (l := (leB (0 % PP))) (Bs.leB hB44) ?_
          apply rem_sure 15 (by kernel_rfl) rfl (by kernel_rfl)
          · intro w2 hS K hK
            have cv := conv_at (cap := 32) (hS.2.at_ (p := (some ⟨b44, 0, none⟩)) (l := (leB (0 % PP))) (by simp))
            go_wp2_with fail
            exact hK _ hS (Ext.refl _)
          · kernel_rfl
          · kernel_rfl
          try simp only [put_some, List.setIfInBounds_toArray, List.set_cons_succ, List.set_cons_zero]
          refine rem_one 16 (by kernel_rfl) (step_of rfl (by kernel_rfl) ?_)
          intro v45 hS45 hE45 K hK
          go_wp2_with fail
          refine (small_any 0 _).mono ?_
          rintro e u45 ⟨rfl, hu45⟩
          have hk45 : Below v45.heap.size v45 u45 := by rw [← hu45]; exact (Below.refl _ _).alloc (Nat.le_refl _) _
          have hB45 : Bs u45 (some ⟨v45.heap.size, 0, none⟩) 32 (leB (0 % PP)) := by rw [← hu45, small_can0]; exact bs_sm (by omega) (heap_alloc_new v45 _)
          refine hK _ _ (hS45.keep hk45) ?_
          clear hK K hu45
          try simp only [put_some, List.setIfInBounds_toArray, List.set_cons_succ, List.set_cons_zero]
          refine remS (p := (some ⟨v45.heap.size, 0, none⟩)) (l := (leB (0 % PP))) hB45 ?_
          apply rem_sure 17 (by kernel_rfl) rfl (by kernel_rfl)
          · intro w2 hS K hK
            have cv := conv_at (cap := 32) (hS.2.at_ (p := (some ⟨v45.heap.size, 0, none⟩)) (l := (leB (0 % PP))) (by simp))
            go_wp2_with fail
            exact hK _ hS (Ext.refl _)
          · kernel_rfl
          · kernel_rfl
          try simp only [put_some, List.setIfInBounds_toArray, List.set_cons_succ, List.set_cons_zero]
          apply rem_sure 18 (by kernel_rfl) rfl (by kernel_rfl)
          · intro w2 hS K hK
            go_wp2_with fail
            exact hK _ hS (Ext.refl _)
          · kernel_rfl
          · kernel_rfl
          try simp only [put_some, List.setIfInBounds_toArray, List.set_cons_succ, List.set_cons_zero]
          apply rem_sure 19 (by kernel_rfl) rfl (wanted_none rfl)
          · intro w2 hS K hK
            go_wp2_with fail
            exact hK _ hS (Ext.refl _)
          · kernel_rfl
          · kernel_rfl
          try simp only [put_some, List.setIfInBounds_toArray, List.set_cons_succ, List.set_cons_zero]
          apply rem_sure 20 (by kernel_rfl) rfl (wanted_none rfl)
          · intro w2 hS K hK
            go_wp2_with fail
            exact hK _ hS (Ext.refl _)
          · kernel_rfl
          · kernel_rfl
          try simp only [put_some, List.setIfInBounds_toArray, List.set_cons_succ, List.set_cons_zero]
          refine rem_one 21 (by kernel_rfl) (step_of rfl (by kernel_rfl) ?_)
          intro v46 hS46 hE46 K hK
          go_wp2_with fail
          refine (knows_any _).mono ?_
          rintro e u46 ⟨rfl, hk46⟩
          refine hK _ _ (hS46.keep hk46) ?_
          clear hK K
          try simp only [put_some, List.setIfInBounds_toArray, List.set_cons_succ, List.set_cons_zero]
          apply rem_sure 22 (by kernel_rfl) rfl (wanted_none rfl)
          · intro w2 hS K hK
            go_wp2_with fail
            exact hK _ hS (Ext.refl _)
          · kernel_rfl
          · kernel_rfl
          try simp only [put_some, List.setIfInBounds_toArray, List.set_cons_succ, List.set_cons_zero]
          apply rem_sure 23 (by kernel_rfl) rfl (wanted_none rfl)
          · intro w2 hS K hK
            go_wp2_with fail
            exact hK _ hS (Ext.refl _)
          · kernel_rfl
          · kernel_rfl
          try simp only [put_some, List.setIfInBounds_toArray, List.set_cons_succ, List.set_cons_zero]
          refine rem_nil ?_
          intro v9 hS9 hE9
          go_wp2
          go_ret
          exact ⟨rfl, hS9.1.2⟩
  · have hd0 : ((n0 : Int) != 32) = true := by rw [bne_iff_ne]; omega
    go_wp2_with fail
    refine (gFrom_no _ n0 cx _ h32).mono ?_
    rintro e w2 ⟨X, rfl, hX, hb2⟩
    have hX' := hX
    obtain ⟨x0, x1, x2, x3, x4, rfl, _⟩ := hX'
    have hb12 := Below.join hb1 hb2
    have HX := Lib.hid hX
    clear hBx hb1 hb2 hcx hcx2 hgx hgxlt b0 hX hl0
    go_wp2_with fail
    obtain ⟨W0, hW0, hz, hbW, q0, q1⟩ := two_new w2 (.cells #[.int .u64 x0, .int .u64 x1, .int .u64 x2, .int .u64 x3, .int .u64 x4] 46) (.cells #[.int .u64 0, .int .u64 0, .int .u64 0, .int .u64 0, .int .u64 0] 46)
    rw [hW0]
    have hKn : Kn w [] W0 := ⟨by simp, Below.join hb12 hbW⟩
    have hKn := hKn.add q0
    generalize w2.heap.size = g5 at *
    have hKS : KS w [(g5, .cells #[.int .u64 x0, .int .u64 x1, .int .u64 x2, .int .u64 x3, .int .u64 x4] 46 (0, 0))] [] W0 := ⟨hKn, by simp, hKn.2⟩
    clear hW0 hz hb12 hbW q0 q1 hKn
    refine wp_region_rem (KS w [(g5, .cells #[.int .u64 x0, .int .u64 x1, .int .u64 x2, .int .u64 x3, .int .u64 x4] 46 (0, 0))] []) (by kernel_rfl) (by kernel_rfl) (fun _ _ d _ _ h => by cases d <;> exact h) hKS.drew ?_
    apply rem_sure 0 (by kernel_rfl) rfl (wanted_none rfl)
    · intro w2 hS K hK
      go_wp2_with fail
      exact hK _ hS (Ext.refl _)
    · kernel_rfl
    · kernel_rfl
    try simp only [put_some, List.setIfInBounds_toArray, List.set_cons_succ, List.set_cons_zero]
    refine rem_one 1 (by kernel_rfl) (step_of rfl (wanted_none rfl) ?_)
    intro v41 hS41 hE41 K hK
    go_wp2_with fail
    refine (num_any _ _).mono ?_
    rintro e u41 ⟨rfl, rfl⟩
    refine hK _ _ hS41 ?_
    clear hK K
    try simp only [put_some, List.setIfInBounds_toArray, List.set_cons_succ, List.set_cons_zero]
    apply rem_sure 2 (by kernel_rfl) rfl (wanted_none rfl)
    · intro w2 hS K hK
      go_wp2_with fail
      exact hK _ hS (Ext.refl _)
    · kernel_rfl
    · kernel_rfl
    try simp only [put_some, List.setIfInBounds_toArray, List.set_cons_succ, List.set_cons_zero]
    apply rem_sure 3 (by kernel_rfl) rfl (wanted_none rfl)
    · intro w2 hS K hK
      go_wp2_with fail
      exact hK _ hS (Ext.refl _)
    · kernel_rfl
    · kernel_rfl
    try simp only [put_some, List.setIfInBounds_toArray, List.set_cons_succ, List.set_cons_zero]
    apply rem_sure 4 (by kernel_rfl) rfl (by kernel_rfl)
    · intro w2 hS K hK
      exact wp_load_row 46 _ rfl g5 rfl _ #[.int .u64 x0, .int .u64 x1, .int .u64 x2, .int .u64 x3, .int .u64 x4] _ _ (hS.1.at_ (g := g5) (ob := .cells #[.int .u64 x0, .int .u64 x1, .int .u64 x2, .int .u64 x3, .int .u64 x4] 46 (0, 0)) (by simp)) Try.underlying46 rfl (by kernel_rfl) (hK _ hS (Ext.refl _))
    · kernel_rfl
    · kernel_rfl
    try simp only [put_some, List.setIfInBounds_toArray, List.set_cons_succ, List.set_cons_zero]
    refine rem_one 5 (by kernel_rfl) (step_of rfl (by kernel_rfl) ?_)
    intro v42 hS42 hE42 K hK
    go_wp2_with fail
    refine (gBytes_fe #[.int .u64 x0, .int .u64 x1, .int .u64 x2, .int .u64 x3, .int .u64 x4] 0 _ HX.out).mono ?_
    rintro e u42 ⟨b42, rfl, _, hB42, hk42⟩
    refine hK _ _ (hS42.keep hk42) ?_
    clear hK K
    try simp only [put_some, List.setIfInBounds_toArray, List.set_cons_succ, List.set_cons_zero]
    refine remS (p := (some ⟨b42, 0, none⟩)) (l := (leB (0 % PP))) (Bs.leB hB42) ?_
    apply rem_sure 6 (by kernel_rfl) rfl (by kernel_rfl)
    · intro w2 hS K hK
      have cv := conv_at (cap := 32) (hS.2.at_ (p := (some ⟨b42, 0, none⟩)) (l := (leB (0 % PP))) (by simp))
      go_wp2_with fail
      exact hK _ hS (Ext.refl _)
    · kernel_rfl
    · kernel_rfl
    try simp only [put_some, List.setIfInBounds_toArray, List.set_cons_succ, List.set_cons_zero]
    refine rem_one 7 (by kernel_rfl) (step_of rfl (by kernel_rfl) ?_)
    intro v43 hS43 hE43 K hK
    go_wp2_with fail
    refine (small_any 0 _).mono ?_
    rintro e u43 ⟨rfl, hu43⟩
    have hk43 : Below v43.heap.size v43 u43 := by rw [← hu43]; exact (Below.refl _ _).alloc (Nat.le_refl _) _
    have hB43 : Bs u43 (some ⟨v43.heap.size, 0, none⟩) 32 (leB (0 % PP)) := by rw [← hu43, small_can0]; exact bs_sm (by omega) (heap_alloc_new v43 _)
    refine hK _ _ (hS43.keep hk43) ?_
    clear hK K hu43
    try simp only [put_some, List.setIfInBounds_toArray, List.set_cons_succ, List.set_cons_zero]
    refine remS (p := (some ⟨v43.heap.size, 0, none⟩)) (l := (leB (0 % PP))) hB43 ?_
    apply rem_sure 8 (by kernel_rfl) rfl (by kernel_rfl)
    · intro w2 hS K hK
      have cv := conv_at (cap := 32) (hS.2.at_ (p := (some ⟨v43.heap.size, 0, none⟩)) (l := (leB (0 % PP))) (by simp))
      go_wp2_with fail
      exact hK _ hS (Ext.refl _)
    · kernel_rfl
    · kernel_rfl
    try simp only [put_some, List.setIfInBounds_toArray, List.set_cons_succ, List.set_cons_zero]
    apply rem_sure 9 (by kernel_rfl) rfl (by kernel_rfl)
    · intro w2 hS K hK
      go_wp2_with fail
      exact hK _ hS (Ext.refl _)
    · kernel_rfl
    · kernel_rfl
    try simp only [put_some, List.setIfInBounds_toArray, List.set_cons_succ, List.set_cons_zero]
    apply rem_sure 10 (by kernel_rfl) rfl (wanted_none rfl)
    · intro w2 hS K hK
      go_wp2_with fail
      exact hK _ hS (Ext.refl _)
    · kernel_rfl
    · kernel_rfl
    try simp only [put_some, List.setIfInBounds_toArray, List.set_cons_succ, List.set_cons_zero]
    apply rem_sure 11 (by kernel_rfl) rfl (wanted_none rfl)
    · intro w2 hS K hK
      go_wp2_with fail
      exact hK _ hS (Ext.refl _)
    · kernel_rfl
    · kernel_rfl
    try simp only [put_some, List.setIfInBounds_toArray, List.set_cons_succ, List.set_cons_zero]
    refine rem_one 12 (by kernel_rfl) (step_of rfl (by kernel_rfl) ?_)
    intro v44 hS44 hE44 K hK
    go_wp2_with fail
    refine (knows_any _).mono ?_
    rintro e u44 ⟨rfl, hk44⟩
    refine hK _ _ (hS44.keep hk44) ?_
    clear hK K
    try simp only [put_some, List.setIfInBounds_toArray, List.set_cons_succ, List.set_cons_zero]
    apply rem_sure 13 (by kernel_rfl) rfl (wanted_none rfl)
    · intro w2 hS K hK
      go_wp2_with fail
      exact hK _ hS (Ext.refl _)
    · kernel_rfl
    · kernel_rfl
    try simp only [put_some, List.setIfInBounds_toArray, List.set_cons_succ, List.set_cons_zero]
    apply rem_sure 14 (by kernel_rfl) rfl (wanted_none rfl)
    · intro w2 hS K hK
      go_wp2_with fail
      exact hK _ hS (Ext.refl _)
    · kernel_rfl
    · kernel_rfl
    try simp only [put_some, List.setIfInBounds_toArray, List.set_cons_succ, List.set_cons_zero]
    refine rem_nil ?_
    intro v9 hS9 hE9
    go_wp2
    go_ret
    exact ⟨rfl, hS9.1.2⟩
end Go.Proofs.Ytenppmciabdefaa
