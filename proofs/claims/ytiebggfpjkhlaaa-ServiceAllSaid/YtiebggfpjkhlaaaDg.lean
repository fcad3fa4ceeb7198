/- The calls of a service where a name may not be, or where there is no such group. No condition. -/
import Derived.Test.YtiebggfpjkhlaaaDe
namespace Go.Proofs.Ytiebggfpjkhlaaa
open Go Go.RowKit
set_option linter.unusedSimpArgs false
attribute [local go_sem] map_neq_some map_neq_nil
set_option maxRecDepth 100000 in
set_option maxHeartbeats 4000000 in
theorem offer_bad (b m0 m1 m2 : Nat) (s : ByteArray) (q : Option Addr) (n c : Nat) (hs : okN s = false) (W : World) (hb : W.heap[b]? = some (svc m0 m1 m2)) :
    Calls Try.prog 14 #[.pointer (some ⟨b, 0, none⟩), .string s, .slice q n c] W fun e W' => e = .returned (.int .i64 1) ∧ Below W.heap.size W W' := by
  have hbel : Below W.heap.size W (W.alloc (.cells #[.string s] 9)) := (Below.refl _ _).alloc (Nat.le_refl _) _
  have hb1 := blk_stay hbel hb
  have cb0 : (W.alloc (.cells #[.string s] 9)).cell? ⟨b, 1, none⟩ = some (.map (some m1)) := (cell_of_row _ b 1 _ _ _ hb1).trans rfl
  have hmay := mayA_one (c := 1) hb1 (alloc_at W (.cells #[.string s] 9))
  rw [hs] at hmay
  clear hb hb1
  go_enter Try.func14, Try.ntmps14
  go_wp2_with fail
  refine hmay.mono ?_
  rintro e w' ⟨rfl, rfl⟩
  go_wp2_with fail
  go_ret
  exact ⟨rfl, hbel⟩
set_option maxRecDepth 100000 in
set_option maxHeartbeats 4000000 in
theorem open_bad (b m0 m1 m2 : Nat) (s : ByteArray) (ep : Int) (hs : okN s = false) (W : World) (hb : W.heap[b]? = some (svc m0 m1 m2)) :
    Calls Try.prog 10 #[.pointer (some ⟨b, 0, none⟩), .string s, .int .i64 ep] W fun e W' => e = .returned (.int .i64 1) ∧ Below W.heap.size W W' := by
  have hbel : Below W.heap.size W (W.alloc (.cells #[.string s] 9)) := (Below.refl _ _).alloc (Nat.le_refl _) _
  have hb1 := blk_stay hbel hb
  have cb0 : (W.alloc (.cells #[.string s] 9)).cell? ⟨b, 1, none⟩ = some (.map (some m1)) := (cell_of_row _ b 1 _ _ _ hb1).trans rfl
  have hmay := mayA_one (c := 1) hb1 (alloc_at W (.cells #[.string s] 9))
  rw [hs] at hmay
  clear hb hb1
  go_enter Try.func10, Try.ntmps10
  go_wp2_with fail
  refine hmay.mono ?_
  rintro e w' ⟨rfl, rfl⟩
  go_wp2_with fail
  go_ret
  exact ⟨rfl, hbel⟩
set_option maxRecDepth 100000 in
set_option maxHeartbeats 4000000 in
theorem epoch_bad (b m0 m1 m2 : Nat) (s : ByteArray)  (hs : okN s = false) (W : World) (hb : W.heap[b]? = some (svc m0 m1 m2)) :
    Calls Try.prog 20 #[.pointer (some ⟨b, 0, none⟩), .string s] W fun e W' => e = .returned (.tuple #[.int .i64 0, .int .i64 1]) ∧ Below W.heap.size W W' := by
  have hbel : Below W.heap.size W (W.alloc (.cells #[.string s] 9)) := (Below.refl _ _).alloc (Nat.le_refl _) _
  have hb1 := blk_stay hbel hb
  have cb0 : (W.alloc (.cells #[.string s] 9)).cell? ⟨b, 1, none⟩ = some (.map (some m1)) := (cell_of_row _ b 1 _ _ _ hb1).trans rfl
  have hmay := mayA_one (c := 1) hb1 (alloc_at W (.cells #[.string s] 9))
  rw [hs] at hmay
  clear hb hb1
  go_enter Try.func20, Try.ntmps20
  go_wp2_with fail
  refine hmay.mono ?_
  rintro e w' ⟨rfl, rfl⟩
  go_wp2_with fail
  go_ret2
  exact ⟨rfl, hbel⟩
set_option maxRecDepth 100000 in
set_option maxHeartbeats 4000000 in
theorem waiting_bad (b m0 m1 m2 : Nat) (s : ByteArray)  (hs : okN s = false) (W : World) (hb : W.heap[b]? = some (svc m0 m1 m2)) :
    Calls Try.prog 18 #[.pointer (some ⟨b, 0, none⟩), .string s] W fun e W' => e = .returned (.int .i64 0) ∧ Below W.heap.size W W' := by
  have hbel : Below W.heap.size W (W.alloc (.cells #[.string s] 9)) := (Below.refl _ _).alloc (Nat.le_refl _) _
  have hb1 := blk_stay hbel hb
  have cb0 : (W.alloc (.cells #[.string s] 9)).cell? ⟨b, 1, none⟩ = some (.map (some m1)) := (cell_of_row _ b 1 _ _ _ hb1).trans rfl
  have hmay := mayA_one (c := 1) hb1 (alloc_at W (.cells #[.string s] 9))
  rw [hs] at hmay
  clear hb hb1
  go_enter Try.func18, Try.ntmps18
  go_wp2_with fail
  refine hmay.mono ?_
  rintro e w' ⟨rfl, rfl⟩
  go_wp2_with fail
  go_ret
  exact ⟨rfl, hbel⟩
set_option maxRecDepth 100000 in
set_option maxHeartbeats 4000000 in
theorem take_bad (b m0 m1 m2 : Nat) (s : ByteArray)  (hs : okN s = false) (W : World) (hb : W.heap[b]? = some (svc m0 m1 m2)) :
    Calls Try.prog 17 #[.pointer (some ⟨b, 0, none⟩), .string s] W fun e W' => e = .returned (.tuple #[.slice none 0 0, .int .i64 1]) ∧ Below W.heap.size W W' := by
  have hbel : Below W.heap.size W (W.alloc (.cells #[.string s] 9)) := (Below.refl _ _).alloc (Nat.le_refl _) _
  have hb1 := blk_stay hbel hb
  have cb0 : (W.alloc (.cells #[.string s] 9)).cell? ⟨b, 1, none⟩ = some (.map (some m1)) := (cell_of_row _ b 1 _ _ _ hb1).trans rfl
  have hmay := mayA_one (c := 1) hb1 (alloc_at W (.cells #[.string s] 9))
  rw [hs] at hmay
  clear hb hb1
  go_enter Try.func17, Try.ntmps17
  go_wp2_with fail
  refine hmay.mono ?_
  rintro e w' ⟨rfl, rfl⟩
  go_wp2_with fail
  go_ret2
  exact ⟨rfl, hbel⟩
set_option maxRecDepth 100000 in
set_option maxHeartbeats 4000000 in
theorem log_bad (b m0 m1 m2 : Nat) (s : ByteArray)  (hs : okN s = false) (W : World) (hb : W.heap[b]? = some (svc m0 m1 m2)) :
    Calls Try.prog 15 #[.pointer (some ⟨b, 0, none⟩), .string s] W fun e W' => e = .returned (.slice none 0 0) ∧ Below W.heap.size W W' := by
  have hbel : Below W.heap.size W (W.alloc (.cells #[.string s] 9)) := (Below.refl _ _).alloc (Nat.le_refl _) _
  have hb1 := blk_stay hbel hb
  have cb0 : (W.alloc (.cells #[.string s] 9)).cell? ⟨b, 1, none⟩ = some (.map (some m1)) := (cell_of_row _ b 1 _ _ _ hb1).trans rfl
  have hmay := mayA_one (c := 1) hb1 (alloc_at W (.cells #[.string s] 9))
  rw [hs] at hmay
  clear hb hb1
  go_enter Try.func15, Try.ntmps15
  go_wp2_with fail
  refine hmay.mono ?_
  rintro e w' ⟨rfl, rfl⟩
  go_wp2_with fail
  go_ret
  exact ⟨rfl, hbel⟩
set_option maxRecDepth 100000 in
set_option maxHeartbeats 4000000 in
theorem join_bad (b m0 m1 m2 : Nat) (s : ByteArray) (who : ByteArray) (hs : (okN s && okN who) = false) (W : World) (hb : W.heap[b]? = some (svc m0 m1 m2)) :
    Calls Try.prog 11 #[.pointer (some ⟨b, 0, none⟩), .string s, .string who] W fun e W' => e = .returned (.int .i64 1) ∧ Below W.heap.size W W' := by
  have hbel : Below W.heap.size W (W.alloc (.cells #[.string s, .string who] 9)) := (Below.refl _ _).alloc (Nat.le_refl _) _
  have hb1 := blk_stay hbel hb
  have cb0 : (W.alloc (.cells #[.string s, .string who] 9)).cell? ⟨b, 1, none⟩ = some (.map (some m1)) := (cell_of_row _ b 1 _ _ _ hb1).trans rfl
  have hmay := mayA_two (c := 2) hb1 (alloc_at W (.cells #[.string s, .string who] 9))
  rw [hs] at hmay
  clear hb hb1
  go_enter Try.func11, Try.ntmps11
  go_wp2_with fail
  refine hmay.mono ?_
  rintro e w' ⟨rfl, rfl⟩
  go_wp2_with fail
  go_ret
  exact ⟨rfl, hbel⟩
set_option maxRecDepth 100000 in
set_option maxHeartbeats 4000000 in
theorem offer_badB (b m0 m1 m2 n c : Nat) (q : Option Addr) (s : ByteArray) (hs : okN s = true) (hn : okB n = false) (W : World) (hb : W.heap[b]? = some (svc m0 m1 m2)) :
    Calls Try.prog 14 #[.pointer (some ⟨b, 0, none⟩), .string s, .slice q n c] W fun e W' => e = .returned (.int .i64 1) ∧ Below W.heap.size W W' := by
  have hbel : Below W.heap.size W (W.alloc (.cells #[.string s] 9)) := (Below.refl _ _).alloc (Nat.le_refl _) _
  have hb1 := blk_stay hbel hb
  have hmay := mayA_one (c := 1) hb1 (alloc_at W (.cells #[.string s] 9))
  rw [hs] at hmay
  have hsz := sized_all q n c (W.alloc (.cells #[.string s] 9))
  rw [hn] at hsz
  clear hb hb1
  go_enter Try.func14, Try.ntmps14
  go_wp2_with fail
  refine hmay.mono ?_
  rintro e w' ⟨rfl, rfl⟩
  go_wp2_with fail
  refine hsz.mono ?_
  rintro e w' ⟨rfl, rfl⟩
  go_wp2_with fail
  go_ret
  exact ⟨rfl, hbel⟩
set_option maxRecDepth 100000 in
set_option maxHeartbeats 4000000 in
theorem open_neg (b m0 m1 m2 : Nat) (s : ByteArray) (ep : Int) (hs : okN s = true) (he : ep < 0) (W : World) (hb : W.heap[b]? = some (svc m0 m1 m2)) :
    Calls Try.prog 10 #[.pointer (some ⟨b, 0, none⟩), .string s, .int .i64 ep] W fun e W' => e = .returned (.int .i64 1) ∧ Below W.heap.size W W' := by
  have hbel : Below W.heap.size W (W.alloc (.cells #[.string s] 9)) := (Below.refl _ _).alloc (Nat.le_refl _) _
  have hb1 := blk_stay hbel hb
  have hmay := mayA_one (c := 1) hb1 (alloc_at W (.cells #[.string s] 9))
  rw [hs] at hmay
  have d1 : decide (ep < 0) = true := by simpa using he
  clear hb hb1 he
  go_enter Try.func10, Try.ntmps10
  go_wp2_with fail
  refine hmay.mono ?_
  rintro e w' ⟨rfl, rfl⟩
  go_wp2_with fail
  go_ret
  exact ⟨rfl, hbel⟩
set_option maxRecDepth 100000 in
set_option maxHeartbeats 4000000 in
theorem open_big (b m0 m1 m2 : Nat) (s : ByteArray) (ep : Int) (hs : okN s = true) (he : 4294967296 ≤ ep) (W : World) (hb : W.heap[b]? = some (svc m0 m1 m2)) :
    Calls Try.prog 10 #[.pointer (some ⟨b, 0, none⟩), .string s, .int .i64 ep] W fun e W' => e = .returned (.int .i64 1) ∧ Below W.heap.size W W' := by
  have hbel : Below W.heap.size W (W.alloc (.cells #[.string s] 9)) := (Below.refl _ _).alloc (Nat.le_refl _) _
  have hb1 := blk_stay hbel hb
  have hmay := mayA_one (c := 1) hb1 (alloc_at W (.cells #[.string s] 9))
  rw [hs] at hmay
  have d1 : decide (ep < 0) = false := by simp; omega
  have d2 : decide (ep ≥ 4294967296) = true := by simpa using he
  clear hb hb1 he
  go_enter Try.func10, Try.ntmps10
  go_wp2_with fail
  refine hmay.mono ?_
  rintro e w' ⟨rfl, rfl⟩
  go_wp2_with fail
  go_ret
  exact ⟨rfl, hbel⟩
set_option maxRecDepth 100000 in
set_option maxHeartbeats 4000000 in
theorem join_none (b m0 m1 m2 clock : Nat) (es : Array MapEntry) (E : List (ByteArray × Nat)) (s : ByteArray) (who : ByteArray) (hs : (okN s && okN who) = true) (W : World) (hb : W.heap[b]? = some (svc m0 m1 m2)) (hm : W.heap[m1]? = some (.map es clock)) (hE : MapIs es E) (hl : look E s = none) :
    Calls Try.prog 11 #[.pointer (some ⟨b, 0, none⟩), .string s, .string who] W fun e W' => e = .returned (.int .i64 3) ∧ Below W.heap.size W W' := by
  have hbel : Below W.heap.size W (W.alloc (.cells #[.string s, .string who] 9)) := (Below.refl _ _).alloc (Nat.le_refl _) _
  have hb1 := blk_stay hbel hb
  have hm1 := blk_stay hbel hm
  have cb1 : (W.alloc (.cells #[.string s, .string who] 9)).cell? ⟨b, 1, none⟩ = some (.map (some m1)) := (cell_of_row _ b 1 _ _ _ hb1).trans rfl
  have hmay := mayA_two (c := 2) hb1 (alloc_at W (.cells #[.string s, .string who] 9))
  rw [hs] at hmay
  obtain ⟨y, hy, hv, hno⟩ := find_names s es.toList E 0 hE
  obtain rfl := hno hl
  have HY := Lib.hid hy
  clear hl hv hno hy hE hb hb1 hm
  go_enter Try.func11, Try.ntmps11
  go_wp2_with fail
  refine hmay.mono ?_
  rintro e w' ⟨rfl, rfl⟩
  go_wp2_with (first | (at_lookup; refine wpList_lookW rfl 54 9 62 _ _ rfl Try.underlying54 Try.underlying9 m1 s rfl rfl es clock hm1 (.pointer none) zero_g none HY.out (.pointer none) rfl ?_))
  go_ret
  exact ⟨rfl, hbel⟩
set_option maxRecDepth 100000 in
set_option maxHeartbeats 4000000 in
theorem epoch_none (b m0 m1 m2 clock : Nat) (es : Array MapEntry) (E : List (ByteArray × Nat)) (s : ByteArray)  (hs : okN s = true) (W : World) (hb : W.heap[b]? = some (svc m0 m1 m2)) (hm : W.heap[m1]? = some (.map es clock)) (hE : MapIs es E) (hl : look E s = none) :
    Calls Try.prog 20 #[.pointer (some ⟨b, 0, none⟩), .string s] W fun e W' => e = .returned (.tuple #[.int .i64 0, .int .i64 3]) ∧ Below W.heap.size W W' := by
  have hbel : Below W.heap.size W (W.alloc (.cells #[.string s] 9)) := (Below.refl _ _).alloc (Nat.le_refl _) _
  have hb1 := blk_stay hbel hb
  have hm1 := blk_stay hbel hm
  have cb1 : (W.alloc (.cells #[.string s] 9)).cell? ⟨b, 1, none⟩ = some (.map (some m1)) := (cell_of_row _ b 1 _ _ _ hb1).trans rfl
  have hmay := mayA_one (c := 1) hb1 (alloc_at W (.cells #[.string s] 9))
  rw [hs] at hmay
  obtain ⟨y, hy, hv, hno⟩ := find_names s es.toList E 0 hE
  obtain rfl := hno hl
  have HY := Lib.hid hy
  clear hl hv hno hy hE hb hb1 hm
  go_enter Try.func20, Try.ntmps20
  go_wp2_with fail
  refine hmay.mono ?_
  rintro e w' ⟨rfl, rfl⟩
  go_wp2_with (first | (at_lookup; refine wpList_lookW rfl 54 9 62 _ _ rfl Try.underlying54 Try.underlying9 m1 s rfl rfl es clock hm1 (.pointer none) zero_g none HY.out (.pointer none) rfl ?_))
  go_ret2
  exact ⟨rfl, hbel⟩
set_option maxRecDepth 100000 in
set_option maxHeartbeats 4000000 in
theorem log_none (b m0 m1 m2 clock : Nat) (es : Array MapEntry) (E : List (ByteArray × Nat)) (s : ByteArray)  (hs : okN s = true) (W : World) (hb : W.heap[b]? = some (svc m0 m1 m2)) (hm : W.heap[m1]? = some (.map es clock)) (hE : MapIs es E) (hl : look E s = none) :
    Calls Try.prog 15 #[.pointer (some ⟨b, 0, none⟩), .string s] W fun e W' => e = .returned (.slice none 0 0) ∧ Below W.heap.size W W' := by
  have hbel : Below W.heap.size W (W.alloc (.cells #[.string s] 9)) := (Below.refl _ _).alloc (Nat.le_refl _) _
  have hb1 := blk_stay hbel hb
  have hm1 := blk_stay hbel hm
  have cb1 : (W.alloc (.cells #[.string s] 9)).cell? ⟨b, 1, none⟩ = some (.map (some m1)) := (cell_of_row _ b 1 _ _ _ hb1).trans rfl
  have hmay := mayA_one (c := 1) hb1 (alloc_at W (.cells #[.string s] 9))
  rw [hs] at hmay
  obtain ⟨y, hy, hv, hno⟩ := find_names s es.toList E 0 hE
  obtain rfl := hno hl
  have HY := Lib.hid hy
  clear hl hv hno hy hE hb hb1 hm
  go_enter Try.func15, Try.ntmps15
  go_wp2_with fail
  refine hmay.mono ?_
  rintro e w' ⟨rfl, rfl⟩
  go_wp2_with (first | (at_lookup; refine wpList_lookW rfl 54 9 62 _ _ rfl Try.underlying54 Try.underlying9 m1 s rfl rfl es clock hm1 (.pointer none) zero_g none HY.out (.pointer none) rfl ?_))
  go_ret
  exact ⟨rfl, hbel⟩
end Go.Proofs.Ytiebggfpjkhlaaa
