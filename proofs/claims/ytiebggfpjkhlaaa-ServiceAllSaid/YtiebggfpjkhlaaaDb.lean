/- slices.Delete of one element of a row. No condition. -/
import Derived.Test.YtiebggfpjkhlaaaDa
namespace Go.Proofs.Ytiebggfpjkhlaaa
open Go Go.RowKit
set_option linter.unusedSimpArgs false
theorem zeroW_ (w : World) : (zeroValue 38).run Try.prog w = .ok (.agg #[.string { data := #[] }, .int .i64 0, .int .i64 0, .int .i64 0, .slice none 0 0]) w := by kernel_rfl
theorem zeroP_ (w : World) : (zeroValue 29).run Try.prog w = .ok (.slice none 0 0) w := by kernel_rfl
/-- What 'take one out' leaves. -/
def DelR (B e sz g cap n k : Nat) (xs : List Value) (W W' : World) : Prop :=
  W'.ownsRow B e sz (.slice (some ⟨g, 0, none⟩) (n - 1) cap) (n - 1) (xs.take (k * sz) ++ xs.drop ((k + 1) * sz)) ∧ Chg [g] W W'
set_option maxRecDepth 100000 in
set_option maxHeartbeats 4000000 in
theorem delW (B g cap n k j : Nat) (xs : List Value) (W : World) (hk : k < n) (hj : j = k + 1) (h1 : ∀ u ∈ xs, u.oneCell' = true) (hown : W.ownsRow B 38 5 (.slice (some ⟨g, 0, none⟩) n cap) n xs) :
    Calls Try.prog 41 #[.slice (some ⟨g, 0, none⟩) n cap, .int .i64 k, .int .i64 j] W fun e W' => e = .returned (.slice (some ⟨g, 0, none⟩) (n - 1) cap) ∧ DelR B 38 5 g cap n k xs W W' := by
  obtain ⟨i0, hi0, hz0, hz1, hz2⟩ := info_of infoW
  have hlen : xs.length = n * 5 := hown.1
  obtain ⟨cur, hB, hg, hnc, hcap, hcs, htk⟩ : ∃ cur, B ≤ g ∧ W.heap[g]? = some (.cells cur 38 (0, 0)) ∧ n ≤ cap ∧ cap ≤ maxLen ∧ cur.size = cap * 5 ∧ cur.toList.take (n * 5) = xs := by
    rcases hown.2 with ⟨h5, _⟩ | ⟨g', cap', cur, h5, q1, q2, q3, q4, q5, q6⟩
    · cases h5
    · cases h5
      exact ⟨cur, q1, q2, q3, q4, q5, q6⟩
  have hml : maxLen ≤ 9223372036854775807 := by unfold maxLen; omega
  obtain ⟨news, hnews⟩ : ∃ news, news = xs.drop (j * 5) := ⟨_, rfl⟩
  have hnl : news.length = (n - j) * 5 := by rw [hnews, List.length_drop, hlen]; omega
  have hsrc0 : ∀ t u, news[t]? = some u → cur[j * 5 + t]? = some u := by
    intro t u hu
    rw [hnews, List.getElem?_drop, ← htk, List.getElem?_take] at hu
    split at hu
    · rwa [Array.getElem?_toList] at hu
    · cases hu
  obtain ⟨A, hA, hsrc⟩ : ∃ A : Addr, (if cap = j then (some ⟨g, 0, none⟩ : Option Addr) else some ⟨g, j * 5, none⟩) = some A ∧ Hid (∀ t u, news[t]? = some u → W.drew.cell? (A.add t) = some u) := by
    by_cases h : cap = j
    · refine ⟨⟨g, 0, none⟩, by simp [h], Lib.hid fun t u hu => ?_⟩
      have h0 : news.length = 0 := by rw [hnl]; omega
      rw [List.length_eq_zero_iff.1 h0] at hu
      simp at hu
    · refine ⟨⟨g, j * 5, none⟩, by simp [h], Lib.hid fun t u hu => ?_⟩
      rw [addr_add]
      exact (cell_at hg _).trans (hsrc0 t u hu)
  have s1 : Hid (news.length = (n - j) * 5) := Lib.hid hnl
  have s2 : Hid (∀ u ∈ news, u.oneCell' = true) := Lib.hid fun u hu => h1 u (by rw [hnews] at hu; exact List.mem_of_mem_drop hu)
  have s3 : Hid (∀ t, t < news.length → (W.drew.cell? ⟨g, 0 + k * 5 + t, none⟩).isSome = true ∧ W.drew.frozen? ⟨g, 0 + k * 5 + t, none⟩ = false) := Lib.hid fun t ht => by
    refine ⟨?_, frozen_at hg _⟩
    show (W.cell? _).isSome = true
    rw [cell_at hg, Array.getElem?_eq_getElem (by omega)]
    rfl
  obtain ⟨W1, hW1⟩ : ∃ W1, W1 = W.drew.setCells g (0 + k * 5) news := ⟨_, rfl⟩
  have hg1 : W1.heap[g]? = some (.cells (layA cur (k * 5) news) 38 (0, 0)) := by
    rw [hW1, Nat.zero_add]
    exact setCells_here g _ news _ W.drew cur hg
  have hS1 : Chg [g] W W1 := by
    rw [hW1]
    exact Chg.setCells (by simp) news _ _ (Chg.refl _ _).drew
  have hls : (layA cur (k * 5) news).size = cap * 5 := by rw [layA_size, hcs]
  have hkn : k + (n - j) = n - 1 := by omega
  have hk1 : n - (k + (n - j)) = 1 := by omega
  have hcl : ∀ ty, (Builtin.clear_ #[86] ty #[.slice (some ⟨g, (k + (n - j)) * 5, none⟩) (n - (k + (n - j))) (cap - (k + (n - j)))]).run Try.prog W1 = .ok (.tuple #[]) (W1.setCells g ((n - 1) * 5) [.string { data := #[] }, .int .i64 0, .int .i64 0, .int .i64 0, .slice none 0 0]) := fun ty => by
    rw [hk1, hkn]
    have h := run_clear_one W1 _ _ ty (.agg #[.string { data := #[] }, .int .i64 0, .int .i64 0, .int .i64 0, .slice none 0 0]) Try.underlying86 zeroW_ (by simp [Value.cells, Value.oneCell']) g ((n - 1) * 5) (cap - (n - 1)) (fun j hj => by
      have hj : j < 5 := hj
      rw [cell_at hg1, Array.getElem?_eq_getElem (by omega)]
      rfl) (fun j hj => frozen_at hg1 _)
    exact h
  have hend : DelR B 38 5 g cap n k xs W (W1.setCells g ((n - 1) * 5) [.string { data := #[] }, .int .i64 0, .int .i64 0, .int .i64 0, .slice none 0 0]) := by
    refine ⟨⟨?_, .inr ⟨g, cap, layA (layA cur (k * 5) news) ((n - 1) * 5) [.string { data := #[] }, .int .i64 0, .int .i64 0, .int .i64 0, .slice none 0 0], rfl, hB, setCells_here g _ _ _ W1 _ hg1, by omega, hcap, by rw [layA_size, hls], ?_⟩⟩, Chg.setCells (by simp) _ _ _ hS1⟩
    · rw [List.length_append, List.length_take, List.length_drop, hlen]; omega
    · rw [hnews, hj]
      exact del_cells hk hnc hcs htk rfl
  have HEND := Lib.hid hend
  have HW := Lib.hid hW1
  have HC := Lib.hid hcl
  have d1 : decide ((k : Int) = (j : Int)) = false := by simp; omega
  have hic : k ≤ cap := by omega
  have hjc : j ≤ cap := by omega
  have hjn : j ≤ n := by omega
  have hq1 : k + (n - j) ≤ n := by omega
  have hq2 : k + (n - j) ≤ cap := by omega
  have hq3 : ¬ cap = k + (n - j) := by omega
  have hkj : k ≤ j := by omega
  have hnk : ¬ n = k := by omega
  have hne1 : ¬ (k : Int) = (j : Int) := by omega
  have HJ := Lib.hid hj
  have HKN := Lib.hid hkn
  clear hj hkn hk1 hend hW1 hcl hsrc0 hg hg1 hS1 hls hcs htk hnews hown h1
  go_enter Try.func41, Try.ntmps41
  go_wp2_with fail
  go_region_law (refine step_append_room rfl (.tmp 22) (.tmp 25) 86 rfl 38 i0 5 Try.underlying86 hi0 hz1 g 0 k cap (by simp [Act.eval, Act.put]) A (n - j) (cap - j) news (by simp [Act.eval, Act.put]) s1.out hsrc.out s2.out hq2 s3.out ?_; rw [← HW.out])
  have hC := HC.out
  clear HC
  go_wp2_with fail
  go_ret
  exact ⟨by first | rfl | (rw [HKN.out]; rfl), HEND.out⟩
set_option maxRecDepth 100000 in
set_option maxHeartbeats 4000000 in
theorem delP (B g cap n k j : Nat) (xs : List Value) (W : World) (hk : k < n) (hj : j = k + 1) (h1 : ∀ u ∈ xs, u.oneCell' = true) (hown : W.ownsRow B 29 1 (.slice (some ⟨g, 0, none⟩) n cap) n xs) :
    Calls Try.prog 42 #[.slice (some ⟨g, 0, none⟩) n cap, .int .i64 k, .int .i64 j] W fun e W' => e = .returned (.slice (some ⟨g, 0, none⟩) (n - 1) cap) ∧ DelR B 29 1 g cap n k xs W W' := by
  obtain ⟨i0, hi0, hz0, hz1, hz2⟩ := info_of infoSl
  have hlen : xs.length = n * 1 := hown.1
  obtain ⟨cur, hB, hg, hnc, hcap, hcs, htk⟩ : ∃ cur, B ≤ g ∧ W.heap[g]? = some (.cells cur 29 (0, 0)) ∧ n ≤ cap ∧ cap ≤ maxLen ∧ cur.size = cap * 1 ∧ cur.toList.take (n * 1) = xs := by
    rcases hown.2 with ⟨h5, _⟩ | ⟨g', cap', cur, h5, q1, q2, q3, q4, q5, q6⟩
    · cases h5
    · cases h5
      exact ⟨cur, q1, q2, q3, q4, q5, q6⟩
  have hml : maxLen ≤ 9223372036854775807 := by unfold maxLen; omega
  obtain ⟨news, hnews⟩ : ∃ news, news = xs.drop (j * 1) := ⟨_, rfl⟩
  have hnl : news.length = (n - j) * 1 := by rw [hnews, List.length_drop, hlen]; omega
  have hsrc0 : ∀ t u, news[t]? = some u → cur[j * 1 + t]? = some u := by
    intro t u hu
    rw [hnews, List.getElem?_drop, ← htk, List.getElem?_take] at hu
    split at hu
    · rwa [Array.getElem?_toList] at hu
    · cases hu
  obtain ⟨A, hA, hsrc⟩ : ∃ A : Addr, (if cap = j then (some ⟨g, 0, none⟩ : Option Addr) else some ⟨g, j, none⟩) = some A ∧ Hid (∀ t u, news[t]? = some u → W.drew.cell? (A.add t) = some u) := by
    by_cases h : cap = j
    · refine ⟨⟨g, 0, none⟩, by simp [h], Lib.hid fun t u hu => ?_⟩
      have h0 : news.length = 0 := by rw [hnl]; omega
      rw [List.length_eq_zero_iff.1 h0] at hu
      simp at hu
    · refine ⟨⟨g, j * 1, none⟩, by simp [h], Lib.hid fun t u hu => ?_⟩
      rw [addr_add]
      exact (cell_at hg _).trans (hsrc0 t u hu)
  have s1 : Hid (news.length = (n - j) * 1) := Lib.hid hnl
  have s2 : Hid (∀ u ∈ news, u.oneCell' = true) := Lib.hid fun u hu => h1 u (by rw [hnews] at hu; exact List.mem_of_mem_drop hu)
  have s3 : Hid (∀ t, t < news.length → (W.drew.cell? ⟨g, 0 + k * 1 + t, none⟩).isSome = true ∧ W.drew.frozen? ⟨g, 0 + k * 1 + t, none⟩ = false) := Lib.hid fun t ht => by
    refine ⟨?_, frozen_at hg _⟩
    show (W.cell? _).isSome = true
    rw [cell_at hg, Array.getElem?_eq_getElem (by omega)]
    rfl
  obtain ⟨W1, hW1⟩ : ∃ W1, W1 = W.drew.setCells g (0 + k * 1) news := ⟨_, rfl⟩
  have hg1 : W1.heap[g]? = some (.cells (layA cur (k * 1) news) 29 (0, 0)) := by
    rw [hW1, Nat.zero_add]
    exact setCells_here g _ news _ W.drew cur hg
  have hS1 : Chg [g] W W1 := by
    rw [hW1]
    exact Chg.setCells (by simp) news _ _ (Chg.refl _ _).drew
  have hls : (layA cur (k * 1) news).size = cap * 1 := by rw [layA_size, hcs]
  have hkn : k + (n - j) = n - 1 := by omega
  have hk1 : n - (k + (n - j)) = 1 := by omega
  have hcl : ∀ ty, (Builtin.clear_ #[77] ty #[.slice (some ⟨g, k + (n - j), none⟩) (n - (k + (n - j))) (cap - (k + (n - j)))]).run Try.prog W1 = .ok (.tuple #[]) (W1.setCells g (n - 1) [.slice none 0 0]) := fun ty => by
    rw [hk1, hkn]
    have h := run_clear_one W1 _ _ ty (.slice none 0 0) Try.underlying77 zeroP_ (by simp [Value.cells, Value.oneCell']) g ((n - 1) * 1) (cap - (n - 1)) (fun j hj => by
      have hj : j < 1 := hj
      rw [cell_at hg1, Array.getElem?_eq_getElem (by omega)]
      rfl) (fun j hj => frozen_at hg1 _)
    rw [Nat.mul_one] at h
    exact h
  have hend : DelR B 29 1 g cap n k xs W (W1.setCells g (n - 1) [.slice none 0 0]) := by
    refine ⟨⟨?_, .inr ⟨g, cap, layA (layA cur (k * 1) news) (n - 1) [.slice none 0 0], rfl, hB, setCells_here g _ _ _ W1 _ hg1, by omega, hcap, by rw [layA_size, hls], ?_⟩⟩, Chg.setCells (by simp) _ _ _ hS1⟩
    · rw [List.length_append, List.length_take, List.length_drop, hlen]; omega
    · rw [hnews, hj]
      have h := del_cells hk hnc hcs htk (zs := [.slice none 0 0]) rfl
      simpa only [Nat.mul_one] using h
  have HEND := Lib.hid hend
  have HW := Lib.hid hW1
  have HC := Lib.hid hcl
  have d1 : decide ((k : Int) = (j : Int)) = false := by simp; omega
  have hic : k ≤ cap := by omega
  have hjc : j ≤ cap := by omega
  have hjn : j ≤ n := by omega
  have hq1 : k + (n - j) ≤ n := by omega
  have hq2 : k + (n - j) ≤ cap := by omega
  have hq3 : ¬ cap = k + (n - j) := by omega
  have hkj : k ≤ j := by omega
  have hnk : ¬ n = k := by omega
  have hne1 : ¬ (k : Int) = (j : Int) := by omega
  have HJ := Lib.hid hj
  have HKN := Lib.hid hkn
  clear hj hkn hk1 hend hW1 hcl hsrc0 hg hg1 hS1 hls hcs htk hnews hown h1
  go_enter Try.func42, Try.ntmps42
  go_wp2_with fail
  go_region_law (refine step_append_room rfl (.tmp 22) (.tmp 25) 77 rfl 29 i0 1 Try.underlying77 hi0 hz1 g 0 k cap (by simp [Act.eval, Act.put]) A (n - j) (cap - j) news (by simp [Act.eval, Act.put]) s1.out hsrc.out s2.out hq2 s3.out ?_; rw [← HW.out])
  have hC := HC.out
  clear HC
  go_wp2_with fail
  go_ret
  exact ⟨by first | rfl | (rw [HKN.out]; rfl), HEND.out⟩
end Go.Proofs.Ytiebggfpjkhlaaa
