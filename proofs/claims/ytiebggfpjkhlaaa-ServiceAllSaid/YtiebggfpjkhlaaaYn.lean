/- service.may and sized, whatever names and bytes there are. No condition. -/
import Derived.Test.YtiebggfpjkhlaaaYm
namespace Go.Proofs.Ytiebggfpjkhlaaa
open Go Go.RowKit
set_option linter.unusedSimpArgs false
attribute [local go_sem] map_neq_some map_neq_nil
/-- May a name be? -/
def okN (s : ByteArray) : Bool := decide (1 ≤ s.size ∧ s.size ≤ 255)
theorem pred_bad (s : ByteArray) (h : okN s = false) (w : World) : Calls Try.prog 38 #[.string s] w fun e w' => e = .returned (.bool true) ∧ w' = w := by
  have h : ¬ (1 ≤ s.size ∧ s.size ≤ 255) := by simpa [okN] using h
  by_cases h1 : s.size < 1
  · have h1 : decide ((s.size : Int) < 1) = true := by simp; omega
    go_enter Try.func38, Try.ntmps38
    go_wp2
    go_ret
    exact ⟨rfl, rfl⟩
  · have h1 : decide ((s.size : Int) < 1) = false := by simp; omega
    have h2 : decide ((s.size : Int) > 255) = true := by simp; omega
    go_enter Try.func38, Try.ntmps38
    go_wp2
    go_ret
    exact ⟨rfl, rfl⟩
set_option maxRecDepth 100000 in
set_option maxHeartbeats 4000000 in
theorem idxm_any (g n c : Nat) (nm : Nat → ByteArray) (w : World) (hn : n ≤ 100) (hc : ∀ j, j < n → w.cell? ⟨g, j, none⟩ = some (.string (nm j))) :
    Calls Try.prog 40 #[.slice (some ⟨g, 0, none⟩) n c, .func (.func 38) #[] #[]] w fun e w' => (∃ r : Int, e = .returned (.int .i64 r) ∧ (r ≥ 0 ↔ ∃ j, j < n ∧ okN (nm j) = false)) ∧ w' = w := by
  have HC := Lib.hid hc
  clear hc
  go_enter Try.func40, Try.ntmps40
  go_wp2_with fail
  go_loopw [8] (fun i wr => ∃ k : Nat, k ≤ n ∧ i = .int .i64 k ∧ (∀ t, t < k → okN (nm t) = true) ∧ wr = w) (fun i _ => (n - intOf i).toNat)
  case atStart => exact ⟨0, by omega, rfl, by omega, rfl⟩
  case round =>
    obtain ⟨k, hk, rfl, hlow, rfl⟩ := hrel
    have HL := Lib.hid hlow
    clear hlow
    by_cases hlt : k < n
    · have hcell := HC.out k hlt
      have hl : decide ((k : Int) < (n : Int)) = true := by simp; omega
      have hs : ∃ s, nm k = s := ⟨_, rfl⟩
      obtain ⟨s, hs⟩ := hs
      rw [hs] at hcell
      have HS := Lib.hid hs
      clear hs
      cases hok : okN s with
      | true =>
        have hpm := pred_may s (by simpa [okN] using hok) wr
        have HOK := Lib.hid hok
        clear hok
        go_wp2_with fail
        refine hpm.mono ?_
        rintro e w' ⟨rfl, hw⟩
        subst hw
        go_wp2_with fail
        go_roundw
        case rel => exact ⟨k + 1, by omega, rfl, fun t ht => by
          by_cases h : t = k
          · subst h; rw [HS.out]; exact HOK.out
          · exact HL.out t (by omega), by trivial⟩
        case measure => simp [intOf]; omega
      | false =>
        have hpm := pred_bad s hok wr
        have HOK := Lib.hid hok
        clear hok
        go_wp2_with fail
        refine hpm.mono ?_
        rintro e w' ⟨rfl, hw⟩
        subst hw
        go_wp2_with fail
        go_ret
        exact ⟨⟨k, rfl, by simp; exact ⟨k, hlt, by rw [HS.out]; exact HOK.out⟩⟩, rfl⟩
    · obtain rfl : k = n := by omega
      have hl : decide ((k : Int) < (k : Int)) = false := by simp
      go_wp2_with fail
      go_ret
      exact ⟨⟨-1, rfl, by simp; exact HL.out⟩, rfl⟩
set_option maxRecDepth 100000 in
set_option maxHeartbeats 4000000 in
theorem may_gen (b m g n c : Nat) (nm : Nat → ByteArray) (ok : Bool) (w : World) (hb : w.cell? ⟨b, 1, none⟩ = some (.map (some m))) (hn : n ≤ 100) (hc : ∀ j, j < n → w.cell? ⟨g, j, none⟩ = some (.string (nm j))) (ho : ok = false ↔ ∃ j, j < n ∧ okN (nm j) = false) :
    Calls Try.prog 22 #[.pointer (some ⟨b, 0, none⟩), .slice (some ⟨g, 0, none⟩) n c] w fun e w' => e = .returned (.bool ok) ∧ w' = w := by
  have h := idxm_any g n c nm w hn hc
  have h2 : Calls Try.prog 26 #[.slice (some ⟨g, 0, none⟩) n c, .func (.func 38) #[] #[]] w fun e w' => e = .returned (.bool (!ok)) ∧ w' = w := by
    have h : Calls Try.prog 40 #[.slice (some ⟨g, 0, none⟩) n c, .func (.func 38) #[] #[]] w fun e w' => (∃ r : Int, e = .returned (.int .i64 r) ∧ decide (r ≥ 0) = !ok) ∧ w' = w := by
      refine h.mono ?_
      rintro e w' ⟨⟨r, rfl, hr⟩, hw⟩
      refine ⟨⟨r, rfl, ?_⟩, hw⟩
      cases ok with
      | false => simpa using hr.2 (ho.1 rfl)
      | true =>
        rw [Bool.not_true, decide_eq_false_iff_not]
        intro h5
        exact absurd (ho.2 (hr.1 h5)) (by simp)
    clear hc ho
    go_enter Try.func26, Try.ntmps26
    go_wp2_with fail
    refine h.mono ?_
    rintro e w' ⟨⟨r, rfl, hr⟩, rfl⟩
    go_wp2_with fail
    go_ret
    exact ⟨by first | rfl | (rw [← hr]; simp), rfl⟩
  clear hc ho h
  go_enter Try.func22, Try.ntmps22
  go_wp2_with fail
  refine h2.mono ?_
  rintro e w' ⟨rfl, rfl⟩
  cases ok
  · go_wp2_with fail
    go_ret
    exact ⟨rfl, rfl⟩
  · go_wp2_with fail
    go_ret
    exact ⟨rfl, rfl⟩
theorem mayA_one {b m0 m1 m2 g c : Nat} {s : ByteArray} {w : World} (hb : w.heap[b]? = some (svc m0 m1 m2)) (hg : w.heap[g]? = some (.cells #[.string s] 9 (0, 0))) :
    Calls Try.prog 22 #[.pointer (some ⟨b, 0, none⟩), .slice (some ⟨g, 0, none⟩) 1 c] w fun e w' => e = .returned (.bool (okN s)) ∧ w' = w :=
  may_gen b m1 g 1 c (fun _ => s) (okN s) w ((cell_of_row w b 1 _ _ _ hb).trans rfl) (by omega) (fun j hj => by
    obtain rfl : j = 0 := by omega
    exact (cell_of_row w g 0 _ _ _ hg).trans rfl) ⟨fun h => ⟨0, by omega, h⟩, fun ⟨_, _, h⟩ => h⟩
theorem mayA_two {b m0 m1 m2 g c : Nat} {s t : ByteArray} {w : World} (hb : w.heap[b]? = some (svc m0 m1 m2)) (hg : w.heap[g]? = some (.cells #[.string s, .string t] 9 (0, 0))) :
    Calls Try.prog 22 #[.pointer (some ⟨b, 0, none⟩), .slice (some ⟨g, 0, none⟩) 2 c] w fun e w' => e = .returned (.bool (okN s && okN t)) ∧ w' = w :=
  may_gen b m1 g 2 c (fun j => if j = 0 then s else t) (okN s && okN t) w ((cell_of_row w b 1 _ _ _ hb).trans rfl) (by omega) (fun j hj => by
    rcases (show j = 0 ∨ j = 1 by omega) with rfl | rfl
    · exact (cell_of_row w g 0 _ _ _ hg).trans rfl
    · exact (cell_of_row w g 1 _ _ _ hg).trans rfl) (by
    constructor
    · intro h
      cases h1 : okN s with
      | false => exact ⟨0, by omega, by simpa using h1⟩
      | true => exact ⟨1, by omega, by simpa [h1] using h⟩
    · rintro ⟨j, hj, h⟩
      rcases (show j = 0 ∨ j = 1 by omega) with rfl | rfl
      · simp at h; simp [h]
      · simp at h; simp [h])
/-- May bytes be? -/
def okB (n : Nat) : Bool := decide (1 ≤ n ∧ n ≤ 65536)
theorem sized_all (q : Option Addr) (n c : Nat) (w : World) : Calls Try.prog 25 #[.slice q n c] w fun e w' => e = .returned (.bool (okB n)) ∧ w' = w := by
  by_cases h1 : 1 ≤ n
  · have d1 : decide ((n : Int) ≥ 1) = true := by simp; omega
    by_cases h2 : n ≤ 65536
    · have d2 : decide ((n : Int) ≤ 65536) = true := by simp; omega
      have hk : okB n = true := by simp [okB]; omega
      rw [hk]
      go_enter Try.func25, Try.ntmps25
      go_wp2
      go_ret
      exact ⟨rfl, rfl⟩
    · have d2 : decide ((n : Int) ≤ 65536) = false := by simp; omega
      have hk : okB n = false := by simp [okB]; omega
      rw [hk]
      go_enter Try.func25, Try.ntmps25
      go_wp2
      go_ret
      exact ⟨rfl, rfl⟩
  · have d1 : decide ((n : Int) ≥ 1) = false := by simp; omega
    have hk : okB n = false := by simp [okB]; omega
    rw [hk]
    go_enter Try.func25, Try.ntmps25
    go_wp2
    go_ret
    exact ⟨rfl, rfl⟩
end Go.Proofs.Ytiebggfpjkhlaaa
