/- The walk of ServiceFull. No condition. -/
import Derived.Test.YtiebggfpjkhlaaaDp
namespace Go.Proofs.Ytiebggfpjkhlaaa
open Go Go.RowKit
set_option linter.unusedSimpArgs false
theorem Inv.some {w W : World} {b : Nat} {P : Abs → Prop} (h : Inv w b P W) : ∃ A, P A := by
  obtain ⟨_, _, _, A, _, _, _, h3⟩ := h
  exact ⟨A, h3⟩
/-- "x" -/
def sX : ByteArray := { data := #[120] }
def m256 (i : Nat) : Nat := min i 256
theorem m256_lt {i : Nat} (h : i < 256) : m256 i = i := Nat.min_eq_left (by omega)
theorem m256_ge {i : Nat} (h : 256 ≤ i) : m256 i = 256 := Nat.min_eq_right h
theorem m256_or (i : Nat) : (i < 256 ∧ m256 i = i) ∨ (256 ≤ i ∧ m256 i = 256) := by
  by_cases h : i < 256
  · exact .inl ⟨h, m256_lt h⟩
  · exact .inr ⟨by omega, m256_ge (by omega)⟩
def A0 : Abs := ⟨fun _ => [], fun _ => none, fun _ => []⟩
def F1 (subs : List ByteArray) (A : Abs) : Prop := A.gq sG = some ⟨0, [], subs⟩ ∧ A.wq = (fun _ => []) ∧ A.pq = fun _ => []
set_option maxRecDepth 100000 in
theorem full_open {r : Int} {A' : Abs} (h : ∃ A, A = A0 ∧ OpnA A sG 0 r A') : r = 0 ∧ F1 [] A' := by
  obtain ⟨A, rfl, h⟩ := h
  have hok : okN sG = true ∧ (0 : Int) ≤ 0 ∧ (0 : Int) < 4294967296 := ⟨by decide, by omega, by omega⟩
  rcases h with ⟨h, _⟩ | ⟨_, h, _⟩ | ⟨_, h, rfl, rfl⟩
  · exact absurd hok h
  · exact absurd rfl h
  · exact ⟨rfl, by simp [setQ], rfl, rfl⟩
set_option maxRecDepth 100000 in
theorem full_join {r : Int} {A' : Abs} (h : ∃ A, F1 [] A ∧ JoiA A sG sA r A') : r = 0 ∧ F1 [sA] A' := by
  obtain ⟨A, ⟨h1, h2, h3⟩, h⟩ := h
  have hok : (okN sG && okN sA) = true := by decide
  rcases h with ⟨h, _⟩ | ⟨_, h, _⟩ | ⟨_, g, hg, h⟩
  · rw [hok] at h; cases h
  · rw [h1] at h; cases h
  · rw [h1] at hg
    cases hg
    dsimp only at h
    rcases h with ⟨h, _⟩ | ⟨_, h, _⟩ | ⟨_, _, rfl, rfl⟩
    · cases h
    · simp at h
    · exact ⟨rfl, by simp [setQ], h2, h3⟩
def F2 (A : Abs) : Prop := ∃ subs, sA ∈ subs ∧ subs.Nodup ∧ F1 subs A
set_option maxRecDepth 100000 in
theorem full_joins {who : ByteArray} {r : Int} {A' : Abs} (h : ∃ A, F2 A ∧ JoiA A sG who r A') : F2 A' := by
  obtain ⟨A, ⟨subs, ha, hn, h1, h2, h3⟩, h⟩ := h
  rcases h with ⟨_, _, rfl⟩ | ⟨_, _, _, rfl⟩ | ⟨_, g, hg, h⟩
  · exact ⟨subs, ha, hn, h1, h2, h3⟩
  · exact ⟨subs, ha, hn, h1, h2, h3⟩
  · rw [h1] at hg
    cases hg
    dsimp only at h
    rcases h with ⟨_, _, rfl⟩ | ⟨_, _, _, rfl⟩ | ⟨hw, _, _, rfl⟩
    · exact ⟨subs, ha, hn, h1, h2, h3⟩
    · exact ⟨subs, ha, hn, h1, h2, h3⟩
    · refine ⟨subs ++ [who], by simp [ha], ?_, by simp [setQ], h2, h3⟩
      rw [List.nodup_append]
      refine ⟨hn, by simp, fun a ha b hb => ?_⟩
      have : b = who := by simpa using hb
      rintro rfl
      exact hw (by rw [← this]; exact ha)
/-- After i rounds; whether x was offered its package of this round is told by j. -/
def F3 (i j : Nat) (A : Abs) : Prop := ∃ subs log, sA ∈ subs ∧ subs.Nodup ∧ A.gq sG = some ⟨0, log, subs⟩ ∧ log.length = m256 i ∧ (∀ t ∈ subs, (A.wq t).length = m256 i) ∧ (A.pq sX).length = m256 j ∧ (0 < j → ∃ p rest, A.pq sX = p :: rest ∧ p.l = [0] ∧ p.n = 1)
set_option maxRecDepth 100000 in
theorem full_start {A : Abs} (h : F2 A) : F3 0 0 A := by
  obtain ⟨subs, ha, hn, h1, h2, h3⟩ := h
  exact ⟨subs, [], ha, hn, h1, rfl, fun t _ => by rw [h2]; rfl, by rw [h3]; rfl, fun h => by omega⟩
set_option maxRecDepth 100000 in
theorem full_send {i k : Nat} {r : Int} {A' : Abs} (h : ∃ A, F3 i i A ∧ SenA A sG 0 1 1 [1] k r A') : r = (if i < 256 then 0 else 64) ∧ F3 (i + 1) i A' := by
  obtain ⟨A, ⟨subs, log, ha, hn, h1, h2, h3, h4, h5⟩, h⟩ := h
  have H5 := Lib.hid h5
  clear h5
  have m1 := m256_or i
  have m2 := m256_or (i + 1)
  have hok : okS sG 0 1 1 := ⟨by decide, by omega, by omega, by decide⟩
  rcases h with ⟨h, _⟩ | ⟨_, h, _⟩ | ⟨_, g, hg, h⟩
  · exact absurd hok h
  · rw [h1] at h; cases h
  · rw [h1] at hg
    cases hg
    dsimp only at h
    rcases h with ⟨h, _⟩ | ⟨_, ⟨h, _⟩, _⟩ | ⟨_, _, hf, _, rfl, rfl⟩ | ⟨_, _, hf, _, rfl, en, _, _, _, _, rfl⟩
    · exact absurd rfl h
    · omega
    · have hge : 256 ≤ i := by
        unfold fullA at hf
        rw [List.any_eq_true] at hf
        obtain ⟨t, ht, hf⟩ := hf
        have := h3 t ht
        have : 256 ≤ (A'.wq t).length := by simpa using hf
        omega
      rw [if_neg (by omega)]
      exact ⟨rfl, subs, log, ha, hn, h1, by omega, fun t ht => by rw [h3 t ht]; omega, h4, H5.out⟩
    · have hlt : i < 256 := by
        unfold fullA at hf
        rw [List.any_eq_false] at hf
        have := hf sA ha
        have h6 := h3 sA ha
        have : ¬ 256 ≤ (A.wq sA).length := by simpa using this
        omega
      rw [if_pos hlt]
      refine ⟨rfl, subs, log ++ [en], ha, hn, by simp [setQ], by rw [List.length_append]; simp only [List.length_cons, List.length_nil]; omega, fun t ht => ?_, h4, H5.out⟩
      show (subs.foldl (tellQ ⟨sG, log.length, en⟩) A.wq t).length = _
      rw [fold_in _ _ _ _ ht hn, List.length_append, h3 t ht]
      simp only [List.length_cons, List.length_nil]
      omega
set_option maxRecDepth 100000 in
theorem full_offer {i : Nat} {x : Int} {r : Int} {A' : Abs} (hx : i = 0 → x = 0) (h : ∃ A, F3 (i + 1) i A ∧ OffA A sX 1 [x] r A') : r = (if i < 256 then 0 else 64) ∧ F3 (i + 1) (i + 1) A' := by
  obtain ⟨A, ⟨subs, log, ha, hn, h1, h2, h3, h4, h5⟩, h⟩ := h
  have H5 := Lib.hid h5
  clear h5
  have m1 := m256_or i
  have m2 := m256_or (i + 1)
  have hok : (okN sX && okB 1) = true := by decide
  rcases h with ⟨h, _⟩ | ⟨_, h, rfl, rfl⟩ | ⟨_, h, rfl, p, hp1, hp2, rfl⟩
  · rw [hok] at h; cases h
  · rw [if_neg (by omega)]
    exact ⟨rfl, subs, log, ha, hn, h1, h2, h3, by omega, fun _ => H5.out (by omega)⟩
  · rw [if_pos (by omega)]
    refine ⟨rfl, subs, log, ha, hn, h1, h2, h3, ?_, fun _ => ?_⟩
    · simp only [setQ_same, List.length_append, List.length_cons, List.length_nil]
      omega
    · simp only [setQ_same]
      by_cases hi : 0 < i
      · obtain ⟨p', rest, hq, hl, hn'⟩ := H5.out hi
        exact ⟨p', rest ++ [p], by rw [hq]; rfl, hl, hn'⟩
      · have h0 : A.pq sX = [] := List.eq_nil_of_length_eq_zero (by omega)
        exact ⟨p, [], by rw [h0]; rfl, by rw [hp1, hx (by omega)], hp2⟩
set_option maxRecDepth 100000 in
theorem full_log {i : Nat} {A : Abs} (h : F3 i i A) : (logA A sG).length = m256 i := by
  obtain ⟨subs, log, ha, hn, h1, h2, _⟩ := h
  have : logA A sG = log := by
    unfold logA
    rw [if_pos (by decide), h1]
  rw [this, h2]
set_option maxRecDepth 100000 in
theorem full_pick {i : Nat} (hi : 0 < i) {v : Value} {r : Int} {A' : Abs} {W' : World} (h : ∃ A, F3 i i A ∧ PicA A sA 0 v r A' W') : r = 0 ∧ (∃ y0 y1 y2 y3 y4, v = .agg #[y0, y1, y2, y3, y4] ∧ ∀ u ∈ [y0, y1, y2, y3, y4], u.oneCell' = true) ∧ A'.pq sX ≠ [] ∧ ∃ p rest, A'.pq sX = p :: rest ∧ p.l = [0] ∧ p.n = 1 := by
  obtain ⟨A, ⟨subs, log, ha, hn, h1, h2, h3, h4, h5⟩, h⟩ := h
  have H5 := Lib.hid h5
  clear h5
  have m1 := m256_or i
  have h6 := h3 sA ha
  obtain ⟨p, rest, hq, hl⟩ := H5.out hi
  rcases h with ⟨h, _⟩ | ⟨_, h, _⟩ | ⟨_, j, wt, q', c', _, _, rfl, _, rfl, rfl⟩
  · exact absurd h (by decide)
  · omega
  · exact ⟨rfl, ⟨_, _, _, _, _, rfl, by simp [Value.oneCell']⟩, by show A.pq sX ≠ []; rw [hq]; simp, p, rest, hq, hl⟩
set_option maxRecDepth 100000 in
theorem full_take {v : Value} {r : Int} {A' : Abs} {W' : World} (h : ∃ A, (∃ p rest, A.pq sX = p :: rest ∧ p.l = [0] ∧ p.n = 1) ∧ TakA A sX v r A' ∧ ∀ p ∈ A.pq sX, p.Ok W') : r = 0 ∧ ∃ q c, v = .slice (some ⟨q, 0, none⟩) 1 c ∧ W'.cell? ⟨q, 0, none⟩ = some (.int .u8 0) := by
  obtain ⟨A, ⟨p, rest, hq, hl, hn⟩, h, hok⟩ := h
  rcases h with ⟨h, _⟩ | ⟨_, h, _⟩ | ⟨_, p', rest', h, rfl, rfl, rfl⟩
  · exact absurd h (by decide)
  · rw [hq] at h; cases h
  · rw [hq] at h
    cases h
    obtain ⟨q, n, c, l⟩ := p
    have hl : l = [0] := hl
    have hn : n = 1 := hn
    subst hl hn
    have hb := (hok ⟨q, 1, c, [0]⟩ (by rw [hq]; simp))
    have hbs : Bs W' (some ⟨q, 0, none⟩) 1 [0] := Body.bs hb
    obtain ⟨B, off, e, hc⟩ := hbs.2.2 (by omega)
    cases e
    exact ⟨rfl, q, c, rfl, hc 0 (by omega)⟩
theorem wrap_mod (x m : Int) (hm : 0 < m) (h2 : m ≤ 1000) : ∃ N : Nat, (wrap64 (x.tmod m + m)).tmod m = N ∧ (N : Int) < m := by
  have h3 := Int.tmod_lt_of_pos x hm
  have h4 := Int.lt_tmod_of_pos x hm
  have h5 : wrap64 (x.tmod m + m) = x.tmod m + m := by unfold wrap64; omega
  rw [h5, Int.tmod_eq_emod_of_nonneg (by omega)]
  have h6 := Int.emod_nonneg (x.tmod m + m) (by omega : m ≠ 0)
  have h7 := Int.emod_lt_of_pos (x.tmod m + m) hm
  exact ⟨((x.tmod m + m) % m).toNat, by omega, by omega⟩
theorem conv_str {w : World} {p : Option Addr} {n cap : Nat} {l : List Int} (h : Bs w p n l) : (convert 29 9 (.slice p n cap)).run Try.prog w = .ok (.string (strOfNums l)) w := h.string _ 5 _ cap Try.underlying29 Try.underlying5 Try.underlying9
set_option maxRecDepth 100000 in
set_option maxHeartbeats 8000000 in
theorem serviceFull_walk (x0 x1 : Int) (w : World) (hb0 : -9223372036854775808 ≤ x0 ∧ x0 ≤ 9223372036854775807) (hb1 : -9223372036854775808 ≤ x1 ∧ x1 ≤ 9223372036854775807) :
    Calls Try.prog 3 #[.int .i64 x0, .int .i64 x1] w fun e w' => e = .returned (.bool true) ∧ Below w.heap.size w w' := by
  obtain ⟨N, hN, hN2⟩ := wrap_mod x0 300 (by omega) (by omega)
  obtain ⟨K, hK, hK2⟩ := wrap_mod x1 3 (by omega) (by omega)
  have _ := hb0
  have _ := hb1
  clear hb0 hb1
  go_enter Try.func3, Try.ntmps3
  go_wp2_with fail
  refine (new_I _).mono ?_
  rintro e w1 ⟨b, rfl, hi⟩
  go_wp2_with fail
  refine (open_I hi sG 0).mono ?_
  rintro e w2 ⟨r, rfl, hi2⟩
  obtain ⟨A', hA'⟩ := hi2.some
  obtain rfl := (full_open hA').1
  have hi2 := hi2.imp (fun A h => (full_open h).2)
  clear hA' A' hi
  go_wp2_with (go_at_call 9; refine (num22_any _ _).mono ?_; rintro e w' ⟨rfl, rfl⟩)
  refine (join_I hi2 sG sA).mono ?_
  rintro e w3 ⟨r, rfl, hi3⟩
  obtain ⟨A', hA'⟩ := hi3.some
  obtain rfl := (full_join hA').1
  have hi3 := hi3.imp (fun A h => (full_join h).2)
  clear hA' A' hi2
  go_wp2_with (go_at_call 9; refine (num22_any _ _).mono ?_; rintro e w' ⟨rfl, rfl⟩)
  refine (knows22_yes _).mono ?_
  rintro e w4 ⟨rfl, hb4⟩
  have hi4 := hi3.keep hb4
  clear hi3 hb4
  go_wp2_with fail
  clear hN hK
  go_loopw [6] (fun s6 wr => ∃ i : Nat, i ≤ K ∧ s6 = .int .i64 i ∧ Hid (Inv w b F2 wr)) (fun s6 _ => (K - intOf s6).toNat)
  case atStart => exact ⟨0, by omega, rfl, Lib.hid (hi4.imp fun A h => ⟨[sA], by simp, by simp, h⟩)⟩
  case round =>
    obtain ⟨i, hi, rfl, HI⟩ := hrel
    clear hi4
    by_cases hlt : i < K
    · have hl : decide ((i : Int) < (K : Int)) = true := by simp; omega
      have hi01 : i = 0 ∨ i = 1 := by omega
      rcases hi01 with rfl | rfl
      · have hbk : Below wr.heap.size wr (wr.alloc (.cells #[.int .u8 98] 5)) := (Below.refl _ _).alloc (Nat.le_refl _) _
        have cv := conv_str (cap := 1) (bs_one (alloc_at wr (.cells #[.int .u8 98] 5)) (by omega))
        have HJ := Lib.hid (HI.out.keep hbk)
        clear hbk
        go_wp2_with fail
        refine (join_I HJ.out sG (strOfNums [98])).mono ?_
        rintro e w5 ⟨r, rfl, hi5⟩
        have HI5 := Lib.hid (hi5.imp (fun A h => full_joins h))
        clear hi5 HJ cv
        go_wp2_with fail
        go_roundw
        case rel => exact ⟨1, by omega, rfl, HI5⟩
        case measure => simp [intOf]; omega
      · have hbk : Below wr.heap.size wr (wr.alloc (.cells #[.int .u8 99] 5)) := (Below.refl _ _).alloc (Nat.le_refl _) _
        have cv := conv_str (cap := 1) (bs_one (alloc_at wr (.cells #[.int .u8 99] 5)) (by omega))
        have HJ := Lib.hid (HI.out.keep hbk)
        clear hbk
        go_wp2_with fail
        refine (join_I HJ.out sG (strOfNums [99])).mono ?_
        rintro e w5 ⟨r, rfl, hi5⟩
        have HI5 := Lib.hid (hi5.imp (fun A h => full_joins h))
        clear hi5 HJ cv
        go_wp2_with fail
        go_roundw
        case rel => exact ⟨2, by omega, rfl, HI5⟩
        case measure => simp [intOf]; omega
    · obtain rfl : i = K := by omega
      have hl : decide ((i : Int) < (i : Int)) = false := by simp
      go_wp2_with fail
      go_loopw [7] (fun s7 wr => ∃ j : Nat, j ≤ N ∧ s7 = .int .i64 j ∧ Hid (Inv w b (F3 j j) wr)) (fun s7 _ => (N - intOf s7).toNat)
      case atStart => exact ⟨0, by omega, rfl, Lib.hid (HI.out.imp fun A h => full_start h)⟩
      case round =>
        obtain ⟨j, hj, rfl, HJ⟩ := hrel
        clear HI hl
        by_cases hjn : j < N
        · have hl : decide ((j : Int) < (N : Int)) = true := by simp; omega
          have hbk : Below wr.heap.size wr (wr.alloc (.cells #[.int .u8 1] 5)) := (Below.refl _ _).alloc (Nat.le_refl _) _
          have hbs := bs_one (alloc_at wr (.cells #[.int .u8 1] 5)) (by omega : (0:Int) ≤ 1 ∧ (1:Int) < 256)
          have hsend := send_I (HJ.out.keep hbk) sG 0 1 _ 1 1 _ hbs (fun A g h hg => by
            obtain ⟨subs, log, _, _, h1, h2, _⟩ := h
            rw [h1] at hg
            cases hg
            have := m256_or j
            dsimp only
            omega)
          clear hbk hbs
          go_wp2_with fail
          refine hsend.mono ?_
          rintro e w5 ⟨k, r, rfl, hi5⟩
          obtain ⟨A', hA'⟩ := hi5.some
          have HI5 := Lib.hid (hi5.imp (fun A h => (full_send h).2))
          clear hi5 hsend HJ
          by_cases hq : j < 256
          · have hd : decide ((j : Int) < 256) = true := by simp; omega
            have hr5 := (full_send hA').1
            rw [if_pos hq] at hr5
            subst hr5
            clear hA' A'
            have hbk : Below w5.heap.size w5 (w5.alloc (.cells #[.int .u8 (j : Int)] 5)) := (Below.refl _ _).alloc (Nat.le_refl _) _
            have hal := alloc_at w5 (.cells #[.int .u8 (j : Int)] 5)
            have hoff := offer_I (HI5.out.keep hbk) sX (some ⟨w5.heap.size, 0, none⟩) 1 1 [(j : Int)] (fun W' os hc hn _ => bs_one (u8_stays hal hc hn) (by omega))
            clear hbk hal
            go_wp2_with fail
            refine hoff.mono ?_
            rintro e w6 ⟨r, rfl, hi6⟩
            obtain ⟨A', hA'⟩ := hi6.some
            have hr6 := (full_offer (by omega) hA').1
            rw [if_pos hq] at hr6
            subst hr6
            have HI6 := Lib.hid (hi6.imp (fun A h => (full_offer (by omega) h).2))
            clear hA' A' hi6 hoff
            go_wp2_with (go_at_call 9; refine (num22_any _ _).mono ?_; rintro e w' ⟨rfl, rfl⟩)
            go_roundw
            case rel => exact ⟨j + 1, by omega, rfl, HI6⟩
            case measure => simp [intOf]; omega
          · have hd : decide ((j : Int) < 256) = false := by simp; omega
            have hr5 := (full_send hA').1
            rw [if_neg hq] at hr5
            subst hr5
            clear hA' A'
            have hbk : Below w5.heap.size w5 (w5.alloc (.cells #[.int .u8 ((j : Int) % 256)] 5)) := (Below.refl _ _).alloc (Nat.le_refl _) _
            have hal := alloc_at w5 (.cells #[.int .u8 ((j : Int) % 256)] 5)
            have hoff := offer_I (HI5.out.keep hbk) sX (some ⟨w5.heap.size, 0, none⟩) 1 1 [(j : Int) % 256] (fun W' os hc hn _ => bs_one (u8_stays hal hc hn) (by omega))
            clear hbk hal
            go_wp2_with fail
            refine hoff.mono ?_
            rintro e w6 ⟨r, rfl, hi6⟩
            obtain ⟨A', hA'⟩ := hi6.some
            have hr6 := (full_offer (by omega) hA').1
            rw [if_neg hq] at hr6
            subst hr6
            have HI6 := Lib.hid (hi6.imp (fun A h => (full_offer (by omega) h).2))
            clear hA' A' hi6 hoff
            go_wp2_with (go_at_call 9; refine (num22_any _ _).mono ?_; rintro e w' ⟨rfl, rfl⟩)
            go_roundw
            case rel => exact ⟨j + 1, by omega, rfl, HI6⟩
            case measure => simp [intOf]; omega
        · obtain rfl : j = N := by omega
          have hl : decide ((j : Int) < (j : Int)) = false := by simp
          go_wp2_with fail
          refine (log_I HJ.out sG (fun A h => by rw [full_log h]; have := m256_or j; omega)).mono ?_
          rintro e w7 ⟨log, hi7, vout, outs, rfl, hown, _, _, hb7⟩
          obtain ⟨A', hA', hlog⟩ := hi7.some
          have hll : log.length = m256 j := by rw [← hlog, full_log hA']
          obtain ⟨pl, cl, rfl⟩ := own_any hown
          have HI7 := Lib.hid (hi7.imp (fun A h => h.1))
          have hm := m256_or j
          clear hA' hlog A' hi7 hown hb7 HJ
          rcases hm with ⟨hq, hmq⟩ | ⟨hq, hmq⟩
          · rw [hmq] at hll
            rw [hll]
            have hle : (j : Int) ≤ 256 := by omega
            clear hll hmq hq
            by_cases h0 : j = 0
            · subst h0
              have HB := Lib.hid HI7.out.below
              go_wp2_with fail
              go_ret
              exact ⟨rfl, HB.out⟩
            have hpos : 0 < j := by omega
            have hd0 : ((j : Int) == 0) = false := by simp; omega
            have hd1 : decide ((j : Int) = 0) = false := by simp; omega
            clear h0
            go_wp2_with fail
            refine (pick_I HI7.out sA 0).mono ?_
            rintro e w8 ⟨v, r, rfl, hi8⟩
            obtain ⟨A', hA'⟩ := hi8.some
            obtain ⟨rfl, ⟨y0, y1, y2, y3, y4, rfl, hone⟩, hjunk⟩ := full_pick hpos hA'
            clear hjunk
            have hi9 := hi8.imp (fun A h => (full_pick hpos h).2.2.2)
            have e1 := alloc_at w8 (.cells #[.string { data := #[] }, .int .i64 0, .int .i64 0, .int .i64 0, .slice none 0 0] 38)
            have hb9 : Below w8.heap.size w8 ((w8.alloc (.cells #[.string { data := #[] }, .int .i64 0, .int .i64 0, .int .i64 0, .slice none 0 0] 38)).setRow w8.heap.size #[y0, y1, y2, y3, y4]) := setRow_below ((Below.refl _ _).alloc (Nat.le_refl _) _) (Nat.le_refl _) _
            have hone' : (#[y0, y1, y2, y3, y4]).all (·.oneCell') = true := by
              rw [Array.all_eq_true_iff_forall_mem]
              intro v hv
              exact hone v (by simpa using hv)
            have HI9 := Lib.hid (hi9.keep hb9)
            clear hA' A' hi8 hi9 hb9 hone HI7
            go_wp2_with (refine wpList_store_row rfl 38 (.tmp 11) (.tmp 107) rfl w8.heap.size #[y0, y1, y2, y3, y4] rfl rfl 38 #[.string { data := #[] }, .int .i64 0, .int .i64 0, .int .i64 0, .slice none 0 0] e1 infoW5 rfl hone' ?_)
            refine (take_I HI9.out sX).mono ?_
            rintro e w9 ⟨v, r, rfl, hi9⟩
            obtain ⟨A', hA'⟩ := hi9.some
            obtain ⟨rfl, q, c, rfl, hcell⟩ := full_take hA'
            have HB := Lib.hid hi9.below
            clear hA' A' hi9 HI9
            go_wp2_with (go_at_call 9; refine (num22_any _ _).mono ?_; rintro e w' ⟨rfl, rfl⟩)
            go_ret
            exact ⟨rfl, HB.out⟩
          · rw [hmq] at hll
            rw [hll]
            have hle : (256 : Int) < (j : Int) ∨ j = 256 := by omega
            have hpos : 0 < j := by omega
            have hd0 : ((j : Int) == 0) = false := by simp; omega
            have hd1 : decide ((j : Int) = 0) = false := by simp; omega
            clear hll hmq
            rcases hle with hle | rfl
            · clear hq
              go_wp2_with fail
              refine (pick_I HI7.out sA 0).mono ?_
              rintro e w8 ⟨v, r, rfl, hi8⟩
              obtain ⟨A', hA'⟩ := hi8.some
              obtain ⟨rfl, ⟨y0, y1, y2, y3, y4, rfl, hone⟩, hjunk⟩ := full_pick hpos hA'
              clear hjunk
              have hi9 := hi8.imp (fun A h => (full_pick hpos h).2.2.2)
              have e1 := alloc_at w8 (.cells #[.string { data := #[] }, .int .i64 0, .int .i64 0, .int .i64 0, .slice none 0 0] 38)
              have hb9 : Below w8.heap.size w8 ((w8.alloc (.cells #[.string { data := #[] }, .int .i64 0, .int .i64 0, .int .i64 0, .slice none 0 0] 38)).setRow w8.heap.size #[y0, y1, y2, y3, y4]) := setRow_below ((Below.refl _ _).alloc (Nat.le_refl _) _) (Nat.le_refl _) _
              have hone' : (#[y0, y1, y2, y3, y4]).all (·.oneCell') = true := by
                rw [Array.all_eq_true_iff_forall_mem]
                intro v hv
                exact hone v (by simpa using hv)
              have HI9 := Lib.hid (hi9.keep hb9)
              clear hA' A' hi8 hi9 hb9 hone HI7
              go_wp2_with (refine wpList_store_row rfl 38 (.tmp 11) (.tmp 107) rfl w8.heap.size #[y0, y1, y2, y3, y4] rfl rfl 38 #[.string { data := #[] }, .int .i64 0, .int .i64 0, .int .i64 0, .slice none 0 0] e1 infoW5 rfl hone' ?_)
              refine (take_I HI9.out sX).mono ?_
              rintro e w9 ⟨v, r, rfl, hi9⟩
              obtain ⟨A', hA'⟩ := hi9.some
              obtain ⟨rfl, q, c, rfl, hcell⟩ := full_take hA'
              have HB := Lib.hid hi9.below
              clear hA' A' hi9 HI9
              go_wp2_with (go_at_call 9; refine (num22_any _ _).mono ?_; rintro e w' ⟨rfl, rfl⟩)
              go_ret
              exact ⟨rfl, HB.out⟩

            · clear hq
              go_wp2_with fail
              refine (pick_I HI7.out sA 0).mono ?_
              rintro e w8 ⟨v, r, rfl, hi8⟩
              obtain ⟨A', hA'⟩ := hi8.some
              obtain ⟨rfl, ⟨y0, y1, y2, y3, y4, rfl, hone⟩, hjunk⟩ := full_pick hpos hA'
              clear hjunk
              have hi9 := hi8.imp (fun A h => (full_pick hpos h).2.2.2)
              have e1 := alloc_at w8 (.cells #[.string { data := #[] }, .int .i64 0, .int .i64 0, .int .i64 0, .slice none 0 0] 38)
              have hb9 : Below w8.heap.size w8 ((w8.alloc (.cells #[.string { data := #[] }, .int .i64 0, .int .i64 0, .int .i64 0, .slice none 0 0] 38)).setRow w8.heap.size #[y0, y1, y2, y3, y4]) := setRow_below ((Below.refl _ _).alloc (Nat.le_refl _) _) (Nat.le_refl _) _
              have hone' : (#[y0, y1, y2, y3, y4]).all (·.oneCell') = true := by
                rw [Array.all_eq_true_iff_forall_mem]
                intro v hv
                exact hone v (by simpa using hv)
              have HI9 := Lib.hid (hi9.keep hb9)
              clear hA' A' hi8 hi9 hb9 hone HI7
              go_wp2_with (refine wpList_store_row rfl 38 (.tmp 11) (.tmp 107) rfl w8.heap.size #[y0, y1, y2, y3, y4] rfl rfl 38 #[.string { data := #[] }, .int .i64 0, .int .i64 0, .int .i64 0, .slice none 0 0] e1 infoW5 rfl hone' ?_)
              refine (take_I HI9.out sX).mono ?_
              rintro e w9 ⟨v, r, rfl, hi9⟩
              obtain ⟨A', hA'⟩ := hi9.some
              obtain ⟨rfl, q, c, rfl, hcell⟩ := full_take hA'
              have HB := Lib.hid hi9.below
              clear hA' A' hi9 HI9
              go_wp2_with (go_at_call 9; refine (num22_any _ _).mono ?_; rintro e w' ⟨rfl, rfl⟩)
              go_ret
              exact ⟨rfl, HB.out⟩

end Go.Proofs.Ytiebggfpjkhlaaa
