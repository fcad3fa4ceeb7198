/- slices.DeleteFunc of a name, as Leave calls it. No condition. -/
import Derived.Test.YtiebggfpjkhlaaaDc
namespace Go.Proofs.Ytiebggfpjkhlaaa
open Go Go.RowKit
set_option linter.unusedSimpArgs false
theorem str_beq (s t : ByteArray) : (s.toList == t.toList) = decide (s = t) := by
  rw [← beq_toListBytes]
  cases h : (s == t) with
  | true => simp [(MapKept.bytes_beq _ _).1 h]
  | false =>
    symm
    rw [decide_eq_false_iff_not]
    rintro rfl
    rw [self_eq s] at h
    cases h
theorem pred_leave (p : Nat) (x who : ByteArray) (W : World) (hp : W.cell? ⟨p, 0, none⟩ = some (.string who)) :
    Calls Try.prog 37 #[.string x, .pointer (some ⟨p, 0, none⟩)] W fun e W' => e = .returned (.bool (decide (x = who))) ∧ W' = W := by
  have hb : (x.toList == who.toList) = decide (x = who) := str_beq x who
  generalize decide (x = who) = d at *
  go_enter Try.func37, Try.ntmps37
  go_wp2
  go_ret
  exact ⟨rfl, rfl⟩
set_option maxRecDepth 100000 in
set_option maxHeartbeats 4000000 in
theorem idx_leave (g n c p : Nat) (nm : Nat → ByteArray) (who : ByteArray) (w : World) (hn : n ≤ 100) (hp : w.cell? ⟨p, 0, none⟩ = some (.string who)) (hc : ∀ j, j < n → w.cell? ⟨g, j, none⟩ = some (.string (nm j))) (hx : ∃ j, j < n ∧ nm j = who) :
    Calls Try.prog 40 #[.slice (some ⟨g, 0, none⟩) n c, .func (.func 37) #[] #[.pointer (some ⟨p, 0, none⟩)]] w fun e w' => (∃ r : Nat, e = .returned (.int .i64 r) ∧ r < n ∧ nm r = who ∧ ∀ t, t < r → nm t ≠ who) ∧ w' = w := by
  have HC := Lib.hid hc
  have HX := Lib.hid hx
  have HP := Lib.hid hp
  clear hc hx hp
  go_enter Try.func40, Try.ntmps40
  go_wp2_with fail
  go_loopw [8] (fun i wr => ∃ k : Nat, k ≤ n ∧ i = .int .i64 k ∧ (∀ t, t < k → nm t ≠ who) ∧ wr = w) (fun i _ => (n - intOf i).toNat)
  case atStart => exact ⟨0, by omega, rfl, by omega, rfl⟩
  case round =>
    obtain ⟨k, hk, rfl, hlow, rfl⟩ := hrel
    have HL := Lib.hid hlow
    clear hlow
    by_cases hlt : k < n
    · have hcell := HC.out k hlt
      have hl : decide ((k : Int) < (n : Int)) = true := by simp; omega
      obtain ⟨s, hs⟩ : ∃ s, nm k = s := ⟨_, rfl⟩
      rw [hs] at hcell
      have HS := Lib.hid hs
      clear hs
      have hpm := pred_leave p s who wr HP.out
      by_cases hok : s = who
      · have HOK := Lib.hid hok
        rw [show decide (s = who) = true from by simpa using hok] at hpm
        clear hok
        go_wp2_with fail
        refine hpm.mono ?_
        rintro e w' ⟨rfl, hw⟩
        subst hw
        go_wp2_with fail
        go_ret
        exact ⟨⟨k, rfl, hlt, by rw [HS.out]; exact HOK.out, HL.out⟩, rfl⟩
      · have HOK := Lib.hid hok
        rw [show decide (s = who) = false from by simpa using hok] at hpm
        clear hok
        go_wp2_with fail
        refine hpm.mono ?_
        rintro e w' ⟨rfl, hw⟩
        subst hw
        go_wp2_with fail
        go_roundw
        case rel => exact ⟨k + 1, by omega, rfl, fun t ht => by
          by_cases h : t = k
          · subst h; rw [HS.out]; exact HOK.out
          · exact HL.out t (by omega), by trivial⟩
        case measure => simp [intOf]; omega
    · obtain ⟨j, hj, hjw⟩ := HX.out
      exact absurd hjw (HL.out j (by omega))
/-- So far the row is cut. -/
structure KI (nm : List ByteArray) (who : ByteArray) (cap : Nat) (cur : Array Value) (i j : Nat) : Prop where
  size : cur.size = cap
  len : i = ((nm.take j).filter (· ≠ who)).length
  lt : i < j
  low : ∀ t, t < i → cur[t]? = (((nm.take j).filter (· ≠ who))[t]?).map Value.string
  high : ∀ t, j ≤ t → t < nm.length → cur[t]? = (nm[t]?).map Value.string
theorem take_filter_snoc (nm : List ByteArray) (who : ByteArray) (j : Nat) (h : j < nm.length) : (nm.take (j + 1)).filter (· ≠ who) = (nm.take j).filter (· ≠ who) ++ (if nm[j] = who then [] else [nm[j]]) := by
  rw [List.take_add_one, List.getElem?_eq_getElem h, List.filter_append]
  congr 1
  by_cases h1 : nm[j] = who
  · simp [h1]
  · simp [h1]
theorem KI.start {nm : List ByteArray} {who : ByteArray} {cap r : Nat} {cur : Array Value} (hs : cur.size = cap) (hr : r < nm.length) (hw : nm[r] = who) (hlow : ∀ t (h : t < nm.length), t < r → nm[t] ≠ who) (hc : ∀ t, t < nm.length → cur[t]? = (nm[t]?).map Value.string) : KI nm who cap cur r (r + 1) := by
  have h1 : (nm.take r).filter (· ≠ who) = nm.take r := by
    rw [List.filter_eq_self]
    intro x hx
    obtain ⟨t, ht, rfl⟩ := List.getElem_of_mem hx
    rw [List.length_take] at ht
    simpa [List.getElem_take] using hlow t (by omega) (by omega)
  have h2 : (nm.take (r + 1)).filter (· ≠ who) = nm.take r := by rw [take_filter_snoc nm who r hr, h1, if_pos hw, List.append_nil]
  refine ⟨hs, ?_, by omega, ?_, fun t _ h => hc t h⟩
  · rw [h2, List.length_take]; omega
  · intro t ht
    rw [h2, hc t (by omega), List.getElem?_take, if_pos ht]
theorem KI.skip {nm : List ByteArray} {who : ByteArray} {cap i j : Nat} {cur : Array Value} (h : KI nm who cap cur i j) (hj : j < nm.length) (hw : nm[j] = who) : KI nm who cap cur i (j + 1) := by
  have e : (nm.take (j + 1)).filter (· ≠ who) = (nm.take j).filter (· ≠ who) := by rw [take_filter_snoc nm who j hj, if_pos hw, List.append_nil]
  exact ⟨h.size, by rw [e]; exact h.len, by have := h.lt; omega, by rw [e]; exact h.low, fun t h1 h2 => h.high t (by omega) h2⟩
theorem KI.keep {nm : List ByteArray} {who : ByteArray} {cap i j : Nat} {cur : Array Value} (h : KI nm who cap cur i j) (hj : j < nm.length) (hc : nm.length ≤ cap) (hw : nm[j] ≠ who) : KI nm who cap (cur.setIfInBounds i (.string nm[j])) (i + 1) (j + 1) := by
  have e : (nm.take (j + 1)).filter (· ≠ who) = (nm.take j).filter (· ≠ who) ++ [nm[j]] := by rw [take_filter_snoc nm who j hj, if_neg hw]
  have hlt := h.lt
  have hsz := h.size
  have hlen := h.len
  refine ⟨by simp [hsz], by rw [e, List.length_append]; simp only [List.length_cons, List.length_nil]; omega, by omega, fun t ht => ?_, fun t h1 h2 => ?_⟩
  · rw [Array.getElem?_setIfInBounds]
    by_cases h1 : i = t
    · subst h1
      rw [if_pos rfl, if_pos (by omega), e, List.getElem?_append_right (by omega), hlen, Nat.sub_self]
      rfl
    · rw [if_neg h1, h.low t (by omega), e, List.getElem?_append_left (by omega)]
  · rw [Array.getElem?_setIfInBounds, if_neg (by omega)]
    exact h.high t (by omega) h2
theorem KI.done {nm : List ByteArray} {who : ByteArray} {cap i m : Nat} {cur : Array Value} (h : KI nm who cap cur i nm.length) (hm : m = nm.length - i) (hc : nm.length ≤ cap) (zs : List Value) (hz : zs.length = m) :
    i = (nm.filter (· ≠ who)).length ∧ (layA cur i zs).toList.take (i * 1) = (nm.filter (· ≠ who)).map Value.string := by
  have hlen := h.len
  have hlow := h.low
  have hsz := h.size
  have hlt := h.lt
  rw [List.take_length] at hlen hlow
  refine ⟨hlen, ?_⟩
  apply List.ext_getElem?
  intro t
  rw [Nat.mul_one, List.getElem?_take]
  by_cases ht : t < i
  · rw [if_pos ht, Array.getElem?_toList, layA_get _ _ _ _ (by omega), if_neg (by omega), hlow t ht, List.getElem?_map]
  · rw [if_neg ht, List.getElem?_eq_none]
    rw [List.length_map]
    omega
theorem zeroS_ (w : World) : (zeroValue 9).run Try.prog w = .ok (.string { data := #[] }) w := by kernel_rfl
set_option maxRecDepth 100000 in
set_option maxHeartbeats 4000000 in
theorem delF (B g cap p : Nat) (nm : List ByteArray) (who : ByteArray) (W : World) (hk : nm.length ≤ 16) (hp : W.cell? ⟨p, 0, none⟩ = some (.string who)) (hpg : p ≠ g) (hx : who ∈ nm) (hown : W.ownsRow B 9 1 (.slice (some ⟨g, 0, none⟩) nm.length cap) nm.length (nm.map Value.string)) :
    Calls Try.prog 36 #[.slice (some ⟨g, 0, none⟩) nm.length cap, .func (.func 37) #[] #[.pointer (some ⟨p, 0, none⟩)]] W fun e W' =>
      e = .returned (.slice (some ⟨g, 0, none⟩) (nm.filter (· ≠ who)).length cap) ∧ W'.ownsRow B 9 1 (.slice (some ⟨g, 0, none⟩) (nm.filter (· ≠ who)).length cap) (nm.filter (· ≠ who)).length ((nm.filter (· ≠ who)).map Value.string) ∧ Chg [g] W W' := by
  obtain ⟨cur, hB, hg, hnc, hcap, hcs, htk⟩ : ∃ cur, B ≤ g ∧ W.heap[g]? = some (.cells cur 9 (0, 0)) ∧ nm.length ≤ cap ∧ cap ≤ maxLen ∧ cur.size = cap * 1 ∧ cur.toList.take (nm.length * 1) = nm.map Value.string := by
    rcases hown.2 with ⟨h5, _⟩ | ⟨g', cap', cur, h5, q1, q2, q3, q4, q5, q6⟩
    · cases h5
    · cases h5
      exact ⟨cur, q1, q2, q3, q4, q5, q6⟩
  have hml : maxLen ≤ 9223372036854775807 := by unfold maxLen; omega
  have hcur : ∀ t, t < nm.length → cur[t]? = (nm[t]?).map Value.string := by
    intro t ht
    have h := congrArg (fun l => l[t]?) htk
    simp only [List.getElem?_take, List.getElem?_map] at h
    rw [if_pos (by omega), Array.getElem?_toList] at h
    exact h
  have hidx := idx_leave g nm.length cap p (fun j => nm.getD j { data := #[] }) who W (by omega) hp (fun j hj => by
    rw [cell_at hg, hcur j hj, List.getElem?_eq_getElem hj]
    simp [List.getD_eq_getElem?_getD, List.getElem?_eq_getElem hj]) (getD_mem.2 hx)
  have hgd : ∀ j (h : j < nm.length), nm.getD j { data := #[] } = nm[j] := fun j h => by simp [List.getD_eq_getElem?_getD, List.getElem?_eq_getElem h]
  have HP := Lib.hid hp
  have HG := Lib.hid hg
  have HCUR := Lib.hid hcur
  have HGD := Lib.hid hgd
  have HCS := Lib.hid (show cur.size = cap by omega)
  clear hown hp hx hg hcur hgd hcs htk
  go_enter Try.func36, Try.ntmps36
  go_wp2_with fail
  refine hidx.mono ?_
  rintro e w' ⟨⟨r, rfl, hr, hrw, hlow⟩, hw⟩
  subst hw
  have hst : KI nm who cap cur r (r + 1) := KI.start HCS.out hr (by rw [← HGD.out r hr]; exact hrw) (fun t h ht => by rw [← HGD.out t h]; exact hlow t ht) HCUR.out
  have HST := Lib.hid hst
  have hn1 : ((r : Int) == -1) = false := by simp
  have hn2 : decide ((r : Int) = -1) = false := by simp
  clear hst hrw hlow hidx
  go_wp2_with fail
  go_loopw [5, 6] (fun s5 s6 wr => ∃ (i j : Nat) (cu : Array Value), j ≤ nm.length ∧ i < j ∧ s5 = .int .i64 i ∧ s6 = .int .i64 j ∧ Hid (wr.heap[g]? = some (.cells cu 9 (0, 0)) ∧ KI nm who cap cu i j ∧ Chg [g] w' wr)) (fun _ s6 _ => (nm.length - intOf s6).toNat)
  case atStart => exact ⟨r, r + 1, cur, by omega, by omega, rfl, rfl, Lib.hid ⟨HG.out, HST.out, Chg.refl _ _⟩⟩
  case round =>
    obtain ⟨i, j, cu, hj, hij, rfl, rfl, HR⟩ := hrel
    by_cases hlt : j < nm.length
    · have hl : decide ((j : Int) < (nm.length : Int)) = true := by simp; omega
      have hcj : wr.cell? ⟨g, j, none⟩ = some (.string nm[j]) := by
        rw [cell_at HR.out.1, HR.out.2.1.high j (Nat.le_refl _) hlt, List.getElem?_eq_getElem hlt]
        rfl
      have hpp : wr.cell? ⟨p, 0, none⟩ = some (.string who) := by
        have h1 := HP.out
        have hlp := World.block_lt_of_cell? w' ⟨p, 0, none⟩ h1
        unfold World.cell? at h1 ⊢
        rw [HR.out.2.2.block p hlp (by simpa using hpg)]
        exact h1
      have hpm := pred_leave p nm[j] who wr hpp
      have hisz : i < cu.size := by have := HR.out.2.1.size; omega
      have hci : ∃ u, wr.cell? ⟨g, i, none⟩ = some u := ⟨_, by rw [cell_at HR.out.1, Array.getElem?_eq_getElem hisz]⟩
      obtain ⟨u, hci⟩ := hci
      have hfi : wr.frozen? ⟨g, i, none⟩ = false := frozen_at HR.out.1 i
      obtain ⟨s, hs⟩ : ∃ s, nm[j] = s := ⟨_, rfl⟩
      rw [hs] at hcj hpm
      have HS := Lib.hid hs
      have hin : (i : Int) < (nm.length : Int) := by omega
      clear hs
      by_cases hok : s = who
      · have HOK := Lib.hid hok
        rw [show decide (s = who) = true from by simpa using hok] at hpm
        clear hok
        go_wp2_with fail
        refine hpm.mono ?_
        rintro e w2 ⟨rfl, hw⟩
        subst hw
        go_wp2_with fail
        go_roundw
        case rel => exact ⟨i, j + 1, cu, by omega, by omega, rfl, rfl, Lib.hid ⟨HR.out.1, HR.out.2.1.skip hlt (by rw [HS.out]; exact HOK.out), HR.out.2.2⟩⟩
        case measure => simp [intOf]; omega
      · have HOK := Lib.hid hok
        rw [show decide (s = who) = false from by simpa using hok] at hpm
        clear hok
        go_wp2_with fail
        refine hpm.mono ?_
        rintro e w2 ⟨rfl, hw⟩
        subst hw
        go_wp2_with fail
        go_roundw
        case rel => exact ⟨i + 1, j + 1, cu.setIfInBounds i (.string s), by omega, by omega, rfl, rfl, Lib.hid ⟨heap_setCell_same _ g i _ _ _ HR.out.1, by have := HR.out.2.1.keep hlt hnc (by rw [HS.out]; exact HOK.out); rw [HS.out] at this; exact this, HR.out.2.2.setCell (.inl (by simp)) i _⟩⟩
        case measure => simp [intOf]; omega
    · obtain rfl : j = nm.length := by omega
      have hl : decide ((nm.length : Int) < (nm.length : Int)) = false := by simp
      have hisz := HR.out.2.1.size
      have hcl : ∀ ty, (Builtin.clear_ #[63] ty #[.slice (some ⟨g, i, none⟩) (nm.length - i) (cap - i)]).run Try.prog wr = .ok (.tuple #[]) (wr.setCells g i (List.replicate (nm.length - i) (.string { data := #[] }))) := fun ty =>
        Lib.run_clear_slice wr _ _ ty _ Try.underlying63 zeroS_ rfl rfl g i _ _ (by omega) (fun t ht => by rw [cell_at HR.out.1, Array.getElem?_eq_getElem (by omega)]; rfl) (fun t ht => frozen_at HR.out.1 _)
      obtain ⟨hfl, hcut⟩ := HR.out.2.1.done rfl hnc (List.replicate (nm.length - i) (.string { data := #[] })) (by simp)
      have HF := Lib.hid (show (wr.setCells g i (List.replicate (nm.length - i) (.string { data := #[] }))).ownsRow B 9 1 (.slice (some ⟨g, 0, none⟩) i cap) i ((nm.filter (· ≠ who)).map Value.string) ∧ Chg [g] w' (wr.setCells g i (List.replicate (nm.length - i) (.string { data := #[] }))) from
        ⟨⟨by rw [List.length_map]; omega, .inr ⟨g, cap, _, rfl, hB, setCells_here g _ _ _ wr cu HR.out.1, by omega, hcap, by rw [layA_size]; omega, hcut⟩⟩, Chg.setCells (by simp) _ _ _ HR.out.2.2⟩)
      have HFL := Lib.hid hfl
      clear hfl hcut
      have hic : i ≤ cap := by omega
      have hin : i ≤ nm.length := by omega
      have hne : ¬ cap = i := by omega
      go_wp2_with fail
      go_ret
      rw [← HFL.out]
      exact ⟨rfl, HF.out.1, HF.out.2⟩
/-- The names but one. -/
def struck (nm : List ByteArray) (who : ByteArray) : List ByteArray := nm.filter (· ≠ who)
theorem delS (B g cap p : Nat) (nm : List ByteArray) (who : ByteArray) (W : World) (hk : nm.length ≤ 16) (hp : W.cell? ⟨p, 0, none⟩ = some (.string who)) (hpg : p ≠ g) (hx : who ∈ nm) (hown : W.ownsRow B 9 1 (.slice (some ⟨g, 0, none⟩) nm.length cap) nm.length (nm.map Value.string)) :
    Calls Try.prog 36 #[.slice (some ⟨g, 0, none⟩) nm.length cap, .func (.func 37) #[] #[.pointer (some ⟨p, 0, none⟩)]] W fun e W' =>
      e = .returned (.slice (some ⟨g, 0, none⟩) (struck nm who).length cap) ∧ W'.ownsRow B 9 1 (.slice (some ⟨g, 0, none⟩) (struck nm who).length cap) (struck nm who).length ((struck nm who).map Value.string) ∧ Chg [g] W W' := delF B g cap p nm who W hk hp hpg hx hown
end Go.Proofs.Ytiebggfpjkhlaaa
