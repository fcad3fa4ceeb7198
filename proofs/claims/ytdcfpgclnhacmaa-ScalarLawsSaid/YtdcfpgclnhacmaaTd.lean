/- The walks of synodref04.Reduce and Canonical. No condition. -/
import Derived.Test.YtdcfpgclnhacmaaTc
namespace Go.Proofs.Ytdcfpgclnhacmaa
open Go Go.RowKit
theorem Is.of_own_nil {w : World} {base e n : Nat} {v : Value} {l : List Int} (h : w.ownsRow base e 1 v n (l.map (Value.int .i64))) : ∃ p cap, v = .slice p n cap ∧ Is w p n l := by
  have hlen : l.length = n := by have := h.1; simpa using this
  rcases h.2 with ⟨rfl, rfl⟩ | ⟨g, cap, cur, rfl, hg, hh, hc1, hc2, hc3, hc4⟩
  · exact ⟨none, 0, rfl, hlen, fun h => by omega⟩
  · exact ⟨_, cap, rfl, Is.of_own h⟩
set_option maxRecDepth 100000 in
set_option maxHeartbeats 4000000 in
theorem treduce_yes (p : Option Addr) (n cap : Nat) (l : List Int) (w : World) (hn : n ≤ 64) (hr : Bs w p n l) :
    Calls Try.prog 18 #[.slice p n cap] w fun e w' => ∃ g cap', e = .returned (.tuple #[.slice (some ⟨g, 0, none⟩) 32 cap', .int .i64 0]) ∧ w.heap.size ≤ g ∧ 32 ≤ cap' ∧ Bs w' (some ⟨g, 0, none⟩) 32 (b32 (vd 256 l % LL)) ∧ Below w.heap.size w w' := by
  have HL := Lib.hid hr.1
  have HM := Lib.hid hr.2.1
  have HR := Lib.hid hr
  clear hr
  obtain ⟨i0, hi0, hz0, hz1, hz2⟩ := info_parts infoI
  go_enter Try.func18, Try.ntmps18
  go_wp2
  go_loopw [4, 5] (fun v i wr => ∃ k : Nat, k ≤ n ∧ i = .int .i64 k ∧ wr.ownsRow w.heap.size 3 1 v k ((l.take k).map (Value.int .i64)) ∧ Below w.heap.size w wr) (fun _ i _ => n - (intOf i).toNat)
  case atStart => exact ⟨0, by omega, rfl, World.ownsRow_nil _ _ _ _, Below.refl _ _⟩
  case round =>
    obtain ⟨k, hk, rfl, hown, hbel⟩ := hrel
    by_cases hlt : k < n
    · have hdk : decide (k < n) = true := by simpa using hlt
      obtain ⟨B, off, rfl, hce⟩ := HR.out.2.2 (by omega)
      have ce : wr.cell? ⟨B, off + k, none⟩ = some (.int .u8 (l.getD k 0)) := by
        have h1 := hce k hlt
        rw [hbel.cell (p := ⟨B, off + k, none⟩) (World.block_lt_of_cell? w _ h1)]
        exact h1
      have cb : 0 ≤ l.getD k 0 ∧ l.getD k 0 < 256 := Dr.of_mem (by omega) HM.out k
      have hnx : l.take (k + 1) = l.take k ++ [l.getD k 0] := by
        rw [List.take_succ_eq_append_getElem (by rw [HL.out]; exact hlt)]
        simp [List.getD, HL.out, hlt]
      have HNX := Lib.hid hnx
      clear hce hnx
      generalize l.getD k 0 = x at *
      go_wp2_with (at_builtin; refine wpList_append_own _ rfl (.tmp 15) (.tmp 21) 47 rfl w.heap.size 3 i0 (.int .i64 0) 1 8 Try.underlying47 hi0 hz0 hz1 hz2 rfl (by decide) _ k _ rfl (hown.alloc _) ⟨wr.heap.size, 0, none⟩ 1 1 [.int .i64 x] rfl rfl (one_news wr _ _) (int_oneCell _ _) (by unfold maxLen; omega) (by omega) (by have := hbel.size; simp; omega) ?_; intro v1 w1 hown1 hg1 _; have hb1 := (hbel.alloc hbel.size _).grown hg1 (by have := hbel.size; simp; omega) (fun k hk => (hown.lt k hk).1); rw [show List.map (Value.int .i64) (l.take k) ++ [Value.int .i64 x] = (l.take (k + 1)).map (Value.int .i64) from by rw [HNX.out]; simp] at hown1; clear hown hg1 hbel)
      go_roundw
      case rel => exact ⟨k + 1, by omega, by go_num, hown1, hb1⟩
      case measure => simp [intOf]; omega
    · obtain rfl : k = n := by omega
      have hdk : decide (k < k) = false := by simp
      rw [List.take_of_length_le (by rw [HL.out]; omega)] at hown
      obtain ⟨pd, cd, rfl, hIs⟩ := Is.of_own_nil hown
      clear hown
      go_wp2_with fail
      refine (trest_any pd k cd l _ (by omega) hIs (Dr.of_mem (by omega) HM.out)).mono ?_
      rintro e w2 ⟨g, cg, rfl, hg, hc, hB, hb2⟩
      have hle := hbel.size
      go_wp2
      go_ret2
      exact ⟨g, cg, rfl, by omega, hc, hB, bjoin hbel hb2⟩
set_option maxHeartbeats 1000000 in
theorem treduce_no (p : Option Addr) (n cap : Nat) (w : World) (hn : 64 < n) (hm : n ≤ maxLen) :
    Calls Try.prog 18 #[.slice p n cap] w fun e w' => e = .returned (.tuple #[.slice none 0 0, .int .i64 1]) ∧ w = w' := by
  unfold maxLen at hm
  have hd : decide ((n : Int) > 64) = true := by simp; omega
  go_enter Try.func18, Try.ntmps18
  go_wp2
  go_ret2
  exact ⟨rfl, rfl⟩
theorem conv_at {w : World} {p : Option Addr} {n cap : Nat} {l : List Int} (h : Bs w p n l) : (convert 22 9 (.slice p n cap)).run Try.prog w = .ok (.string (strOfNums l)) w := h.string _ 5 _ cap Try.underlying22 Try.underlying5 Try.underlying9
/-- Canonical are the bytes that are the bytes of their rest. -/
theorem canon_iff {l : List Int} (hl : l.length = 32) (hb : ∀ x ∈ l, 0 ≤ x ∧ x < 256) : (b32 (vd 256 l % LL) = l ↔ vd 256 l < LL) := by
  have h0 := vb_in hl hb
  have hm := mod_LL (vd 256 l)
  have e := dg_of (β := 256) (by omega) (Dr.of_mem (by omega) hb)
  rw [hl] at e
  constructor
  · intro h
    have h1 := congrArg (vd 256) h
    rw [vd_dg (by omega) 32 _ hm.1 (by have : LL < 256 ^ 32 := by { unfold LL; decide +kernel }; omega)] at h1
    omega
  · intro h
    rw [Int.emod_eq_of_lt h0.1 h]
    exact e.symm
theorem str_eq {l m : List Int} (hl : ∀ x ∈ l, 0 ≤ x ∧ x < 256) (hm : ∀ x ∈ m, 0 ≤ x ∧ x < 256) : ((strOfNums l).toList == (strOfNums m).toList) = decide (l = m) := by
  by_cases h : l = m
  · subst h
    rw [decide_eq_true rfl]
    exact beq_self_eq_true _
  · rw [decide_eq_false h, beq_eq_false_iff_ne, ByteArray.toList_eq, ByteArray.toList_eq]
    intro he
    exact h (strOfNums_inj _ _ hl hm (Go.WideShapes.bytes_inj he))
set_option maxHeartbeats 1000000 in
theorem tcanonical_no (p : Option Addr) (n cap : Nat) (w : World) (hn : n ≠ 32) :
    Calls Try.prog 20 #[.slice p n cap] w fun e w' => e = .returned (.bool false) ∧ w = w' := by
  have hd : ((n : Int) != 32) = true := by rw [bne_iff_ne]; omega
  go_enter Try.func20, Try.ntmps20
  go_wp2
  go_ret
  exact ⟨rfl, rfl⟩
set_option maxHeartbeats 1000000 in
theorem tcanonical_yes (p : Option Addr) (cap : Nat) (l : List Int) (w : World) (hr : Bs w p 32 l) :
    Calls Try.prog 20 #[.slice p 32 cap] w fun e w' => e = .returned (.bool (decide (vd 256 l < LL))) ∧ Below w.heap.size w w' := by
  have hE : ((strOfNums (b32 (vd 256 l % LL))).toList == (strOfNums l).toList) = decide (vd 256 l < LL) := by
    rw [str_eq (b32_in _) hr.2.1]
    by_cases h : vd 256 l < LL
    · simp [h, (canon_iff hr.1 hr.2.1).2 h]
    · simp [h]; exact fun e => h ((canon_iff hr.1 hr.2.1).1 e)
  have HE := Lib.hid hE
  clear hE
  go_enter Try.func20, Try.ntmps20
  go_wp2_with fail
  refine (treduce_yes p 32 cap l _ (by omega) hr).mono ?_
  rintro e w1 ⟨g, cg, rfl, hg, hc, hB, hb1⟩
  have cA := conv_at (cap := cg) hB
  have cB := conv_at (cap := cap) (hr.keep hb1)
  clear hB hr
  generalize strOfNums (b32 (vd 256 l % LL)) = S at *
  generalize strOfNums l = S2 at *
  go_wp2
  go_ret
  exact ⟨by rw [← HE.out]; rfl, hb1⟩
end Go.Proofs.Ytdcfpgclnhacmaa
