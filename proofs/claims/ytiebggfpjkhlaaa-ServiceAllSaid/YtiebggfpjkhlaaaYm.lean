/- Is a subscriber's row full, whoever it is? No condition. -/
import Derived.Test.YtiebggfpjkhlaaaYk
namespace Go.Proofs.Ytiebggfpjkhlaaa
open Go Go.RowKit
set_option linter.unusedSimpArgs false
attribute [local go_sem] map_neq_some map_neq_nil
set_option maxRecDepth 100000 in
set_option maxHeartbeats 4000000 in
theorem idx_nilF (f : Value) (W : World) : Calls Try.prog 40 #[.slice none 0 0, f] W fun e W' => e = .returned (.int .i64 (-1)) ∧ Below W.heap.size W W' := by
  have hl : decide ((0 : Int) < (0 : Int)) = false := by simp
  go_enter Try.func40, Try.ntmps40
  go_wp2_with fail
  go_loopw [8] (fun i wr => i = .int .i64 0 ∧ wr = W) (fun _ _ => 0)
  case atStart => exact ⟨rfl, rfl⟩
  case round =>
    obtain ⟨rfl, rfl⟩ := hrel
    go_wp2_with fail
    go_ret
    exact ⟨rfl, Below.refl _ _⟩
set_option maxRecDepth 100000 in
set_option maxHeartbeats 4000000 in
theorem idx_any (b m0 m1 m2 p g c k : Nat) (nm : Nat → ByteArray) (cn : Nat → Nat) (W : World) (hk : k ≤ 100) (h : Subs W b m0 m1 m2 p g k nm cn) :
    Calls Try.prog 40 #[.slice (some ⟨g, 0, none⟩) k c, .func (.func 27) #[] #[.pointer (some ⟨p, 0, none⟩)]] W fun e W' => (∃ r : Int, e = .returned (.int .i64 r) ∧ (r ≥ 0 ↔ ∃ j, j < k ∧ 256 ≤ cn j)) ∧ Below W.heap.size W W' := by
  have HS := Lib.hid h
  clear h
  go_enter Try.func40, Try.ntmps40
  go_wp2_with fail
  go_loopw [8] (fun i wr => ∃ j : Nat, j ≤ k ∧ i = .int .i64 j ∧ (∀ t, t < j → cn t < 256) ∧ Below W.heap.size W wr) (fun i _ => (k - intOf i).toNat)
  case atStart => exact ⟨0, by omega, rfl, by omega, Below.refl _ _⟩
  case round =>
    obtain ⟨j, hj, rfl, hlow, hb⟩ := hrel
    have HB := Lib.hid hb
    have HL := Lib.hid hlow
    clear hb hlow
    by_cases hlt : j < k
    · have hs := HS.out.keep HB.out
      have hcell := hs.names j hlt
      have hpr := pred_cnt b m0 m1 m2 p (cn j) (nm j) (hs.sizes j hlt) wr hs.svc_ (hs.cnt j hlt) hs.ptr
      have hl : decide ((j : Int) < (k : Int)) = true := by simp; omega
      clear hs
      generalize nm j = s at *
      by_cases hf : 256 ≤ cn j
      · have hd : decide (256 ≤ cn j) = true := by simpa using hf
        rw [hd] at hpr
        clear hd
        go_wp2_with fail
        refine hpr.mono ?_
        rintro e w' ⟨rfl, hb2⟩
        have HB2 := Lib.hid (below_thru HB.out hb2)
        clear hb2
        go_wp2_with fail
        go_ret
        exact ⟨⟨j, rfl, by simp; exact ⟨j, hlt, hf⟩⟩, HB2.out⟩
      · have hd : decide (256 ≤ cn j) = false := by simpa using hf
        rw [hd] at hpr
        clear hd
        go_wp2_with fail
        refine hpr.mono ?_
        rintro e w' ⟨rfl, hb2⟩
        have HB2 := Lib.hid (below_thru HB.out hb2)
        clear hb2
        go_wp2_with fail
        go_roundw
        case rel => exact ⟨j + 1, by omega, rfl, fun t ht => by
          by_cases h : t = j
          · subst h; omega
          · exact HL.out t (by omega), HB2.out⟩
        case measure => simp [intOf]; omega
    · obtain rfl : j = k := by omega
      have hl : decide ((j : Int) < (j : Int)) = false := by simp
      go_wp2_with fail
      go_ret
      refine ⟨⟨-1, rfl, by simp; exact HL.out⟩, HB.out⟩
/-- Does anybody's row hold 256? -/
def full (f : ByteArray → Nat × List Value) (nm : List ByteArray) : Bool := nm.any fun t => decide (256 ≤ (f t).1)
theorem full_iff (f : ByteArray → Nat × List Value) (nm : List ByteArray) (d : ByteArray) : full f nm = true ↔ ∃ j, j < nm.length ∧ 256 ≤ (f (nm.getD j d)).1 := by
  unfold full
  rw [List.any_eq_true]
  constructor
  · rintro ⟨t, ht, h⟩
    obtain ⟨j, hj, rfl⟩ := List.mem_iff_getElem.1 ht
    exact ⟨j, hj, by simpa [List.getD_eq_getElem?_getD, List.getElem?_eq_getElem hj] using h⟩
  · rintro ⟨j, hj, h⟩
    exact ⟨nm[j], List.getElem_mem hj, by simpa [List.getD_eq_getElem?_getD, List.getElem?_eq_getElem hj] using h⟩
set_option maxRecDepth 100000 in
set_option maxHeartbeats 4000000 in
theorem cont_any (B b m0 m1 m2 p cap : Nat) (pp : Option Addr) (nm : List ByteArray) (L : List WRow) (W : World) (hk : nm.length ≤ 16) (hown : W.ownsRow B 9 1 (.slice pp nm.length cap) nm.length (nm.map Value.string)) (hR : WRep B m2 L W) (hb : W.heap[b]? = some (svc m0 m1 m2))
    (hp : W.cell? ⟨p, 0, none⟩ = some (.pointer (some ⟨b, 0, none⟩))) (hs : ∀ t ∈ nm, 1 ≤ t.size ∧ t.size ≤ 255) :
    Calls Try.prog 26 #[.slice pp nm.length cap, .func (.func 27) #[] #[.pointer (some ⟨p, 0, none⟩)]] W fun e W' => e = .returned (.bool (full (wf L) nm)) ∧ Below W.heap.size W W' := by
  have hi : Calls Try.prog 40 #[.slice pp nm.length cap, .func (.func 27) #[] #[.pointer (some ⟨p, 0, none⟩)]] W fun e W' => (∃ r : Int, e = .returned (.int .i64 r) ∧ decide (r ≥ 0) = full (wf L) nm) ∧ Below W.heap.size W W' := by
    rcases own_at hown with ⟨rfl, h0, rfl⟩ | ⟨g, rfl, hc⟩
    · rw [h0]
      refine (idx_nilF _ W).mono ?_
      rintro e w' ⟨rfl, hb⟩
      refine ⟨⟨-1, rfl, ?_⟩, hb⟩
      obtain rfl : nm = [] := List.length_eq_zero_iff.1 h0
      rfl
    · refine (idx_any b m0 m1 m2 p g cap nm.length (fun j => nm.getD j { data := #[] }) (fun j => (wf L (nm.getD j { data := #[] })).1) W (by omega) ⟨hb, hp, hc, fun j hj => hs _ ?_, fun j _ => ?_⟩).mono ?_
      · rw [← getD_mem (d := { data := #[] })]
        exact ⟨j, hj, rfl⟩
      · rw [← cnt_wf]
        exact hR.cnt _
      · rintro e w' ⟨⟨r, rfl, hr⟩, hb⟩
        refine ⟨⟨r, rfl, ?_⟩, hb⟩
        cases hf : full (wf L) nm with
        | true => simpa using hr.2 ((full_iff _ _ _).1 hf)
        | false =>
          rw [decide_eq_false_iff_not]
          intro h5
          have := (full_iff (wf L) nm { data := #[] }).2 (hr.1 h5)
          rw [hf] at this
          cases this
  generalize full (wf L) nm = fl at *
  clear hown hR hs
  go_enter Try.func26, Try.ntmps26
  go_wp2_with fail
  refine hi.mono ?_
  rintro e w' ⟨⟨r, rfl, hr⟩, hb⟩
  have HB := Lib.hid hb
  clear hb
  go_wp2_with fail
  go_ret
  exact ⟨by first | rfl | (rw [← hr]; simp), HB.out⟩
end Go.Proofs.Ytiebggfpjkhlaaa
