/- One contract for each function of two numbers, whatever the lengths. No condition. -/
import Derived.Test.YtenppmciabdefaaWs
namespace Go.Proofs.Ytenppmciabdefaa
open Go.RowKit
/-- What is answered: canonical bytes, or none where a length is not 32. -/
def oL (c : Bool) (N : Int) : List Int := if c then leB (N % PP) else []
def oE (c : Bool) : Int := if c then 0 else 1
def is32 (l : List Int) : Bool := decide (l.length = 32)
def both (l m : List Int) : Bool := is32 l && is32 m
/-- The results: bytes L and the error E. -/
def ResB (w : World) (L : List Int) (E : Int) (e : Ending) (w' : World) : Prop :=
  ∃ p n c, e = .returned (.tuple #[.slice p n c, .int .i64 E]) ∧ n ≤ c ∧ Bs w' p n L ∧ Below w.heap.size w w'
theorem ResB.yes {w w' : World} {b c : Nat} {N : Int} (hB : Bs w' (some ⟨b, 0, none⟩) 32 (leB (N % PP))) (hc : 32 ≤ c) (hb : Below w.heap.size w w') :
    ResB w (oL true N) (oE true) (.returned (.tuple #[.slice (some ⟨b, 0, none⟩) 32 c, .int .i64 0])) w' := ⟨_, _, _, rfl, hc, hB, hb⟩
theorem ResB.no {w w' : World} (N : Int) (hb : Below w.heap.size w w') : ResB w (oL false N) (oE false) (.returned (.tuple #[.slice none 0 0, .int .i64 1])) w' := ⟨_, _, _, rfl, Nat.le_refl _, Bs.empty _ _, hb⟩
theorem both_yes {l m : List Int} (h : l.length = 32 ∧ m.length = 32) : both l m = true := by simp [both, is32, h]
theorem both_no {l m : List Int} (h : ¬ (l.length = 32 ∧ m.length = 32)) : both l m = false := by
  simp only [both, is32, Bool.and_eq_false_iff, decide_eq_false_iff_not]
  omega
theorem is32_yes {l : List Int} (h : l.length = 32) : is32 l = true := by simp [is32, h]
theorem is32_no {l : List Int} (h : ¬ l.length = 32) : is32 l = false := by simp [is32, h]
theorem gMul_any (pa pb : Option Addr) (na ca nb cb : Nat) (la lb : List Int) (w : World) (ha : Bs w pa na la) (hb : Bs w pb nb lb) (hca : na ≤ ca) (hcb : nb ≤ cb) (hna : na ≤ maxLen) (hnb : nb ≤ maxLen) :
    Calls Try.prog 18 #[.slice pa na ca, .slice pb nb cb] w (ResB w (oL (both la lb) (valB la * valB lb)) (oE (both la lb))) := by
  by_cases h : na = 32 ∧ nb = 32
  · have hh := both_yes (l := la) (m := lb) ⟨ha.1.trans h.1, hb.1.trans h.2⟩
    rw [hh]
    obtain ⟨rfl, rfl⟩ := h
    obtain ⟨_, _, rfl, ra⟩ := ha.rd
    obtain ⟨_, _, rfl, rb⟩ := hb.rd
    refine (gMul_yes _ _ _ _ _ _ la lb w hca hcb ha.1 hb.1 ra rb).mono ?_
    rintro e w' ⟨b, rfl, _, hB, hbel⟩
    exact ResB.yes (Bs.leB hB) (Nat.le_refl _) hbel
  · have hh := both_no (l := la) (m := lb) (by rw [ha.1, hb.1]; exact h)
    rw [hh]
    refine (gMul_no pa pb na ca nb cb w hna hnb h).mono ?_
    rintro e w' ⟨rfl, rfl⟩
    exact ResB.no _ (Below.refl _ _)
theorem gAdd_any (pa pb : Option Addr) (na ca nb cb : Nat) (la lb : List Int) (w : World) (ha : Bs w pa na la) (hb : Bs w pb nb lb) (hca : na ≤ ca) (hcb : nb ≤ cb) (hna : na ≤ maxLen) (hnb : nb ≤ maxLen) :
    Calls Try.prog 25 #[.slice pa na ca, .slice pb nb cb] w (ResB w (oL (both la lb) (valB la + valB lb)) (oE (both la lb))) := by
  by_cases h : na = 32 ∧ nb = 32
  · have hh := both_yes (l := la) (m := lb) ⟨ha.1.trans h.1, hb.1.trans h.2⟩
    rw [hh]
    obtain ⟨rfl, rfl⟩ := h
    obtain ⟨_, _, rfl, ra⟩ := ha.rd
    obtain ⟨_, _, rfl, rb⟩ := hb.rd
    refine (gAdd_yes _ _ _ _ _ _ la lb w hca hcb ha.1 hb.1 ra rb).mono ?_
    rintro e w' ⟨b, rfl, _, hB, hbel⟩
    exact ResB.yes (Bs.leB hB) (Nat.le_refl _) hbel
  · have hh := both_no (l := la) (m := lb) (by rw [ha.1, hb.1]; exact h)
    rw [hh]
    refine (gAdd_no pa pb na ca nb cb w hna hnb h).mono ?_
    rintro e w' ⟨rfl, rfl⟩
    exact ResB.no _ (Below.refl _ _)
theorem gSub_any (pa pb : Option Addr) (na ca nb cb : Nat) (la lb : List Int) (w : World) (ha : Bs w pa na la) (hb : Bs w pb nb lb) (hca : na ≤ ca) (hcb : nb ≤ cb) (hna : na ≤ maxLen) (hnb : nb ≤ maxLen) :
    Calls Try.prog 27 #[.slice pa na ca, .slice pb nb cb] w (ResB w (oL (both la lb) (valB la - valB lb)) (oE (both la lb))) := by
  by_cases h : na = 32 ∧ nb = 32
  · have hh := both_yes (l := la) (m := lb) ⟨ha.1.trans h.1, hb.1.trans h.2⟩
    rw [hh]
    obtain ⟨rfl, rfl⟩ := h
    obtain ⟨_, _, rfl, ra⟩ := ha.rd
    obtain ⟨_, _, rfl, rb⟩ := hb.rd
    refine (gSub_yes _ _ _ _ _ _ la lb w hca hcb ha.1 hb.1 ra rb).mono ?_
    rintro e w' ⟨b, rfl, _, hB, hbel⟩
    exact ResB.yes (Bs.leB hB) (Nat.le_refl _) hbel
  · have hh := both_no (l := la) (m := lb) (by rw [ha.1, hb.1]; exact h)
    rw [hh]
    refine (gSub_no pa pb na ca nb cb w hna hnb h).mono ?_
    rintro e w' ⟨rfl, rfl⟩
    exact ResB.no _ (Below.refl _ _)
theorem rmul_any (pa pb : Option Addr) (na ca nb cb : Nat) (la lb : List Int) (w : World) (ha : Bs w pa na la) (hb : Bs w pb nb lb) :
    Calls Try.prog 19 #[.slice pa na ca, .slice pb nb cb] w (ResB w (oL (both la lb) (valB la * valB lb)) (oE (both la lb))) := by
  by_cases h : na = 32 ∧ nb = 32
  · have hh := both_yes (l := la) (m := lb) ⟨ha.1.trans h.1, hb.1.trans h.2⟩
    rw [hh]
    obtain ⟨rfl, rfl⟩ := h
    obtain ⟨_, _, rfl, ra⟩ := ha.rd
    obtain ⟨_, _, rfl, rb⟩ := hb.rd
    refine (rmul_yes _ _ _ _ _ _ la lb w ha.1 hb.1 ra rb).mono ?_
    rintro e w' ⟨b, c, rfl, hc, _, hR, hbel⟩
    exact ResB.yes (Bs.of_rd hR rfl) hc hbel
  · have hh := both_no (l := la) (m := lb) (by rw [ha.1, hb.1]; exact h)
    rw [hh]
    refine (rmul_no pa pb na ca nb cb w h).mono ?_
    rintro e w' ⟨rfl, rfl⟩
    exact ResB.no _ (Below.refl _ _)
theorem radd_any (pa pb : Option Addr) (na ca nb cb : Nat) (la lb : List Int) (w : World) (ha : Bs w pa na la) (hb : Bs w pb nb lb) :
    Calls Try.prog 26 #[.slice pa na ca, .slice pb nb cb] w (ResB w (oL (both la lb) (valB la + valB lb)) (oE (both la lb))) := by
  by_cases h : na = 32 ∧ nb = 32
  · have hh := both_yes (l := la) (m := lb) ⟨ha.1.trans h.1, hb.1.trans h.2⟩
    rw [hh]
    obtain ⟨rfl, rfl⟩ := h
    obtain ⟨_, _, rfl, ra⟩ := ha.rd
    obtain ⟨_, _, rfl, rb⟩ := hb.rd
    refine (radd_yes _ _ _ _ _ _ la lb w ha.1 hb.1 ra rb).mono ?_
    rintro e w' ⟨b, c, rfl, hc, _, hR, hbel⟩
    exact ResB.yes (Bs.of_rd hR rfl) hc hbel
  · have hh := both_no (l := la) (m := lb) (by rw [ha.1, hb.1]; exact h)
    rw [hh]
    refine (radd_no pa pb na ca nb cb w h).mono ?_
    rintro e w' ⟨rfl, rfl⟩
    exact ResB.no _ (Below.refl _ _)
theorem rsub_any (pa pb : Option Addr) (na ca nb cb : Nat) (la lb : List Int) (w : World) (ha : Bs w pa na la) (hb : Bs w pb nb lb) :
    Calls Try.prog 28 #[.slice pa na ca, .slice pb nb cb] w (ResB w (oL (both la lb) (valB la - valB lb)) (oE (both la lb))) := by
  by_cases h : na = 32 ∧ nb = 32
  · have hh := both_yes (l := la) (m := lb) ⟨ha.1.trans h.1, hb.1.trans h.2⟩
    rw [hh]
    obtain ⟨rfl, rfl⟩ := h
    obtain ⟨_, _, rfl, ra⟩ := ha.rd
    obtain ⟨_, _, rfl, rb⟩ := hb.rd
    refine (rsub_yes _ _ _ _ _ _ la lb w ha.1 hb.1 ra rb).mono ?_
    rintro e w' ⟨b, c, rfl, hc, _, hR, hbel⟩
    exact ResB.yes (Bs.of_rd hR rfl) hc hbel
  · have hh := both_no (l := la) (m := lb) (by rw [ha.1, hb.1]; exact h)
    rw [hh]
    refine (rsub_no pa pb na ca nb cb w h).mono ?_
    rintro e w' ⟨rfl, rfl⟩
    exact ResB.no _ (Below.refl _ _)
theorem gCanon_any (pa : Option Addr) (na ca : Nat) (la : List Int) (w : World) (ha : Bs w pa na la) (hca : na ≤ ca) (hna : na ≤ maxLen) :
    Calls Try.prog 29 #[.slice pa na ca] w (ResB w (oL (is32 la) (valB la)) (oE (is32 la))) := by
  by_cases h : na = 32
  · rw [is32_yes (ha.1.trans h)]
    subst h
    obtain ⟨_, _, rfl, ra⟩ := ha.rd
    refine (gCanon_yes _ _ _ la w hca ha.1 ra).mono ?_
    rintro e w' ⟨b, rfl, _, hB, hbel⟩
    exact ResB.yes (Bs.leB hB) (Nat.le_refl _) hbel
  · rw [is32_no (by rw [ha.1]; exact h)]
    refine (gCanon_no pa na ca w hna h).mono ?_
    rintro e w' ⟨rfl, hbel⟩
    exact ResB.no _ hbel
theorem rcanon_any (pa : Option Addr) (na ca : Nat) (la : List Int) (w : World) (ha : Bs w pa na la) :
    Calls Try.prog 24 #[.slice pa na ca] w (ResB w (oL (is32 la) (valB la)) (oE (is32 la))) := by
  by_cases h : na = 32
  · rw [is32_yes (ha.1.trans h)]
    subst h
    obtain ⟨_, _, rfl, ra⟩ := ha.rd
    refine (rcanon_yes _ _ _ la w ha.1 ra).mono ?_
    rintro e w' ⟨b, c, rfl, hc, _, hR, hbel⟩
    exact ResB.yes (Bs.of_rd hR rfl) hc hbel
  · rw [is32_no (by rw [ha.1]; exact h)]
    refine (rcanon_no pa na ca w h).mono ?_
    rintro e w' ⟨rfl, rfl⟩
    exact ResB.no _ (Below.refl _ _)
end Go.Proofs.Ytenppmciabdefaa
