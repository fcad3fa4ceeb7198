/- Slices of bytes as lists of numbers; what they come to as strings. No condition. -/
import Derived.Test.YtiebggfpjkhlaaaKa
import Derived.Laws.BytesArg
import Derived.Maps.AppendAt
import Derived.OwnWalk
namespace Go.Proofs.Ytiebggfpjkhlaaa
open Go.RowKit

/-- The slice at p of n bytes reads as the numbers l. -/
def Bs (w : World) (p : Option Addr) (n : Nat) (l : List Int) : Prop :=
  l.length = n ∧ (∀ x ∈ l, 0 ≤ x ∧ x < 256) ∧ (0 < n → ∃ B off, p = some ⟨B, off, none⟩ ∧ ∀ i, i < n → w.cell? ⟨B, off + i, none⟩ = some (.int .u8 (l.getD i 0)))

theorem Bs.keep {w w' : World} {p : Option Addr} {n : Nat} {l : List Int} (h : Bs w p n l) (hb : Below w.heap.size w w') : Bs w' p n l := by
  refine ⟨h.1, h.2.1, fun hn => ?_⟩
  obtain ⟨B, off, e, hc⟩ := h.2.2 hn
  refine ⟨B, off, e, fun i hi => ?_⟩
  have h1 := hc i hi
  rw [hb.cell (p := ⟨B, off + i, none⟩) (World.block_lt_of_cell? w _ h1)]
  exact h1

theorem Bs.take {w : World} {p : Option Addr} {n : Nat} {l : List Int} (h : Bs w p n l) (m : Nat) (hm : m ≤ n) : Bs w p m (l.take m) := by
  refine ⟨by rw [List.length_take, h.1]; omega, fun x hx => h.2.1 x (List.mem_of_mem_take hx), fun hn => ?_⟩
  obtain ⟨B, off, e, hc⟩ := h.2.2 (by omega)
  refine ⟨B, off, e, fun i hi => ?_⟩
  rw [hc i (by omega)]
  simp [hi]

theorem Bs.empty (w : World) (p : Option Addr) : Bs w p 0 [] := ⟨rfl, by simp, fun h => by omega⟩

/-- A slice of bytes as a string. -/
theorem Bs.string {P : Program} {w : World} {p : Option Addr} {n : Nat} {l : List Int} (h : Bs w p n l) (src e dst cap : Nat) (hs : P.underlying src = some (.slice e)) (he : P.underlying e = some (.int .u8)) (hd : P.underlying dst = some .string) :
    (convert src dst (.slice p n cap)).run P w = .ok (.string (strOfNums l)) w := by
  rcases Nat.eq_zero_or_pos n with h0 | h0
  · have hl : l = [] := List.eq_nil_of_length_eq_zero (by rw [h.1, h0])
    subst hl
    subst h0
    rcases p with _ | x
    · rw [run_convert_bytes_nil w src e hs he 0 cap dst hd]
      rfl
    · rw [run_convert_bytes_string w src dst e _ 0 cap hs he hd, run_bytesToString w x 0 cap [] (by simpa using run_loadCells_list (P := P) w x [] (by simp)), foldl_push_bytes]
      rfl
  · obtain ⟨B, off, rfl, hc⟩ := h.2.2 h0
    exact run_convert_bytes_arg w src e hs he B off n cap l h.1 hc dst hd

theorem of_num_inj {x y : Int} (hx : 0 ≤ x ∧ x < 256) (hy : 0 ≤ y ∧ y < 256) (h : UInt8.ofNat x.toNat = UInt8.ofNat y.toNat) : x = y := by
  have := congrArg UInt8.toNat h
  rw [UInt8.toNat_ofNat', UInt8.toNat_ofNat', Nat.mod_eq_of_lt (by omega), Nat.mod_eq_of_lt (by omega)] at this
  omega

theorem strOfNums_inj : ∀ (l m : List Int), (∀ x ∈ l, 0 ≤ x ∧ x < 256) → (∀ x ∈ m, 0 ≤ x ∧ x < 256) → strOfNums l = strOfNums m → l = m := by
  intro l m hl hm h
  have h1 := congrArg (fun s : ByteArray => s.data.toList) h
  simp only [strOfNums_data] at h1
  clear h
  induction l generalizing m with
  | nil => cases m with
    | nil => rfl
    | cons y m => simp at h1
  | cons x l ih => cases m with
    | nil => simp at h1
    | cons y m =>
      simp only [List.map_cons, List.cons.injEq] at h1
      have e := of_num_inj (hl x (by simp)) (hm y (by simp)) h1.1
      subst e
      rw [ih m (fun z hz => hl z (by simp [hz])) (fun z hz => hm z (by simp [hz])) h1.2]

/-- append of nothing. -/
theorem run_append_empty {P : Program} (w : World) (base : Nat) (t ty e : TypeId) (i : TypeInfo) (size : Nat) (ht : P.underlying t = some (.slice e)) (hi : P.info? e = some i)
    (v : Value) (n : Nat) (xs : List Value) (hown : w.ownsRow base e size v n xs) (p : Option Addr) (c : Nat) : (Builtin.append_ #[t, t] ty #[v, .slice p 0 c]).run P w = .ok v w := by
  rcases p with _ | x
  · rcases hown.2 with ⟨rfl, rfl⟩ | ⟨g, cap, cur, rfl, _, _, hnc, _⟩
    · simp [Builtin.append_, run_underlying ht, sizeOf, typeInfo, hi, Builtin.lenOf, Builtin.firstCells]
    · simp [Builtin.append_, run_underlying ht, sizeOf, typeInfo, hi, Builtin.lenOf, Builtin.firstCells, hnc, storeCells]
  · have hl : (loadCells x 0).run P w = .ok #[] w := by simpa using run_loadCells_list (P := P) w x [] (by simp)
    rcases hown.2 with ⟨rfl, rfl⟩ | ⟨g, cap, cur, rfl, _, _, hnc, _⟩
    · simp [Builtin.append_, run_underlying ht, sizeOf, typeInfo, hi, Builtin.lenOf, Builtin.firstCells, hl]
    · simp [Builtin.append_, run_underlying ht, sizeOf, typeInfo, hi, Builtin.lenOf, Builtin.firstCells, hnc, storeCells, hl]

theorem addr_add (B off j : Nat) : (⟨B, off, none⟩ : Addr).add j = ⟨B, off + j, none⟩ := by unfold Addr.add; split <;> simp_all
theorem oneCell_u8 (l : List Int) : ∀ u ∈ l.map (Value.int .u8), u.oneCell' = true := by
  intro u hu
  obtain ⟨x, _, rfl⟩ := List.mem_map.1 hu
  rfl

/-- append of a slice of bytes, whatever it is, to a row of the call's own. -/
theorem run_append_bs {P : Program} (w : World) (base : Nat) (t ty e : TypeId) (i : TypeInfo) (z : Value) (bytes : Nat) (ht : P.underlying t = some (.slice e)) (hi : P.info? e = some i) (hz : i.zero = some z)
    (hsize : i.size = 1) (hby : i.bytes = bytes) (hzs : z.cells.size = 1)
    (v : Value) (n : Nat) (xs : List Value) (hown : w.ownsRow base e 1 v n xs)
    (p : Option Addr) (m c : Nat) (l : List Int) (hb : Bs w p m l)
    (h63 : n + m ≤ maxLen) (hbytes : (n + m) * bytes ≤ 140737488355328) (hbase : base ≤ w.heap.size) :
    ∃ v' w', (Builtin.append_ #[t, t] ty #[v, .slice p m c]).run P w = .ok v' w' ∧ w'.ownsRow base e 1 v' (n + m) (xs ++ l.map (Value.int .u8)) ∧ w.grownBy w' v.ownBlock ∧ (v'.ownBlock = v.ownBlock ∨ v'.ownBlock = some w.heap.size) := by
  rcases Nat.eq_zero_or_pos m with h0 | h0
  · have hl : l = [] := List.eq_nil_of_length_eq_zero (by rw [hb.1, h0])
    subst hl
    subst h0
    exact ⟨v, w, run_append_empty w base t ty e i 1 ht hi v n xs hown p c, by simpa using hown, World.grownBy.refl w _, .inl rfl⟩
  · obtain ⟨B, off, rfl, hc⟩ := hb.2.2 h0
    obtain ⟨v', w', h1, h2, h3, _, h5⟩ := run_append_own_at (P := P) w base t ty e i z 1 bytes ht hi hz hsize hby hzs (by omega) v n xs hown ⟨B, off, none⟩ m c (l.map (Value.int .u8)) (by simp [hb.1])
      (fun j u hu => by
        rw [List.getElem?_map] at hu
        obtain ⟨x, hx, rfl⟩ := Option.map_eq_some_iff.1 hu
        have hj : j < m := by have := (List.getElem?_eq_some_iff.1 hx).1; rw [hb.1] at this; exact this
        rw [addr_add, hc j hj]
        simp [List.getD, hx]) (oneCell_u8 l) h63 hbytes hbase
    exact ⟨v', w', h1, h2, h3, h5⟩

theorem wpList_append_bs {P : Program} (w : World) {ops : Array Oper} {rest : List Oper} {o : Oper} {a : Act} {Q : Exit → Act → World → Prop} (hgd : o.guard = none) (s x : Operand) (t : TypeId)
    (ho : o.op = .call { callee := .builtin .append, args := #[s, x], argTypes := #[t, t] })
    (base : Nat) (e : TypeId) (i : TypeInfo) (z : Value) (bytes : Nat) (ht : P.underlying t = some (.slice e)) (hi : P.info? e = some i) (hz : i.zero = some z)
    (hsize : i.size = 1) (hby : i.bytes = bytes) (hzs : z.cells.size = 1)
    (v : Value) (n : Nat) (xs : List Value) (hs : a.eval s = v) (hown : w.ownsRow base e 1 v n xs)
    (p : Option Addr) (m c : Nat) (l : List Int) (hx : a.eval x = .slice p m c) (hb : Bs w p m l)
    (h63 : n + m ≤ maxLen) (hbytes : (n + m) * bytes ≤ 140737488355328) (hbase : base ≤ w.heap.size)
    (h : ∀ v' w', w'.ownsRow base e 1 v' (n + m) (xs ++ l.map (Value.int .u8)) → w.grownBy w' v.ownBlock → (v'.ownBlock = v.ownBlock ∨ v'.ownBlock = some w.heap.size) → wpList P ops Q rest (a.put o.dst v') w') : wpList P ops Q (o :: rest) a w :=
  wpList_plain hgd fun K hK => by
    obtain ⟨v', w', hr, h2, h3, h4⟩ := run_append_bs (P := P) w base t o.type e i z bytes ht hi hz hsize hby hzs v n xs hown p m c l hb h63 hbytes hbase
    unfold Oper.wp execOp
    simp only [ho, resolve, invoke, builtin, Sem.run_bind, Sem.run_pure, Result.andThen_ok, List.map_toArray, List.map_cons, List.map_nil, hs, hx, hr]
    exact hK _ _ (h v' w' h2 h3 h4)

/-- A row of the call's own reads as bytes. -/
theorem Bs.of_own {w : World} {base e n : Nat} {v : Value} {l : List Int} (h : w.ownsRow base e 1 v n (l.map (Value.int .u8))) (hl : ∀ x ∈ l, 0 ≤ x ∧ x < 256) (hn : 0 < n) :
    ∃ g cap, v = .slice (some ⟨g, 0, none⟩) n cap ∧ n ≤ cap ∧ cap ≤ maxLen ∧ base ≤ g ∧ g < w.heap.size ∧ Bs w (some ⟨g, 0, none⟩) n l := by
  rcases h.2 with ⟨_, h0⟩ | ⟨g, cap, cur, rfl, hg, hh, hc1, hc2, hc3, hc4⟩
  · omega
  · have hlen : l.length = n := by have := h.1; simpa using this
    refine ⟨g, cap, rfl, hc1, hc2, hg, (Array.getElem?_eq_some_iff.1 hh).1, hlen, hl, fun _ => ⟨g, 0, rfl, fun i hi => ?_⟩⟩
    rw [cell_of_row w g (0 + i) _ _ _ hh, Nat.zero_add]
    have h1 : (cur.toList.take (n * 1))[i]? = (l.map (Value.int .u8))[i]? := by rw [hc4]
    rw [List.getElem?_take, if_pos (by omega)] at h1
    rw [← Array.getElem?_toList, h1]
    simp [List.getD, show i < l.length by omega]
end Go.Proofs.Ytiebggfpjkhlaaa
