/- The walk of synodref04.rest. No condition. -/
import Derived.Test.YtdcfpgclnhacmaaTb
import Derived.Deep.LoopGhost
namespace Go.Proofs.Ytdcfpgclnhacmaa
open Go Go.RowKit
theorem and_i64_1 (x : Int) : bits .and .i64 x 1 = x % 2 := by
  have e0 : ∀ a b : Int, bits .and .i64 a b = IntKind.i64.wrap ((BitVec.ofInt 64 a &&& BitVec.ofInt 64 b).toNat : Int) := fun _ _ => rfl
  rw [e0, BitVec.toNat_and, BitVec.toNat_ofInt, BitVec.toNat_ofInt]
  have e2 : (((1 : Int) % ((2 ^ 64 : Nat) : Int)).toNat) = 2 ^ 1 - 1 := by decide
  rw [e2, Nat.and_two_pow_sub_one_eq_mod]
  have e3 : (((x % ((2 ^ 64 : Nat) : Int)).toNat % 2 ^ 1 : Nat) : Int) = x % 2 := by omega
  rw [e3]
  unfold IntKind.wrap
  simp [IntKind.signed, IntKind.bits]
  omega
theorem and_i64_255 (x : Int) : bits .and .i64 x 255 = x % 256 := by
  have e0 : ∀ a b : Int, bits .and .i64 a b = IntKind.i64.wrap ((BitVec.ofInt 64 a &&& BitVec.ofInt 64 b).toNat : Int) := fun _ _ => rfl
  rw [e0, BitVec.toNat_and, BitVec.toNat_ofInt, BitVec.toNat_ofInt]
  have e2 : (((255 : Int) % ((2 ^ 64 : Nat) : Int)).toNat) = 2 ^ 8 - 1 := by decide
  rw [e2, Nat.and_two_pow_sub_one_eq_mod]
  have e3 : (((x % ((2 ^ 64 : Nat) : Int)).toNat % 2 ^ 8 : Nat) : Int) = x % 256 := by omega
  rw [e3]
  unfold IntKind.wrap
  simp [IntKind.signed, IntKind.bits]
  omega
theorem L34 : LL < 256 ^ 34 ∧ 2 * LL < 256 ^ 34 := by unfold LL; decide +kernel
/-- What is reached above bit j of the digit c, V being what lies above it. -/
def bitv (V c : Int) (j : Nat) : Int := V * 2 ^ (8 - j) + c / 2 ^ j
theorem bitv_top (V c : Int) (hc : 0 ≤ c ∧ c < 256) : bitv V c 8 = V := by
  unfold bitv
  rw [show (2 : Int) ^ 8 = 256 from by decide, Int.ediv_eq_zero_of_lt hc.1 hc.2]; simp
theorem bitv_end (V c : Int) : bitv V c 0 = c + 256 * V := by
  unfold bitv
  simp; omega
theorem bitv_next (V c : Int) (j : Nat) (hj : j < 8) : bitv V c j = 2 * bitv V c (j + 1) + c / 2 ^ j % 2 := by
  unfold bitv
  rw [show 8 - j = (8 - (j + 1)) + 1 by omega, Int.pow_succ, Int.pow_succ, ← div_div (pow2_pos j)]
  have := Int.emod_add_mul_ediv (c / 2 ^ j) 2
  generalize c / 2 ^ j = x at *
  grind
/-- The rest behind one bit. -/
theorem rest_bit (N b : Int) (hb : 0 ≤ b ∧ b ≤ 1) : 0 ≤ 2 * (N % LL) + b ∧ 2 * (N % LL) + b < 256 ^ 34 ∧
    (LL ≤ 2 * (N % LL) + b → 2 * (N % LL) + b - LL = (2 * N + b) % LL) ∧ (¬ LL ≤ 2 * (N % LL) + b → 2 * (N % LL) + b = (2 * N + b) % LL) := by
  have h := mod_LL N
  have hL := L34
  have e := Int.emod_add_mul_ediv N LL
  have e2 : 2 * N + b = 2 * (N % LL) + b + LL * (2 * (N / LL)) := by
    rw [Int.mul_left_comm]; omega
  generalize N % LL = R at *
  generalize 2 * (N / LL) = q at *
  clear e
  have hP : 0 < LL := LL_pos
  generalize LL = L at *
  refine ⟨by omega, by omega, fun h1 => ?_, fun h1 => ?_⟩
  · rw [e2, Int.add_mul_emod_self_left]
    have : (2 * R + b) % L = (2 * R + b - L) % L := by rw [Int.sub_emod_right]
    rw [this, Int.emod_eq_of_lt (by omega) (by omega)]
  · rw [e2, Int.add_mul_emod_self_left, Int.emod_eq_of_lt (by omega) (by omega)]
/-- What a loop that writes one block leaves of a slice of ints elsewhere. -/
theorem Is.one {W0 wr : World} {b : Nat} {t : TypeId} {cs : Array Value} {B off n : Nat} {L : List Int} (h : Is W0 (some ⟨B, off, none⟩) n L) (ho : OneBlk W0 b t cs wr) (hne : B ≠ b) : Is wr (some ⟨B, off, none⟩) n L := by
  refine ⟨h.1, fun hn => ⟨B, off, rfl, fun i hi => ?_⟩⟩
  rw [ho.farCell hne]
  exact h.cell i hi
theorem dbl_step (X b : Int) (k : Nat) (hk : k < 34) :
    (arrI (mix (d34 (2 * X + b)) (d34 X) k)).setIfInBounds k (.int .i64 ((2 * (d34 X).getD k 0 + cry 256 X b k) % 256)) = arrI (mix (d34 (2 * X + b)) (d34 X) (k + 1)) ∧
    (2 * (d34 X).getD k 0 + cry 256 X b k) / 256 = cry 256 X b (k + 1) ∧ (mix (d34 (2 * X + b)) (d34 X) k).getD k 0 = (d34 X).getD k 0 := by
  have hl : (d34 (2 * X + b)).length = (d34 X).length := by rw [d34_length, d34_length]
  refine ⟨?_, ?_, mix_at _ _ _ hl (by rw [d34_length]; exact hk)⟩
  · rw [d34_at X k hk, cry_out (by omega) X b k, ← d34_at (2 * X + b) k hk, arrI_set, mix_set _ _ _ hl (by rw [d34_length]; exact hk)]
  · rw [d34_at X k hk, cry_next (by omega) X b k]
theorem vd_drop (β : Int) (D : List Int) (m : Nat) (h : m < D.length) : vd β (D.drop m) = D.getD m 0 + β * vd β (D.drop (m + 1)) := by
  rw [List.drop_eq_getElem_cons h]
  simp [vd, List.getD, h]
theorem b32_of_d34 (V : Int) : (d34 V).take 32 = b32 V := dg_take 34 V 32 (by omega)
theorem infoB8 : (Try.prog.info? 5).map (fun i => (i.zero, i.size, i.bytes)) = some (some (.int .u8 0), 1, 1) := by kernel_rfl
set_option maxRecDepth 100000 in
set_option maxHeartbeats 16000000 in
theorem trest_any (pd : Option Addr) (n cd : Nat) (D : List Int) (w : World) (hn : n ≤ 66) (hd : Is w pd n D) (hD : Dr 256 D) :
    Calls Try.prog 29 #[.slice pd n cd] w fun e w' => ∃ g cap, e = .returned (.slice (some ⟨g, 0, none⟩) 32 cap) ∧ w.heap.size ≤ g ∧ 32 ≤ cap ∧ Bs w' (some ⟨g, 0, none⟩) 32 (b32 (vd 256 D % LL)) ∧ Below w.heap.size w w' := by
  have hmk := make34
  have hlen := Lib.hid hd.1
  have hd0 := hd
  have h1 := and_i64_1
  have h255 := and_i64_255
  go_enter Try.func29, Try.ntmps29
  go_wp2_with fail
  obtain ⟨W1, hW1, hz, hb1, q1⟩ := one_new w (.cells Z34 3)
  rw [hW1]
  have HZ := Lib.hid hz
  clear hW1 hz hmk
  refine (order_any _).mono ?_
  rintro e w2 ⟨gl, cl, rfl, hcl, _, hgl, hIl, hb2⟩
  have hb12 := bjoin hb1 hb2
  have q2 := block_stay hb2 q1
  rw [← d34_zero] at q2
  clear hb1 hb2 q1 hd
  have HD0 := Lib.hid hd0
  have hne : w.heap.size ≠ gl := by have := HZ.out; omega
  have hglt : gl < w2.heap.size := by
    have := hIl.cell 0 (by omega)
    exact World.block_lt_of_cell? w2 _ this
  clear hd0 hgl
  have hL34 := L34
  have HL34 := Lib.hid hL34
  clear hL34
  go_wp2
  go_loopw [3, 5] (fun x i wr => ∃ (m g : Nat) (z : Int), m ≤ n ∧ z = (m : Int) - 1 ∧ i = .int .i64 z ∧ x = .slice (some ⟨g, 0, none⟩) 34 34 ∧ w.heap.size ≤ g ∧ g ≠ gl ∧ wr.heap[g]? = some (.cells (arrI (d34 (vd 256 (D.drop m) % LL))) 3 (0, 0)) ∧ Is wr (some ⟨gl, 0, none⟩) 34 (d34 LL) ∧ Below w.heap.size w wr) (fun _ i _ => (intOf i + 1).toNat)
  case atStart => exact ⟨n, w.heap.size, (n : Int) - 1, Nat.le_refl _, rfl, rfl, rfl, Nat.le_refl _, hne, by rw [List.drop_of_length_le (by rw [hlen.out]; exact Nat.le_refl _)]; exact q2, hIl, hb12⟩
  case round =>
    obtain ⟨m, g, z, hm, hz, rfl, rfl, hg, hgne, hblk, hIw, hbel⟩ := hrel
    cases m with
    | zero =>
      obtain rfl : z = -1 := by omega
      rw [List.drop_zero] at hblk
      generalize hX : vd 256 D % LL = X at *
      have HX := Lib.hid hX
      have hgw : g < wr.heap.size := (Array.getElem?_eq_some_iff.1 hblk).1
      obtain ⟨wo, hwo⟩ : ∃ wo : World, wo = wr := ⟨_, rfl⟩
      have hIx : ∀ i, i < 32 → wr.cell? ⟨g, i, none⟩ = some (.int .i64 ((b32 X).getD i 0)) := fun i hi => by
        rw [(cell_of_row wr g i _ _ _ hblk).trans (arrI_at _ _ (by rw [d34_length]; omega)), dg_at (by omega) 34 X i (by omega), dg_at (by omega) 32 X i (by omega)]
      have HIx := Lib.hid hIx
      have HBEL := Lib.hid hbel
      obtain ⟨i0, hi0, hz0, hz1, hz2⟩ := info_parts infoB8
      clear hX hz hIx hblk hIw HD0 h1 h255 hb12 q2
      rw [← hwo] at hgw
      have HWO := Lib.hid hwo
      clear hwo hbel
      go_wp2
      go_loopw [12, 13] (fun v i wr => ∃ k : Nat, k ≤ 32 ∧ i = .int .i64 k ∧ wr.ownsRow wo.heap.size 5 1 v k (((b32 X).take k).map (Value.int .u8)) ∧ Below wo.heap.size wo wr) (fun _ i _ => 32 - (intOf i).toNat)
      case atStart => exact ⟨0, by omega, rfl, World.ownsRow_nil _ _ _ _, by rw [HWO.out]; exact Below.refl _ _⟩
      case round =>
        obtain ⟨k, hk, rfl, hown, hbel⟩ := hrel
        by_cases hlt : k < 32
        · have hdk : decide ((k : Int) < 32) = true := by simp; omega
          have cx : wr.cell? ⟨g, k, none⟩ = some (.int .i64 ((b32 X).getD k 0)) := by
            rw [hbel.cell (p := ⟨g, k, none⟩) hgw, HWO.out]
            exact HIx.out k hlt
          have xb : 0 ≤ (b32 X).getD k 0 ∧ (b32 X).getD k 0 < 256 := dg_in (by omega) 32 X k
          have hnx : (b32 X).take (k + 1) = (b32 X).take k ++ [(b32 X).getD k 0] := by
            rw [List.take_succ_eq_append_getElem (by rw [b32_length]; exact hlt)]
            simp [List.getD, b32_length, hlt]
          have HNX := Lib.hid hnx
          clear hnx
          generalize (b32 X).getD k 0 = x at *
          go_wp2_with (at_builtin; refine wpList_append_own _ rfl (.tmp 65) (.tmp 71) 22 rfl wo.heap.size 5 i0 (.int .u8 0) 1 1 Try.underlying22 hi0 hz0 hz1 hz2 rfl (by decide) _ k _ rfl (hown.alloc _) ⟨wr.heap.size, 0, none⟩ 1 1 [.int .u8 x] rfl rfl (one_news wr _ _) (int_oneCell _ _) (by unfold maxLen; omega) (by omega) (by have := hbel.size; simp; omega) ?_; intro v1 w1 hown1 hg1 _; have hb1 := (hbel.alloc hbel.size _).grown hg1 (by have := hbel.size; simp; omega) (fun k hk => (hown.lt k hk).1); rw [show List.map (Value.int .u8) ((b32 X).take k) ++ [Value.int .u8 x] = ((b32 X).take (k + 1)).map (Value.int .u8) from by rw [HNX.out]; simp] at hown1; clear hown hg1 hbel)
          go_roundw
          case rel => exact ⟨k + 1, by omega, by go_num, hown1, hb1⟩
          case measure => simp [intOf]; omega
        · obtain rfl : k = 32 := by omega
          have hdk : decide ((32 : Int) < 32) = false := rfl
          rw [List.take_of_length_le (by rw [b32_length]; omega)] at hown
          obtain ⟨gb, capb, rfl, hc1, hc2, hgg, hglt, hBs⟩ := Bs.of_own hown (b32_in X) (by omega)
          have hfin : Below w.heap.size w wr := by
            have := HBEL.out
            rw [← HWO.out] at this
            exact bjoin this hbel
          have hle : w.heap.size ≤ wo.heap.size := by rw [HWO.out]; exact HBEL.out.size
          clear hown
          go_wp2
          go_ret
          exact ⟨gb, capb, rfl, by omega, hc1, by rw [HX.out]; exact hBs, hfin⟩
    | succ m =>
      obtain rfl : z = (m : Int) := by omega
      have hdz : decide ((m : Int) ≥ 0) = true := by simp
      have hdr := vd_drop 256 D m (by rw [hlen.out]; omega)
      have hc := hD m
      obtain ⟨Bd, od, rfl, hcd⟩ := HD0.out.2 (by omega)
      have cd : Hid (∀ wr, Below w.heap.size w wr → wr.cell? ⟨Bd, od + m, none⟩ = some (.int .i64 (D.getD m 0))) := fun wr h => by
        have h1 := hcd m (by omega)
        rw [h.cell (p := ⟨Bd, od + m, none⟩) (World.block_lt_of_cell? w _ h1)]
        exact h1
      generalize hV : vd 256 (D.drop (m + 1)) = V at *
      generalize D.getD m 0 = c at *
      have HDR := Lib.hid hdr
      clear hV hcd hdr hz
      obtain ⟨wo, rfl⟩ : ∃ wo : World, wo = wr := ⟨_, rfl⟩
      go_wp2
      go_loopw [3, 6] (fun x bit wr => ∃ (j g : Nat) (z : Int), j ≤ 8 ∧ z = (j : Int) - 1 ∧ bit = .int .i64 z ∧ x = .slice (some ⟨g, 0, none⟩) 34 34 ∧ w.heap.size ≤ g ∧ g ≠ gl ∧ wr.heap[g]? = some (.cells (arrI (d34 (bitv V c j % LL))) 3 (0, 0)) ∧ Is wr (some ⟨gl, 0, none⟩) 34 (d34 LL) ∧ Below w.heap.size w wr) (fun _ b _ => (intOf b + 1).toNat)
      case atStart => exact ⟨8, g, 7, by omega, by omega, rfl, rfl, hg, hgne, by rw [bitv_top V c hc]; exact hblk, hIw, hbel⟩
      case round =>
        clear hblk hIw hbel hg hgne
        obtain ⟨j, g, z, hj, hz, rfl, rfl, hg, hgne, hblk, hIw, hbel⟩ := hrel
        cases j with
        | zero =>
          obtain rfl : z = -1 := by omega
          rw [bitv_end] at hblk
          rw [← HDR.out] at hblk
          clear hz
          go_wp2
          go_roundw
          case rel => exact ⟨m, g, (m : Int) - 1, by omega, rfl, rfl, rfl, hg, hgne, hblk, hIw, hbel⟩
          case measure => simp [intOf]
        | succ j =>
          obtain rfl : z = (j : Int) := by omega
          have hdz2 : decide ((j : Int) ≥ 0) = true := by simp
          have hbn := bitv_next V c j (by omega)
          have cD := cd.out wr hbel
          have hj8 : (j : Int) < 8 := by omega
          have hb01 : 0 ≤ c / 2 ^ j % 2 ∧ c / 2 ^ j % 2 ≤ 1 := by omega
          obtain ⟨r0, r1, r2, r3⟩ := rest_bit (bitv V c (j + 1)) (c / 2 ^ j % 2) hb01
          rw [← hbn] at r2 r3
          have HBN := Lib.hid hbn
          have HR := Lib.hid (And.intro r1 (And.intro r2 r3))
          clear hbn hz r1 r2 r3
          generalize hb : c / 2 ^ j % 2 = b at *
          have HBB := Lib.hid hb
          clear hb
          generalize hX : bitv V c (j + 1) % LL = X at *
          have HX := Lib.hid hX
          clear hX
          obtain ⟨wo2, rfl⟩ : ∃ wo : World, wo = wr := ⟨_, rfl⟩
          go_wp2
          rw [HBB.out]
          go_loopw [7, 8] (fun cy k wr => ∃ q : Nat, q ≤ 34 ∧ k = .int .i64 q ∧ cy = .int .i64 (cry 256 X b q) ∧ OneBlk wo2 g 3 (arrI (mix (d34 (2 * X + b)) (d34 X) q)) wr) (fun _ k _ => 34 - (intOf k).toNat)
          case atStart => exact ⟨0, by omega, rfl, by rw [cry_zero], by rw [mix_zero]; exact OneBlk.start hblk⟩
          case round =>
            obtain ⟨q, hq, rfl, rfl, hI⟩ := hrel
            by_cases hqlt : q < 34
            · have hdq : decide ((q : Int) < 34) = true := by simp; omega
              obtain ⟨s1, s2, s3⟩ := dbl_step X b q hqlt
              have cx := (hI.cell q).trans (arrI_at _ _ (by rw [mix_length _ _ _ (by rw [d34_length, d34_length]) (by rw [d34_length]; omega), d34_length]; exact hqlt))
              rw [s3] at cx
              have fx := hI.free q
              have xa := d34_in X q
              have xc := cry_in (β := 256) (by omega) X b q hb01
              generalize (d34 X).getD q 0 = x at *
              generalize cry 256 X b q = cy at *
              have S1 := Lib.hid s1
              have S2 := Lib.hid s2
              have HI := Lib.hid hI
              clear s1 s2 s3 hI hlen HD0 cd
              go_wp2
              go_roundw
              case rel => exact ⟨q + 1, by omega, by go_num, by rw [S2.out], by rw [← S1.out]; exact HI.out.setCell _ _⟩
              case measure => simp [intOf]; omega
            · obtain rfl : q = 34 := by omega
              have hdq : decide ((34 : Int) < 34) = false := rfl
              rw [show mix (d34 (2 * X + b)) (d34 X) 34 = d34 (2 * X + b) from by have := mix_all (d34 (2 * X + b)) (d34 X) (by rw [d34_length, d34_length]); rwa [d34_length] at this] at hI
              have hbel2 := hI.below hbel hg
              have hIx := Is.of_block hI.blk (d34_length (2 * X + b))
              have hIl2 := hIw.one hI hgne.symm
              have hblk2 := hI.blk
              clear hI hblk hIw hbel
              go_wp2_with fail
              refine (less_any _ _ 34 cl (2 * X + b) LL _ hIx hIl2 ⟨r0, HR.out.1⟩ ⟨Int.le_of_lt LL_pos, HL34.out.1⟩).mono ?_
              rintro e w5 ⟨gy, rfl, hgy, hy, hb5⟩
              have hbel5 := bjoin hbel2 hb5
              have hIl5 := hIl2.keep hb5
              have hx5 := block_stay hb5 hblk2
              have hs2 := hbel2.size
              have hglw : gl < wr.heap.size := World.block_lt_of_cell? wr _ (hIl2.cell 0 (by omega))
              clear hIx hIl2 hblk2 hb5 hbel2
              by_cases hle : LL ≤ 2 * X + b
              · have hd1 : decide (LL ≤ 2 * X + b) = true := by simpa using hle
                have e1 := HR.out.2.1 hle
                rw [e1] at hy
                clear hle e1
                go_wp2
                go_roundw
                case rel => exact ⟨j, gy, (j : Int) - 1, by omega, rfl, rfl, rfl, by omega, by omega, hy, hIl5, hbel5⟩
                case measure => simp [intOf]
              · have hd1 : decide (LL ≤ 2 * X + b) = false := by simpa using hle
                have e1 := HR.out.2.2 (by omega)
                rw [e1] at hx5
                clear hle e1
                go_wp2
                go_roundw
                case rel => exact ⟨j, g, (j : Int) - 1, by omega, rfl, rfl, rfl, hg, hgne, hx5, hIl5, hbel5⟩
                case measure => simp [intOf]
end Go.Proofs.Ytdcfpgclnhacmaa
