/- What ladder.Mul answers, in the ring of numbers mod p; keys and points that say the same. The ladder's answers as bytes: both ways the same; of the base point never 0. The walks of LadderAgrees and LadderCommutes. The walk of LadderIgnores. No condition. -/
import Derived.Test.YtenppmciabdefaaEa
import Derived.Test.YtenppmciabdefaaQf
import Derived.Test.YtenppmciabdefaaQm
import Derived.Test.YtenppmciabdefaaMa
import Derived.Test.YtenppmciabdefaaWp
import Derived.Test.YtenppmciabdefaaWt
namespace Go.Proofs.Ytenppmciabdefaa
open Go Go.RowKit
namespace Ed
theorem PP_pos : (0 : Int) < PP := by decide
/-- A whole number in the ring. -/
def zf (a : Int) : Zp := Fin.ofNat _ (a % PP).toNat
theorem zf_val (a : Int) : ((zf a).val : Int) = a % PP := by
  have h1 := Int.emod_nonneg a (by decide : PP ≠ 0)
  have h2 := Int.emod_lt_of_pos a PP_pos
  rw [zf, Fin.val_ofNat, Nat.mod_eq_of_lt]
  · omega
  · unfold PP at *
    omega
theorem zf_ext {a : Int} {z : Zp} (h : a % PP = (z.val : Int)) : zf a = z := by
  apply Fin.ext
  have := zf_val a
  omega
theorem zf_eq {a b : Int} : zf a = zf b ↔ a % PP = b % PP := by
  rw [← zf_val, ← zf_val]
  exact ⟨fun h => by rw [h], fun h => Fin.ext (by omega)⟩
theorem zf_mod (a : Int) : zf (a % PP) = zf a := zf_eq.2 (Int.emod_emod_of_dvd _ (Int.dvd_refl _))
theorem PP_nat : PP = ((57896044618658097711785492504343953926634992332820282019728792003956564819949 : Nat) : Int) := rfl
theorem zf_add (a b : Int) : zf (a + b) = zf a + zf b := by
  refine zf_ext ?_
  rw [Fin.val_add, Int.natCast_emod, Int.natCast_add, zf_val, zf_val, ← PP_nat, ← Int.add_emod]
theorem zf_mul (a b : Int) : zf (a * b) = zf a * zf b := by
  refine zf_ext ?_
  rw [Fin.val_mul, Int.natCast_emod, Int.natCast_mul, zf_val, zf_val, ← PP_nat, ← Int.mul_emod]
theorem zf_sub (a b : Int) : zf (a - b) = zf a - zf b := by
  have h := zf_add (a - b) b
  rw [Int.sub_add_cancel] at h
  grobner
theorem zf_0 : zf 0 = 0 := by decide +kernel
theorem zf_1 : zf 1 = 1 := by decide +kernel
theorem zf_9 : zf 9 = 9 := by decide +kernel
theorem zf_a : zf 121665 = 121665 := by decide +kernel
theorem zf_zero {a : Int} : zf a = 0 ↔ PP ∣ a := by
  rw [← zf_0, zf_eq]
  exact ⟨fun h => Int.dvd_of_emod_eq_zero (by rw [h]; rfl), fun h => by rw [Int.emod_eq_zero_of_dvd h]; rfl⟩
def zq (s : Int × Int × Int × Int) : Zp × Zp × Zp × Zp := (zf s.1, zf s.2.1, zf s.2.2.1, zf s.2.2.2)
theorem zq_step (u : Int) (s : Int × Int × Int × Int) : zq (ladS u s) = zS (zf u) (zq s) := by
  simp only [zq, ladS, zS, zf_mod, zf_mul, zf_add, zf_sub, zf_a]
theorem zq_bit (u : Int) (s : Int × Int × Int × Int) (b : Bool) : zq (ladB u s b) = zB (zf u) (zq s) b := by
  cases b
  · exact zq_step u s
  · exact congrArg zsw (zq_step u (swp s))
theorem zq_all (u : Int) : ∀ (l : List Bool) (s : Int × Int × Int × Int), zq (l.foldl (ladB u) s) = l.foldl (zB (zf u)) (zq s)
  | [], _ => rfl
  | b :: l, s => by rw [List.foldl_cons, List.foldl_cons, zq_all u l, zq_bit]
theorem zq_F (u : Int) (l : List Bool) : zq (ladF u l) = zF (zf u) l := by
  unfold ladF zF
  rw [zq_all]
  simp only [zq, zf_0, zf_1]
theorem zf_pinv {N : Int} (h : zf N ≠ 0) : zf (pinv N) = zi (zf N) := by
  have h1 := inv_mul (N := N) (fun hd => h (zf_zero.2 hd))
  have h2 := zf_zero.2 h1
  rw [zf_sub, zf_mul, zf_1] at h2
  exact cancel h (by rw [zi_mul h]; grobner)
/-- MUL'S ANSWER. -/
theorem zf_mulN (k u : List Int) : zf (mulN k u) = zM (zf (valB (uTop u))) (bitL (clampL k)) := by
  unfold mulN zM
  have h := zq_F (valB (uTop u)) (bitL (clampL k))
  generalize ladF (valB (uTop u)) (bitL (clampL k)) = s at *
  generalize zF (zf (valB (uTop u))) (bitL (clampL k)) = t at *
  subst h
  show _ = if zf s.2.1 = 0 then 0 else zf s.1 * zi (zf s.2.1)
  rw [zf_mul]
  by_cases h0 : zf s.2.1 = 0
  · rw [if_pos h0, zf_zero.2 (pinv_zero (zf_zero.1 h0))]
    grobner
  · rw [if_neg h0, zf_pinv h0]
theorem ord9 : (ladF 9 ordL).2.1 = 0 := by decide +kernel
theorem ord_zero : (zF 9 ordL).2.1 = 0 := by
  have h := zq_F 9 ordL
  rw [zf_9] at h
  rw [← h]
  show zf (ladF 9 ordL).2.1 = 0
  rw [ord9, zf_0]
theorem range_split {r : List Nat} (f : Nat → Bool) (h : List.range 255 = 0 :: (r.map fun j => j + 1) ++ [252, 253, 254]) : (List.range 255).map f = f 0 :: (r.map fun j => f (j + 1)) ++ [f 252, f 253, f 254] := by
  rw [h]
  simp [List.map_map, Function.comp_def]
theorem range_255 : List.range 255 = 0 :: ((List.range 251).map fun j => j + 1) ++ [252, 253, 254] := by decide +kernel
/-- A clamped key's bits. -/
theorem clamp_bits (k : List Int) (hk : k.length = 32) (hb : ∀ x ∈ k, 0 ≤ x ∧ x < 256) : ∃ l, l.length = 251 ∧ bitL (clampL k) = true :: l ++ [false, false, false] := by
  have h0 := byte_at hb 0
  have h31 := byte_at hb 31
  have c0 : (clampL k).getD 0 0 = k.getD 0 0 / 8 * 8 := by
    unfold clampL
    rw [getD_setB _ _ _ _ (by simp [hk]), getD_setB _ _ _ _ (by omega)]
    rfl
  have c31 : (clampL k).getD 31 0 = k.getD 31 0 % 64 + 64 := by
    unfold clampL
    rw [getD_setB _ _ _ _ (by simp [hk])]
    rfl
  refine ⟨(List.range 251).map fun j => bitB (clampL k) (253 - j), by simp, ?_⟩
  have b254 : bitB (clampL k) (254 - 0) = true := by
    show ((clampL k).getD 31 0 / 2 ^ 6 % 2 == 1) = true
    rw [c31]
    generalize k.getD 31 0 = x at *
    have : (x % 64 + 64) / 2 ^ 6 % 2 = 1 := by omega
    rw [this]
    rfl
  have b2 : bitB (clampL k) (254 - 252) = false := by
    show ((clampL k).getD 0 0 / 2 ^ 2 % 2 == 1) = false
    rw [c0]
    generalize k.getD 0 0 = x at *
    have : x / 8 * 8 / 2 ^ 2 % 2 = 0 := by omega
    rw [this]
    rfl
  have b1 : bitB (clampL k) (254 - 253) = false := by
    show ((clampL k).getD 0 0 / 2 ^ 1 % 2 == 1) = false
    rw [c0]
    generalize k.getD 0 0 = x at *
    have : x / 8 * 8 / 2 ^ 1 % 2 = 0 := by omega
    rw [this]
    rfl
  have b0 : bitB (clampL k) (254 - 254) = false := by
    show ((clampL k).getD 0 0 / 2 ^ 0 % 2 == 1) = false
    rw [c0]
    generalize k.getD 0 0 = x at *
    have : x / 8 * 8 / 2 ^ 0 % 2 = 0 := by omega
    rw [this]
    rfl
  have e := range_split (fun j => bitB (clampL k) (254 - j)) range_255
  rw [b254, b2, b1, b0] at e
  have e2 : ((List.range 251).map fun j => bitB (clampL k) (254 - (j + 1))) = (List.range 251).map fun j => bitB (clampL k) (253 - j) := by
    refine List.map_congr_left fun j _ => ?_
    congr 1
    omega
  rw [e2] at e
  exact e
end Ed
end Go.Proofs.Ytenppmciabdefaa
namespace Go.Proofs.Ytenppmciabdefaa
open Go Go.RowKit
open Ed
theorem uTop_leB (N : Int) : uTop (leB (N % PP)) = leB (N % PP) := by
  have h0 := Int.emod_nonneg N (show PP ≠ 0 by decide)
  have h1 := Int.emod_lt_of_pos N (show 0 < PP by decide)
  generalize N % PP = X at *
  have e : (leB X).getD 31 0 % 128 = (leB X).getD 31 0 := by
    show X / 452312848583266388373324160190187140051835877600158453279131187530910662656 % 256 % 128 = X / 452312848583266388373324160190187140051835877600158453279131187530910662656 % 256
    unfold PP at h1
    omega
  unfold uTop
  rw [e]
  rfl
theorem valB_can (N : Int) : valB (leB (N % PP)) = N % PP := by
  have h0 := Int.emod_nonneg N (show PP ≠ 0 by decide)
  have h1 := Int.emod_lt_of_pos N (show 0 < PP by decide)
  generalize N % PP = X at *
  unfold PP at h1
  simp only [leB, valB]
  omega
theorem zf_can (N : Int) : zf (valB (uTop (leB (N % PP)))) = zf N := by rw [uTop_leB, valB_can, zf_mod]
/-- So many times so many is the same both ways. -/
theorem mul_swap (ka kb u : List Int) : mulN kb (leB (mulN ka u % PP)) % PP = mulN ka (leB (mulN kb u % PP)) % PP := by
  rw [← zf_eq, zf_mulN, zf_mulN, zf_can, zf_can, zf_mulN, zf_mulN]
  exact zM_comm _ _ _
theorem mx_ge : ∀ (l : List Int) (a : Int), a ≤ l.foldl max a
  | [], _ => Int.le_refl _
  | x :: l, a => Int.le_trans (Int.le_max_left a x) (mx_ge l _)
theorem mx_all : ∀ (l : List Int) (a : Int), ∀ x ∈ l, x ≤ l.foldl max a
  | [], _, _, h => by cases h
  | y :: l, a, x, h => by
    rcases List.mem_cons.1 h with rfl | h
    · exact Int.le_trans (Int.le_max_right a x) (mx_ge l _)
    · exact mx_all l _ x h
theorem valB_zero : ∀ (l : List Int), (∀ x ∈ l, x = 0) → valB l = 0
  | [], _ => rfl
  | x :: l, h => by
    rw [valB, valB_zero l (fun y hy => h y (List.mem_cons_of_mem _ hy)), h x (List.mem_cons_self ..)]
    rfl
theorem mx_zero {N : Int} (h : mx (leB (N % PP)) = 0) : N % PP = 0 := by
  rw [← valB_can N]
  refine valB_zero _ fun x hx => ?_
  have h1 := (leB_in (N % PP) x hx).1
  have h2 := mx_all (leB (N % PP)) 0 x hx
  unfold mx at h
  omega
theorem key_order {p : Nat} (hp : p = 7237005577332262213973186563042994240857116359379907606001950938285454250989) (k : List Int) (hk : k.length = 32) (hb : ∀ x ∈ k, 0 ≤ x ∧ x < 256) : ¬ p ∣ bitsN (bitL (clampL k)) := by
  obtain ⟨l, hl, e⟩ := clamp_bits k hk hb
  rw [e]
  exact no_order hp l hl
/-- What two make of each other's public keys is not 0. -/
theorem shared_ne (ka kb : List Int) (ha : ka.length = 32) (hab : ∀ x ∈ ka, 0 ≤ x ∧ x < 256) (hb : kb.length = 32) (hbb : ∀ x ∈ kb, 0 ≤ x ∧ x < 256) : mx (leB (mulN ka (leB (mulN kb nineL % PP)) % PP)) ≠ 0 := by
  intro h
  have h1 := Int.dvd_of_emod_eq_zero (mx_zero h)
  rw [← zf_zero, zf_mulN, zf_can, zf_mulN, val9, zf_9] at h1
  obtain ⟨p, hp⟩ : ∃ p : Nat, p = 7237005577332262213973186563042994240857116359379907606001950938285454250989 := ⟨_, rfl⟩
  exact zM_nine hp ord_zero (key_order hp kb hb hbb) (key_order hp ka ha hab) h1
end Go.Proofs.Ytenppmciabdefaa
namespace Go.Proofs.Ytenppmciabdefaa
open Go Go.RowKit
theorem mul_can (pk pu : Option Addr) (ck cu : Nat) (lk lu : List Int) (w : World) (hk : Bs w pk 32 lk) (hu : Bs w pu 32 lu) :
    Calls Try.prog 57 #[.slice pk 32 ck, .slice pu 32 cu] w fun e w' => ∃ b, e = .returned (.tuple #[.slice (some ⟨b, 0, none⟩) 32 32, .int .i64 0]) ∧ Bs w' (some ⟨b, 0, none⟩) 32 (leB (mulN lk lu % PP)) ∧ Below w.heap.size w w' :=
  (mul_yes pk pu ck cu lk lu w hk hu).mono fun _ _ ⟨b, h1, _, h3, h4⟩ => ⟨b, h1, Bs.leB h3, h4⟩
theorem public_can (pk : Option Addr) (ck : Nat) (lk : List Int) (w : World) (hk : Bs w pk 32 lk) :
    Calls Try.prog 59 #[.slice pk 32 ck] w fun e w' => ∃ b, e = .returned (.tuple #[.slice (some ⟨b, 0, none⟩) 32 32, .int .i64 0]) ∧ Bs w' (some ⟨b, 0, none⟩) 32 (leB (mulN lk nineL % PP)) ∧ Below w.heap.size w w' :=
  (public_yes pk ck lk w hk).mono fun _ _ ⟨b, h1, _, h3, h4⟩ => ⟨b, h1, Bs.leB h3, h4⟩
theorem shared_can (pk pu : Option Addr) (ck cu : Nat) (lk lu : List Int) (w : World) (hk : Bs w pk 32 lk) (hu : Bs w pu 32 lu) (hn : mx (leB (mulN lk lu % PP)) ≠ 0) :
    Calls Try.prog 61 #[.slice pk 32 ck, .slice pu 32 cu] w fun e w' => ∃ b, e = .returned (.tuple #[.slice (some ⟨b, 0, none⟩) 32 32, .int .i64 0]) ∧ Bs w' (some ⟨b, 0, none⟩) 32 (leB (mulN lk lu % PP)) ∧ Below w.heap.size w w' :=
  (shared_yes pk pu ck cu lk lu w hk hu).mono fun _ _ ⟨h4, h⟩ => by
    rcases h with ⟨h, _⟩ | ⟨_, b, h1, _, h3⟩
    · exact absurd h hn
    · exact ⟨b, h1, Bs.leB h3, h4⟩
set_option maxHeartbeats 4000000 in
set_option maxRecDepth 100000 in
theorem ladderCommutes_walk (a0 : Option Addr) (n0 c0 : Nat) (l0 : List Int) (a1 : Option Addr) (n1 c1 : Nat) (l1 : List Int) (a2 : Option Addr) (n2 c2 : Nat) (l2 : List Int) (w : World) (b0 : Bs w a0 n0 l0) (_e0 : n0 ≤ c0) (_g0 : c0 ≤ 140737488351232) (b1 : Bs w a1 n1 l1) (_e1 : n1 ≤ c1) (_g1 : c1 ≤ 140737488351232) (b2 : Bs w a2 n2 l2) (_e2 : n2 ≤ c2) (_g2 : c2 ≤ 140737488351232) :
    Calls Try.prog 15 #[.slice a0 n0 c0, .slice a1 n1 c1, .slice a2 n2 c2] w fun e w' => e = .returned (.bool true) ∧ Below w.heap.size w w' := by
  go_enter Try.func15, Try.ntmps15
  go_wp2_with fail
  refine (fit_any a0 n0 c0 l0 _ b0).mono ?_
  rintro e w1 ⟨g0, rfl, hA, hb⟩
  have b1 := b1.keep hb
  have b2 := b2.keep hb
  go_wp2_with fail
  refine (fit_any a1 n1 c1 l1 _ b1).mono ?_
  rintro e w2 ⟨g1, rfl, hB, hb2⟩
  have b2 := b2.keep hb2
  have hA := hA.keep hb2
  have hb := Below.join hb hb2
  clear hb2
  go_wp2_with fail
  refine (fit_any a2 n2 c2 l2 _ b2).mono ?_
  rintro e w3 ⟨g2, rfl, hU, hb2⟩
  have hA := hA.keep hb2
  have hB := hB.keep hb2
  have hb := Below.join hb hb2
  clear hb2 b0 b1 b2
  generalize fitL l0 = la at *
  generalize fitL l1 = lb at *
  generalize fitL l2 = lu at *
  go_wp2_with fail
  refine (mul_can _ _ 32 32 la lu _ hA hU).mono ?_
  rintro e w4 ⟨gx, rfl, hX, hb2⟩
  have hA := hA.keep hb2
  have hB := hB.keep hb2
  have hU := hU.keep hb2
  have hb := Below.join hb hb2
  clear hb2
  go_wp2_with fail
  refine (mul_can _ _ 32 32 lb lu _ hB hU).mono ?_
  rintro e w5 ⟨gy, rfl, hY, hb2⟩
  have hA := hA.keep hb2
  have hB := hB.keep hb2
  have hX := hX.keep hb2
  have hb := Below.join hb hb2
  clear hb2 hU
  go_wp2_with fail
  refine (mul_can _ _ 32 32 lb _ _ hB hX).mono ?_
  rintro e w6 ⟨gs, rfl, hS, hb2⟩
  have hA := hA.keep hb2
  have hY := hY.keep hb2
  have hb := Below.join hb hb2
  clear hb2 hB hX
  go_wp2_with fail
  refine (mul_can _ _ 32 32 la _ _ hA hY).mono ?_
  rintro e w7 ⟨gt, rfl, hT, hb2⟩
  have hS := hS.keep hb2
  have hb := Below.join hb hb2
  clear hb2 hA hY
  rw [mul_swap] at hS
  generalize leB (mulN la (leB (mulN lb lu % PP)) % PP) = L at *
  have cv1 := conv_at (cap := 32) hS
  have cv2 := conv_at (cap := 32) hT
  generalize strOfNums L = S at *
  clear hS hT
  go_wp2_with (go_at_call 55; refine (num5_any _ _).mono ?_; rintro e w' ⟨rfl, rfl⟩)
  refine (knows5_yes _).mono ?_
  rintro e w8 ⟨rfl, hb7⟩
  go_wp2
  go_ret
  exact ⟨rfl, Below.join hb hb7⟩
set_option maxHeartbeats 4000000 in
set_option maxRecDepth 100000 in
theorem ladderAgrees_walk (a0 : Option Addr) (n0 c0 : Nat) (l0 : List Int) (a1 : Option Addr) (n1 c1 : Nat) (l1 : List Int) (w : World) (b0 : Bs w a0 n0 l0) (_e0 : n0 ≤ c0) (_g0 : c0 ≤ 140737488351232) (b1 : Bs w a1 n1 l1) (_e1 : n1 ≤ c1) (_g1 : c1 ≤ 140737488351232) :
    Calls Try.prog 14 #[.slice a0 n0 c0, .slice a1 n1 c1] w fun e w' => e = .returned (.bool true) ∧ Below w.heap.size w w' := by
  go_enter Try.func14, Try.ntmps14
  go_wp2_with fail
  refine (fit_any a0 n0 c0 l0 _ b0).mono ?_
  rintro e w1 ⟨g0, rfl, hA, hb⟩
  have b1 := b1.keep hb
  go_wp2_with fail
  refine (fit_any a1 n1 c1 l1 _ b1).mono ?_
  rintro e w2 ⟨g1, rfl, hB, hb2⟩
  have hA := hA.keep hb2
  have hb := Below.join hb hb2
  clear hb2 b0 b1
  generalize fitL l0 = la at *
  generalize fitL l1 = lb at *
  have ne1 := Lib.hid (shared_ne la lb hA.1 hA.2.1 hB.1 hB.2.1)
  have ne2 := Lib.hid (shared_ne lb la hB.1 hB.2.1 hA.1 hA.2.1)
  go_wp2_with fail
  refine (public_can _ 32 la _ hA).mono ?_
  rintro e w4 ⟨gx, rfl, hX, hb2⟩
  have hA := hA.keep hb2
  have hB := hB.keep hb2
  have hb := Below.join hb hb2
  clear hb2
  go_wp2_with fail
  refine (public_can _ 32 lb _ hB).mono ?_
  rintro e w5 ⟨gy, rfl, hY, hb2⟩
  have hA := hA.keep hb2
  have hB := hB.keep hb2
  have hX := hX.keep hb2
  have hb := Below.join hb hb2
  clear hb2
  go_wp2_with fail
  refine (shared_can _ _ 32 32 la _ _ hA hY ne1.out).mono ?_
  rintro e w6 ⟨gs, rfl, hS, hb2⟩
  have hB := hB.keep hb2
  have hX := hX.keep hb2
  have hb := Below.join hb hb2
  clear hb2 hA hY ne1
  go_wp2_with fail
  refine (shared_can _ _ 32 32 lb _ _ hB hX ne2.out).mono ?_
  rintro e w7 ⟨gt, rfl, hT, hb2⟩
  have hS := hS.keep hb2
  have hb := Below.join hb hb2
  clear hb2 hB hX ne2
  rw [mul_swap] at hS
  generalize leB (mulN lb (leB (mulN la nineL % PP)) % PP) = L at *
  have cv1 := conv_at (cap := 32) hS
  have cv2 := conv_at (cap := 32) hT
  generalize strOfNums L = S at *
  clear hS hT
  go_wp2_with (go_at_call 55; refine (num5_any _ _).mono ?_; rintro e w' ⟨rfl, rfl⟩)
  refine (knows5_yes _).mono ?_
  rintro e w8 ⟨rfl, hb7⟩
  go_wp2
  go_ret
  exact ⟨rfl, Below.join hb hb7⟩
end Go.Proofs.Ytenppmciabdefaa
namespace Go.Proofs.Ytenppmciabdefaa
open Go Go.RowKit
open Ed
theorem low_facts : ∀ n : Fin 256, bits .and .u8 (n.val : Int) 7 = (n.val : Int) % 8 ∧ bits .and .u8 (n.val : Int) 192 = (n.val : Int) / 64 * 64 ∧
    bits .xor .u8 (n.val : Int) 128 % 128 = (n.val : Int) % 128 ∧ 0 ≤ bits .xor .u8 (n.val : Int) 128 ∧ bits .xor .u8 (n.val : Int) 128 < 256 := by decide +kernel
theorem xor8_facts : ∀ (m : Fin 8) (n : Fin 256), bits .xor .u8 (n.val : Int) (m.val : Int) / 8 = (n.val : Int) / 8 ∧ 0 ≤ bits .xor .u8 (n.val : Int) (m.val : Int) ∧ bits .xor .u8 (n.val : Int) (m.val : Int) < 256 := by decide +kernel
theorem xor64_facts : ∀ (m : Fin 4) (n : Fin 256), bits .xor .u8 (n.val : Int) ((m.val : Int) * 64) % 64 = (n.val : Int) % 64 ∧ 0 ≤ bits .xor .u8 (n.val : Int) ((m.val : Int) * 64) ∧ bits .xor .u8 (n.val : Int) ((m.val : Int) * 64) < 256 := by decide +kernel
theorem set_in {l : List Int} (hb : ∀ x ∈ l, 0 ≤ x ∧ x < 256) {v : Int} (hv : 0 ≤ v ∧ v < 256) {k : Nat} : ∀ x ∈ l.set k v, 0 ≤ x ∧ x < 256 := fun x hx => by
  rcases List.mem_or_eq_of_mem_set hx with hx | rfl
  · exact hb x hx
  · exact hv
/-- Which bytes come of x, with some of its bits turned. -/
theorem low_byte (x y : Int) (hx : 0 ≤ x ∧ x < 256) : ∃ v, bits .xor .u8 x (y % 8) = v ∧ v / 8 = x / 8 ∧ 0 ≤ v ∧ v < 256 := by
  have h2 := xor8_facts ⟨(y % 8).toNat, by omega⟩ ⟨x.toNat, by omega⟩
  simp only [Int.toNat_of_nonneg hx.1, Int.toNat_of_nonneg (show 0 ≤ y % 8 by omega)] at h2
  exact ⟨_, rfl, h2⟩
theorem high_byte (x y : Int) (hx : 0 ≤ x ∧ x < 256) (hy : 0 ≤ y ∧ y < 256) : ∃ v, bits .xor .u8 x (bits .and .u8 y 192) = v ∧ v % 64 = x % 64 ∧ 0 ≤ v ∧ v < 256 := by
  have h1 := (low_facts ⟨y.toNat, by omega⟩).2.1
  have h2 := xor64_facts ⟨(y / 64).toNat, by omega⟩ ⟨x.toNat, by omega⟩
  simp only [Int.toNat_of_nonneg hx.1, Int.toNat_of_nonneg hy.1, Int.toNat_of_nonneg (show 0 ≤ y / 64 by omega)] at h1 h2
  exact ⟨_, rfl, by rw [h1]; exact h2⟩
theorem top_byte (x : Int) (hx : 0 ≤ x ∧ x < 256) : ∃ v, bits .xor .u8 x 128 = v ∧ v % 128 = x % 128 ∧ 0 ≤ v ∧ v < 256 := by
  have h1 := (low_facts ⟨x.toNat, by omega⟩).2.2
  simp only [Int.toNat_of_nonneg hx.1] at h1
  exact ⟨_, rfl, h1⟩
theorem clampL_turned {l : List Int} (h : l.length = 32) {v v' : Int} (h0 : v / 8 = l.getD 0 0 / 8) (h1 : v' % 64 = l.getD 31 0 % 64) : clampL ((l.set 0 v).set 31 v') = clampL l := by
  unfold clampL
  rw [getD_setB _ _ _ _ (by rw [List.length_set]; omega), getD_setB _ _ _ _ (by omega), getD_setB _ _ _ _ (by rw [List.length_set]; omega)]
  rw [if_neg (by omega), if_pos rfl, if_pos rfl, h0, h1]
  rw [List.set_comm _ _ (show (31 : Nat) ≠ 0 by omega), List.set_set, List.set_set]
theorem uTop_turned {l : List Int} (h : l.length = 32) {v : Int} (h1 : v % 128 = l.getD 31 0 % 128) : uTop (l.set 31 v) = uTop l := by
  unfold uTop
  rw [getD_setB _ _ _ _ (by omega), if_pos rfl, h1, List.set_set]
theorem mul_canon (k u : List Int) : mulN k (leB (valB (uTop u) % PP)) % PP = mulN k u % PP := by
  rw [← zf_eq, zf_mulN, zf_mulN, zf_can]
theorem mulN_same {k k' u u' : List Int} (h : clampL k = clampL k') (h' : uTop u = uTop u') : mulN k u = mulN k' u' := by
  unfold mulN
  rw [h, h']
/-- A halt of the walk. -/
def Stp (p : Prop) : Prop := p
theorem Stp.go {p : Prop} (h : Stp p) : p := h
theorem Stp.mk {p : Prop} (h : p) : Stp p := h
theorem made_at (W : World) {n : Nat} (h : W.heap.size = n) : (W.alloc (.cells #[] 5)).ownsRow n 5 1 (.slice (some ⟨n, 0, none⟩) 0 0) 0 [] := by
  subst h
  exact World.ownsRow_made W #[] 0 (Nat.le_refl _) (by unfold maxLen; omega) rfl
theorem made_le (W : World) {n : Nat} (h : W.heap.size = n) : n ≤ (W.alloc (.cells #[] 5)).heap.size := by
  subst h
  simp
theorem made_below (W : World) {n : Nat} (h : W.heap.size = n) {w' : World} (hg : (W.alloc (.cells #[] 5)).grownBy w' (some n)) : Below W.heap.size W w' := by
  subst h
  exact ((Below.refl W.heap.size W).alloc (Nat.le_refl _) (.cells #[] 5)).grown hg (by simp) (fun k hk => by simp at hk; omega)
set_option maxHeartbeats 4000000 in
set_option maxRecDepth 100000 in
theorem ladderIgnores_walk (a0 : Option Addr) (n0 c0 : Nat) (l0 : List Int) (a1 : Option Addr) (n1 c1 : Nat) (l1 : List Int) (x2 x3 : Int) (w : World) (b0 : Bs w a0 n0 l0) (_e0 : n0 ≤ c0) (_g0 : c0 ≤ 140737488351232) (b1 : Bs w a1 n1 l1) (_e1 : n1 ≤ c1) (_g1 : c1 ≤ 140737488351232) (_b2 : 0 ≤ x2 ∧ x2 ≤ 255) (b3 : 0 ≤ x3 ∧ x3 ≤ 255) :
    Calls Try.prog 16 #[.slice a0 n0 c0, .slice a1 n1 c1, .int .u8 x2, .int .u8 x3] w fun e w' => e = .returned (.bool true) ∧ Below w.heap.size w w' := by
  obtain ⟨i0, hi0, hz0, hz1, hz2⟩ := info_parts infoB
  go_enter Try.func16, Try.ntmps16
  go_wp2_with fail
  refine (fit_any a0 n0 c0 l0 _ b0).mono ?_
  rintro e w1 ⟨g0, rfl, hA, hb⟩
  have b1 := b1.keep hb
  go_wp2_with fail
  refine (fit_any a1 n1 c1 l1 _ b1).mono ?_
  rintro e w2 ⟨g1, rfl, hB, hb2⟩
  have hA := hA.keep hb2
  have hb := Below.join hb hb2
  clear hb2 b0 b1
  generalize fitL l0 = la at *
  generalize fitL l1 = lu at *
  go_wp2_with fail
  refine (mul_can _ _ 32 32 la lu _ hA hB).mono ?_
  rintro e w3 ⟨gx, rfl, hX, hb2⟩
  have hA := hA.keep hb2
  have hB := hB.keep hb2
  have hb := Below.join hb hb2
  clear hb2
  have HLA := Lib.hid hA.1
  have HAI := Lib.hid hA.2.1
  have HLU := Lib.hid hB.1
  have HUI := Lib.hid hB.2.1
  obtain ⟨v0, ev0, hv0⟩ := low_byte (la.getD 0 0) x2 (byte_at hA.2.1 0)
  obtain ⟨v31, ev31, hv31⟩ := high_byte (la.getD 31 0) x3 (byte_at hA.2.1 31) ⟨b3.1, by omega⟩
  obtain ⟨v128, ev128, hv128⟩ := top_byte (lu.getD 31 0) (byte_at hB.2.1 31)
  obtain ⟨pu, hpu⟩ : ∃ m, Hid (lu.getD 31 0 = m) := ⟨_, Lib.hid rfl⟩
  have ku := Lib.hid (uTop_turned HLU.out hv128.1)
  have hvz : 0 ≤ lu.getD 31 0 % 128 ∧ lu.getD 31 0 % 128 < 256 := by omega
  have evz := (u8_fact _ (byte_at hB.2.1 31)).2.2.2.2
  rw [hpu.out] at ev128 hv128 hvz evz
  have hv0 := Lib.hid hv0
  have hv31 := Lib.hid hv31
  have hv128 := Lib.hid hv128
  have hvz := Lib.hid hvz
  have kk := Lib.hid (clampL_turned HLA.out hv0.out.1 hv31.out.1)
  go_wp2_with (at_builtin; first | (refine wpList_append_bs _ rfl (.tmp 29) (.tmp 30) 22 rfl w3.heap.size 5 i0 (.int .u8 0) 1 Try.underlying22 hi0 hz0 hz1 hz2 rfl _ 0 [] rfl (made_at w3 (by simp)) (some ⟨g0, 0, none⟩) 32 32 la rfl (hA.keep ((Below.refl _ _).alloc (Nat.le_refl _) _)) (by unfold maxLen; omega) (by omega) (made_le _ (by simp)) ?_; intro v1 w4 hown hg1 hat1; have hb1 := ((Below.refl w3.heap.size w3).alloc (Nat.le_refl _) (.cells #[] 5)).grown hg1 (by simp) (fun k hk => by simp [Value.ownBlock, Act.eval] at hk; omega); rw [Nat.zero_add, List.nil_append] at hown; obtain ⟨gk, cgk, rfl, hc1, hc2, hgg, hlt⟩ := own_slice hown (by omega); clear hg1 hat1 hc1 hc2 hgg hlt; have q0 := own_cell hown HLA.out 0 (by omega); have f0 := hown.frozenAt 0; obtain ⟨hown2, hb2⟩ := own_set hown hb1 hb1.size 0 v0; have q31 := own_cell hown2 (by rw [List.length_set]; exact HLA.out) 31 (by omega); rw [getD_setB _ _ _ _ (by rw [HLA.out]; omega), if_neg (by omega)] at q31; have f31 := hown2.frozenAt 31; obtain ⟨hown3, hb3⟩ := own_set hown2 hb2 hb2.size 31 v31; have hK := Lib.hid (Bs.of_ownG hown3 (set_in (set_in HAI.out hv0.out.2) hv31.out.2)); have HA := Lib.hid (hA.keep hb3); have HB := Lib.hid (hB.keep hb3); have HX := Lib.hid (hX.keep hb3); have Hb := Lib.hid (Below.join hb hb3); clear hown hown2 hown3 hb1 hb2 hb3 hA hB hX hb; generalize la.getD 0 0 = p0 at *; generalize la.getD 31 0 = p31 at *) | (refine Stp.go ?_))
  refine Stp.mk ?_
  clear q0 f0 q31 f31
  refine wpList_append_bs _ rfl (.tmp 48) (.tmp 49) 22 rfl w4.heap.size 5 i0 (.int .u8 0) 1 Try.underlying22 hi0 hz0 hz1 hz2 rfl _ 0 [] rfl (made_at ((w4.setCell ⟨gk, 0, none⟩ (.int .u8 v0)).setCell ⟨gk, 31, none⟩ (.int .u8 v31)) (by simp)) (some ⟨g1, 0, none⟩) 32 32 lu rfl (HB.out.keep ((Below.refl _ _).alloc (Nat.le_refl _) _)) (by unfold maxLen; omega) (by omega) (made_le _ (by simp)) ?_
  intro v1 w5 hown hg1 hat1
  have hb1 := made_below _ (by simp) hg1
  rw [Nat.zero_add, List.nil_append] at hown
  obtain ⟨gy, cgy, rfl, hc1, hc2, hgg, hlt⟩ := own_slice hown (by omega)
  clear hg1 hat1 hc1 hc2 hgg hlt
  have hsz : w4.heap.size = ((w4.setCell ⟨gk, 0, none⟩ (.int .u8 v0)).setCell ⟨gk, 31, none⟩ (.int .u8 v31)).heap.size := by simp
  rw [hsz] at hown
  clear hsz
  have q31 := own_cell hown HLU.out 31 (by omega)
  rw [hpu.out] at q31
  have f31 := hown.frozenAt 31
  obtain ⟨hown2, hb2⟩ := own_set hown hb1 hb1.size 31 v128
  have hY := Lib.hid (Bs.of_ownG hown2 (set_in HUI.out hv128.out.2))
  have hK := Lib.hid (hK.out.keep hb2)
  have HA := Lib.hid (HA.out.keep hb2)
  have HB := Lib.hid (HB.out.keep hb2)
  have HX := Lib.hid (HX.out.keep hb2)
  have Hb := Lib.hid (Below.join Hb.out hb2)
  clear hown hown2 hb1 hb2
  go_wp2_with (at_builtin; refine Stp.go ?_)
  refine Stp.mk ?_
  clear q31 f31
  refine wpList_append_bs _ rfl (.tmp 57) (.tmp 58) 22 rfl w5.heap.size 5 i0 (.int .u8 0) 1 Try.underlying22 hi0 hz0 hz1 hz2 rfl _ 0 [] rfl (made_at (w5.setCell ⟨gy, 31, none⟩ (.int .u8 v128)) (by simp)) (some ⟨g1, 0, none⟩) 32 32 lu rfl (HB.out.keep ((Below.refl _ _).alloc (Nat.le_refl _) _)) (by unfold maxLen; omega) (by omega) (made_le _ (by simp)) ?_
  intro v1 w6 hown hg1 hat1
  have hb1 := made_below _ (by simp) hg1
  rw [Nat.zero_add, List.nil_append] at hown
  obtain ⟨gz, cgz, rfl, hc1, hc2, hgg, hlt⟩ := own_slice hown (by omega)
  have hcz := Lib.hid hc1
  clear hg1 hat1 hc1 hc2 hgg hlt
  have hsz : w5.heap.size = (w5.setCell ⟨gy, 31, none⟩ (.int .u8 v128)).heap.size := by simp
  rw [hsz] at hown
  clear hsz
  have q31 := own_cell hown HLU.out 31 (by omega)
  rw [hpu.out] at q31
  have f31 := hown.frozenAt 31
  obtain ⟨hown2, hb2⟩ := own_set hown hb1 hb1.size 31 (pu % 128)
  have hZ := Lib.hid (Bs.of_ownG hown2 (set_in HUI.out hvz.out))
  have hY := Lib.hid (hY.out.keep hb2)
  have hK := Lib.hid (hK.out.keep hb2)
  have HA := Lib.hid (HA.out.keep hb2)
  have HX := Lib.hid (HX.out.keep hb2)
  have Hb := Lib.hid (Below.join Hb.out hb2)
  clear hown hown2 hb1 hb2
  go_wp2_with fail
  clear q31 f31
  have hZu : lu.set 31 (pu % 128) = uTop lu := by
    unfold uTop
    rw [hpu.out]
  generalize w6.setCell ⟨gz, 31, none⟩ (.int .u8 (pu % 128)) = W3 at *
  have hZ := hZ.out
  rw [hZu] at hZ
  refine (gCanon_any _ 32 cgz (uTop lu) _ hZ hcz.out (by decide)).mono ?_
  rw [is32_yes hZ.1]
  intro e w7 h
  obtain ⟨p9, c9, rfl, hc9, hC, hb2⟩ := h.can (M := valB (uTop lu)) ⟨0, by omega⟩
  have hA := HA.out.keep hb2
  have hX := HX.out.keep hb2
  have hK := hK.out.keep hb2
  have hY := hY.out.keep hb2
  have hb := Below.join Hb.out hb2
  clear HA HX hZ Hb hb2 HB hZu h evz hvz ev128 ev0 ev31 hc9
  go_wp2_with fail
  refine (mul_can _ _ cgk cgy _ _ _ hK hY).mono ?_
  rintro e w8 ⟨gs, rfl, hS, hb2⟩
  rw [mulN_same kk.out ku.out] at hS
  have hA := hA.keep hb2
  have hX := hX.keep hb2
  have hC := hC.keep hb2
  have hb := Below.join hb hb2
  clear hb2 hK hY kk ku
  go_wp2_with fail
  refine (mul_can _ _ 32 c9 _ _ _ hA hC).mono ?_
  rintro e w9 ⟨gt, rfl, hT, hb2⟩
  rw [mul_canon] at hT
  have hX := hX.keep hb2
  have hS := hS.keep hb2
  have hb := Below.join hb hb2
  clear hb2 hA hC
  generalize leB (mulN la lu % PP) = L at *
  have cv1 := conv_at (cap := 32) hX
  have cv2 := conv_at (cap := 32) hS
  have cv3 := conv_at (cap := 32) hT
  generalize strOfNums L = S at *
  clear hX hS hT
  go_wp2_with (go_at_call 55; refine (num5_any _ _).mono ?_; rintro e w' ⟨rfl, rfl⟩)
  refine (knows5_yes _).mono ?_
  rintro e w10 ⟨rfl, hb7⟩
  go_wp2
  go_ret
  exact ⟨rfl, Below.join hb hb7⟩
end Go.Proofs.Ytenppmciabdefaa
