/- Prime numbers, Fermat's little theorem, Pocklington's test, in plain numbers. 2^255 - 19 is prime; powers mod it. No condition. -/
import Derived.Test.YtenppmciabdefaaPa
namespace Go.Proofs.Ytenppmciabdefaa.Nt

/-- A prime number. -/
def Pr (p : Nat) : Prop := 2 ≤ p ∧ ∀ d, d ∣ p → d = 1 ∨ d = p

theorem Pr.euclid {p a b : Nat} (h : Pr p) (hd : p ∣ a * b) : p ∣ a ∨ p ∣ b := by
  rcases h.2 (Nat.gcd p a) (Nat.gcd_dvd_left p a) with h1 | h1
  · exact .inr (Nat.Coprime.dvd_of_dvd_mul_left (k := p) (m := a) (n := b) h1 hd)
  · exact .inl (by rw [← h1]; exact Nat.gcd_dvd_right p a)

def prod : List Nat → Nat
  | [] => 1
  | x :: l => x * prod l

theorem prod_erase {x : Nat} : ∀ {m : List Nat}, x ∈ m → prod m = x * prod (m.erase x)
  | [], h => by cases h
  | y :: m, h => by
    by_cases hxy : y = x
    · subst hxy
      simp [prod]
    · have hm : x ∈ m := by
        rcases List.mem_cons.1 h with h | h
        · exact absurd h.symm hxy
        · exact h
      rw [List.erase_cons_tail (by simpa using hxy)]
      simp only [prod, prod_erase hm]
      rw [← Nat.mul_assoc, ← Nat.mul_assoc, Nat.mul_comm y x]

/-- Pairwise different members of m, as many as m has, have m's product. -/
theorem prod_eq : ∀ (l m : List Nat), l.Nodup → (∀ x ∈ l, x ∈ m) → l.length = m.length → prod l = prod m
  | [], m, _, _, hl => by
    have : m = [] := List.eq_nil_of_length_eq_zero (by simpa using hl.symm)
    subst this
    rfl
  | x :: l, m, hn, hs, hl => by
    have hx := hs x (by simp)
    rw [List.nodup_cons] at hn
    rw [prod_erase hx, prod, prod_eq l (m.erase x) hn.2 (fun y hy => ?_) (by rw [List.length_erase_of_mem hx, ← hl]; simp)]
    refine (List.mem_erase_of_ne ?_).2 (hs y (by simp [hy]))
    rintro rfl
    exact hn.1 hy

theorem prod_mod (a p : Nat) : ∀ (l : List Nat), prod (l.map fun x => a * x % p) % p = a ^ l.length * prod l % p
  | [] => by simp [prod]
  | x :: l => by
    have ih := prod_mod a p l
    simp only [List.map_cons, prod, List.length_cons]
    rw [Nat.mul_mod, Nat.mod_mod, ih, ← Nat.mul_mod, Nat.pow_succ]
    congr 1
    rw [Nat.mul_assoc, Nat.mul_assoc, Nat.mul_left_comm x, Nat.mul_left_comm a]

theorem prod_not (p : Nat) (h : Pr p) : ∀ (l : List Nat), (∀ x ∈ l, 0 < x ∧ x < p) → ¬ p ∣ prod l
  | [], _ => fun hd => by
    have := Nat.le_of_dvd (by simp [prod]) hd
    have := h.1
    simp [prod] at *
    omega
  | x :: l, hl => fun hd => by
    rcases h.euclid hd with h1 | h1
    · have := hl x (by simp)
      have := Nat.le_of_dvd this.1 h1
      omega
    · exact prod_not p h l (fun y hy => hl y (by simp [hy])) h1

theorem mod_sub {a b p : Nat} (h : a % p = b % p) (_hab : b ≤ a) : p ∣ a - b := by
  rw [← Nat.mod_add_div a p, ← Nat.mod_add_div b p, h]
  have : b % p + p * (a / p) - (b % p + p * (b / p)) = p * (a / p - b / p) := by
    rw [Nat.mul_sub]
    omega
  rw [this]
  exact Nat.dvd_mul_right _ _

/-- FERMAT's little theorem. -/
theorem fermat {p a : Nat} (h : Pr p) (ha : ¬ p ∣ a) : a ^ (p - 1) % p = 1 := by
  have hp := h.1
  let m := (List.range (p - 1)).map fun i => i + 1
  have hm : ∀ x, x ∈ m ↔ 0 < x ∧ x < p := by
    intro x
    simp only [m, List.mem_map, List.mem_range]
    constructor
    · rintro ⟨i, hi, rfl⟩; omega
    · intro hx; exact ⟨x - 1, by omega, by omega⟩
  have hlen : m.length = p - 1 := by simp [m]
  have hnm : m.Nodup := by
    simp only [m, List.Nodup, List.pairwise_map]
    exact List.nodup_range.imp fun {i j} hij => by omega
  have hne : ∀ x, 0 < x → x < p → a * x % p ≠ 0 := by
    intro x h0 h1 he
    rcases h.euclid (Nat.dvd_of_mod_eq_zero he) with h2 | h2
    · exact ha h2
    · have := Nat.le_of_dvd h0 h2; omega
  have hprod : prod (m.map fun x => a * x % p) = prod m := by
    refine prod_eq _ _ ?_ ?_ (by simp)
    · simp only [List.Nodup, List.pairwise_map]
      refine List.Pairwise.imp_of_mem ?_ hnm
      intro x y hx hy hxy he
      have hx := (hm x).1 hx
      have hy := (hm y).1 hy
      have key : ∀ u v : Nat, u < v → v < p → a * v % p = a * u % p → False := by
        intro u v huv hv he
        have h1 := mod_sub he (Nat.mul_le_mul_left a (Nat.le_of_lt huv))
        rw [← Nat.mul_sub] at h1
        rcases h.euclid h1 with h2 | h2
        · exact ha h2
        · have := Nat.le_of_dvd (by omega) h2; omega
      rcases Nat.lt_or_gt_of_ne hxy with h1 | h1
      · exact key x y h1 hy.2 he.symm
      · exact key y x h1 hx.2 he
    · intro x hx
      simp only [List.mem_map] at hx
      obtain ⟨y, hy, rfl⟩ := hx
      have hy := (hm y).1 hy
      exact (hm _).2 ⟨Nat.pos_of_ne_zero (hne y hy.1 hy.2), Nat.mod_lt _ (by omega)⟩
  have h1 := prod_mod a p m
  rw [hprod, hlen] at h1
  have hM := prod_not p h m (fun x hx => (hm x).1 hx)
  have ha0 : 0 < a := Nat.pos_of_ne_zero fun h0 => ha (h0 ▸ Nat.dvd_zero p)
  have hpow : 1 ≤ a ^ (p - 1) := Nat.one_le_pow _ _ ha0
  have h2 : p ∣ a ^ (p - 1) * prod m - prod m := mod_sub h1.symm (Nat.le_mul_of_pos_left _ hpow)
  have h3 : a ^ (p - 1) * prod m - prod m = (a ^ (p - 1) - 1) * prod m := by rw [Nat.sub_mul, Nat.one_mul]
  rw [h3] at h2
  rcases h.euclid h2 with h4 | h4
  · obtain ⟨k, hk⟩ := h4
    have : a ^ (p - 1) = 1 + p * k := by omega
    rw [this, Nat.add_mul_mod_self_left, Nat.mod_eq_of_lt (by omega)]
  · exact absurd h4 hM

theorem pow_gcd {r x : Nat} (_hr : 2 ≤ r) : ∀ (m n : Nat), x ^ m % r = 1 → x ^ n % r = 1 → x ^ (Nat.gcd m n) % r = 1 := by
  intro m n
  induction m, n using Nat.gcd.induction with
  | H0 n => intro _ h; rw [Nat.gcd_zero_left]; exact h
  | H1 m n hm ih =>
    intro h1 h2
    rw [Nat.gcd_rec]
    refine ih ?_ h1
    have e : x ^ n % r = (x ^ m) ^ (n / m) * x ^ (n % m) % r := by
      rw [← Nat.pow_mul, ← Nat.pow_add, Nat.div_add_mod]
    rw [h2, Nat.mul_mod, Nat.pow_mod (x ^ m), h1, Nat.one_pow, ← Nat.mul_mod, Nat.one_mul] at e
    exact e.symm

/-- A number that is no prime has a prime divisor whose square is not above it. -/
theorem factor : ∀ (n : Nat), 2 ≤ n → (∃ r, Pr r ∧ r ∣ n) ∧ (¬ Pr n → ∃ r, Pr r ∧ r ∣ n ∧ r * r ≤ n) := by
  intro n
  induction n using Nat.strongRecOn with
  | ind n ih =>
    intro hn
    by_cases h : Pr n
    · exact ⟨⟨n, h, Nat.dvd_refl n⟩, fun hh => absurd h hh⟩
    · have h1 : ∃ d, d ∣ n ∧ d ≠ 1 ∧ d ≠ n := by
        refine Classical.byContradiction fun hc => h ⟨hn, fun d hd => ?_⟩
        refine Classical.byContradiction fun hc2 => hc ⟨d, hd, fun e => hc2 (.inl e), fun e => hc2 (.inr e)⟩
      obtain ⟨d, ⟨e, he⟩, hd1, hdn⟩ := h1
      have hd0 : d ≠ 0 := by rintro rfl; simp at he; omega
      have he0 : e ≠ 0 := by rintro rfl; simp at he; omega
      have he1 : e ≠ 1 := by rintro rfl; simp at he; exact hdn he.symm
      have key : ∀ u v : Nat, 2 ≤ u → 2 ≤ v → u ≤ v → n = u * v → ∃ r, Pr r ∧ r ∣ n ∧ r * r ≤ n := by
        intro u v hu hv huv hn'
        have hun : u < n := by
          rw [hn']
          exact Nat.lt_mul_iff_one_lt_right (by omega) |>.2 (by omega)
        obtain ⟨r, hr, hrd⟩ := (ih u hun hu).1
        have hru := Nat.le_of_dvd (by omega) hrd
        refine ⟨r, hr, hn' ▸ Nat.dvd_trans hrd (Nat.dvd_mul_right u v), ?_⟩
        rw [hn']
        exact Nat.mul_le_mul hru (Nat.le_trans hru huv)
      have h2 : ∃ r, Pr r ∧ r ∣ n ∧ r * r ≤ n := by
        rcases Nat.le_total d e with hle | hle
        · exact key d e (by omega) (by omega) hle he
        · exact key e d (by omega) (by omega) hle (by rw [he, Nat.mul_comm])
      have h3 := h2
      obtain ⟨r, hr, hrd, _⟩ := h3
      exact ⟨⟨r, hr, hrd⟩, fun _ => h2⟩

/-- What one prime divisor q of n - 1 says of the prime divisors of n. -/
theorem pock_one {n q a r : Nat} (hq : Pr q) (hqn : q ∣ n - 1) (h1 : a ^ (n - 1) % n = 1) (h2 : Nat.gcd (a ^ ((n - 1) / q) % n + (n - 1)) n = 1) (hn : 2 ≤ n) (hr : Pr r) (hrn : r ∣ n) : q ∣ r - 1 := by
  have hr2 := hr.1
  let b := a ^ ((n - 1) / q)
  have hbq : b ^ q % r = 1 := by
    have e : b ^ q = a ^ (n - 1) := by
      show (a ^ ((n - 1) / q)) ^ q = _
      rw [← Nat.pow_mul, Nat.div_mul_cancel hqn]
    rw [e, ← Nat.mod_mod_of_dvd _ hrn, h1, Nat.mod_eq_of_lt (by omega)]
  have hb1 : ¬ b % r = 1 := by
    intro hb
    have h3 : r ∣ a ^ ((n - 1) / q) % n + (n - 1) := by
      refine Nat.dvd_of_mod_eq_zero ?_
      have e1 : a ^ ((n - 1) / q) % n % r = 1 := by rw [Nat.mod_mod_of_dvd _ hrn]; exact hb
      obtain ⟨k, hk⟩ := hrn
      have e2 : a ^ ((n - 1) / q) % n + (n - 1) = (a ^ ((n - 1) / q) % n / r + k) * r := by
        have := Nat.mod_add_div (a ^ ((n - 1) / q) % n) r
        rw [e1] at this
        rw [Nat.add_mul, Nat.mul_comm _ r, Nat.mul_comm k r, ← hk]
        omega
      rw [e2, Nat.mul_mod_left]
    have h4 := Nat.dvd_gcd h3 hrn
    rw [h2] at h4
    have := Nat.le_of_dvd (by omega) h4
    omega
  have hbr : ¬ r ∣ b := by
    intro hd
    have : b ^ q % r = 0 := by
      rw [Nat.pow_mod, Nat.mod_eq_zero_of_dvd hd, Nat.zero_pow (by have := hq.1; omega), Nat.zero_mod]
    omega
  have hf := fermat hr hbr
  have hg := pow_gcd hr2 q (r - 1) hbq hf
  rcases hq.2 _ (Nat.gcd_dvd_left q (r - 1)) with h5 | h5
  · rw [h5, Nat.pow_one] at hg
    exact absurd hg hb1
  · rw [← h5]
    exact Nat.gcd_dvd_right q (r - 1)

/-- POCKLINGTON's test with two primes. -/
theorem pock {n q s a : Nat} (hn : 2 ≤ n) (hq : Pr q) (hs : Pr s) (hqs : q ≠ s) (hqn : q ∣ n - 1) (hsn : s ∣ n - 1) (hbig : n < (q * s) * (q * s)) (h1 : a ^ (n - 1) % n = 1)
    (h2 : Nat.gcd (a ^ ((n - 1) / q) % n + (n - 1)) n = 1) (h3 : Nat.gcd (a ^ ((n - 1) / s) % n + (n - 1)) n = 1) : Pr n := by
  refine Classical.byContradiction fun hc => ?_
  obtain ⟨r, hr, hrn, hrr⟩ := (factor n hn).2 hc
  have g1 := pock_one hq hqn h1 h2 hn hr hrn
  have g2 := pock_one hs hsn h1 h3 hn hr hrn
  have hco : Nat.Coprime q s := by
    rcases hq.2 _ (Nat.gcd_dvd_left q s) with h | h
    · exact h
    · exfalso
      rcases hs.2 q (by rw [← h]; exact Nat.gcd_dvd_right q s) with h' | h'
      · have := hq.1; omega
      · exact hqs h'
  have g3 : q * s ∣ r - 1 := Nat.Coprime.mul_dvd_of_dvd_of_dvd hco g1 g2
  have hr2 := hr.1
  have g4 := Nat.le_of_dvd (by omega) g3
  have g5 : (q * s) * (q * s) ≤ r * r := Nat.mul_le_mul (by omega) (by omega)
  omega

/-- a to the power e mod n, by squaring. -/
def powm (n : Nat) : Nat → Nat → Nat → Nat
  | 0, _, _ => 1 % n
  | f + 1, a, e => if e % 2 = 1 then a * powm n f (a * a % n) (e / 2) % n else powm n f (a * a % n) (e / 2)
theorem powm_eq (n : Nat) : ∀ (f a e : Nat), e < 2 ^ f → powm n f a e = a ^ e % n
  | 0, a, e, h => by
    have : e = 0 := by simpa using h
    subst this
    simp [powm]
  | f + 1, a, e, h => by
    have ih := powm_eq n f (a * a % n) (e / 2) (by rw [Nat.pow_succ] at h; omega)
    have e1 : (a * a % n) ^ (e / 2) % n = (a * a) ^ (e / 2) % n := by rw [← Nat.pow_mod]
    have e2 : (a * a) ^ (e / 2) = a ^ (2 * (e / 2)) := by rw [← Nat.pow_two, ← Nat.pow_mul]
    rw [powm, ih, e1, e2]
    split
    · rename_i h1
      have e3 : a ^ e = a * a ^ (2 * (e / 2)) := by
        rw [Nat.mul_comm, ← Nat.pow_succ]
        congr 1
        omega
      rw [e3, Nat.mul_mod, Nat.mod_mod, ← Nat.mul_mod]
    · rename_i h1
      congr 2
      omega
/-- The test's numbers, reckoned. -/
def pockB (n q s a f : Nat) : Bool :=
  Nat.ble 2 n && !Nat.beq q s && Nat.beq ((n - 1) % q) 0 && Nat.beq ((n - 1) % s) 0 && Nat.blt n ((q * s) * (q * s)) && Nat.blt (n - 1) (2 ^ f) && Nat.beq (powm n f a (n - 1)) 1 &&
    Nat.beq (Nat.gcd (powm n f a ((n - 1) / q) + (n - 1)) n) 1 && Nat.beq (Nat.gcd (powm n f a ((n - 1) / s) + (n - 1)) n) 1
theorem pock_of {n q s : Nat} (a f : Nat) (hq : Pr q) (hs : Pr s) (h : pockB n q s a f = true) : Pr n := by
  simp only [pockB, Bool.and_eq_true, Bool.not_eq_true'] at h
  obtain ⟨⟨⟨⟨⟨⟨⟨⟨h1, h2⟩, h3⟩, h4⟩, h5⟩, h6⟩, h7⟩, h8⟩, h9⟩ := h
  have hlt : n - 1 < 2 ^ f := by simpa [Nat.blt_eq] using h6
  have h7 := Nat.eq_of_beq_eq_true h7
  have h8 := Nat.eq_of_beq_eq_true h8
  have h9 := Nat.eq_of_beq_eq_true h9
  rw [powm_eq n f a _ hlt] at h7
  rw [powm_eq n f a _ (Nat.lt_of_le_of_lt (Nat.div_le_self _ _) hlt)] at h8 h9
  refine pock (Nat.le_of_ble_eq_true h1) hq hs (fun e => ?_) (Nat.dvd_of_mod_eq_zero (Nat.eq_of_beq_eq_true h3)) (Nat.dvd_of_mod_eq_zero (Nat.eq_of_beq_eq_true h4)) (by simpa [Nat.blt_eq] using h5) h7 h8 h9
  subst e
  simp at h2

/-- Trial division: no number from 2 up to k divides n. -/
def trial (n : Nat) : Nat → Bool
  | 0 => true
  | k + 1 => (Nat.ble k 0 || !Nat.beq (n % (k + 1)) 0) && trial n k
theorem trial_spec (n : Nat) : ∀ (k : Nat), trial n k = true → ∀ d, 2 ≤ d → d ≤ k → ¬ d ∣ n
  | 0, _, d, h2, hk => by omega
  | k + 1, h, d, h2, hk => by
    simp only [trial, Bool.and_eq_true, Bool.or_eq_true, Bool.not_eq_true'] at h
    rcases Nat.lt_or_ge d (k + 1) with h1 | h1
    · exact trial_spec n k h.2 d h2 (by omega)
    · have : d = k + 1 := by omega
      subst this
      intro hd
      rcases h.1 with h3 | h3
      · have := Nat.le_of_ble_eq_true h3
        omega
      · rw [Nat.mod_eq_zero_of_dvd hd] at h3
        cases h3
theorem trial_prime {n : Nat} (k : Nat) (hn : 2 ≤ n) (hk : n < (k + 1) * (k + 1)) (h : trial n k = true) : Pr n := by
  refine Classical.byContradiction fun hc => ?_
  obtain ⟨r, hr, hrn, hrr⟩ := (factor n hn).2 hc
  refine trial_spec n k h r hr.1 ?_ hrn
  refine Classical.byContradiction fun hk2 => ?_
  have : (k + 1) * (k + 1) ≤ r * r := Nat.mul_le_mul (by omega) (by omega)
  omega
end Go.Proofs.Ytenppmciabdefaa.Nt
namespace Go.Proofs.Ytenppmciabdefaa.Nt
theorem p127 : Pr 127 := trial_prime 11 (by decide) (by decide) (by decide +kernel)
theorem p65147 : Pr 65147 := trial_prime 255 (by decide) (by decide) (by decide +kernel)
theorem p75707 : Pr 75707 := trial_prime 275 (by decide) (by decide) (by decide +kernel)
theorem p1923133 : Pr 1923133 := trial_prime 1386 (by decide) (by decide) (by decide +kernel)
theorem p8574133 : Pr 8574133 := trial_prime 2928 (by decide) (by decide) (by decide +kernel)
theorem pA : Pr 1919519569386763 := pock_of 2 51 p8574133 p127 (by decide +kernel)
theorem pB : Pr 75445702479781427272750846543864801 := pock_of 7 116 pA p75707 (by decide +kernel)
theorem pC : Pr 74058212732561358302231226437062788676166966415465897661863160754340907 := pock_of 2 236 pB p1923133 (by decide +kernel)
theorem pP : Pr 57896044618658097711785492504343953926634992332820282019728792003956564819949 := pock_of 2 255 pC p65147 (by decide +kernel)
end Go.Proofs.Ytenppmciabdefaa.Nt
