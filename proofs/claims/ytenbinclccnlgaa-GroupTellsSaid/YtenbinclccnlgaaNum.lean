/- Plain arithmetic of natural numbers modulo a prime: primality by Pocklington's criterion, Fermat's theorem, orders. No program in sight. -/
namespace Grp

def Pr (p : Nat) : Prop := 2 ≤ p ∧ ∀ d, d ∣ p → d = 1 ∨ d = p

theorem Pr.pos {p : Nat} (h : Pr p) : 0 < p := by have := h.1; omega

theorem Pr.cop {p a : Nat} (h : Pr p) (ha : ¬ p ∣ a) : Nat.gcd p a = 1 := by
  rcases h.2 _ (Nat.gcd_dvd_left p a) with e | e
  · exact e
  · exact absurd (e ▸ Nat.gcd_dvd_right p a) ha

theorem Pr.dvd_mul {p a b : Nat} (h : Pr p) (hd : p ∣ a * b) : p ∣ a ∨ p ∣ b := by
  by_cases ha : p ∣ a
  · exact .inl ha
  · exact .inr (Nat.Coprime.dvd_of_dvd_mul_left (h.cop ha) hd)

theorem Pr.dvd_pow {p a : Nat} (h : Pr p) : ∀ {n : Nat}, p ∣ a ^ n → p ∣ a
  | 0, hd => by
    have : p ∣ 1 := by simpa using hd
    have := Nat.le_of_dvd (by omega) this
    have := h.1
    omega
  | n + 1, hd => by
    rw [Nat.pow_succ] at hd
    rcases h.dvd_mul hd with x | x
    · exact Pr.dvd_pow h x
    · exact x

theorem exists_prime : ∀ (k n : Nat), n ≤ k → 2 ≤ n → ∃ p, Pr p ∧ p ∣ n := by
  intro k
  induction k with
  | zero => intro n h1 h2; omega
  | succ k ih =>
    intro n h1 h2
    by_cases hp : ∀ d, d ∣ n → d = 1 ∨ d = n
    · exact ⟨n, ⟨h2, hp⟩, Nat.dvd_refl n⟩
    · have hq : ∃ d, d ∣ n ∧ d ≠ 1 ∧ d ≠ n := by
        apply Classical.byContradiction
        intro hc
        apply hp
        intro d hd
        by_cases h3 : d = 1
        · exact .inl h3
        · by_cases h4 : d = n
          · exact .inr h4
          · exact absurd ⟨d, hd, h3, h4⟩ hc
      obtain ⟨d, hd, h3, h4⟩ := hq
      have hle := Nat.le_of_dvd (by omega) hd
      have h0 : d ≠ 0 := by
        intro e
        rw [e] at hd
        have := Nat.eq_zero_of_zero_dvd hd
        omega
      obtain ⟨p, hp1, hp2⟩ := ih d (by omega) (by omega)
      exact ⟨p, hp1, Nat.dvd_trans hp2 hd⟩

theorem dvd_of_mod_eq {a b m : Nat} (h : a % m = b % m) : m ∣ a - b := Nat.dvd_of_mod_eq_zero (Nat.sub_mod_eq_zero_of_mod_eq h)
theorem mod_eq_of_dvd {a b m : Nat} (hab : b ≤ a) (h : m ∣ a - b) : a % m = b % m := by
  obtain ⟨c, hc⟩ := h
  rw [show a = b + m * c from by omega, Nat.add_mul_mod_self_left]

/-! binomial coefficients, and Fermat -/
def ch : Nat → Nat → Nat
  | _, 0 => 1
  | 0, _ + 1 => 0
  | n + 1, k + 1 => ch n k + ch n (k + 1)

theorem ch_zero (n : Nat) : ch n 0 = 1 := by cases n <;> rfl
theorem ch_over : ∀ (n k : Nat), n < k → ch n k = 0
  | _, 0, h => by omega
  | 0, _ + 1, _ => rfl
  | n + 1, k + 1, h => by
    show ch n k + ch n (k + 1) = 0
    rw [ch_over n k (by omega), ch_over n (k + 1) (by omega)]
theorem ch_self : ∀ n : Nat, ch n n = 1
  | 0 => rfl
  | n + 1 => by
    show ch n n + ch n (n + 1) = 1
    rw [ch_self n, ch_over n (n + 1) (by omega)]

theorem ch_mul : ∀ (n k : Nat), (k + 1) * ch (n + 1) (k + 1) = (n + 1) * ch n k
  | 0, 0 => rfl
  | 0, k + 1 => by
    show (k + 2) * (ch 0 (k + 1) + ch 0 (k + 2)) = 1 * ch 0 (k + 1)
    simp [ch]
  | n + 1, 0 => by
    have := ch_mul n 0
    show 1 * (ch (n + 1) 0 + ch (n + 1) 1) = (n + 2) * ch (n + 1) 0
    rw [ch_zero] at *
    simp only [Nat.zero_add, Nat.one_mul, Nat.mul_one] at *
    omega
  | n + 1, k + 1 => by
    have h1 := ch_mul n k
    have h2 := ch_mul n (k + 1)
    show (k + 2) * (ch (n + 1) (k + 1) + ch (n + 1) (k + 2)) = (n + 2) * ch (n + 1) (k + 1)
    have h3 : ch (n + 1) (k + 1) = ch n k + ch n (k + 1) := rfl
    rw [Nat.mul_add, h2, show (k + 2) * ch (n + 1) (k + 1) = (k + 1) * ch (n + 1) (k + 1) + ch (n + 1) (k + 1) from by rw [show k + 2 = (k + 1) + 1 from rfl, Nat.add_mul (k+1) 1]; omega, h1]
    rw [show (n + 2) * ch (n + 1) (k + 1) = (n + 1) * ch (n + 1) (k + 1) + ch (n + 1) (k + 1) from by rw [show n + 2 = (n + 1) + 1 from rfl, Nat.add_mul (n+1) 1]; omega]
    rw [h3, Nat.mul_add]
    omega

theorem ch_dvd {p : Nat} (h : Pr p) (k : Nat) (h0 : 0 < k) (h1 : k < p) : p ∣ ch p k := by
  obtain ⟨n, rfl⟩ : ∃ n, p = n + 1 := ⟨p - 1, by omega⟩
  obtain ⟨j, rfl⟩ : ∃ j, k = j + 1 := ⟨k - 1, by omega⟩
  have e := ch_mul n j
  have hd : (n + 1) ∣ (j + 1) * ch (n + 1) (j + 1) := ⟨ch n j, e⟩
  rcases h.dvd_mul hd with x | x
  · have := Nat.le_of_dvd (by omega) x
    omega
  · exact x

/-- the first k terms of the binomial sum -/
def bs (n a : Nat) : Nat → Nat
  | 0 => 0
  | k + 1 => bs n a k + ch n k * a ^ k

theorem bs_succ (n a : Nat) : ∀ k, bs (n + 1) a (k + 1) = bs n a (k + 1) + a * bs n a k
  | 0 => by simp [bs, ch_zero]
  | k + 1 => by
    have ih := bs_succ n a k
    show bs (n + 1) a (k + 1) + ch (n + 1) (k + 1) * a ^ (k + 1) = _
    rw [ih]
    show bs n a (k + 1) + a * bs n a k + (ch n k + ch n (k + 1)) * a ^ (k + 1) = (bs n a (k + 1) + ch n (k + 1) * a ^ (k + 1)) + a * (bs n a k + ch n k * a ^ k)
    rw [Nat.add_mul, Nat.mul_add, Nat.pow_succ, show ch n k * (a ^ k * a) = a * (ch n k * a ^ k) from by rw [← Nat.mul_assoc, Nat.mul_comm]]
    omega

theorem binom (a : Nat) : ∀ n, bs n a (n + 1) = (a + 1) ^ n
  | 0 => by simp [bs, ch]
  | n + 1 => by
    rw [bs_succ]
    have h1 : bs n a (n + 1 + 1) = bs n a (n + 1) := by
      show bs n a (n + 1) + ch n (n + 1) * a ^ (n + 1) = _
      rw [ch_over n (n + 1) (by omega)]
      simp
    rw [h1, binom a n, Nat.pow_succ, Nat.mul_add, Nat.mul_comm]
    omega

theorem bs_mod {p : Nat} (h : Pr p) (a : Nat) : ∀ k, k < p → bs p a (k + 1) % p = 1 % p
  | 0, _ => by simp [bs, ch_zero]
  | k + 1, hk => by
    have ih := bs_mod h a k (by omega)
    show (bs p a (k + 1) + ch p (k + 1) * a ^ (k + 1)) % p = _
    obtain ⟨c, hc⟩ := ch_dvd h (k + 1) (by omega) hk
    rw [hc, Nat.mul_assoc, Nat.add_mul_mod_self_left]
    exact ih

theorem frob {p : Nat} (h : Pr p) (a : Nat) : (a + 1) ^ p % p = (a ^ p + 1) % p := by
  rw [← binom]
  show (bs p a p + ch p p * a ^ p) % p = _
  obtain ⟨n, hn⟩ : ∃ n, p = n + 1 := ⟨p - 1, by have := h.1; omega⟩
  have hb := bs_mod h a n (by omega)
  rw [← hn] at hb
  rw [ch_self, Nat.one_mul, Nat.add_mod, hb, ← Nat.add_mod, Nat.add_comm]

theorem fermat' {p : Nat} (h : Pr p) : ∀ a, a ^ p % p = a % p
  | 0 => by
    have := h.1
    rw [Nat.zero_pow (by omega)]
  | a + 1 => by
    rw [frob h, Nat.add_mod, fermat' h a, ← Nat.add_mod]

theorem fermat {p a : Nat} (h : Pr p) (ha : ¬ p ∣ a) : a ^ (p - 1) % p = 1 := by
  have h2 := h.1
  have e := fermat' h a
  have hs : a ^ p = a ^ (p - 1) * a := by
    rw [← Nat.pow_succ, Nat.succ_eq_add_one, Nat.sub_add_cancel (by omega)]
  have hpos : 1 ≤ a ^ (p - 1) := by
    apply Nat.pow_pos
    rcases Nat.eq_zero_or_pos a with x | x
    · exact absurd (x ▸ Nat.dvd_zero p) ha
    · exact x
  have hd : p ∣ a * (a ^ (p - 1) - 1) := by
    rw [Nat.mul_sub, Nat.mul_one, Nat.mul_comm, ← hs]
    exact dvd_of_mod_eq e
  rcases h.dvd_mul hd with x | x
  · exact absurd x ha
  · rw [mod_eq_of_dvd hpos x, Nat.mod_eq_of_lt (by omega)]

theorem dvd_pow_self (a : Nat) {n : Nat} (h : n ≠ 0) : a ∣ a ^ n := by
  obtain ⟨k, rfl⟩ : ∃ k, n = k + 1 := ⟨n - 1, by omega⟩
  exact ⟨a ^ k, by rw [Nat.pow_succ, Nat.mul_comm]⟩

theorem pow_mod_one {a m p : Nat} (h2 : 2 ≤ p) (h : a ^ m % p = 1) (k : Nat) : a ^ (m * k) % p = 1 := by
  rw [Nat.pow_mul, Nat.pow_mod, h, Nat.one_pow, Nat.mod_eq_of_lt (by omega)]

theorem pow_gcd {a p : Nat} (h2 : 2 ≤ p) (m n : Nat) : a ^ m % p = 1 → a ^ n % p = 1 → a ^ Nat.gcd m n % p = 1 := by
  induction m, n using Nat.gcd.induction with
  | H0 n => intro _ h; rw [Nat.gcd_zero_left]; exact h
  | H1 m n hm ih =>
    intro h1 h3
    rw [Nat.gcd_rec]
    refine ih ?_ h1
    have hs : a ^ n = a ^ (m * (n / m)) * a ^ (n % m) := by rw [← Nat.pow_add, Nat.div_add_mod]
    rw [hs, Nat.mul_mod, pow_mod_one h2 h1, Nat.one_mul, Nat.mod_mod] at h3
    exact h3

theorem pock {N q k a : Nat} (hN : 2 ≤ N) (hq : Pr q) (hk : N - 1 = q * k) (h1 : a ^ (N - 1) % N = 1)
    (hg : Nat.gcd (a ^ k % N + N - 1) N = 1) (hb : N < (q + 1) * (q + 1)) : Pr N := by
  have key : ∀ p, Pr p → p ∣ N → N < p * p := by
    intro p hp hd
    have hp2 := hp.1
    have e1 : a ^ (N - 1) % p = 1 := by
      rw [← Nat.mod_mod_of_dvd _ hd, h1, Nat.mod_eq_of_lt (by omega)]
    have ha : ¬ p ∣ a := by
      intro ha
      have h3 : p ∣ a ^ (N - 1) := Nat.dvd_trans ha (dvd_pow_self a (by omega))
      have := Nat.mod_eq_zero_of_dvd h3
      omega
    have e2 := fermat hp ha
    have e3 := pow_gcd hp2 _ _ e1 e2
    have hqp : q ∣ p - 1 := by
      apply Classical.byContradiction
      intro hn
      have hc : Nat.gcd (Nat.gcd (N - 1) (p - 1)) q = 1 := by
        have h5 := hq.2 _ (Nat.gcd_dvd_right (Nat.gcd (N - 1) (p - 1)) q)
        rcases h5 with h5 | h5
        · exact h5
        · exact absurd (Nat.dvd_trans (h5 ▸ Nat.gcd_dvd_left _ q) (Nat.gcd_dvd_right _ _)) hn
      have h6 : Nat.gcd (N - 1) (p - 1) ∣ q * k := hk ▸ Nat.gcd_dvd_left _ _
      have h7 : Nat.gcd (N - 1) (p - 1) ∣ k := Nat.Coprime.dvd_of_dvd_mul_left hc h6
      obtain ⟨c, hc2⟩ := h7
      have e4 : a ^ k % p = 1 := by rw [hc2]; exact pow_mod_one hp2 e3 c
      have e5 : (a ^ k % N + N - 1) % p = 0 := by
        have hz : (a ^ k % N) % p = 1 := by rw [Nat.mod_mod_of_dvd _ hd]; exact e4
        obtain ⟨d, hd2⟩ := hd
        have hpos : 1 ≤ a ^ k % N := by
          rcases Nat.eq_zero_or_pos (a ^ k % N) with x | x
          · rw [x] at hz; simp at hz
          · exact x
        generalize a ^ k % N = z at hz hpos ⊢
        have h8 : p ∣ z - 1 := dvd_of_mod_eq (by rw [hz, Nat.mod_eq_of_lt (by omega)])
        have : z + N - 1 = (z - 1) + N := by omega
        rw [this]
        exact Nat.mod_eq_zero_of_dvd (Nat.dvd_add h8 ⟨d, hd2⟩)
      have h9 : p ∣ Nat.gcd (a ^ k % N + N - 1) N := Nat.dvd_gcd (Nat.dvd_of_mod_eq_zero e5) hd
      rw [hg] at h9
      have := Nat.le_of_dvd (by omega) h9
      omega
    have h10 := Nat.le_of_dvd (by omega) hqp
    exact Nat.lt_of_lt_of_le hb (Nat.mul_le_mul (by omega) (by omega))
  refine ⟨hN, fun d hd => ?_⟩
  apply Classical.byContradiction
  intro hne
  obtain ⟨e, he⟩ := hd
  have hd1 : d ≠ 0 := by intro h; rw [h] at he; simp at he; omega
  have he1 : e ≠ 0 := by intro h; rw [h] at he; simp at he; omega
  have hd2 : 2 ≤ d := by
    have : d ≠ 1 := fun h => hne (.inl h)
    omega
  have he2 : 2 ≤ e := by
    have : e ≠ 1 := fun h => hne (.inr (by rw [he, h, Nat.mul_one]))
    omega
  obtain ⟨p1, hp1, hp1d⟩ := exists_prime d d (Nat.le_refl _) hd2
  obtain ⟨p2, hp2, hp2d⟩ := exists_prime e e (Nat.le_refl _) he2
  have k1 := key p1 hp1 (Nat.dvd_trans hp1d ⟨e, he⟩)
  have k2 := key p2 hp2 (Nat.dvd_trans hp2d ⟨d, by rw [he, Nat.mul_comm]⟩)
  have l1 := Nat.le_of_dvd (by omega) hp1d
  have l2 := Nat.le_of_dvd (by omega) hp2d
  have m1 := Nat.mul_le_mul l1 l1
  have m2 := Nat.mul_le_mul l2 l2
  rcases Nat.le_total d e with h | h
  · have := Nat.mul_le_mul_left d h
    omega
  · have := Nat.mul_le_mul_right e h
    omega

/-! evaluation -/
def pm (m a : Nat) : Nat → Nat → Nat
  | 0, _ => 1 % m
  | f + 1, e => bif e % 2 == 1 then (pm m a f (e / 2) ^ 2 % m) * a % m else pm m a f (e / 2) ^ 2 % m

theorem pm_eq (m a : Nat) : ∀ (f e : Nat), e < 2 ^ f → pm m a f e = a ^ e % m
  | 0, e, h => by
    have : e = 0 := by simpa using h
    simp [pm, this]
  | f + 1, e, h => by
    have ih := pm_eq m a f (e / 2) (by rw [Nat.pow_succ] at h; omega)
    unfold pm
    rw [ih]
    have hs : (a ^ (e / 2) % m) ^ 2 % m = a ^ (2 * (e / 2)) % m := by
      rw [← Nat.pow_mod, ← Nat.pow_mul, Nat.mul_comm]
    rw [hs]
    by_cases he : e % 2 = 1
    · simp only [he, BEq.rfl, cond_true]
      rw [Nat.mod_mul_mod, ← Nat.pow_succ, show (2 * (e / 2)).succ = e from by omega]
    · have : (e % 2 == 1) = false := by simp [he]
      rw [this, cond_false, show 2 * (e / 2) = e from by omega]

/-- trial division by the odd numbers 3, 5, .. -/
def odds (n : Nat) : Nat → Nat → Bool
  | 0, _ => true
  | f + 1, d => n % d != 0 && odds n f (d + 2)

theorem odds_spec (n : Nat) : ∀ (f d : Nat), odds n f d = true → ∀ i, i < f → n % (d + 2 * i) ≠ 0
  | 0, _, _, i, hi => by omega
  | f + 1, d, h, i, hi => by
    simp only [odds, Bool.and_eq_true, bne_iff_ne] at h
    cases i with
    | zero => exact h.1
    | succ i =>
      have := odds_spec n f (d + 2) h.2 i (by omega)
      rwa [show d + 2 * (i + 1) = d + 2 + 2 * i from by omega]

theorem pr_of_odds {n f : Nat} (h2 : 2 ≤ n) (ho : n % 2 = 1) (h : odds n f 3 = true) (hb : n < (2 * f + 3) * (2 * f + 3)) : Pr n := by
  have key : ∀ p, 2 ≤ p → p ∣ n → n < p * p := by
    intro p hp hd
    have h0 := Nat.mod_eq_zero_of_dvd hd
    have hodd : p % 2 = 1 := by
      rcases Nat.mod_two_eq_zero_or_one p with x | x
      · obtain ⟨c, hc⟩ := hd
        have : n % 2 = 0 := by rw [hc, Nat.mul_mod, x]; simp
        omega
      · exact x
    have hge : 2 * f + 3 ≤ p := by
      apply Classical.byContradiction
      intro hlt
      have := odds_spec n f 3 h ((p - 3) / 2) (by omega)
      rw [show 3 + 2 * ((p - 3) / 2) = p from by omega] at this
      exact this h0
    exact Nat.lt_of_lt_of_le hb (Nat.mul_le_mul hge hge)
  refine ⟨h2, fun d hd => ?_⟩
  apply Classical.byContradiction
  intro hne
  obtain ⟨e, he⟩ := hd
  have hd1 : d ≠ 0 := by intro h; rw [h] at he; simp at he; omega
  have he1 : e ≠ 0 := by intro h; rw [h] at he; simp at he; omega
  have hd2 : 2 ≤ d := by
    have : d ≠ 1 := fun h => hne (.inl h)
    omega
  have he2 : 2 ≤ e := by
    have : e ≠ 1 := fun h => hne (.inr (by rw [he, h, Nat.mul_one]))
    omega
  have k1 := key d hd2 ⟨e, he⟩
  have k2 := key e he2 ⟨d, by rw [he, Nat.mul_comm]⟩
  rcases Nat.le_total d e with h | h
  · have := Nat.mul_le_mul_left d h
    omega
  · have := Nat.mul_le_mul_right e h
    omega

def Pn : Nat := 2305843009213691579
def Qn : Nat := 1152921504606845789
def Rn : Nat := 288230376151711447
def Sn : Nat := 5671741379

theorem prS : Pr Sn := pr_of_odds (f := 37660) (by decide +kernel) (by decide +kernel) (by decide +kernel) (by decide +kernel)

theorem prR : Pr Rn := by
  refine pock (q := Sn) (k := 50818674) (a := 2) (by decide +kernel) prS (by decide +kernel) ?_ ?_ (by decide +kernel)
  · rw [← pm_eq Rn 2 64 (Rn - 1) (by decide +kernel)]
    decide +kernel
  · rw [← pm_eq Rn 2 64 50818674 (by decide +kernel)]
    decide +kernel
theorem prQ : Pr Qn := by
  refine pock (q := Rn) (k := 4) (a := 2) (by decide +kernel) prR (by decide +kernel) ?_ ?_ (by decide +kernel)
  · rw [← pm_eq Qn 2 64 (Qn - 1) (by decide +kernel)]
    decide +kernel
  · rw [← pm_eq Qn 2 64 4 (by decide +kernel)]
    decide +kernel
theorem prP : Pr Pn := by
  refine pock (q := Qn) (k := 2) (a := 2) (by decide +kernel) prQ (by decide +kernel) ?_ ?_ (by decide +kernel)
  · rw [← pm_eq Pn 2 64 (Pn - 1) (by decide +kernel)]
    decide +kernel
  · rw [← pm_eq Pn 2 64 2 (by decide +kernel)]
    decide +kernel

end Grp
