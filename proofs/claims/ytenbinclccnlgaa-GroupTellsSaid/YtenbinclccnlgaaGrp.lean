/- The plain laws of the group modulo the prime P = 2Q + 1: powers, inverses, orders. No program in sight. -/
import Derived.Test.YtenbinclccnlgaaNum
namespace Grp

theorem Pn_odd : Pn = 2 * Qn + 1 := by decide +kernel

/-- an integer's residue -/
def rs (a : Int) : Nat := (a % (Pn : Int)).toNat
theorem Pn_pos : (0 : Int) < (Pn : Int) := by decide +kernel
theorem Qn_pos : (0 : Int) < (Qn : Int) := by decide +kernel
theorem rs_cast (a : Int) : (rs a : Int) = a % (Pn : Int) := Int.toNat_of_nonneg (Int.emod_nonneg _ (by decide +kernel))
theorem rs_lt (a : Int) : rs a < Pn := by
  have h := rs_cast a
  have := Int.emod_lt_of_pos a Pn_pos
  omega

/-- what the exponent comes to -/
def ex (e : Int) : Nat := (if e < 0 then e % (Qn : Int) else e).toNat
def gMul (a b : Int) : Int := a * b % (Pn : Int)
def gExp (a e : Int) : Int := ((rs a ^ ex e % Pn : Nat) : Int)
def gInv (a : Int) : Int × Bool := if a % (Pn : Int) = 0 then (0, false) else (gExp a ((Pn : Int) - 2), true)
def gIn (y : Int) : Bool := decide (1 ≤ y) && decide (y < (Pn : Int)) && gExp y (Qn : Int) == 1
def gAddQ (a b : Int) : Int := (a + b) % (Qn : Int)
def gSubQ (a b : Int) : Int := (a - b) % (Qn : Int)
def gMulQ (a b : Int) : Int := a * b % (Qn : Int)

theorem gMul_nat (a b : Int) : gMul a b = ((rs a * rs b % Pn : Nat) : Int) := by
  unfold gMul
  rw [Int.natCast_emod, Int.natCast_mul, rs_cast, rs_cast, ← Int.mul_emod]

theorem rs_of_lt {x : Nat} (h : x < Pn) : rs (x : Int) = x := by
  unfold rs
  rw [← Int.natCast_emod, Int.toNat_natCast, Nat.mod_eq_of_lt h]
theorem rs_mod (x : Nat) : rs ((x % Pn : Nat) : Int) = x % Pn := rs_of_lt (Nat.mod_lt _ (by decide +kernel))

theorem rs_gMul (a b : Int) : rs (gMul a b) = rs a * rs b % Pn := by rw [gMul_nat, rs_mod]
theorem rs_gExp (a e : Int) : rs (gExp a e) = rs a ^ ex e % Pn := by unfold gExp; rw [rs_mod]

/-! the group, in natural numbers -/
theorem P2 : 2 ≤ Pn := prP.1
theorem not_dvd {x : Nat} (h0 : x ≠ 0) (h : x < Pn) : ¬ Pn ∣ x := fun hd => by
  have := Nat.le_of_dvd (by omega) hd
  omega

theorem sq_one {y : Nat} (h : y < Pn) (hs : y * y % Pn = 1) : y = 1 ∨ y = Pn - 1 := by
  have h2 := P2
  have hy : y ≠ 0 := by intro e; rw [e] at hs; simp at hs
  have hd : Pn ∣ (y - 1) * (y + 1) := by
    have h3 := dvd_of_mod_eq (b := 1) (m := Pn) (a := y * y) (by rw [hs, Nat.mod_eq_of_lt (by omega)])
    have : (y - 1) * (y + 1) = y * y - 1 := by
      obtain ⟨z, rfl⟩ : ∃ z, y = z + 1 := ⟨y - 1, by omega⟩
      rw [Nat.add_sub_cancel, Nat.add_mul z 1, Nat.mul_add z, Nat.mul_add z]
      omega
    rw [this]
    exact h3
  rcases prP.dvd_mul hd with x | x
  · left
    rcases Nat.eq_zero_or_pos (y - 1) with z | z
    · omega
    · have := Nat.le_of_dvd z x
      omega
  · right
    have := Nat.le_of_dvd (by omega) x
    omega

theorem full {x : Nat} (h0 : x ≠ 0) (h : x < Pn) : x ^ (2 * Qn) % Pn = 1 := by
  have := fermat prP (not_dvd h0 h)
  rwa [show Pn - 1 = 2 * Qn from by rw [Pn_odd]; omega] at this

theorem half {x : Nat} (h0 : x ≠ 0) (h : x < Pn) : x ^ Qn % Pn = 1 ∨ x ^ Qn % Pn = Pn - 1 := by
  refine sq_one (Nat.mod_lt _ (by have := P2; omega)) ?_
  rw [← Nat.mul_mod, ← Nat.pow_add, ← full h0 h, Nat.two_mul]

/-- being in the group -/
def mem (x : Nat) : Prop := x ^ Qn % Pn = 1

theorem neg1 : (Pn - 1) ^ Qn % Pn = Pn - 1 := by
  rw [← pm_eq Pn (Pn - 1) 64 Qn (by decide +kernel)]
  decide +kernel
theorem mul_neg1 {y : Nat} (h0 : y ≠ 0) (h : y < Pn) : (Pn - 1) * y % Pn = Pn - y := by
  have h2 := P2
  have : (Pn - 1) * y = (Pn - y) + Pn * (y - 1) := by
    rw [Nat.sub_mul, Nat.mul_sub, Nat.one_mul, Nat.mul_one]
    have : Pn ≤ Pn * y := Nat.le_mul_of_pos_right _ (by omega)
    omega
  rw [this, Nat.add_mul_mod_self_left, Nat.mod_eq_of_lt (by omega)]

theorem pow_neg {x : Nat} (h0 : x ≠ 0) (h : x < Pn) : (Pn - x) ^ Qn % Pn = (Pn - 1) * (x ^ Qn % Pn) % Pn := by
  rw [← mul_neg1 h0 h, ← Nat.pow_mod, Nat.mul_pow, Nat.mul_mod, neg1]

theorem pow_mulmod (x y n : Nat) : (x * y % Pn) ^ n % Pn = (x ^ n % Pn) * (y ^ n % Pn) % Pn := by
  rw [← Nat.pow_mod, Nat.mul_pow, ← Nat.mul_mod]
theorem powpow (x n k : Nat) : (x ^ n % Pn) ^ k % Pn = x ^ (n * k) % Pn := by
  rw [← Nat.pow_mod, ← Nat.pow_mul]

theorem mem_pow {x : Nat} (h : mem x) (n : Nat) : x ^ n % Pn = x ^ (n % Qn) % Pn := by
  have hs : x ^ n = x ^ (Qn * (n / Qn)) * x ^ (n % Qn) := by rw [← Nat.pow_add, Nat.div_add_mod]
  rw [hs, Nat.mul_mod, pow_mod_one P2 h, Nat.one_mul, Nat.mod_mod]

theorem ord {x n : Nat} (h : mem x) (h1 : x % Pn ≠ 1) (hn : x ^ n % Pn = 1) : Qn ∣ n := by
  have hg := pow_gcd P2 _ _ h hn
  rcases prQ.2 _ (Nat.gcd_dvd_left Qn n) with e | e
  · rw [e, Nat.pow_one] at hg
    exact absurd hg h1
  · exact e ▸ Nat.gcd_dvd_right Qn n

theorem mul_ne {x y : Nat} (hx : x ≠ 0) (hy : y ≠ 0) (hxp : x < Pn) (hyp : y < Pn) : x * y % Pn ≠ 0 := fun h => by
  rcases prP.dvd_mul (Nat.dvd_of_mod_eq_zero h) with d | d
  · exact not_dvd hx hxp d
  · exact not_dvd hy hyp d
theorem pow_ne {x : Nat} (hx : x ≠ 0) (hxp : x < Pn) (n : Nat) : x ^ n % Pn ≠ 0 := fun h => not_dvd hx hxp (prP.dvd_pow (Nat.dvd_of_mod_eq_zero h))

theorem cancel {x a b : Nat} (hx : x ≠ 0) (hxp : x < Pn) (h : x * a % Pn = x * b % Pn) (ha : a < Pn) (hb : b < Pn) : a = b := by
  have aux : ∀ a b : Nat, a ≤ b → b < Pn → x * a % Pn = x * b % Pn → a = b := by
    intro a b hab hb h
    have h1 := dvd_of_mod_eq h.symm
    rw [← Nat.mul_sub] at h1
    rcases prP.dvd_mul h1 with d | d
    · exact absurd d (not_dvd hx hxp)
    · rcases Nat.eq_zero_or_pos (b - a) with z | z
      · omega
      · have := Nat.le_of_dvd z d
        omega
  rcases Nat.le_total a b with l | l
  · exact aux a b l hb h
  · exact (aux b a l ha h.symm).symm

theorem inv_mul {x : Nat} (hx : x ≠ 0) (hxp : x < Pn) : (x ^ (Pn - 2) % Pn) * x % Pn = 1 := by
  rw [Nat.mod_mul_mod, ← Nat.pow_succ, ← fermat prP (not_dvd hx hxp)]
  rfl

theorem ex_nonneg_cast (e : Int) : (ex e : Int) = if e < 0 then e % (Qn : Int) else e := by
  unfold ex
  refine Int.toNat_of_nonneg ?_
  split
  · exact Int.emod_nonneg _ (by decide +kernel)
  · omega
theorem ex_mod (e : Int) : (ex e : Int) % (Qn : Int) = e % (Qn : Int) := by
  rw [ex_nonneg_cast]
  split
  · rw [Int.emod_emod]
  · rfl
theorem ex_res (e : Int) : (ex (e % (Qn : Int)) : Int) = e % (Qn : Int) := by
  have h := Int.emod_nonneg e (show (Qn : Int) ≠ 0 from by decide +kernel)
  rw [ex_nonneg_cast, if_neg (by omega)]
theorem ex_nat (n : Nat) : ex (n : Int) = n := by
  have := ex_nonneg_cast (n : Int)
  rw [if_neg (by omega)] at this
  omega

theorem exp_eq_of {y d e : Int} (h : mem (rs y)) (hde : ((ex d : Int)) % (Qn : Int) = (ex e : Int) % (Qn : Int)) : gExp y d = gExp y e := by
  have : ex d % Qn = ex e % Qn := by omega
  unfold gExp
  rw [mem_pow h, this, ← mem_pow h]

theorem powers_one {y d e : Int} (h : mem (rs y)) : gMul (gExp y d) (gExp y e) = gExp y (gAddQ d e) := by
  rw [gMul_nat, rs_gExp, rs_gExp, ← Nat.mul_mod, ← Nat.pow_add]
  unfold gExp gAddQ
  rw [mem_pow h, mem_pow h (ex _)]
  have h1 := ex_mod d
  have h2 := ex_mod e
  have h3 := ex_res (d + e)
  rw [show (ex d + ex e) % Qn = ex ((d + e) % (Qn : Int)) % Qn from by
    have : (((ex d + ex e) % Qn : Nat) : Int) = ((ex ((d + e) % (Qn : Int)) % Qn : Nat) : Int) := by
      rw [Int.natCast_emod, Int.natCast_emod, Int.natCast_add, h3, Int.emod_emod, Int.add_emod, h1, h2, ← Int.add_emod]
    omega]

theorem powers_two {y d e : Int} (h : mem (rs y)) : gExp (gExp y d) e = gExp y (gMulQ d e) := by
  have hm : mem (rs (gExp y d)) := by
    unfold mem
    rw [rs_gExp, powpow, Nat.mul_comm, ← powpow, h, Nat.one_pow]
    decide +kernel
  unfold gExp gMulQ
  unfold gExp at hm
  rw [rs_mod] at hm ⊢
  rw [powpow, mem_pow h, mem_pow h (ex _)]
  have h1 := ex_mod d
  have h2 := ex_mod e
  have h3 := ex_res (d * e)
  rw [show (ex d * ex e) % Qn = ex ((d * e) % (Qn : Int)) % Qn from by
    have : (((ex d * ex e) % Qn : Nat) : Int) = ((ex ((d * e) % (Qn : Int)) % Qn : Nat) : Int) := by
      rw [Int.natCast_emod, Int.natCast_emod, Int.natCast_mul, h3, Int.emod_emod, Int.mul_emod, h1, h2, ← Int.mul_emod]
    omega]

theorem exp_ne_zero {y d : Int} (h : rs y ≠ 0) : gExp y d ≠ 0 := by
  have := pow_ne h (rs_lt y) (ex d)
  unfold gExp
  omega
theorem mem_ne {x : Nat} (h : mem x) : x ≠ 0 := by
  intro e
  rw [e] at h
  unfold mem at h
  rw [Nat.zero_pow (by decide +kernel)] at h
  simp at h

theorem gExp_one {y : Int} : gExp y 1 = gMul y 1 := by
  rw [gMul_nat]
  unfold gExp
  rw [show ex 1 = 1 from by decide +kernel, show rs 1 = 1 from by decide +kernel, Nat.pow_one, Nat.mul_one]
theorem gExp_two {y : Int} : gExp y 2 = gMul y y := by
  rw [gMul_nat]
  unfold gExp
  rw [show ex 2 = 2 from by decide +kernel, Nat.pow_two]
theorem gExp_zero {y : Int} : gExp y 0 = 1 := by
  unfold gExp
  rw [show ex 0 = 0 from by decide +kernel, Nat.pow_zero]
  decide +kernel
theorem rs_zero_iff (a : Int) : rs a = 0 ↔ a % (Pn : Int) = 0 := by
  have := rs_cast a
  omega
theorem gMul_one (a : Int) : gMul a 1 = (rs a : Int) := by rw [gMul, Int.mul_one, rs_cast]

theorem gInv_some {a : Int} (h : rs a ≠ 0) : gInv a = (gExp a ((Pn : Int) - 2), true) := by
  unfold gInv
  rw [if_neg (by rw [← rs_zero_iff]; exact h)]
theorem gInv_none {a : Int} (h : rs a = 0) : gInv a = (0, false) := by
  unfold gInv
  rw [if_pos (by rw [← rs_zero_iff]; exact h)]
theorem exP2 : ex ((Pn : Int) - 2) = Pn - 2 := by decide +kernel
theorem exQ : ex (Qn : Int) = Qn := by decide +kernel

theorem inv_mul' {a : Int} (h : rs a ≠ 0) : gMul (gExp a ((Pn : Int) - 2)) a = 1 := by
  rw [gMul_nat, rs_gExp, exP2, inv_mul h (rs_lt a)]
  rfl
theorem gMul_comm (a b : Int) : gMul a b = gMul b a := by unfold gMul; rw [Int.mul_comm]

theorem powers_inv {y d : Int} (h : mem (rs y)) : gInv (gExp y d) = (gExp y (gSubQ 0 d), true) := by
  have h0 := mem_ne h
  have hz : rs (gExp y d) ≠ 0 := by rw [rs_gExp]; exact pow_ne h0 (rs_lt y) _
  rw [gInv_some hz]
  congr 1
  have e1 := inv_mul' hz
  have e2 : gMul (gExp y (gSubQ 0 d)) (gExp y d) = 1 := by
    rw [powers_one h, exp_eq_of (e := 0) h ?_, gExp_zero]
    unfold gAddQ gSubQ
    rw [ex_res, Int.emod_emod, Int.emod_add_emod, show (0 : Int) - d + d = 0 from by omega]
    decide +kernel
  rw [gMul_comm, gMul_nat] at e1 e2
  have e3 : rs (gExp y d) * rs (gExp (gExp y d) ((Pn : Int) - 2)) % Pn = rs (gExp y d) * rs (gExp y (gSubQ 0 d)) % Pn := by omega
  have e4 := cancel hz (rs_lt _) e3 (rs_lt _) (rs_lt _)
  rw [rs_gExp, rs_gExp] at e4
  unfold gExp at e4 ⊢
  rw [rs_mod] at e4
  rw [rs_mod, e4]

theorem gIn_iff {y : Int} : gIn y = true ↔ 1 ≤ y ∧ y < (Pn : Int) ∧ mem (rs y) := by
  unfold gIn mem
  simp only [Bool.and_eq_true, decide_eq_true_eq, beq_iff_eq, and_assoc]
  unfold gExp
  rw [exQ]
  constructor
  · rintro ⟨a, b, c⟩; exact ⟨a, b, by omega⟩
  · rintro ⟨a, b, c⟩; exact ⟨a, b, by omega⟩
instance (x : Nat) : Decidable (mem x) := by unfold mem; infer_instance
theorem gIn_rs {a : Int} (h : rs a ≠ 0) : gIn (rs a : Int) = decide (mem (rs a)) := by
  have h1 := rs_lt a
  rw [Bool.eq_iff_iff, gIn_iff, decide_eq_true_eq, rs_of_lt h1]
  constructor
  · exact fun x => x.2.2
  · exact fun x => ⟨by omega, by omega, x⟩
end Grp
