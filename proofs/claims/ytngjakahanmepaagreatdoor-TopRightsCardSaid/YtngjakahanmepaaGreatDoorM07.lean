/- Part 7 of the proof of TopRights: The arithmetic under math/bits.Div64: one step of the school division by a number of two halves of 32 bits. No program in sight. -/
namespace Dv
def B : Nat := 4294967296
/-- what holds at the head of the correcting loop: u the upper part, d the next half, y = y1 * B + y0 -/
structure At (y1 y0 u d q r : Nat) : Prop where
  sum : q * y1 + r = u
  low : (u * B + d) / (y1 * B + y0) ≤ q
  cap : q ≤ B + 1
theorem mul_le_sq {a b c d : Nat} (h1 : a ≤ c) (h2 : b ≤ d) : a * b ≤ c * d := Nat.mul_le_mul h1 h2
theorem start {y1 y0 u d : Nat} (h1 : 2147483648 ≤ y1) (h0 : y0 < B) (hd : d < B) (hu : u < y1 * B + y0) : At y1 y0 u d (u / y1) (u - u / y1 * y1) := by
  have e : u / y1 * y1 ≤ u := Nat.div_mul_le_self u y1
  refine ⟨by omega, ?_, ?_⟩
  · have hy : 0 < y1 * B + y0 := by unfold B; omega
    rw [Nat.div_le_iff_le_mul_add_pred hy]
    have h2 : u ≤ y1 * (u / y1) + (y1 - 1) := by
      have := Nat.div_add_mod u y1
      have := Nat.mod_lt u (show 0 < y1 by omega)
      omega
    generalize u / y1 = q at *
    have h3 : (y1 * B + y0) * q = y1 * q * B + y0 * q := by rw [Nat.add_mul, Nat.mul_right_comm]
    rw [h3]
    generalize y1 * q = z at *
    have h4 : 0 ≤ y0 * q := Nat.zero_le _
    generalize y0 * q = z2 at *
    unfold B at *
    omega
  · rw [Nat.div_le_iff_le_mul_add_pred (by omega)]
    unfold B at *
    omega
theorem step {y1 y0 u d q r : Nat} (hu : u < y1 * B + y0) (hd : d < B) (h : At y1 y0 u d q r) (ht : B ≤ q ∨ B * r + d < q * y0) : At y1 y0 u d (q - 1) (r + y1) ∧ 1 ≤ q ∧ q - 1 ≤ B := by
  have hy : 0 < y1 * B + y0 := by omega
  have hq : (u * B + d) / (y1 * B + y0) < q := by
    rcases ht with ht | ht
    · refine Nat.lt_of_lt_of_le ?_ ht
      rw [Nat.div_lt_iff_lt_mul hy]
      have : (u + 1) * B ≤ (y1 * B + y0) * B := Nat.mul_le_mul_right _ hu
      rw [Nat.mul_comm B]
      rw [Nat.add_mul] at this
      omega
    · rw [Nat.div_lt_iff_lt_mul hy]
      have e : q * (y1 * B + y0) = q * y1 * B + q * y0 := by rw [Nat.mul_add, Nat.mul_assoc]
      have e2 : u * B = q * y1 * B + r * B := by rw [← h.sum, Nat.add_mul]
      rw [Nat.mul_comm B r] at ht
      omega
  have h1 : 1 ≤ q := Nat.lt_of_le_of_lt (Nat.zero_le _) hq
  refine ⟨⟨?_, Nat.le_sub_one_of_lt hq, by have := h.cap; omega⟩, h1, by have := h.cap; omega⟩
  have := h.sum
  have e : (q - 1) * y1 + y1 = q * y1 := by
    obtain ⟨k, rfl⟩ : ∃ k, q = k + 1 := ⟨q - 1, by omega⟩
    rw [Nat.add_sub_cancel, Nat.add_mul, Nat.one_mul]
  omega
/-- the loop ends by its test -/
theorem stop {y1 y0 u d q r : Nat} (h1 : 2147483648 ≤ y1) (h : At y1 y0 u d q r) (ht : q * y0 ≤ B * r + d) : q = (u * B + d) / (y1 * B + y0) := by
  have hy : 0 < y1 * B + y0 := by unfold B; omega
  refine Nat.le_antisymm ?_ h.low
  rw [Nat.le_div_iff_mul_le hy]
  have e : q * (y1 * B + y0) = q * y1 * B + q * y0 := by rw [Nat.mul_add, Nat.mul_assoc]
  have e2 : u * B = q * y1 * B + r * B := by rw [← h.sum, Nat.add_mul]
  rw [Nat.mul_comm B r] at ht
  omega
/-- the loop ends by its break -/
theorem brk {y1 y0 u d q r : Nat} (h1 : 2147483648 ≤ y1) (h0 : y0 < B) (h : At y1 y0 u d q r) (hq : q ≤ B) (hr : B ≤ r) : q = (u * B + d) / (y1 * B + y0) := by
  refine stop h1 h ?_
  have a := mul_le_sq hq (Nat.le_of_lt h0)
  have b := Nat.mul_le_mul_left B hr
  omega
theorem comb {A M q1 v c r q0 k : Nat} (h1 : M * q1 + v = A) (h2 : M * q0 + k = v * c + r) : A * c + r = M * (q1 * c + q0) + k := by
  rw [← h1, Nat.add_mul, Nat.mul_add, Nat.mul_assoc]
  omega
theorem shift_sum {hi c lo K a b : Nat} (h : lo * K = a * c + b) : (hi * c + lo) * K = (hi * K + a) * c + b := by
  rw [Nat.add_mul, Nat.add_mul, Nat.mul_right_comm hi, h]
  omega
/-- the whole: two steps, shifted -/
theorem whole {hi lo y k u32 u10 q1 u21 q0 : Nat} (K : Nat) (hK : 0 < K)
    (hu : (hi * 18446744073709551616 + lo) * K = u32 * 18446744073709551616 + u10)
    (hq1 : q1 = (u32 * 4294967296 + u10 / 4294967296) / (y * K)) (h21 : u21 = (u32 * 4294967296 + u10 / 4294967296) % (y * K))
    (hq0 : q0 = (u21 * 4294967296 + u10 % 4294967296) / (y * K)) (hk : k = (u21 * 4294967296 + u10 % 4294967296) % (y * K)) (hy : 0 < y) :
    q1 * 4294967296 + q0 = (hi * 18446744073709551616 + lo) / y ∧ k = (hi * 18446744073709551616 + lo) % y * K := by
  have hyK : 0 < y * K := Nat.mul_pos hy hK
  have e1 := Nat.div_add_mod (u32 * 4294967296 + u10 / 4294967296) (y * K)
  have e0 := Nat.div_add_mod (u21 * 4294967296 + u10 % 4294967296) (y * K)
  rw [← hq1, ← h21] at e1
  rw [← hq0, ← hk] at e0
  have hsum : (hi * 18446744073709551616 + lo) * K = y * K * (q1 * 4294967296 + q0) + k := by
    rw [hu]
    have e2 : u32 * 18446744073709551616 + u10 = (u32 * 4294967296 + u10 / 4294967296) * 4294967296 + u10 % 4294967296 := by omega
    rw [e2]
    exact comb e1 e0
  have hlt : k < y * K := hk ▸ Nat.mod_lt _ hyK
  have hd : (hi * 18446744073709551616 + lo) * K / (y * K) = q1 * 4294967296 + q0 := by
    rw [hsum, Nat.mul_add_div hyK, Nat.div_eq_of_lt hlt, Nat.add_zero]
  have hm : (hi * 18446744073709551616 + lo) * K % (y * K) = k := by
    rw [hsum, Nat.mul_add_mod, Nat.mod_eq_of_lt hlt]
  constructor
  · rw [← hd, Nat.mul_div_mul_right _ _ hK]
  · rw [← hm, Nat.mul_mod_mul_right]
/-- the wrapping subtraction gives the remainder -/
theorem wrap_rem (u d z v : Nat) (h : z + v = u * 4294967296 + d) (hv : v < 18446744073709551616) :
    ((((u * 4294967296 % 18446744073709551616 + d) % 18446744073709551616 : Nat) : Int) - ((z % 18446744073709551616 : Nat) : Int)) % 18446744073709551616 = (v : Int) := by omega
end Dv
