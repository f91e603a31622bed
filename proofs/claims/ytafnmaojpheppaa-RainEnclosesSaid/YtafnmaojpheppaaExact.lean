/- Contracts of package exact: Add, Sub, Clamp and Scale compute the plain functions Xa.add, Xa.sub, Xa.clamp, Xa.scale. -/
import Derived.Test.YtafnmaojpheppaaDivW
namespace Go.Proofs.Ytafnmaojpheppaa
open Go.RowKit
set_option linter.unusedVariables false
set_option linter.unusedSimpArgs false

namespace Xa
def add (a b : Int) : Int := if a + b > 9223372036854775807 then 9223372036854775807 else if a + b < -9223372036854775808 then -9223372036854775808 else a + b
def sub (a b : Int) : Int := if a - b > 9223372036854775807 then 9223372036854775807 else if a - b < -9223372036854775808 then -9223372036854775808 else a - b
def clamp (n lo hi : Int) : Int := if n < lo then lo else if n > hi then hi else n
def fits (a num den : Int) : Bool := decide (0 ≤ a ∧ a ≤ 1125899906842624 ∧ 0 ≤ num ∧ num ≤ 1125899906842624 ∧ 1 ≤ den ∧ den ≤ 1125899906842624 ∧ a * num / den ≤ 1125899906842624)
def scale (a num den : Int) : Int × Int × Bool := if fits a num den = true then (a * num / den, a * num % den, true) else (0, 0, false)
theorem add_bd (a b : Int) : -9223372036854775808 ≤ add a b ∧ add a b ≤ 9223372036854775807 := by
  unfold add
  split
  · omega
  · split <;> omega
theorem sub_bd (a b : Int) : -9223372036854775808 ≤ sub a b ∧ sub a b ≤ 9223372036854775807 := by
  unfold sub
  split
  · omega
  · split <;> omega
end Xa

theorem ret_bool {a b : Bool} (h : a = b) : Ending.returned (.bool a) = .returned (.bool b) := by rw [h]
theorem ret_intx {k : IntKind} {a b : Int} (h : a = b) : Ending.returned (.int k a) = .returned (.int k b) := by rw [h]

set_option maxHeartbeats 1000000 in
theorem add_any (a b : Int) (a1 : -9223372036854775808 ≤ a) (a2 : a ≤ 9223372036854775807) (b1 : -9223372036854775808 ≤ b) (b2 : b ≤ 9223372036854775807) (w : World) :
    Calls Try.prog 18 #[.int .i64 a, .int .i64 b] w fun e w' => e = .returned (.int .i64 (Xa.add a b)) ∧ w = w' := by
  by_cases hp : 0 < b
  · have t1 : decide (0 < b) = true := decide_eq_true hp
    have t2 : decide (b < 0) = false := decide_eq_false (by omega)
    by_cases h : 9223372036854775807 - b < a
    · have t3 : decide (9223372036854775807 - b < a) = true := decide_eq_true h
      go_enter Try.func18, Try.ntmps18
      go_wp2_with fail
      go_ret
      exact ⟨ret_intx (by unfold Xa.add; rw [if_pos (by omega)]), rfl⟩
    · have t3 : decide (9223372036854775807 - b < a) = false := decide_eq_false h
      go_enter Try.func18, Try.ntmps18
      go_wp2_with fail
      go_ret
      exact ⟨ret_intx (by unfold Xa.add; rw [if_neg (by omega), if_neg (by omega)]), rfl⟩
  · have t1 : decide (0 < b) = false := decide_eq_false hp
    by_cases hn : b < 0
    · have t2 : decide (b < 0) = true := decide_eq_true hn
      by_cases h : a < -9223372036854775808 - b
      · have t3 : decide (a < -9223372036854775808 - b) = true := decide_eq_true h
        go_enter Try.func18, Try.ntmps18
        go_wp2_with fail
        go_ret
        exact ⟨ret_intx (by unfold Xa.add; rw [if_neg (by omega), if_pos (by omega)]), rfl⟩
      · have t3 : decide (a < -9223372036854775808 - b) = false := decide_eq_false h
        go_enter Try.func18, Try.ntmps18
        go_wp2_with fail
        go_ret
        exact ⟨ret_intx (by unfold Xa.add; rw [if_neg (by omega), if_neg (by omega)]), rfl⟩
    · have t2 : decide (b < 0) = false := decide_eq_false hn
      go_enter Try.func18, Try.ntmps18
      go_wp2_with fail
      go_ret
      exact ⟨ret_intx (by unfold Xa.add; rw [if_neg (by omega), if_neg (by omega)]), rfl⟩

set_option maxHeartbeats 1000000 in
theorem sub_any (a b : Int) (a1 : -9223372036854775808 ≤ a) (a2 : a ≤ 9223372036854775807) (b1 : -9223372036854775808 ≤ b) (b2 : b ≤ 9223372036854775807) (w : World) :
    Calls Try.prog 38 #[.int .i64 a, .int .i64 b] w fun e w' => e = .returned (.int .i64 (Xa.sub a b)) ∧ w = w' := by
  by_cases hp : b < 0
  · have t1 : decide (b < 0) = true := decide_eq_true hp
    have t2 : decide (0 < b) = false := decide_eq_false (by omega)
    by_cases h : 9223372036854775807 + b < a
    · have t3 : decide (9223372036854775807 + b < a) = true := decide_eq_true h
      go_enter Try.func38, Try.ntmps38
      go_wp2_with fail
      go_ret
      exact ⟨ret_intx (by unfold Xa.sub; rw [if_pos (by omega)]), rfl⟩
    · have t3 : decide (9223372036854775807 + b < a) = false := decide_eq_false h
      go_enter Try.func38, Try.ntmps38
      go_wp2_with fail
      go_ret
      exact ⟨ret_intx (by unfold Xa.sub; rw [if_neg (by omega), if_neg (by omega)]), rfl⟩
  · have t1 : decide (b < 0) = false := decide_eq_false hp
    by_cases hn : 0 < b
    · have t2 : decide (0 < b) = true := decide_eq_true hn
      by_cases h : a < -9223372036854775808 + b
      · have t3 : decide (a < -9223372036854775808 + b) = true := decide_eq_true h
        go_enter Try.func38, Try.ntmps38
        go_wp2_with fail
        go_ret
        exact ⟨ret_intx (by unfold Xa.sub; rw [if_neg (by omega), if_pos (by omega)]), rfl⟩
      · have t3 : decide (a < -9223372036854775808 + b) = false := decide_eq_false h
        go_enter Try.func38, Try.ntmps38
        go_wp2_with fail
        go_ret
        exact ⟨ret_intx (by unfold Xa.sub; rw [if_neg (by omega), if_neg (by omega)]), rfl⟩
    · have t2 : decide (0 < b) = false := decide_eq_false hn
      go_enter Try.func38, Try.ntmps38
      go_wp2_with fail
      go_ret
      exact ⟨ret_intx (by unfold Xa.sub; rw [if_neg (by omega), if_neg (by omega)]), rfl⟩

set_option maxHeartbeats 1000000 in
theorem clamp_any (n lo hi : Int) (w : World) :
    Calls Try.prog 17 #[.int .i64 n, .int .i64 lo, .int .i64 hi] w fun e w' => e = .returned (.int .i64 (Xa.clamp n lo hi)) ∧ w = w' := by
  by_cases h1 : n < lo
  · go_enter Try.func17, Try.ntmps17
    go_wp2_with fail
    go_ret
    exact ⟨ret_intx (by unfold Xa.clamp; rw [if_pos h1]), rfl⟩
  · by_cases h2 : hi < n
    · go_enter Try.func17, Try.ntmps17
      go_wp2_with fail
      go_ret
      exact ⟨ret_intx (by unfold Xa.clamp; rw [if_neg (by omega), if_pos (by omega)]), rfl⟩
    · go_enter Try.func17, Try.ntmps17
      go_wp2_with fail
      go_ret
      exact ⟨ret_intx (by unfold Xa.clamp; rw [if_neg (by omega), if_neg (by omega)]), rfl⟩

theorem ret_scale {a b c d : Int} {p q : Bool} (h1 : a = b) (h2 : c = d) (h3 : p = q) : Ending.returned (.tuple #[.int .i64 a, .int .i64 c, .bool p]) = .returned (.tuple #[.int .i64 b, .int .i64 d, .bool q]) := by rw [h1, h2, h3]

namespace Xa
theorem scale_no {a num den : Int} (h : ¬ (0 ≤ a ∧ a ≤ 1125899906842624 ∧ 0 ≤ num ∧ num ≤ 1125899906842624 ∧ 1 ≤ den ∧ den ≤ 1125899906842624 ∧ a * num / den ≤ 1125899906842624)) : scale a num den = (0, 0, false) := by
  unfold scale fits
  rw [if_neg (by simpa using h)]
theorem scale_yes {a num den : Int} (h : 0 ≤ a ∧ a ≤ 1125899906842624 ∧ 0 ≤ num ∧ num ≤ 1125899906842624 ∧ 1 ≤ den ∧ den ≤ 1125899906842624 ∧ a * num / den ≤ 1125899906842624) : scale a num den = (a * num / den, a * num % den, true) := by
  unfold scale fits
  rw [if_pos (by simpa using h)]
theorem scale_nat {a n d : Nat} (ha : a ≤ 1125899906842624) (hn : n ≤ 1125899906842624) (hd1 : 1 ≤ d) (hd : d ≤ 1125899906842624) :
    scale (a : Int) (n : Int) (d : Int) = if a * n / d ≤ 1125899906842624 then (((a * n / d : Nat) : Int), ((a * n % d : Nat) : Int), true) else (0, 0, false) := by
  have e1 : (a : Int) * (n : Int) / (d : Int) = ((a * n / d : Nat) : Int) := by rw [Int.natCast_ediv, Int.natCast_mul]
  have e2 : (a : Int) * (n : Int) % (d : Int) = ((a * n % d : Nat) : Int) := by rw [Int.natCast_emod, Int.natCast_mul]
  by_cases h : a * n / d ≤ 1125899906842624
  · rw [if_pos h, scale_yes (by rw [e1]; omega), e1, e2]
  · rw [if_neg h, scale_no (by rw [e1]; omega)]
end Xa

set_option maxHeartbeats 2000000 in
theorem scale_in (a n d : Nat) (ha : a ≤ 1125899906842624) (hn : n ≤ 1125899906842624) (hd1 : 1 ≤ d) (hd : d ≤ 1125899906842624) (w : World) :
    Calls Try.prog 39 #[.int .i64 (a : Int), .int .i64 (n : Int), .int .i64 (d : Int)] w fun e w' => e = .returned (.tuple #[.int .i64 (Xa.scale a n d).1, .int .i64 (Xa.scale a n d).2.1, .bool (Xa.scale a n d).2.2]) ∧ ∃ k, w' = w.drewN k := by
  rw [Xa.scale_nat ha hn hd1 hd]
  have cm := mul64_any a n (by omega) (by omega) w
  have hdm := Nat.div_add_mod' (a * n) 18446744073709551616
  have hlo := Nat.mod_lt (a * n) (show 0 < 18446744073709551616 by omega)
  have hhi : a * n / 18446744073709551616 < 18446744073709551616 := by
    rw [Nat.div_lt_iff_lt_mul (by omega)]
    exact Nat.mul_lt_mul_of_lt_of_le (by omega) (by omega) (by omega)
  have t1 : decide ((a : Int) < 0) = false := decide_eq_false (by omega)
  have t2 : decide (1125899906842624 < (a : Int)) = false := decide_eq_false (by omega)
  have t3 : decide ((n : Int) < 0) = false := decide_eq_false (by omega)
  have t4 : decide (1125899906842624 < (n : Int)) = false := decide_eq_false (by omega)
  have t5 : decide ((d : Int) < 1) = false := decide_eq_false (by omega)
  have t6 : decide (1125899906842624 < (d : Int)) = false := decide_eq_false (by omega)
  by_cases hov : d ≤ a * n / 18446744073709551616
  · have hq : ¬ a * n / d ≤ 1125899906842624 := by
      intro hle
      have h1 : a * n < d * (1125899906842624 + 1) := by
        have := Nat.div_add_mod (a * n) d
        have h3 := Nat.mod_lt (a * n) (show 0 < d by omega)
        have h4 : d * (a * n / d) ≤ d * 1125899906842624 := Nat.mul_le_mul_left d hle
        rw [Nat.mul_add]
        omega
      have h2 : d * 18446744073709551616 ≤ a * n := by
        have := Nat.mul_le_mul_right 18446744073709551616 hov
        omega
      omega
    rw [if_neg hq]
    generalize a * n / 18446744073709551616 = hi at *
    generalize a * n % 18446744073709551616 = lo at *
    have t7 : decide ((d : Int) ≤ (hi : Int)) = true := decide_eq_true (by omega)
    have CM := Lib.hid cm
    clear cm hdm hq hlo hhi
    go_enter Try.func39, Try.ntmps39
    go_wp2_with fail
    refine CM.out.mono ?_
    rintro e w' ⟨rfl, rfl⟩
    go_wp2_with fail
    go_ret3
    exact ⟨rfl, 0, rfl⟩
  · have cd := div64_any (a * n / 18446744073709551616) (a * n % 18446744073709551616) d hlo (by omega) (by omega) w
    rw [hdm] at cd
    have hr := Nat.mod_lt (a * n) (show 0 < d by omega)
    have hqq : a * n / d < 18446744073709551616 := by
      rw [Nat.div_lt_iff_lt_mul (by omega)]
      have : (a * n / 18446744073709551616 + 1) * 18446744073709551616 ≤ d * 18446744073709551616 := Nat.mul_le_mul_right _ (by omega)
      omega
    generalize a * n / 18446744073709551616 = hi at *
    generalize a * n % 18446744073709551616 = lo at *
    generalize a * n / d = q at *
    generalize a * n % d = r at *
    have t7 : decide ((d : Int) ≤ (hi : Int)) = false := decide_eq_false (by omega)
    have CM := Lib.hid cm
    have CD := Lib.hid cd
    clear cm cd hdm
    by_cases hq : q ≤ 1125899906842624
    · have t8 : decide (1125899906842624 < (q : Int)) = false := decide_eq_false (by omega)
      rw [if_pos hq]
      go_enter Try.func39, Try.ntmps39
      go_wp2_with fail
      refine CM.out.mono ?_
      rintro e w' ⟨rfl, rfl⟩
      go_wp2_with fail
      refine CD.out.mono ?_
      rintro e w' ⟨rfl, k, rfl⟩
      go_wp2_with fail
      go_ret3
      exact ⟨rfl, _, rfl⟩
    · have t8 : decide (1125899906842624 < (q : Int)) = true := decide_eq_true (by omega)
      rw [if_neg hq]
      go_enter Try.func39, Try.ntmps39
      go_wp2_with fail
      refine CM.out.mono ?_
      rintro e w' ⟨rfl, rfl⟩
      go_wp2_with fail
      refine CD.out.mono ?_
      rintro e w' ⟨rfl, k, rfl⟩
      go_wp2_with fail
      go_ret3
      exact ⟨rfl, _, rfl⟩

set_option maxHeartbeats 2000000 in
theorem scale_any (a n d : Int) (w : World) :
    Calls Try.prog 39 #[.int .i64 a, .int .i64 n, .int .i64 d] w fun e w' => e = .returned (.tuple #[.int .i64 (Xa.scale a n d).1, .int .i64 (Xa.scale a n d).2.1, .bool (Xa.scale a n d).2.2]) ∧ ∃ k, w' = w.drewN k := by
  by_cases h : 0 ≤ a ∧ a ≤ 1125899906842624 ∧ 0 ≤ n ∧ n ≤ 1125899906842624 ∧ 1 ≤ d ∧ d ≤ 1125899906842624
  · obtain ⟨h1, h2, h3, h4, h5, h6⟩ := h
    obtain ⟨A, rfl⟩ := Int.eq_ofNat_of_zero_le h1
    obtain ⟨N, rfl⟩ := Int.eq_ofNat_of_zero_le h3
    obtain ⟨D, rfl⟩ := Int.eq_ofNat_of_zero_le (show 0 ≤ d by omega)
    exact scale_in A N D (by omega) (by omega) (by omega) (by omega) w
  · rw [Xa.scale_no (fun x => h ⟨x.1, x.2.1, x.2.2.1, x.2.2.2.1, x.2.2.2.2.1, x.2.2.2.2.2.1⟩)]
    obtain ⟨x1, e1⟩ : ∃ b, decide (a < 0) = b := ⟨_, rfl⟩
    obtain ⟨x2, e2⟩ : ∃ b, decide (1125899906842624 < a) = b := ⟨_, rfl⟩
    obtain ⟨x3, e3⟩ : ∃ b, decide (n < 0) = b := ⟨_, rfl⟩
    obtain ⟨x4, e4⟩ : ∃ b, decide (1125899906842624 < n) = b := ⟨_, rfl⟩
    obtain ⟨x5, e5⟩ : ∃ b, decide (d < 1) = b := ⟨_, rfl⟩
    obtain ⟨x6, e6⟩ : ∃ b, decide (1125899906842624 < d) = b := ⟨_, rfl⟩
    have hx : (x1 || x2 || x3 || x4 || x5 || x6) = true := by
      subst e1 e2 e3 e4 e5 e6
      simp only [Bool.or_eq_true, decide_eq_true_eq]
      omega
    cases x1 with
    | true =>
      clear e2 e3 e4 e5 e6 h hx
      go_enter Try.func39, Try.ntmps39
      go_wp2_with fail
      go_ret3
      exact ⟨rfl, 0, rfl⟩
    | false =>
    cases x2 with
    | true =>
      clear e3 e4 e5 e6 h hx
      go_enter Try.func39, Try.ntmps39
      go_wp2_with fail
      go_ret3
      exact ⟨rfl, 0, rfl⟩
    | false =>
    cases x3 with
    | true =>
      clear e4 e5 e6 h hx
      go_enter Try.func39, Try.ntmps39
      go_wp2_with fail
      go_ret3
      exact ⟨rfl, 0, rfl⟩
    | false =>
    cases x4 with
    | true =>
      clear e5 e6 h hx
      go_enter Try.func39, Try.ntmps39
      go_wp2_with fail
      go_ret3
      exact ⟨rfl, 0, rfl⟩
    | false =>
    cases x5 with
    | true =>
      clear e6 h hx
      go_enter Try.func39, Try.ntmps39
      go_wp2_with fail
      go_ret3
      exact ⟨rfl, 0, rfl⟩
    | false =>
    cases x6 with
    | true =>
      clear h hx
      go_enter Try.func39, Try.ntmps39
      go_wp2_with fail
      go_ret3
      exact ⟨rfl, 0, rfl⟩
    | false => simp at hx

end Go.Proofs.Ytafnmaojpheppaa
