/- Contracts of bourneref09, over pairs of ends. -/
import Derived.Test.YtafnmaojpheppaaSpan
import Derived.Test.YtafnmaojpheppaaRefS
import Derived.Test.YtafnmaojpheppaaRefA
namespace Go.Proofs.Ytafnmaojpheppaa
open Go.RowKit
set_option linter.unusedVariables false
set_option linter.unusedSimpArgs false

theorem refright_any (lo hi : Int) (w : World) :
    Calls Try.prog 41 #[.agg #[.int .i64 lo, .int .i64 hi]] w fun e w' => e = .returned (.bool (decide (lo ≤ hi))) ∧ Below w.heap.size w w' := by
  go_enter Try.func41, Try.ntmps41
  go_wp2_with fail
  go_ret
  exact ⟨rfl, by go_grown⟩

set_option maxHeartbeats 1000000 in
theorem refsadd_any (a b c d : Int) (a1 : -9223372036854775808 ≤ a) (a2 : a ≤ 9223372036854775807) (b1 : -9223372036854775808 ≤ b) (b2 : b ≤ 9223372036854775807) (c1 : -9223372036854775808 ≤ c) (c2 : c ≤ 9223372036854775807) (d1 : -9223372036854775808 ≤ d) (d2 : d ≤ 9223372036854775807) (w : World) :
    Calls Try.prog 36 #[.agg #[.int .i64 a, .int .i64 b], .agg #[.int .i64 c, .int .i64 d]] w fun e w' => e = .returned (.agg #[.int .i64 (Xa.add a c), .int .i64 (Xa.add b d)]) ∧ Below w.heap.size w w' := by
  go_enter Try.func36, Try.ntmps36
  go_wp2_with (go_at_call 34; refine (refadd_any _ _ (by assumption) (by assumption) (by assumption) (by assumption) _).mono ?_; rintro e w' ⟨rfl, rfl⟩)
  exact bodyPost_ret (v := .agg #[.int .i64 (Xa.add a c), .int .i64 (Xa.add b d)]) (by simp [results, Try.results36, go_sem]) rfl ⟨rfl, by go_grown⟩

set_option maxHeartbeats 4000000 in
theorem refmeet_any (a b c d : Int) (w : World) :
    Calls Try.prog 42 #[.agg #[.int .i64 a, .int .i64 b], .agg #[.int .i64 c, .int .i64 d]] w fun e w' => e = .returned (.tuple (if max a c ≤ min b d then #[.agg #[.int .i64 (max a c), .int .i64 (min b d)], .bool true] else #[.agg #[.int .i64 0, .int .i64 0], .bool false])) ∧ Below w.heap.size w w' := by
  by_cases h1 : a < c
  · have t1 : decide (a < c) = true := decide_eq_true h1
    have m1 : max a c = c := by omega
    rw [m1]
    by_cases h2 : d < b
    · have t2 : decide (d < b) = true := decide_eq_true h2
      have m2 : min b d = d := by omega
      rw [m2]
      clear h1 h2 m1 m2
      by_cases h3 : c ≤ d
      · have t3 : decide (d < c) = false := decide_eq_false (by omega)
        rw [if_pos h3]
        clear h3
        go_enter Try.func42, Try.ntmps42
        go_wp2_with fail
        exact bodyPost_ret (v := .tuple #[.agg #[.int .i64 c, .int .i64 d], .bool true]) (by simp [results, Try.results42, go_sem]) rfl ⟨rfl, by go_grown⟩
      · have t3 : decide (d < c) = true := decide_eq_true (by omega)
        rw [if_neg h3]
        clear h3
        go_enter Try.func42, Try.ntmps42
        go_wp2_with fail
        exact bodyPost_ret (v := .tuple #[.agg #[.int .i64 0, .int .i64 0], .bool false]) (by simp [results, Try.results42, go_sem]) rfl ⟨rfl, by go_grown⟩
    · have t2 : decide (d < b) = false := decide_eq_false h2
      have m2 : min b d = b := by omega
      rw [m2]
      clear h1 h2 m1 m2
      by_cases h3 : c ≤ b
      · have t3 : decide (b < c) = false := decide_eq_false (by omega)
        rw [if_pos h3]
        clear h3
        go_enter Try.func42, Try.ntmps42
        go_wp2_with fail
        exact bodyPost_ret (v := .tuple #[.agg #[.int .i64 c, .int .i64 b], .bool true]) (by simp [results, Try.results42, go_sem]) rfl ⟨rfl, by go_grown⟩
      · have t3 : decide (b < c) = true := decide_eq_true (by omega)
        rw [if_neg h3]
        clear h3
        go_enter Try.func42, Try.ntmps42
        go_wp2_with fail
        exact bodyPost_ret (v := .tuple #[.agg #[.int .i64 0, .int .i64 0], .bool false]) (by simp [results, Try.results42, go_sem]) rfl ⟨rfl, by go_grown⟩
  · have t1 : decide (a < c) = false := decide_eq_false h1
    have m1 : max a c = a := by omega
    rw [m1]
    by_cases h2 : d < b
    · have t2 : decide (d < b) = true := decide_eq_true h2
      have m2 : min b d = d := by omega
      rw [m2]
      clear h1 h2 m1 m2
      by_cases h3 : a ≤ d
      · have t3 : decide (d < a) = false := decide_eq_false (by omega)
        rw [if_pos h3]
        clear h3
        go_enter Try.func42, Try.ntmps42
        go_wp2_with fail
        exact bodyPost_ret (v := .tuple #[.agg #[.int .i64 a, .int .i64 d], .bool true]) (by simp [results, Try.results42, go_sem]) rfl ⟨rfl, by go_grown⟩
      · have t3 : decide (d < a) = true := decide_eq_true (by omega)
        rw [if_neg h3]
        clear h3
        go_enter Try.func42, Try.ntmps42
        go_wp2_with fail
        exact bodyPost_ret (v := .tuple #[.agg #[.int .i64 0, .int .i64 0], .bool false]) (by simp [results, Try.results42, go_sem]) rfl ⟨rfl, by go_grown⟩
    · have t2 : decide (d < b) = false := decide_eq_false h2
      have m2 : min b d = b := by omega
      rw [m2]
      clear h1 h2 m1 m2
      by_cases h3 : a ≤ b
      · have t3 : decide (b < a) = false := decide_eq_false (by omega)
        rw [if_pos h3]
        clear h3
        go_enter Try.func42, Try.ntmps42
        go_wp2_with fail
        exact bodyPost_ret (v := .tuple #[.agg #[.int .i64 a, .int .i64 b], .bool true]) (by simp [results, Try.results42, go_sem]) rfl ⟨rfl, by go_grown⟩
      · have t3 : decide (b < a) = true := decide_eq_true (by omega)
        rw [if_neg h3]
        clear h3
        go_enter Try.func42, Try.ntmps42
        go_wp2_with fail
        exact bodyPost_ret (v := .tuple #[.agg #[.int .i64 0, .int .i64 0], .bool false]) (by simp [results, Try.results42, go_sem]) rfl ⟨rfl, by go_grown⟩

end Go.Proofs.Ytafnmaojpheppaa
