/- Contracts of bourneref01.Add and Sub. -/
import Derived.Test.YtafnmaojpheppaaExact
namespace Go.Proofs.Ytafnmaojpheppaa
open Go.RowKit
set_option linter.unusedVariables false
set_option linter.unusedSimpArgs false

set_option maxHeartbeats 1000000 in
theorem refadd_any (a b : Int) (a1 : -9223372036854775808 ≤ a) (a2 : a ≤ 9223372036854775807) (b1 : -9223372036854775808 ≤ b) (b2 : b ≤ 9223372036854775807) (w : World) :
    Calls Try.prog 34 #[.int .i64 a, .int .i64 b] w fun e w' => e = .returned (.int .i64 (Xa.add a b)) ∧ w = w' := by
  by_cases hp : 0 < b
  · have t1 : decide (0 < b) = true := decide_eq_true hp
    have t2 : decide (b < 0) = false := decide_eq_false (by omega)
    by_cases h : 9223372036854775807 - b < a
    · have t3 : decide (9223372036854775807 - b < a) = true := decide_eq_true h
      go_enter Try.func34, Try.ntmps34
      go_wp2_with fail
      go_ret
      exact ⟨ret_intx (by unfold Xa.add; rw [if_pos (by omega)]), rfl⟩
    · have t3 : decide (9223372036854775807 - b < a) = false := decide_eq_false h
      go_enter Try.func34, Try.ntmps34
      go_wp2_with fail
      go_ret
      exact ⟨ret_intx (by unfold Xa.add; rw [if_neg (by omega), if_neg (by omega)]), rfl⟩
  · have t1 : decide (0 < b) = false := decide_eq_false hp
    by_cases hn : b < 0
    · have t2 : decide (b < 0) = true := decide_eq_true hn
      by_cases h : a < -9223372036854775808 - b
      · have t3 : decide (a < -9223372036854775808 - b) = true := decide_eq_true h
        go_enter Try.func34, Try.ntmps34
        go_wp2_with fail
        go_ret
        exact ⟨ret_intx (by unfold Xa.add; rw [if_neg (by omega), if_pos (by omega)]), rfl⟩
      · have t3 : decide (a < -9223372036854775808 - b) = false := decide_eq_false h
        go_enter Try.func34, Try.ntmps34
        go_wp2_with fail
        go_ret
        exact ⟨ret_intx (by unfold Xa.add; rw [if_neg (by omega), if_neg (by omega)]), rfl⟩
    · have t2 : decide (b < 0) = false := decide_eq_false hn
      go_enter Try.func34, Try.ntmps34
      go_wp2_with fail
      go_ret
      exact ⟨ret_intx (by unfold Xa.add; rw [if_neg (by omega), if_neg (by omega)]), rfl⟩



end Go.Proofs.Ytafnmaojpheppaa
