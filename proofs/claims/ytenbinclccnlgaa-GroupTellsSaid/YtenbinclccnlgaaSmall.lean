/- The examples of the group laws: the function small answers true. -/
import Derived.Test.YtenbinclccnlgaaFns
namespace Go.Proofs.Ytenbinclccnlgaa
open Go.RowKit

theorem gExp_pm (a e : Int) (h : Grp.ex e < 2 ^ 64) : Grp.gExp a e = ((Grp.pm Grp.Pn (Grp.rs a) 64 (Grp.ex e) : Nat) : Int) := by
  unfold Grp.gExp
  rw [Grp.pm_eq _ _ _ _ h]
theorem gExp_eval (a e v : Int) (h : decide (Grp.ex e < 2 ^ 64) = true) (hv : decide (((Grp.pm Grp.Pn (Grp.rs a) 64 (Grp.ex e) : Nat) : Int) = v) = true) : Grp.gExp a e = v := by
  rw [gExp_pm a e (of_decide_eq_true h)]
  exact of_decide_eq_true hv

namespace Ex
theorem e43 : Grp.gExp 4 3 = 64 := gExp_eval _ _ _ (by decide +kernel) (by decide +kernel)
theorem e00 : Grp.gExp 0 0 = 1 := gExp_eval _ _ _ (by decide +kernel) (by decide +kernel)
theorem e0Q : Grp.gExp 0 (-1152921504606845789) = 1 := gExp_eval _ _ _ (by decide +kernel) (by decide +kernel)
theorem e4m : Grp.gExp 4 (-1) = 576460752303422895 := gExp_eval _ _ _ (by decide +kernel) (by decide +kernel)
theorem e2Q : Grp.gExp 2 1152921504606845789 = 2305843009213691578 := gExp_eval _ _ _ (by decide +kernel) (by decide +kernel)
theorem i2 : Grp.gInv 2 = (1152921504606845790, true) := by
  unfold Grp.gInv
  rw [if_neg (by decide +kernel), gExp_eval 2 ((Grp.Pn : Int) - 2) 1152921504606845790 (by decide +kernel) (by decide +kernel)]
theorem iP : Grp.gInv 2305843009213691579 = (0, false) := by
  unfold Grp.gInv
  rw [if_pos (by decide +kernel)]
theorem i4 : Grp.gInv 4 = (576460752303422895, true) := by
  unfold Grp.gInv
  rw [if_neg (by decide +kernel), gExp_eval 4 ((Grp.Pn : Int) - 2) 576460752303422895 (by decide +kernel) (by decide +kernel)]
theorem n4 : Grp.gIn 4 = true := by
  unfold Grp.gIn
  rw [gExp_eval 4 (Grp.Qn : Int) 1 (by decide +kernel) (by decide +kernel)]
  decide +kernel
theorem n1 : Grp.gIn 1 = true := by
  unfold Grp.gIn
  rw [gExp_eval 1 (Grp.Qn : Int) 1 (by decide +kernel) (by decide +kernel)]
  decide +kernel
theorem nm : Grp.gIn 2305843009213691578 = false := by
  unfold Grp.gIn
  rw [gExp_eval 2305843009213691578 (Grp.Qn : Int) 2305843009213691578 (by decide +kernel) (by decide +kernel)]
  decide +kernel
theorem n0 : Grp.gIn 0 = false := by
  unfold Grp.gIn
  rw [show decide ((1 : Int) ≤ 0) = false from rfl]
  simp
theorem nP : Grp.gIn 2305843009213691583 = false := by
  unfold Grp.gIn
  rw [show decide ((2305843009213691583 : Int) < (Grp.Pn : Int)) = false from by decide +kernel]
  simp
theorem m1 : Grp.gMul 2305843009213691578 2305843009213691578 = 1 := by decide +kernel
theorem m3 : Grp.gMul (-1) 3 = 2305843009213691576 := by decide +kernel
theorem aq : Grp.gAddQ 1152921504606845788 2 = 1 := by decide +kernel
theorem sq : Grp.gSubQ 0 1 = 1152921504606845788 := by decide +kernel
theorem mq : Grp.gMulQ 1152921504606845788 1152921504606845788 = 1 := by decide +kernel
end Ex

set_option maxHeartbeats 1000000 in
set_option maxRecDepth 100000 in
theorem small_any (w : World) : Calls Try.prog 8 #[] w fun e w' => e = .returned (.bool true) ∧ ∃ n, w' = w.drewN n := by
  have x1 := Ex.e43
  have x2 := Ex.e00
  have x3 := Ex.e0Q
  have x4 := Ex.e4m
  have x5 := Ex.e2Q
  have x6 := Ex.i2
  have x7 := Ex.iP
  have x8 := Ex.i4
  have x9 := Ex.n4
  have x10 := Ex.n1
  have x11 := Ex.nm
  have x12 := Ex.n0
  have x13 := Ex.nP
  have x14 := Ex.m1
  have x15 := Ex.m3
  have x16 := Ex.aq
  have x17 := Ex.sq
  have x18 := Ex.mq
  go_enter Try.func8, Try.ntmps8
  go_wp2_with (first | (go_at_call 9; refine (inv_any _ _).mono ?_; rintro e w' ⟨rfl, n, rfl⟩) | (go_at_call 13; refine (exp_any _ _ (by omega) _).mono ?_; rintro e w' ⟨rfl, n, rfl⟩) | (go_at_call 15; refine (in_any _ _).mono ?_; rintro e w' ⟨rfl, n, rfl⟩) | (go_at_call 11; refine (mul_any _ _ _).mono ?_; rintro e w' ⟨rfl, n, rfl⟩) | (go_at_call 17; refine (addQ_any _ _ _).mono ?_; rintro e w' ⟨rfl, rfl⟩) | (go_at_call 19; refine (subQ_any _ _ _).mono ?_; rintro e w' ⟨rfl, rfl⟩) | (go_at_call 21; refine (mulQ_any _ _ _).mono ?_; rintro e w' ⟨rfl, n, rfl⟩))
  go_ret
  exact ⟨rfl, _, rfl⟩

end Go.Proofs.Ytenbinclccnlgaa
