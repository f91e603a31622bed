/- Contracts of package group, the rest: Inv, In, AddQ, SubQ, MulQ. -/
import Derived.Test.YtenbinclccnlgaaExp
namespace Go.Proofs.Ytenbinclccnlgaa
open Go.RowKit

theorem ret_tup {k : IntKind} {a b : Int} {c d : Bool} (h : a = b) (h' : c = d) : Ending.returned (.tuple #[.int k a, .bool c]) = .returned (.tuple #[.int k b, .bool d]) := by rw [h, h']
theorem ret_bool {a b : Bool} (h : a = b) : Ending.returned (.bool a) = .returned (.bool b) := by rw [h]

theorem inv_any (a : Int) (w : World) :
    Calls Try.prog 9 #[.int .i64 a] w fun e w' => e = .returned (.tuple #[.int .i64 (Grp.gInv a).1, .bool (Grp.gInv a).2]) ∧ ∃ n, w' = w.drewN n := by
  have c := residue_any a 2305843009213691579 (by omega) (by omega) w
  have hP2 : (Grp.Pn : Int) - 2 = 2305843009213691577 := by rw [Pc]; rfl
  by_cases h : a % 2305843009213691579 = 0
  · have hg : Grp.gInv a = (0, false) := by unfold Grp.gInv; rw [if_pos (by rw [Pc]; exact h)]
    rw [hg]
    rw [h] at c
    have HC := Lib.hid c
    clear c h hg hP2
    go_enter Try.func9, Try.ntmps9
    go_wp2_with fail
    refine HC.out.mono ?_
    rintro e w' ⟨rfl, rfl⟩
    go_wp2_with fail
    go_ret2
    exact ⟨rfl, 0, rfl⟩
  · have hg : Grp.gInv a = (Grp.gExp a 2305843009213691577, true) := by unfold Grp.gInv; rw [if_neg (by rw [Pc]; exact h), hP2]
    rw [hg]
    have t1 : (a % 2305843009213691579 == 0) = false := beq_eq_false_iff_ne.2 h
    have HC := Lib.hid c
    clear c h hg hP2
    go_enter Try.func9, Try.ntmps9
    go_wp2_with fail
    refine HC.out.mono ?_
    rintro e w' ⟨rfl, rfl⟩
    go_wp2_with fail
    refine (exp_any _ _ (by omega) _).mono ?_
    rintro e w' ⟨rfl, n, rfl⟩
    go_wp2_with fail
    go_ret2
    exact ⟨rfl, _, rfl⟩

theorem in_any (y : Int) (w : World) :
    Calls Try.prog 15 #[.int .i64 y] w fun e w' => e = .returned (.bool (Grp.gIn y)) ∧ ∃ n, w' = w.drewN n := by
  have hg : Grp.gIn y = (decide (1 ≤ y) && decide (y < 2305843009213691579) && Grp.gExp y 1152921504606845789 == 1) := by unfold Grp.gIn; rw [Pc, Qc]
  rw [hg]
  clear hg
  by_cases h1 : 1 ≤ y
  · by_cases h2 : y < 2305843009213691579
    · have t1 : decide (1 ≤ y) = true := decide_eq_true h1
      have t2 : decide (y < 2305843009213691579) = true := decide_eq_true h2
      go_enter Try.func15, Try.ntmps15
      go_wp2_with fail
      refine (exp_any _ _ (by omega) _).mono ?_
      rintro e w' ⟨rfl, n, rfl⟩
      go_wp2_with fail
      go_ret
      exact ⟨ret_bool (by simp [h1, h2]), _, rfl⟩
    · have t1 : decide (1 ≤ y) = true := decide_eq_true h1
      have t2 : decide (y < 2305843009213691579) = false := decide_eq_false h2
      go_enter Try.func15, Try.ntmps15
      go_wp2_with fail
      go_ret
      exact ⟨ret_bool (by simp), 0, rfl⟩
  · have t1 : decide (1 ≤ y) = false := decide_eq_false h1
    go_enter Try.func15, Try.ntmps15
    go_wp2_with fail
    go_ret
    exact ⟨ret_bool (by simp), 0, rfl⟩

theorem addQ_any (a b : Int) (w : World) :
    Calls Try.prog 17 #[.int .i64 a, .int .i64 b] w fun e w' => e = .returned (.int .i64 (Grp.gAddQ a b)) ∧ w = w' := by
  have ca := residue_any a 1152921504606845789 (by omega) (by omega) w
  have cb := residue_any b 1152921504606845789 (by omega) (by omega) w
  have na := Int.emod_nonneg a (show (1152921504606845789 : Int) ≠ 0 by omega)
  have nb := Int.emod_nonneg b (show (1152921504606845789 : Int) ≠ 0 by omega)
  have la := Int.emod_lt_of_pos a (show (0 : Int) < 1152921504606845789 by omega)
  have lb := Int.emod_lt_of_pos b (show (0 : Int) < 1152921504606845789 by omega)
  have hr : Grp.gAddQ a b = (a % 1152921504606845789 + b % 1152921504606845789) % 1152921504606845789 := by unfold Grp.gAddQ; rw [Qc, Int.add_emod]
  rw [hr]
  clear hr
  generalize a % 1152921504606845789 = x at *
  generalize b % 1152921504606845789 = y at *
  have CA := Lib.hid ca
  have CB := Lib.hid cb
  clear ca cb
  go_enter Try.func17, Try.ntmps17
  go_wp2_with fail
  refine CA.out.mono ?_
  rintro e w' ⟨rfl, rfl⟩
  go_wp2_with fail
  refine CB.out.mono ?_
  rintro e w' ⟨rfl, rfl⟩
  go_wp2_with fail
  go_ret
  exact ⟨rfl, rfl⟩

theorem subQ_any (a b : Int) (w : World) :
    Calls Try.prog 19 #[.int .i64 a, .int .i64 b] w fun e w' => e = .returned (.int .i64 (Grp.gSubQ a b)) ∧ w = w' := by
  have ca := residue_any a 1152921504606845789 (by omega) (by omega) w
  have cb := residue_any b 1152921504606845789 (by omega) (by omega) w
  have na := Int.emod_nonneg a (show (1152921504606845789 : Int) ≠ 0 by omega)
  have nb := Int.emod_nonneg b (show (1152921504606845789 : Int) ≠ 0 by omega)
  have la := Int.emod_lt_of_pos a (show (0 : Int) < 1152921504606845789 by omega)
  have lb := Int.emod_lt_of_pos b (show (0 : Int) < 1152921504606845789 by omega)
  have hr : Grp.gSubQ a b = (a % 1152921504606845789 - b % 1152921504606845789) % 1152921504606845789 := by unfold Grp.gSubQ; rw [Qc, Int.sub_emod]
  rw [hr]
  clear hr
  generalize a % 1152921504606845789 = x at *
  generalize b % 1152921504606845789 = y at *
  have CA := Lib.hid ca
  have CB := Lib.hid cb
  clear ca cb
  go_enter Try.func19, Try.ntmps19
  go_wp2_with fail
  refine CA.out.mono ?_
  rintro e w' ⟨rfl, rfl⟩
  go_wp2_with fail
  refine CB.out.mono ?_
  rintro e w' ⟨rfl, rfl⟩
  go_wp2_with fail
  refine (residue_any _ _ (by omega) (by omega) _).mono ?_
  rintro e w' ⟨rfl, rfl⟩
  go_wp2_with fail
  go_ret
  exact ⟨rfl, rfl⟩

theorem mulQ_any (a b : Int) (w : World) :
    Calls Try.prog 21 #[.int .i64 a, .int .i64 b] w fun e w' => e = .returned (.int .i64 (Grp.gMulQ a b)) ∧ ∃ n, w' = w.drewN n := by
  have c := product_any a b 1152921504606845789 (by omega) (by omega) w
  have e : a * b % 1152921504606845789 = Grp.gMulQ a b := by unfold Grp.gMulQ; rw [Qc]
  rw [e] at c
  have HC := Lib.hid c
  clear c e
  go_enter Try.func21, Try.ntmps21
  go_wp2_with fail
  refine HC.out.mono ?_
  rintro e w' ⟨rfl, n, rfl⟩
  go_wp2_with fail
  go_ret
  exact ⟨rfl, _, rfl⟩

end Go.Proofs.Ytenbinclccnlgaa
