/- reach.Route and its reference. -/
import Derived.Test.YthbjechgdjcogaaQueue
import Derived.Test.YthbjechgdjcogaaRefS
namespace Go.Proofs.Ythbjechgdjcogaa
open Go.RowKit
set_option linter.unusedVariables false
set_option linter.unusedSimpArgs false

theorem scale_cases (v n d : Int) : Xa.scale v n d = (0, 0, false) ∨ ∃ q r, Xa.scale v n d = (q, r, true) ∧ 0 ≤ v ∧ 0 ≤ n ∧ v * n = q * d + r ∧ 0 ≤ q ∧ q ≤ 1125899906842624 ∧ 0 ≤ r ∧ r < d ∧ 1 ≤ d ∧ d ≤ 1125899906842624 := by
  by_cases h : 0 ≤ v ∧ v ≤ 1125899906842624 ∧ 0 ≤ n ∧ n ≤ 1125899906842624 ∧ 1 ≤ d ∧ d ≤ 1125899906842624 ∧ v * n / d ≤ 1125899906842624
  · right
    obtain ⟨h1, h2, h3, h4, h5, h6, h7⟩ := h
    refine ⟨_, _, Xa.scale_yes ⟨h1, h2, h3, h4, h5, h6, h7⟩, h1, h3, ?_, Int.ediv_nonneg (Int.mul_nonneg h1 h3) (by omega), h7, Int.emod_nonneg _ (by omega), Int.emod_lt_of_pos _ (by omega), h5, h6⟩
    rw [Int.mul_comm (v * n / d) d]
    exact (Int.mul_ediv_add_emod _ _).symm
  · exact .inl (Xa.scale_no h)
/-- what is carried over from the hour before -/
def carry (rem d : Int) : Int := if 0 ≤ rem ∧ rem < d then rem else 0
def routeF (n d v rem : Int) : Int × Int :=
  if (Xa.scale v n d).2.2 = true then
    if (Xa.scale v n d).2.1 + carry rem d < d then ((Xa.scale v n d).1, (Xa.scale v n d).2.1 + carry rem d) else ((Xa.scale v n d).1 + 1, (Xa.scale v n d).2.1 + carry rem d - d)
  else (0, 0)
theorem routeF_no {n d v rem : Int} (h : Xa.scale v n d = (0, 0, false)) : routeF n d v rem = (0, 0) := by unfold routeF; rw [h]; rfl
theorem routeF_yes {n d v rem q r : Int} (h : Xa.scale v n d = (q, r, true)) : routeF n d v rem = if r + carry rem d < d then (q, r + carry rem d) else (q + 1, r + carry rem d - d) := by unfold routeF; rw [h]; rfl
theorem ret_i2 {a b c d : Int} (h1 : a = c) (h2 : b = d) : Ending.returned (.tuple #[.int .i64 a, .int .i64 b]) = .returned (.tuple #[.int .i64 c, .int .i64 d]) := by rw [h1, h2]
def R2Post (x : Int × Int) (w : World) (e : Ending) (w' : World) : Prop := e = .returned (.tuple #[.int .i64 x.1, .int .i64 x.2]) ∧ Below w.heap.size w w'

set_option maxHeartbeats 4000000 in
theorem route_any (a0 a1 a2 a3 a4 a5 a8 a9 a10 a11 : Value) (n d v rem : Int) (w : World) :
    Calls Try.prog 10 #[.agg #[a0, a1, a2, a3, a4, a5, .int .i64 n, .int .i64 d, a8, a9, a10, a11], .int .i64 v, .int .i64 rem] w (R2Post (routeF n d v rem) w) := by
  have CS := Lib.hid (fun W => scale_any v n d W)
  have B0 := Lib.hid (show ∀ (o : Obj) k, Below w.heap.size w ((w.alloc o).drewN k) from fun o k => below_drewN ((Below.refl _ _).alloc (Nat.le_refl _) _) k)
  have B1 := Lib.hid (show ∀ (o : Obj) k j, Below w.heap.size w (((w.alloc o).drewN k).drewN j) from fun o k j => below_drewN (below_drewN ((Below.refl _ _).alloc (Nat.le_refl _) _) k) j)
  rcases scale_cases v n d with hs | ⟨q, r, hs, _, _, _, q1, q2, r1, r2, d1, d2⟩
  · rw [routeF_no hs]
    rw [hs] at CS
    clear hs
    go_enter Try.func10, Try.ntmps10
    go_wp2_with (first | (go_at_call 27; with_reducible refine (CS.out _).mono ?_; rintro e w' ⟨rfl, k, rfl⟩))
    go_ret2
    exact ⟨rfl, B0.out _ _⟩
  · rw [routeF_yes hs]
    rw [hs] at CS
    clear hs
    obtain ⟨m, hm⟩ : ∃ m, carry rem d = m := ⟨_, rfl⟩
    have hm0 : 0 ≤ m ∧ m < d := by unfold carry at hm; split at hm <;> omega
    by_cases c0 : 0 ≤ rem
    case neg =>
      have t0 : decide (0 ≤ rem) = false := decide_eq_false c0
      obtain rfl : (0 : Int) = m := by unfold carry at hm; rw [if_neg (fun h => c0 h.1)] at hm; exact hm
      have t2 : decide (r + 0 < d) = true := decide_eq_true (by omega)
      have t2' : decide (r < d) = true := decide_eq_true (by omega)
      rw [hm, if_pos (by omega)]
      clear hm
      go_enter Try.func10, Try.ntmps10
      go_wp2_with (first | (go_at_call 27; with_reducible refine (CS.out _).mono ?_; rintro e w' ⟨rfl, k, rfl⟩))
      go_ret2
      exact ⟨ret_i2 rfl (by omega), B0.out _ _⟩
    have t0 : decide (0 ≤ rem) = true := decide_eq_true c0
    by_cases c1 : rem < d
    case neg =>
      have t1 : decide (rem < d) = false := decide_eq_false c1
      obtain rfl : (0 : Int) = m := by unfold carry at hm; rw [if_neg (fun h => c1 h.2)] at hm; exact hm
      have t2' : decide (r < d) = true := decide_eq_true (by omega)
      rw [hm, if_pos (by omega)]
      clear hm
      go_enter Try.func10, Try.ntmps10
      go_wp2_with (first | (go_at_call 27; with_reducible refine (CS.out _).mono ?_; rintro e w' ⟨rfl, k, rfl⟩))
      go_ret2
      exact ⟨ret_i2 rfl (by omega), B0.out _ _⟩
    have t1 : decide (rem < d) = true := decide_eq_true c1
    obtain rfl : rem = m := by unfold carry at hm; rw [if_pos ⟨c0, c1⟩] at hm; exact hm
    rw [hm]
    clear hm
    have w0 : IntKind.i64.wrap (r + rem) = r + rem := IntWalk.i64_in _ (by omega)
    by_cases c2 : r + rem < d
    · have t2 : decide (r + rem < d) = true := decide_eq_true c2
      rw [if_pos c2]
      go_enter Try.func10, Try.ntmps10
      go_wp2_with (first | (go_at_call 27; with_reducible refine (CS.out _).mono ?_; rintro e w' ⟨rfl, k, rfl⟩))
      go_ret2
      exact ⟨rfl, B0.out _ _⟩
    · have t2 : decide (r + rem < d) = false := decide_eq_false c2
      have w1 : IntKind.i64.wrap (q + 1) = q + 1 := IntWalk.i64_in _ (by omega)
      have w2 : IntKind.i64.wrap (r + rem - d) = r + rem - d := IntWalk.i64_in _ (by omega)
      rw [if_neg c2]
      go_enter Try.func10, Try.ntmps10
      go_upto_region 9 with (first | (go_at_call 27; with_reducible refine (CS.out _).mono ?_; rintro e w' ⟨rfl, k, rfl⟩))
      go_quiet (fail)
      go_wp2_with fail
      go_ret2
      exact ⟨rfl, B1.out _ _ _⟩

set_option maxHeartbeats 4000000 in
theorem refroute_any (a0 a1 a2 a3 a4 a5 a8 a9 a10 a11 : Value) (n d v rem : Int) (w : World) :
    Calls Try.prog 11 #[.agg #[a0, a1, a2, a3, a4, a5, .int .i64 n, .int .i64 d, a8, a9, a10, a11], .int .i64 v, .int .i64 rem] w (R2Post (routeF n d v rem) w) := by
  have CS := Lib.hid (fun W => refscale_any v n d W)
  have B0 := Lib.hid (show ∀ (o : Obj), Below w.heap.size w (w.alloc o) from fun o => (Below.refl _ _).alloc (Nat.le_refl _) _)
  have B1 := Lib.hid (show ∀ (o : Obj) k, Below w.heap.size w ((w.alloc o).drewN k) from fun o k => below_drewN ((Below.refl _ _).alloc (Nat.le_refl _) _) k)
  rcases scale_cases v n d with hs | ⟨q, r, hs, _, _, _, q1, q2, r1, r2, d1, d2⟩
  · rw [routeF_no hs]
    rw [hs] at CS
    clear hs
    go_enter Try.func11, Try.ntmps11
    go_wp2_with (first | (go_at_call 28; with_reducible refine (CS.out _).mono ?_; rintro e w' ⟨rfl, rfl⟩))
    go_ret2
    exact ⟨rfl, B0.out _⟩
  · rw [routeF_yes hs]
    rw [hs] at CS
    clear hs
    obtain ⟨m, hm⟩ : ∃ m, carry rem d = m := ⟨_, rfl⟩
    have hm0 : 0 ≤ m ∧ m < d := by unfold carry at hm; split at hm <;> omega
    by_cases c0 : rem < 0
    case pos =>
      have t0 : decide (rem < 0) = true := decide_eq_true c0
      obtain rfl : (0 : Int) = m := by unfold carry at hm; rw [if_neg (fun h => by omega)] at hm; exact hm
      have t2' : decide (r < d) = true := decide_eq_true (by omega)
      rw [hm, if_pos (by omega)]
      clear hm
      go_enter Try.func11, Try.ntmps11
      go_wp2_with (first | (go_at_call 28; with_reducible refine (CS.out _).mono ?_; rintro e w' ⟨rfl, rfl⟩))
      go_ret2
      exact ⟨ret_i2 rfl (by omega), B0.out _⟩
    have t0 : decide (rem < 0) = false := decide_eq_false c0
    by_cases c1 : d ≤ rem
    case pos =>
      have t1 : decide (d ≤ rem) = true := decide_eq_true c1
      obtain rfl : (0 : Int) = m := by unfold carry at hm; rw [if_neg (fun h => by omega)] at hm; exact hm
      have t2' : decide (r < d) = true := decide_eq_true (by omega)
      rw [hm, if_pos (by omega)]
      clear hm
      go_enter Try.func11, Try.ntmps11
      go_wp2_with (first | (go_at_call 28; with_reducible refine (CS.out _).mono ?_; rintro e w' ⟨rfl, rfl⟩))
      go_ret2
      exact ⟨ret_i2 rfl (by omega), B0.out _⟩
    have t1 : decide (d ≤ rem) = false := decide_eq_false c1
    obtain rfl : rem = m := by unfold carry at hm; rw [if_pos ⟨by omega, by omega⟩] at hm; exact hm
    rw [hm]
    clear hm
    have w0 : IntKind.i64.wrap (r + rem) = r + rem := IntWalk.i64_in _ (by omega)
    by_cases c2 : r + rem < d
    · have t2 : decide (r + rem < d) = true := decide_eq_true c2
      rw [if_pos c2]
      go_enter Try.func11, Try.ntmps11
      go_wp2_with (first | (go_at_call 28; with_reducible refine (CS.out _).mono ?_; rintro e w' ⟨rfl, rfl⟩))
      go_ret2
      exact ⟨rfl, B0.out _⟩
    · have t2 : decide (r + rem < d) = false := decide_eq_false c2
      have w1 : IntKind.i64.wrap (q + 1) = q + 1 := IntWalk.i64_in _ (by omega)
      have w2 : IntKind.i64.wrap (r + rem - d) = r + rem - d := IntWalk.i64_in _ (by omega)
      rw [if_neg c2]
      go_enter Try.func11, Try.ntmps11
      go_upto_region 9 with (first | (go_at_call 28; with_reducible refine (CS.out _).mono ?_; rintro e w' ⟨rfl, rfl⟩))
      go_quiet (fail)
      go_wp2_with fail
      go_ret2
      exact ⟨rfl, B1.out _ _⟩

end Go.Proofs.Ythbjechgdjcogaa
