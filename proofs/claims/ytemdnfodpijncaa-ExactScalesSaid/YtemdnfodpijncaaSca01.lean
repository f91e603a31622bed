/- ExactScales: the walk. -/
import Derived.Test.YtemdnfodpijncaaSmall01
import Derived.Test.YtemdnfodpijncaaRefS
namespace Go.Proofs.Ytemdnfodpijncaa
open Go.RowKit
set_option linter.unusedVariables false
set_option linter.unusedSimpArgs false

theorem and26 (x : Int) (h0 : 0 ≤ x) (h1 : x ≤ 9223372036854775807) : bits .and .i64 x 67108863 = x % 67108864 := by
  obtain ⟨k, rfl⟩ := Int.eq_ofNat_of_zero_le h0
  have h := i64_and_nat' k 67108863 (by omega) (by omega)
  have e : k &&& 67108863 = k % 67108864 := Nat.and_two_pow_sub_one_eq_mod k 26
  rw [e] at h
  exact h
theorem mulB {x y X Y : Int} (hx : 0 ≤ x) (hX : x ≤ X) (hy : 0 ≤ y) (hY : y ≤ Y) : 0 ≤ x * y ∧ x * y ≤ X * Y :=
  ⟨Int.mul_nonneg hx hy, Int.mul_le_mul hX hY hy (by omega)⟩
/-- the product in its digits -/
structure Dig (x y A1 A0 B1 B0 H P2 P3 L : Int) : Prop where
  a1 : x / 67108864 = A1
  a0 : bits .and .i64 x 67108863 = A0
  b1 : y / 67108864 = B1
  b0 : bits .and .i64 y 67108863 = B0
  h : IntKind.i64.wrap (A1 * B1) = H
  p2 : IntKind.i64.wrap (A1 * B0) = P2
  p3 : IntKind.i64.wrap (A0 * B1) = P3
  l : IntKind.i64.wrap (A0 * B0) = L
  hb : 0 ≤ H ∧ H ≤ 281474976710656
  pb : 0 ≤ P2 ∧ P2 ≤ 1125899906842624
  qb : 0 ≤ P3 ∧ P3 ≤ 1125899906842624
  lb : 0 ≤ L ∧ L ≤ 4503599627370496
  sum : x * y = H * 4503599627370496 + (P2 + P3) * 67108864 + L
theorem dig {x y : Int} (hx : 0 ≤ x) (hX : x ≤ 1125899906842624) (hy : 0 ≤ y) (hY : y ≤ 1125899906842624) : ∃ A1 A0 B1 B0 H P2 P3 L, Dig x y A1 A0 B1 B0 H P2 P3 L := by
  have m1 := mulB (x := x / 67108864) (y := y / 67108864) (X := 16777216) (Y := 16777216) (by omega) (by omega) (by omega) (by omega)
  have m2 := mulB (x := x / 67108864) (y := y % 67108864) (X := 16777216) (Y := 67108864) (by omega) (by omega) (by omega) (by omega)
  have m3 := mulB (x := x % 67108864) (y := y / 67108864) (X := 67108864) (Y := 16777216) (by omega) (by omega) (by omega) (by omega)
  have m4 := mulB (x := x % 67108864) (y := y % 67108864) (X := 67108864) (Y := 67108864) (by omega) (by omega) (by omega) (by omega)
  refine ⟨_, _, _, _, _, _, _, _, rfl, and26 x hx (by omega), rfl, and26 y hy (by omega), IntWalk.i64_in _ (by omega), IntWalk.i64_in _ (by omega), IntWalk.i64_in _ (by omega), IntWalk.i64_in _ (by omega), by omega, by omega, by omega, by omega, ?_⟩
  have e1 : x = 67108864 * (x / 67108864) + x % 67108864 := by omega
  have e2 : y = 67108864 * (y / 67108864) + y % 67108864 := by omega
  generalize x / 67108864 = p at *
  generalize x % 67108864 = q at *
  generalize y / 67108864 = r at *
  generalize y % 67108864 = s at *
  subst e1 e2
  rw [Int.add_mul, Int.mul_add, Int.mul_add]
  have f1 : 67108864 * p * (67108864 * r) = p * r * 4503599627370496 := by rw [Int.mul_assoc, Int.mul_left_comm p, ← Int.mul_assoc, Int.mul_comm]; rfl
  have f2 : 67108864 * p * s = p * s * 67108864 := by rw [Int.mul_assoc, Int.mul_comm]
  have f3 : q * (67108864 * r) = q * r * 67108864 := by rw [Int.mul_left_comm, Int.mul_comm]
  omega
theorem BelW.below2 {w : World} (x : BelW w) : Below w.heap.size w x.w := x.2

set_option maxHeartbeats 16000000 in
set_option maxRecDepth 100000 in
theorem sca_any (a n d : Int) (ha : Fit a) (hb : Fit n) (hc : Fit d) (w : World) :
    Calls Try.prog 4 #[.int .i64 a, .int .i64 n, .int .i64 d] w fun e w' => e = .returned (.bool true) ∧ Below w.heap.size w w' := by
  refine rebase w (fun V hV x0 => ?_)
  subst hV
  have CS := Lib.hid (fun u : BelW V => bel_of (small_any u.w))
  have NO := Lib.hid (fun (h : ¬ (0 ≤ a ∧ a ≤ 1125899906842624 ∧ 0 ≤ n ∧ n ≤ 1125899906842624 ∧ 1 ≤ d ∧ d ≤ 1125899906842624)) => fun u : BelW V => scale_c a n d 0 0 false (Xa.scale_no fun h' => h ⟨h'.1, h'.2.1, h'.2.2.1, h'.2.2.2.1, h'.2.2.2.2.1, h'.2.2.2.2.2.1⟩) u)
  by_cases h1 : a < 0
  · have t1 : decide (a < 0) = true := decide_eq_true h1
    have C1 := Lib.hid (NO.out (fun h => by omega))
    go_enter Try.func4, Try.ntmps4
    go_wp2_with (first | (go_at_call 9; with_reducible refine (CS.out _).mono ?_; rintro e w' ⟨rfl, yy, rfl⟩) | (go_at_call 10; with_reducible refine (C1.out _).mono ?_; rintro e w' ⟨rfl, yy, rfl⟩))
    go_ret
    exact ⟨rfl, BelW.below2 _⟩
  have t1 : decide (a < 0) = false := decide_eq_false h1
  by_cases h2 : 1125899906842624 < a
  · have t2 : decide (1125899906842624 < a) = true := decide_eq_true h2
    have C1 := Lib.hid (NO.out (fun h => by omega))
    go_enter Try.func4, Try.ntmps4
    go_wp2_with (first | (go_at_call 9; with_reducible refine (CS.out _).mono ?_; rintro e w' ⟨rfl, yy, rfl⟩) | (go_at_call 10; with_reducible refine (C1.out _).mono ?_; rintro e w' ⟨rfl, yy, rfl⟩))
    go_ret
    exact ⟨rfl, BelW.below2 _⟩
  have t2 : decide (1125899906842624 < a) = false := decide_eq_false h2
  by_cases h3 : n < 0
  · have t3 : decide (n < 0) = true := decide_eq_true h3
    have C1 := Lib.hid (NO.out (fun h => by omega))
    go_enter Try.func4, Try.ntmps4
    go_wp2_with (first | (go_at_call 9; with_reducible refine (CS.out _).mono ?_; rintro e w' ⟨rfl, yy, rfl⟩) | (go_at_call 10; with_reducible refine (C1.out _).mono ?_; rintro e w' ⟨rfl, yy, rfl⟩))
    go_ret
    exact ⟨rfl, BelW.below2 _⟩
  have t3 : decide (n < 0) = false := decide_eq_false h3
  by_cases h4 : 1125899906842624 < n
  · have t4 : decide (1125899906842624 < n) = true := decide_eq_true h4
    have C1 := Lib.hid (NO.out (fun h => by omega))
    go_enter Try.func4, Try.ntmps4
    go_wp2_with (first | (go_at_call 9; with_reducible refine (CS.out _).mono ?_; rintro e w' ⟨rfl, yy, rfl⟩) | (go_at_call 10; with_reducible refine (C1.out _).mono ?_; rintro e w' ⟨rfl, yy, rfl⟩))
    go_ret
    exact ⟨rfl, BelW.below2 _⟩
  have t4 : decide (1125899906842624 < n) = false := decide_eq_false h4
  by_cases h5 : d < 1
  · have t5 : decide (d < 1) = true := decide_eq_true h5
    have C1 := Lib.hid (NO.out (fun h => by omega))
    go_enter Try.func4, Try.ntmps4
    go_wp2_with (first | (go_at_call 9; with_reducible refine (CS.out _).mono ?_; rintro e w' ⟨rfl, yy, rfl⟩) | (go_at_call 10; with_reducible refine (C1.out _).mono ?_; rintro e w' ⟨rfl, yy, rfl⟩))
    go_ret
    exact ⟨rfl, BelW.below2 _⟩
  have t5 : decide (d < 1) = false := decide_eq_false h5
  by_cases h6 : 1125899906842624 < d
  · have t6 : decide (1125899906842624 < d) = true := decide_eq_true h6
    have C1 := Lib.hid (NO.out (fun h => by omega))
    go_enter Try.func4, Try.ntmps4
    go_wp2_with (first | (go_at_call 9; with_reducible refine (CS.out _).mono ?_; rintro e w' ⟨rfl, yy, rfl⟩) | (go_at_call 10; with_reducible refine (C1.out _).mono ?_; rintro e w' ⟨rfl, yy, rfl⟩))
    go_ret
    exact ⟨rfl, BelW.below2 _⟩
  have t6 : decide (1125899906842624 < d) = false := decide_eq_false h6
  obtain ⟨A1, A0, N1, N0, H, P2, P3, L, D1⟩ := dig (x := a) (y := n) (by omega) (by omega) (by omega) (by omega)
  have DD := Lib.hid D1
  have x1 := D1.a1
  have x2 := D1.a0
  have x3 := D1.b1
  have x4 := D1.b0
  have x5 := D1.h
  have x6 := D1.p2
  have x7 := D1.p3
  have x8 := D1.l
  have pb := D1.pb
  have qb := D1.qb
  obtain ⟨M, hM⟩ : ∃ M, P2 + P3 = M := ⟨_, rfl⟩
  have x9 : IntKind.i64.wrap (P2 + P3) = M := by rw [IntWalk.i64_in _ (by omega)]; exact hM
  have HM := Lib.hid hM
  have hMb : 0 ≤ M ∧ M ≤ 2251799813685248 := by omega
  clear D1 pb qb hM NO
  by_cases hq : a * n / d ≤ 1125899906842624
  case neg =>
    have C1 := Lib.hid (fun u : BelW V => scale_c a n d 0 0 false (Xa.scale_no fun h => hq h.2.2.2.2.2.2) u)
    clear hq hMb
    go_enter Try.func4, Try.ntmps4
    go_wp2_with (first | (go_at_call 9; with_reducible refine (CS.out _).mono ?_; rintro e w' ⟨rfl, yy, rfl⟩) | (go_at_call 10; with_reducible refine (C1.out _).mono ?_; rintro e w' ⟨rfl, yy, rfl⟩))
    go_ret
    exact ⟨rfl, BelW.below2 _⟩
  obtain ⟨q, hqe⟩ : ∃ q, a * n / d = q := ⟨_, rfl⟩
  obtain ⟨r, hre⟩ : ∃ q, a * n % d = q := ⟨_, rfl⟩
  have y0 : Xa.scale a n d = (q, r, true) := by rw [Xa.scale_yes ⟨by omega, by omega, by omega, by omega, by omega, by omega, hq⟩, hqe, hre]
  have y1 : Xa.scale n a d = (q, r, true) := by rw [Xa.scale_yes ⟨by omega, by omega, by omega, by omega, by omega, by omega, by rw [Int.mul_comm]; exact hq⟩, Int.mul_comm n a, hqe, hre]
  have hq0 : 0 ≤ q := by rw [← hqe]; exact Int.ediv_nonneg (Int.mul_nonneg (by omega) (by omega)) (by omega)
  have hr0 : 0 ≤ r := by rw [← hre]; exact Int.emod_nonneg _ (by omega)
  have hr1 : r < d := by rw [← hre]; exact Int.emod_lt_of_pos _ (by omega)
  have hprod : a * n = q * d + r := by rw [← hqe, ← hre, Int.mul_comm (a * n / d)]; exact (Int.mul_ediv_add_emod _ _).symm
  rw [hqe] at hq
  have HQ := Lib.hid hqe
  have C1 := Lib.hid (fun u : BelW V => scale_c a n d q r true y0 u)
  have C2 := Lib.hid (fun u : BelW V => scale_c n a d q r true y1 u)
  clear y0 y1 hqe hre
  obtain ⟨Q1, Q0, E1, E0, O, B2, B3, U, DQ⟩ := dig (x := q) (y := d) hq0 hq (by omega) (by omega)
  have z1 := DQ.a1
  have z2 := DQ.a0
  have z3 := DQ.b1
  have z4 := DQ.b0
  have z5 := DQ.h
  have z6 := DQ.p2
  have z7 := DQ.p3
  have z8 := DQ.l
  have bb := DQ.pb
  have cb := DQ.qb
  have ub := DQ.lb
  have lb := DD.out.lb
  have ob := DQ.hb
  have hb' := DD.out.hb
  have s1 := DQ.sum
  have s2 := DD.out.sum
  rw [HM.out] at s2
  obtain ⟨B, hB⟩ : ∃ M, B2 + B3 = M := ⟨_, rfl⟩
  obtain ⟨W, hW⟩ : ∃ M, U + r = M := ⟨_, rfl⟩
  have z9 : IntKind.i64.wrap (B2 + B3) = B := by rw [IntWalk.i64_in _ (by omega)]; exact hB
  have z10 : IntKind.i64.wrap (U + r) = W := by rw [IntWalk.i64_in _ (by omega)]; exact hW
  rw [hB] at s1
  have key : H * 4503599627370496 + M * 67108864 + L = O * 4503599627370496 + B * 67108864 + W := by omega
  obtain ⟨M', hM'⟩ : ∃ M', M + L / 67108864 = M' := ⟨_, rfl⟩
  obtain ⟨B', hB'⟩ : ∃ M', B + W / 67108864 = M' := ⟨_, rfl⟩
  have v1 : IntKind.i64.wrap (M + L / 67108864) = M' := by rw [IntWalk.i64_in _ (by omega)]; exact hM'
  have v2 : IntKind.i64.wrap (B + W / 67108864) = B' := by rw [IntWalk.i64_in _ (by omega)]; exact hB'
  obtain ⟨g, hg⟩ : ∃ g, L % 67108864 = g := ⟨_, rfl⟩
  obtain ⟨k, hk⟩ : ∃ g, M' % 67108864 = g := ⟨_, rfl⟩
  have v3 : bits .and .i64 L 67108863 = g := by rw [and26 L (by omega) (by omega)]; exact hg
  have v4 : bits .and .i64 W 67108863 = g := by rw [and26 W (by omega) (by omega)]; omega
  have v5 : bits .and .i64 M' 67108863 = k := by rw [and26 M' (by omega) (by omega)]; exact hk
  have v6 : bits .and .i64 B' 67108863 = k := by rw [and26 B' (by omega) (by omega)]; omega
  obtain ⟨T, hT⟩ : ∃ g, H + M' / 67108864 = g := ⟨_, rfl⟩
  have v7 : IntKind.i64.wrap (H + M' / 67108864) = T := by rw [IntWalk.i64_in _ (by omega)]; exact hT
  have v8 : IntKind.i64.wrap (O + B' / 67108864) = T := by rw [IntWalk.i64_in _ (by omega)]; omega
  have u1 : decide (0 ≤ r) = true := decide_eq_true hr0
  have u2 : decide (r < d) = true := decide_eq_true hr1
  have u3 : decide (0 ≤ q) = true := decide_eq_true hq0
  have u4 : decide (q ≤ 1125899906842624) = true := decide_eq_true hq
  have w1 : IntKind.i64.wrap (a + 1) = a + 1 := IntWalk.i64_in _ (by omega)
  obtain ⟨m, hm⟩ : ∃ m, min (a + 1) 1125899906842624 = m := ⟨_, rfl⟩
  have hmb : a ≤ m ∧ m ≤ 1125899906842624 := by omega
  have HMM := Lib.hid hm
  have HX := Lib.hid (show ∃ q2 r2 b2, Xa.scale m n d = (q2, r2, b2) ∧ (b2 = true → q ≤ q2) by
    by_cases h : m * n / d ≤ 1125899906842624
    · refine ⟨_, _, _, Xa.scale_yes ⟨by omega, by omega, by omega, by omega, by omega, by omega, h⟩, fun _ => ?_⟩
      rw [← HQ.out]
      exact Int.ediv_le_ediv (by omega) (Int.mul_le_mul_of_nonneg_right hmb.1 (by omega))
    · exact ⟨_, _, _, Xa.scale_no fun h' => h h'.2.2.2.2.2.2, fun h => by cases h⟩)
  clear DQ bb cb ub lb ob hb' s1 s2 hB hW key hM' hB' hg hk hT hr0 hr1 hq0 hq hprod hMb h1 h2 h3 h4 h5 h6 hmb
  obtain ⟨q2, r2, b2, hx, hx'⟩ := HX.out
  have C3 := Lib.hid (fun u : BelW V => scale_c m n d q2 r2 b2 hx u)
  clear hx
  cases b2
  case false =>
    clear hx'
    go_enter Try.func4, Try.ntmps4
    go_wp2_with (first | (go_at_call 9; with_reducible refine (CS.out _).mono ?_; rintro e w' ⟨rfl, yy, rfl⟩) | (go_at_call 10; with_reducible refine (C1.out _).mono ?_; rintro e w' ⟨rfl, yy, rfl⟩) | (go_at_call 10; with_reducible refine (C2.out _).mono ?_; rintro e w' ⟨rfl, yy, rfl⟩) | (go_at_call 10; with_reducible refine (C3.out _).mono ?_; rintro e w' ⟨rfl, yy, rfl⟩))
    go_ret
    exact ⟨rfl, BelW.below2 _⟩
  case true =>
    have u5 : decide (q ≤ q2) = true := decide_eq_true (hx' rfl)
    clear hx'
    go_enter Try.func4, Try.ntmps4
    go_wp2_with (first | (go_at_call 9; with_reducible refine (CS.out _).mono ?_; rintro e w' ⟨rfl, yy, rfl⟩) | (go_at_call 10; with_reducible refine (C1.out _).mono ?_; rintro e w' ⟨rfl, yy, rfl⟩) | (go_at_call 10; with_reducible refine (C2.out _).mono ?_; rintro e w' ⟨rfl, yy, rfl⟩) | (go_at_call 10; with_reducible refine (C3.out _).mono ?_; rintro e w' ⟨rfl, yy, rfl⟩))
    go_ret
    exact ⟨rfl, BelW.below2 _⟩

end Go.Proofs.Ytemdnfodpijncaa
