/- ExactLimits: the walk. -/
import Derived.Test.YtemdnfodpijncaaSmall01
namespace Go.Proofs.Ytemdnfodpijncaa
open Go.RowKit
set_option linter.unusedVariables false
set_option linter.unusedSimpArgs false

theorem add_cases (a b : Int) : (9223372036854775807 < a + b ∧ Xa.add a b = 9223372036854775807) ∨ (a + b < -9223372036854775808 ∧ Xa.add a b = -9223372036854775808) ∨ (-9223372036854775808 ≤ a + b ∧ a + b ≤ 9223372036854775807 ∧ Xa.add a b = a + b) := by
  unfold Xa.add
  split
  · exact .inl ⟨by omega, rfl⟩
  · split
    · exact .inr (.inl ⟨by omega, rfl⟩)
    · exact .inr (.inr ⟨by omega, by omega, rfl⟩)
theorem sub_cases (a b : Int) : (9223372036854775807 < a - b ∧ Xa.sub a b = 9223372036854775807) ∨ (a - b < -9223372036854775808 ∧ Xa.sub a b = -9223372036854775808) ∨ (-9223372036854775808 ≤ a - b ∧ a - b ≤ 9223372036854775807 ∧ Xa.sub a b = a - b) := by
  unfold Xa.sub
  split
  · exact .inl ⟨by omega, rfl⟩
  · split
    · exact .inr (.inl ⟨by omega, rfl⟩)
    · exact .inr (.inr ⟨by omega, by omega, rfl⟩)
theorem clamp_cases (n lo hi : Int) : (n < lo ∧ Xa.clamp n lo hi = lo) ∨ (lo ≤ n ∧ hi < n ∧ Xa.clamp n lo hi = hi) ∨ (lo ≤ n ∧ n ≤ hi ∧ Xa.clamp n lo hi = n) := by
  unfold Xa.clamp
  split
  · exact .inl ⟨by omega, rfl⟩
  · split
    · exact .inr (.inl ⟨by omega, by omega, rfl⟩)
    · exact .inr (.inr ⟨by omega, by omega, rfl⟩)
theorem BelW.below1 {w : World} (x : BelW w) : Below w.heap.size w x.w := x.2

set_option maxHeartbeats 16000000 in
set_option maxRecDepth 100000 in
theorem lim_any (a b c : Int) (ha : Fit a) (hb : Fit b) (hc : Fit c) (w : World) :
    Calls Try.prog 8 #[.int .i64 a, .int .i64 b, .int .i64 c] w fun e w' => e = .returned (.bool true) ∧ Below w.heap.size w w' := by
  refine rebase w (fun V hV x0 => ?_)
  subst hV
  have CS := Lib.hid (fun u : BelW V => bel_of (small_any u.w))
  have FA := Lib.hid ha
  have FB := Lib.hid hb
  have FC := Lib.hid hc
  unfold Fit at ha hb hc
  have f0 : Fit 0 := by unfold Fit; omega
  have ks := add_cases a b
  have ks' := add_cases b a
  have kd := sub_cases a b
  have kp := add_cases c b
  have ke := sub_cases c b
  have kx := clamp_cases c a b
  have k3 := add_cases a 0
  have k4 := sub_cases a 0
  have k5 := sub_cases a a
  have C3 := Lib.hid (fun u : BelW V => add_c a 0 a FA.out f0 (by omega) u)
  have C4 := Lib.hid (fun u : BelW V => sub_c a 0 a FA.out f0 (by omega) u)
  have C5 := Lib.hid (fun u : BelW V => sub_c a a 0 FA.out FA.out (by omega) u)
  obtain ⟨s, hs⟩ : ∃ s, Xa.add a b = s := ⟨_, rfl⟩
  obtain ⟨d, hd⟩ : ∃ s, Xa.sub a b = s := ⟨_, rfl⟩
  obtain ⟨p, hp⟩ : ∃ s, Xa.add c b = s := ⟨_, rfl⟩
  obtain ⟨q, hq⟩ : ∃ s, Xa.sub c b = s := ⟨_, rfl⟩
  obtain ⟨x, hx⟩ : ∃ s, Xa.clamp c a b = s := ⟨_, rfl⟩
  have C1 := Lib.hid (fun u : BelW V => add_c a b s FA.out FB.out hs u)
  have C2 := Lib.hid (fun u : BelW V => add_c b a s FB.out FA.out (by omega) u)
  have C6 := Lib.hid (fun u : BelW V => sub_c a b d FA.out FB.out hd u)
  have C7 := Lib.hid (fun u : BelW V => add_c c b p FC.out FB.out hp u)
  have C8 := Lib.hid (fun u : BelW V => sub_c c b q FC.out FB.out hq u)
  have C9 := Lib.hid (fun u : BelW V => clamp_c c a b x hx u)
  rw [hs] at ks
  rw [hd] at kd
  rw [hp] at kp
  rw [hq] at ke
  rw [hx] at kx
  clear hs hd hp hq hx k3 k4 k5 ks'
  have A1 := Lib.hid (show (b < 0 ∧ s ≤ a ∧ a ≤ d) ∨ (b = 0 ∧ s = a ∧ d = a) ∨ (0 < b ∧ a ≤ s ∧ d ≤ a) by omega)
  have A2 := Lib.hid (show s = 9223372036854775807 ∨ (s ≠ 9223372036854775807 ∧ s = -9223372036854775808) ∨ (s ≠ 9223372036854775807 ∧ s ≠ -9223372036854775808 ∧ s = a + b ∧ -9223372036854775808 ≤ s ∧ s ≤ 9223372036854775807) by omega)
  have A3 := Lib.hid (show c < a ∨ (a ≤ c ∧ s ≤ p ∧ d ≤ q) by omega)
  have A4 := Lib.hid (show b < a ∨ (a ≤ b ∧ c < a ∧ x = a) ∨ (a ≤ b ∧ a ≤ c ∧ b < c ∧ x = b) ∨ (a ≤ b ∧ a ≤ c ∧ c ≤ b ∧ x = c) by omega)
  clear ks kd kp ke kx
  go_enter Try.func8, Try.ntmps8
  go_upto_region 5 with (first | (go_at_call 9; with_reducible refine (CS.out _).mono ?_; rintro e w' ⟨rfl, yy, rfl⟩) | (go_at_call 19; with_reducible refine (C1.out _).mono ?_; rintro e w' ⟨rfl, yy, rfl⟩) | (go_at_call 19; with_reducible refine (C2.out _).mono ?_; rintro e w' ⟨rfl, yy, rfl⟩) | (go_at_call 19; with_reducible refine (C3.out _).mono ?_; rintro e w' ⟨rfl, yy, rfl⟩) | (go_at_call 21; with_reducible refine (C4.out _).mono ?_; rintro e w' ⟨rfl, yy, rfl⟩) | (go_at_call 21; with_reducible refine (C5.out _).mono ?_; rintro e w' ⟨rfl, yy, rfl⟩) | (go_at_call 21; with_reducible refine (C6.out _).mono ?_; rintro e w' ⟨rfl, yy, rfl⟩))
  rcases A1.out with ⟨h1, h2, h3⟩ | ⟨h1, h2, h3⟩ | ⟨h1, h2, h3⟩
  · have u1 : decide (b < 0) = true := decide_eq_true (by omega)
    have u2 : decide (0 < b) = false := decide_eq_false (by omega)
    have u3 : decide (s ≤ a) = true := decide_eq_true (by omega)
    have u4 : decide (a ≤ d) = true := decide_eq_true (by omega)
    clear h1 h2 h3
    go_upto_region 6 with fail
    rcases A2.out with h | ⟨h', h⟩ | ⟨h', h''⟩
    · subst h
      go_upto_region 7 with fail
      rcases A3.out with h | ⟨h, h', h''⟩
      · have q1 : decide (c < a) = true := decide_eq_true (by omega)
        clear h
        go_upto_region 9 with (first | (go_at_call 17; with_reducible refine (C9.out _).mono ?_; rintro e w' ⟨rfl, yy, rfl⟩))
        rcases A4.out with h | ⟨h, h', h''⟩ | ⟨h, h', h'', h3⟩ | ⟨h, h', h'', h3⟩
        · have r1 : decide (b < a) = true := decide_eq_true (by omega)
          go_wp2_with (first | (go_at_call 17; with_reducible refine (C9.out _).mono ?_; rintro e w' ⟨rfl, yy, rfl⟩))
          go_ret
          exact ⟨rfl, BelW.below1 _⟩
        · have r1 : decide (b < a) = false := decide_eq_false (by omega)
          have r2 : decide (a ≤ x) = true := decide_eq_true (by omega)
          have r3 : decide (x ≤ b) = true := decide_eq_true (by omega)
          have r5 : decide (c < a) = true := decide_eq_true (by omega)
          have C10 := Lib.hid (fun u : BelW V => clamp_c x a b x (by have := clamp_cases x a b; omega) u)
          clear h h' h''
          go_wp2_with (first | (go_at_call 17; with_reducible refine (C9.out _).mono ?_; rintro e w' ⟨rfl, yy, rfl⟩) | (go_at_call 17; with_reducible refine (C10.out _).mono ?_; rintro e w' ⟨rfl, yy, rfl⟩))
          go_ret
          exact ⟨rfl, BelW.below1 _⟩
        · exfalso
          have := of_decide_eq_true q1
          omega
        · exfalso
          have := of_decide_eq_true q1
          omega
      · have q1 : decide (c < a) = false := decide_eq_false (by omega)
        have q2 : decide ((9223372036854775807 : Int) ≤ p) = true := decide_eq_true (by omega)
        have q3 : decide (d ≤ q) = true := decide_eq_true (by omega)
        clear h h' h''
        go_upto_region 9 with (first | (go_at_call 19; with_reducible refine (C1.out _).mono ?_; rintro e w' ⟨rfl, yy, rfl⟩) | (go_at_call 19; with_reducible refine (C7.out _).mono ?_; rintro e w' ⟨rfl, yy, rfl⟩) | (go_at_call 21; with_reducible refine (C6.out _).mono ?_; rintro e w' ⟨rfl, yy, rfl⟩) | (go_at_call 21; with_reducible refine (C8.out _).mono ?_; rintro e w' ⟨rfl, yy, rfl⟩) | (go_at_call 17; with_reducible refine (C9.out _).mono ?_; rintro e w' ⟨rfl, yy, rfl⟩))
        rcases A4.out with h | ⟨h, h', h''⟩ | ⟨h, h', h'', h3⟩ | ⟨h, h', h'', h3⟩
        · have r1 : decide (b < a) = true := decide_eq_true (by omega)
          go_wp2_with (first | (go_at_call 17; with_reducible refine (C9.out _).mono ?_; rintro e w' ⟨rfl, yy, rfl⟩))
          go_ret
          exact ⟨rfl, BelW.below1 _⟩
        · exfalso
          have := of_decide_eq_false q1
          omega
        · have r1 : decide (b < a) = false := decide_eq_false (by omega)
          have r2 : decide (a ≤ x) = true := decide_eq_true (by omega)
          have r3 : decide (x ≤ b) = true := decide_eq_true (by omega)
          have r5 : decide (c < a) = false := decide_eq_false (by omega)
          have r6 : decide (b < c) = true := decide_eq_true (by omega)
          have C10 := Lib.hid (fun u : BelW V => clamp_c x a b x (by have := clamp_cases x a b; omega) u)
          clear h h' h'' h3
          go_wp2_with (first | (go_at_call 17; with_reducible refine (C9.out _).mono ?_; rintro e w' ⟨rfl, yy, rfl⟩) | (go_at_call 17; with_reducible refine (C10.out _).mono ?_; rintro e w' ⟨rfl, yy, rfl⟩))
          go_ret
          exact ⟨rfl, BelW.below1 _⟩
        · obtain rfl : x = c := h3
          have r1 : decide (b < a) = false := decide_eq_false (by omega)
          have r2 : decide (a ≤ x) = true := decide_eq_true (by omega)
          have r3 : decide (x ≤ b) = true := decide_eq_true (by omega)
          have r5 : decide (x < a) = false := decide_eq_false (by omega)
          have r6 : decide (b < x) = false := decide_eq_false (by omega)
          skip
          clear h h' h''
          go_wp2_with (first | (go_at_call 17; with_reducible refine (C9.out _).mono ?_; rintro e w' ⟨rfl, yy, rfl⟩))
          go_ret
          exact ⟨rfl, BelW.below1 _⟩
    · subst h
      clear h'
      go_upto_region 7 with fail
      rcases A3.out with h | ⟨h, h', h''⟩
      · have q1 : decide (c < a) = true := decide_eq_true (by omega)
        clear h
        go_upto_region 9 with (first | (go_at_call 17; with_reducible refine (C9.out _).mono ?_; rintro e w' ⟨rfl, yy, rfl⟩))
        rcases A4.out with h | ⟨h, h', h''⟩ | ⟨h, h', h'', h3⟩ | ⟨h, h', h'', h3⟩
        · have r1 : decide (b < a) = true := decide_eq_true (by omega)
          go_wp2_with (first | (go_at_call 17; with_reducible refine (C9.out _).mono ?_; rintro e w' ⟨rfl, yy, rfl⟩))
          go_ret
          exact ⟨rfl, BelW.below1 _⟩
        · have r1 : decide (b < a) = false := decide_eq_false (by omega)
          have r2 : decide (a ≤ x) = true := decide_eq_true (by omega)
          have r3 : decide (x ≤ b) = true := decide_eq_true (by omega)
          have r5 : decide (c < a) = true := decide_eq_true (by omega)
          have C10 := Lib.hid (fun u : BelW V => clamp_c x a b x (by have := clamp_cases x a b; omega) u)
          clear h h' h''
          go_wp2_with (first | (go_at_call 17; with_reducible refine (C9.out _).mono ?_; rintro e w' ⟨rfl, yy, rfl⟩) | (go_at_call 17; with_reducible refine (C10.out _).mono ?_; rintro e w' ⟨rfl, yy, rfl⟩))
          go_ret
          exact ⟨rfl, BelW.below1 _⟩
        · exfalso
          have := of_decide_eq_true q1
          omega
        · exfalso
          have := of_decide_eq_true q1
          omega
      · have q1 : decide (c < a) = false := decide_eq_false (by omega)
        have q2 : decide ((-9223372036854775808 : Int) ≤ p) = true := decide_eq_true (by omega)
        have q3 : decide (d ≤ q) = true := decide_eq_true (by omega)
        clear h h' h''
        go_upto_region 9 with (first | (go_at_call 19; with_reducible refine (C1.out _).mono ?_; rintro e w' ⟨rfl, yy, rfl⟩) | (go_at_call 19; with_reducible refine (C7.out _).mono ?_; rintro e w' ⟨rfl, yy, rfl⟩) | (go_at_call 21; with_reducible refine (C6.out _).mono ?_; rintro e w' ⟨rfl, yy, rfl⟩) | (go_at_call 21; with_reducible refine (C8.out _).mono ?_; rintro e w' ⟨rfl, yy, rfl⟩) | (go_at_call 17; with_reducible refine (C9.out _).mono ?_; rintro e w' ⟨rfl, yy, rfl⟩))
        rcases A4.out with h | ⟨h, h', h''⟩ | ⟨h, h', h'', h3⟩ | ⟨h, h', h'', h3⟩
        · have r1 : decide (b < a) = true := decide_eq_true (by omega)
          go_wp2_with (first | (go_at_call 17; with_reducible refine (C9.out _).mono ?_; rintro e w' ⟨rfl, yy, rfl⟩))
          go_ret
          exact ⟨rfl, BelW.below1 _⟩
        · exfalso
          have := of_decide_eq_false q1
          omega
        · have r1 : decide (b < a) = false := decide_eq_false (by omega)
          have r2 : decide (a ≤ x) = true := decide_eq_true (by omega)
          have r3 : decide (x ≤ b) = true := decide_eq_true (by omega)
          have r5 : decide (c < a) = false := decide_eq_false (by omega)
          have r6 : decide (b < c) = true := decide_eq_true (by omega)
          have C10 := Lib.hid (fun u : BelW V => clamp_c x a b x (by have := clamp_cases x a b; omega) u)
          clear h h' h'' h3
          go_wp2_with (first | (go_at_call 17; with_reducible refine (C9.out _).mono ?_; rintro e w' ⟨rfl, yy, rfl⟩) | (go_at_call 17; with_reducible refine (C10.out _).mono ?_; rintro e w' ⟨rfl, yy, rfl⟩))
          go_ret
          exact ⟨rfl, BelW.below1 _⟩
        · obtain rfl : x = c := h3
          have r1 : decide (b < a) = false := decide_eq_false (by omega)
          have r2 : decide (a ≤ x) = true := decide_eq_true (by omega)
          have r3 : decide (x ≤ b) = true := decide_eq_true (by omega)
          have r5 : decide (x < a) = false := decide_eq_false (by omega)
          have r6 : decide (b < x) = false := decide_eq_false (by omega)
          skip
          clear h h' h''
          go_wp2_with (first | (go_at_call 17; with_reducible refine (C9.out _).mono ?_; rintro e w' ⟨rfl, yy, rfl⟩))
          go_ret
          exact ⟨rfl, BelW.below1 _⟩
    · have p1 : decide (s = 9223372036854775807) = false := decide_eq_false (by omega)
      have p2 : decide (s = -9223372036854775808) = false := decide_eq_false (by omega)
      have h := h''.2
      have fs : Fit s := by unfold Fit; omega
      have D1 := Lib.hid (fun u : BelW V => sub_c s b a fs FB.out (by have := FA.out; unfold Fit at this; have := sub_cases s b; omega) u)
      have D2 := Lib.hid (fun u : BelW V => sub_c s a b fs FA.out (by have := FB.out; unfold Fit at this; have := sub_cases s a; omega) u)
      have p3 : (s == 9223372036854775807) = false := by simp; exact h'
      have p4 : (s == -9223372036854775808) = false := by simp; exact h''.1
      clear h h' h'' fs
      go_upto_region 7 with (first | (go_at_call 21; with_reducible refine (D1.out _).mono ?_; rintro e w' ⟨rfl, yy, rfl⟩) | (go_at_call 21; with_reducible refine (D2.out _).mono ?_; rintro e w' ⟨rfl, yy, rfl⟩))
      rcases A3.out with h | ⟨h, h', h''⟩
      · have q1 : decide (c < a) = true := decide_eq_true (by omega)
        clear h
        go_upto_region 9 with (first | (go_at_call 17; with_reducible refine (C9.out _).mono ?_; rintro e w' ⟨rfl, yy, rfl⟩))
        rcases A4.out with h | ⟨h, h', h''⟩ | ⟨h, h', h'', h3⟩ | ⟨h, h', h'', h3⟩
        · have r1 : decide (b < a) = true := decide_eq_true (by omega)
          go_wp2_with (first | (go_at_call 17; with_reducible refine (C9.out _).mono ?_; rintro e w' ⟨rfl, yy, rfl⟩))
          go_ret
          exact ⟨rfl, BelW.below1 _⟩
        · have r1 : decide (b < a) = false := decide_eq_false (by omega)
          have r2 : decide (a ≤ x) = true := decide_eq_true (by omega)
          have r3 : decide (x ≤ b) = true := decide_eq_true (by omega)
          have r5 : decide (c < a) = true := decide_eq_true (by omega)
          have C10 := Lib.hid (fun u : BelW V => clamp_c x a b x (by have := clamp_cases x a b; omega) u)
          clear h h' h''
          go_wp2_with (first | (go_at_call 17; with_reducible refine (C9.out _).mono ?_; rintro e w' ⟨rfl, yy, rfl⟩) | (go_at_call 17; with_reducible refine (C10.out _).mono ?_; rintro e w' ⟨rfl, yy, rfl⟩))
          go_ret
          exact ⟨rfl, BelW.below1 _⟩
        · exfalso
          have := of_decide_eq_true q1
          omega
        · exfalso
          have := of_decide_eq_true q1
          omega
      · have q1 : decide (c < a) = false := decide_eq_false (by omega)
        have q2 : decide (s ≤ p) = true := decide_eq_true (by omega)
        have q3 : decide (d ≤ q) = true := decide_eq_true (by omega)
        clear h h' h''
        go_upto_region 9 with (first | (go_at_call 19; with_reducible refine (C1.out _).mono ?_; rintro e w' ⟨rfl, yy, rfl⟩) | (go_at_call 19; with_reducible refine (C7.out _).mono ?_; rintro e w' ⟨rfl, yy, rfl⟩) | (go_at_call 21; with_reducible refine (C6.out _).mono ?_; rintro e w' ⟨rfl, yy, rfl⟩) | (go_at_call 21; with_reducible refine (C8.out _).mono ?_; rintro e w' ⟨rfl, yy, rfl⟩) | (go_at_call 17; with_reducible refine (C9.out _).mono ?_; rintro e w' ⟨rfl, yy, rfl⟩))
        rcases A4.out with h | ⟨h, h', h''⟩ | ⟨h, h', h'', h3⟩ | ⟨h, h', h'', h3⟩
        · have r1 : decide (b < a) = true := decide_eq_true (by omega)
          go_wp2_with (first | (go_at_call 17; with_reducible refine (C9.out _).mono ?_; rintro e w' ⟨rfl, yy, rfl⟩))
          go_ret
          exact ⟨rfl, BelW.below1 _⟩
        · exfalso
          have := of_decide_eq_false q1
          omega
        · have r1 : decide (b < a) = false := decide_eq_false (by omega)
          have r2 : decide (a ≤ x) = true := decide_eq_true (by omega)
          have r3 : decide (x ≤ b) = true := decide_eq_true (by omega)
          have r5 : decide (c < a) = false := decide_eq_false (by omega)
          have r6 : decide (b < c) = true := decide_eq_true (by omega)
          have C10 := Lib.hid (fun u : BelW V => clamp_c x a b x (by have := clamp_cases x a b; omega) u)
          clear h h' h'' h3
          go_wp2_with (first | (go_at_call 17; with_reducible refine (C9.out _).mono ?_; rintro e w' ⟨rfl, yy, rfl⟩) | (go_at_call 17; with_reducible refine (C10.out _).mono ?_; rintro e w' ⟨rfl, yy, rfl⟩))
          go_ret
          exact ⟨rfl, BelW.below1 _⟩
        · obtain rfl : x = c := h3
          have r1 : decide (b < a) = false := decide_eq_false (by omega)
          have r2 : decide (a ≤ x) = true := decide_eq_true (by omega)
          have r3 : decide (x ≤ b) = true := decide_eq_true (by omega)
          have r5 : decide (x < a) = false := decide_eq_false (by omega)
          have r6 : decide (b < x) = false := decide_eq_false (by omega)
          skip
          clear h h' h''
          go_wp2_with (first | (go_at_call 17; with_reducible refine (C9.out _).mono ?_; rintro e w' ⟨rfl, yy, rfl⟩))
          go_ret
          exact ⟨rfl, BelW.below1 _⟩
  · have u1 : decide (b < 0) = false := decide_eq_false (by omega)
    have u2 : decide (0 < b) = false := decide_eq_false (by omega)
    have u3 : decide (a ≤ s) = true := decide_eq_true (by omega)
    have u4 : decide (s ≤ a) = true := decide_eq_true (by omega)
    have u5 : decide (d ≤ a) = true := decide_eq_true (by omega)
    have u6 : decide (a ≤ d) = true := decide_eq_true (by omega)
    clear h1 h2 h3
    go_upto_region 6 with fail
    rcases A2.out with h | ⟨h', h⟩ | ⟨h', h''⟩
    · subst h
      go_upto_region 7 with fail
      rcases A3.out with h | ⟨h, h', h''⟩
      · have q1 : decide (c < a) = true := decide_eq_true (by omega)
        clear h
        go_upto_region 9 with (first | (go_at_call 17; with_reducible refine (C9.out _).mono ?_; rintro e w' ⟨rfl, yy, rfl⟩))
        rcases A4.out with h | ⟨h, h', h''⟩ | ⟨h, h', h'', h3⟩ | ⟨h, h', h'', h3⟩
        · have r1 : decide (b < a) = true := decide_eq_true (by omega)
          go_wp2_with (first | (go_at_call 17; with_reducible refine (C9.out _).mono ?_; rintro e w' ⟨rfl, yy, rfl⟩))
          go_ret
          exact ⟨rfl, BelW.below1 _⟩
        · have r1 : decide (b < a) = false := decide_eq_false (by omega)
          have r2 : decide (a ≤ x) = true := decide_eq_true (by omega)
          have r3 : decide (x ≤ b) = true := decide_eq_true (by omega)
          have r5 : decide (c < a) = true := decide_eq_true (by omega)
          have C10 := Lib.hid (fun u : BelW V => clamp_c x a b x (by have := clamp_cases x a b; omega) u)
          clear h h' h''
          go_wp2_with (first | (go_at_call 17; with_reducible refine (C9.out _).mono ?_; rintro e w' ⟨rfl, yy, rfl⟩) | (go_at_call 17; with_reducible refine (C10.out _).mono ?_; rintro e w' ⟨rfl, yy, rfl⟩))
          go_ret
          exact ⟨rfl, BelW.below1 _⟩
        · exfalso
          have := of_decide_eq_true q1
          omega
        · exfalso
          have := of_decide_eq_true q1
          omega
      · have q1 : decide (c < a) = false := decide_eq_false (by omega)
        have q2 : decide ((9223372036854775807 : Int) ≤ p) = true := decide_eq_true (by omega)
        have q3 : decide (d ≤ q) = true := decide_eq_true (by omega)
        clear h h' h''
        go_upto_region 9 with (first | (go_at_call 19; with_reducible refine (C1.out _).mono ?_; rintro e w' ⟨rfl, yy, rfl⟩) | (go_at_call 19; with_reducible refine (C7.out _).mono ?_; rintro e w' ⟨rfl, yy, rfl⟩) | (go_at_call 21; with_reducible refine (C6.out _).mono ?_; rintro e w' ⟨rfl, yy, rfl⟩) | (go_at_call 21; with_reducible refine (C8.out _).mono ?_; rintro e w' ⟨rfl, yy, rfl⟩) | (go_at_call 17; with_reducible refine (C9.out _).mono ?_; rintro e w' ⟨rfl, yy, rfl⟩))
        rcases A4.out with h | ⟨h, h', h''⟩ | ⟨h, h', h'', h3⟩ | ⟨h, h', h'', h3⟩
        · have r1 : decide (b < a) = true := decide_eq_true (by omega)
          go_wp2_with (first | (go_at_call 17; with_reducible refine (C9.out _).mono ?_; rintro e w' ⟨rfl, yy, rfl⟩))
          go_ret
          exact ⟨rfl, BelW.below1 _⟩
        · exfalso
          have := of_decide_eq_false q1
          omega
        · have r1 : decide (b < a) = false := decide_eq_false (by omega)
          have r2 : decide (a ≤ x) = true := decide_eq_true (by omega)
          have r3 : decide (x ≤ b) = true := decide_eq_true (by omega)
          have r5 : decide (c < a) = false := decide_eq_false (by omega)
          have r6 : decide (b < c) = true := decide_eq_true (by omega)
          have C10 := Lib.hid (fun u : BelW V => clamp_c x a b x (by have := clamp_cases x a b; omega) u)
          clear h h' h'' h3
          go_wp2_with (first | (go_at_call 17; with_reducible refine (C9.out _).mono ?_; rintro e w' ⟨rfl, yy, rfl⟩) | (go_at_call 17; with_reducible refine (C10.out _).mono ?_; rintro e w' ⟨rfl, yy, rfl⟩))
          go_ret
          exact ⟨rfl, BelW.below1 _⟩
        · obtain rfl : x = c := h3
          have r1 : decide (b < a) = false := decide_eq_false (by omega)
          have r2 : decide (a ≤ x) = true := decide_eq_true (by omega)
          have r3 : decide (x ≤ b) = true := decide_eq_true (by omega)
          have r5 : decide (x < a) = false := decide_eq_false (by omega)
          have r6 : decide (b < x) = false := decide_eq_false (by omega)
          skip
          clear h h' h''
          go_wp2_with (first | (go_at_call 17; with_reducible refine (C9.out _).mono ?_; rintro e w' ⟨rfl, yy, rfl⟩))
          go_ret
          exact ⟨rfl, BelW.below1 _⟩
    · subst h
      clear h'
      go_upto_region 7 with fail
      rcases A3.out with h | ⟨h, h', h''⟩
      · have q1 : decide (c < a) = true := decide_eq_true (by omega)
        clear h
        go_upto_region 9 with (first | (go_at_call 17; with_reducible refine (C9.out _).mono ?_; rintro e w' ⟨rfl, yy, rfl⟩))
        rcases A4.out with h | ⟨h, h', h''⟩ | ⟨h, h', h'', h3⟩ | ⟨h, h', h'', h3⟩
        · have r1 : decide (b < a) = true := decide_eq_true (by omega)
          go_wp2_with (first | (go_at_call 17; with_reducible refine (C9.out _).mono ?_; rintro e w' ⟨rfl, yy, rfl⟩))
          go_ret
          exact ⟨rfl, BelW.below1 _⟩
        · have r1 : decide (b < a) = false := decide_eq_false (by omega)
          have r2 : decide (a ≤ x) = true := decide_eq_true (by omega)
          have r3 : decide (x ≤ b) = true := decide_eq_true (by omega)
          have r5 : decide (c < a) = true := decide_eq_true (by omega)
          have C10 := Lib.hid (fun u : BelW V => clamp_c x a b x (by have := clamp_cases x a b; omega) u)
          clear h h' h''
          go_wp2_with (first | (go_at_call 17; with_reducible refine (C9.out _).mono ?_; rintro e w' ⟨rfl, yy, rfl⟩) | (go_at_call 17; with_reducible refine (C10.out _).mono ?_; rintro e w' ⟨rfl, yy, rfl⟩))
          go_ret
          exact ⟨rfl, BelW.below1 _⟩
        · exfalso
          have := of_decide_eq_true q1
          omega
        · exfalso
          have := of_decide_eq_true q1
          omega
      · have q1 : decide (c < a) = false := decide_eq_false (by omega)
        have q2 : decide ((-9223372036854775808 : Int) ≤ p) = true := decide_eq_true (by omega)
        have q3 : decide (d ≤ q) = true := decide_eq_true (by omega)
        clear h h' h''
        go_upto_region 9 with (first | (go_at_call 19; with_reducible refine (C1.out _).mono ?_; rintro e w' ⟨rfl, yy, rfl⟩) | (go_at_call 19; with_reducible refine (C7.out _).mono ?_; rintro e w' ⟨rfl, yy, rfl⟩) | (go_at_call 21; with_reducible refine (C6.out _).mono ?_; rintro e w' ⟨rfl, yy, rfl⟩) | (go_at_call 21; with_reducible refine (C8.out _).mono ?_; rintro e w' ⟨rfl, yy, rfl⟩) | (go_at_call 17; with_reducible refine (C9.out _).mono ?_; rintro e w' ⟨rfl, yy, rfl⟩))
        rcases A4.out with h | ⟨h, h', h''⟩ | ⟨h, h', h'', h3⟩ | ⟨h, h', h'', h3⟩
        · have r1 : decide (b < a) = true := decide_eq_true (by omega)
          go_wp2_with (first | (go_at_call 17; with_reducible refine (C9.out _).mono ?_; rintro e w' ⟨rfl, yy, rfl⟩))
          go_ret
          exact ⟨rfl, BelW.below1 _⟩
        · exfalso
          have := of_decide_eq_false q1
          omega
        · have r1 : decide (b < a) = false := decide_eq_false (by omega)
          have r2 : decide (a ≤ x) = true := decide_eq_true (by omega)
          have r3 : decide (x ≤ b) = true := decide_eq_true (by omega)
          have r5 : decide (c < a) = false := decide_eq_false (by omega)
          have r6 : decide (b < c) = true := decide_eq_true (by omega)
          have C10 := Lib.hid (fun u : BelW V => clamp_c x a b x (by have := clamp_cases x a b; omega) u)
          clear h h' h'' h3
          go_wp2_with (first | (go_at_call 17; with_reducible refine (C9.out _).mono ?_; rintro e w' ⟨rfl, yy, rfl⟩) | (go_at_call 17; with_reducible refine (C10.out _).mono ?_; rintro e w' ⟨rfl, yy, rfl⟩))
          go_ret
          exact ⟨rfl, BelW.below1 _⟩
        · obtain rfl : x = c := h3
          have r1 : decide (b < a) = false := decide_eq_false (by omega)
          have r2 : decide (a ≤ x) = true := decide_eq_true (by omega)
          have r3 : decide (x ≤ b) = true := decide_eq_true (by omega)
          have r5 : decide (x < a) = false := decide_eq_false (by omega)
          have r6 : decide (b < x) = false := decide_eq_false (by omega)
          skip
          clear h h' h''
          go_wp2_with (first | (go_at_call 17; with_reducible refine (C9.out _).mono ?_; rintro e w' ⟨rfl, yy, rfl⟩))
          go_ret
          exact ⟨rfl, BelW.below1 _⟩
    · have p1 : decide (s = 9223372036854775807) = false := decide_eq_false (by omega)
      have p2 : decide (s = -9223372036854775808) = false := decide_eq_false (by omega)
      have h := h''.2
      have fs : Fit s := by unfold Fit; omega
      have D1 := Lib.hid (fun u : BelW V => sub_c s b a fs FB.out (by have := FA.out; unfold Fit at this; have := sub_cases s b; omega) u)
      have D2 := Lib.hid (fun u : BelW V => sub_c s a b fs FA.out (by have := FB.out; unfold Fit at this; have := sub_cases s a; omega) u)
      have p3 : (s == 9223372036854775807) = false := by simp; exact h'
      have p4 : (s == -9223372036854775808) = false := by simp; exact h''.1
      clear h h' h'' fs
      go_upto_region 7 with (first | (go_at_call 21; with_reducible refine (D1.out _).mono ?_; rintro e w' ⟨rfl, yy, rfl⟩) | (go_at_call 21; with_reducible refine (D2.out _).mono ?_; rintro e w' ⟨rfl, yy, rfl⟩))
      rcases A3.out with h | ⟨h, h', h''⟩
      · have q1 : decide (c < a) = true := decide_eq_true (by omega)
        clear h
        go_upto_region 9 with (first | (go_at_call 17; with_reducible refine (C9.out _).mono ?_; rintro e w' ⟨rfl, yy, rfl⟩))
        rcases A4.out with h | ⟨h, h', h''⟩ | ⟨h, h', h'', h3⟩ | ⟨h, h', h'', h3⟩
        · have r1 : decide (b < a) = true := decide_eq_true (by omega)
          go_wp2_with (first | (go_at_call 17; with_reducible refine (C9.out _).mono ?_; rintro e w' ⟨rfl, yy, rfl⟩))
          go_ret
          exact ⟨rfl, BelW.below1 _⟩
        · have r1 : decide (b < a) = false := decide_eq_false (by omega)
          have r2 : decide (a ≤ x) = true := decide_eq_true (by omega)
          have r3 : decide (x ≤ b) = true := decide_eq_true (by omega)
          have r5 : decide (c < a) = true := decide_eq_true (by omega)
          have C10 := Lib.hid (fun u : BelW V => clamp_c x a b x (by have := clamp_cases x a b; omega) u)
          clear h h' h''
          go_wp2_with (first | (go_at_call 17; with_reducible refine (C9.out _).mono ?_; rintro e w' ⟨rfl, yy, rfl⟩) | (go_at_call 17; with_reducible refine (C10.out _).mono ?_; rintro e w' ⟨rfl, yy, rfl⟩))
          go_ret
          exact ⟨rfl, BelW.below1 _⟩
        · exfalso
          have := of_decide_eq_true q1
          omega
        · exfalso
          have := of_decide_eq_true q1
          omega
      · have q1 : decide (c < a) = false := decide_eq_false (by omega)
        have q2 : decide (s ≤ p) = true := decide_eq_true (by omega)
        have q3 : decide (d ≤ q) = true := decide_eq_true (by omega)
        clear h h' h''
        go_upto_region 9 with (first | (go_at_call 19; with_reducible refine (C1.out _).mono ?_; rintro e w' ⟨rfl, yy, rfl⟩) | (go_at_call 19; with_reducible refine (C7.out _).mono ?_; rintro e w' ⟨rfl, yy, rfl⟩) | (go_at_call 21; with_reducible refine (C6.out _).mono ?_; rintro e w' ⟨rfl, yy, rfl⟩) | (go_at_call 21; with_reducible refine (C8.out _).mono ?_; rintro e w' ⟨rfl, yy, rfl⟩) | (go_at_call 17; with_reducible refine (C9.out _).mono ?_; rintro e w' ⟨rfl, yy, rfl⟩))
        rcases A4.out with h | ⟨h, h', h''⟩ | ⟨h, h', h'', h3⟩ | ⟨h, h', h'', h3⟩
        · have r1 : decide (b < a) = true := decide_eq_true (by omega)
          go_wp2_with (first | (go_at_call 17; with_reducible refine (C9.out _).mono ?_; rintro e w' ⟨rfl, yy, rfl⟩))
          go_ret
          exact ⟨rfl, BelW.below1 _⟩
        · exfalso
          have := of_decide_eq_false q1
          omega
        · have r1 : decide (b < a) = false := decide_eq_false (by omega)
          have r2 : decide (a ≤ x) = true := decide_eq_true (by omega)
          have r3 : decide (x ≤ b) = true := decide_eq_true (by omega)
          have r5 : decide (c < a) = false := decide_eq_false (by omega)
          have r6 : decide (b < c) = true := decide_eq_true (by omega)
          have C10 := Lib.hid (fun u : BelW V => clamp_c x a b x (by have := clamp_cases x a b; omega) u)
          clear h h' h'' h3
          go_wp2_with (first | (go_at_call 17; with_reducible refine (C9.out _).mono ?_; rintro e w' ⟨rfl, yy, rfl⟩) | (go_at_call 17; with_reducible refine (C10.out _).mono ?_; rintro e w' ⟨rfl, yy, rfl⟩))
          go_ret
          exact ⟨rfl, BelW.below1 _⟩
        · obtain rfl : x = c := h3
          have r1 : decide (b < a) = false := decide_eq_false (by omega)
          have r2 : decide (a ≤ x) = true := decide_eq_true (by omega)
          have r3 : decide (x ≤ b) = true := decide_eq_true (by omega)
          have r5 : decide (x < a) = false := decide_eq_false (by omega)
          have r6 : decide (b < x) = false := decide_eq_false (by omega)
          skip
          clear h h' h''
          go_wp2_with (first | (go_at_call 17; with_reducible refine (C9.out _).mono ?_; rintro e w' ⟨rfl, yy, rfl⟩))
          go_ret
          exact ⟨rfl, BelW.below1 _⟩
  · have u1 : decide (b < 0) = false := decide_eq_false (by omega)
    have u2 : decide (0 < b) = true := decide_eq_true (by omega)
    have u3 : decide (a ≤ s) = true := decide_eq_true (by omega)
    have u4 : decide (d ≤ a) = true := decide_eq_true (by omega)
    clear h1 h2 h3
    go_upto_region 6 with fail
    rcases A2.out with h | ⟨h', h⟩ | ⟨h', h''⟩
    · subst h
      go_upto_region 7 with fail
      rcases A3.out with h | ⟨h, h', h''⟩
      · have q1 : decide (c < a) = true := decide_eq_true (by omega)
        clear h
        go_upto_region 9 with (first | (go_at_call 17; with_reducible refine (C9.out _).mono ?_; rintro e w' ⟨rfl, yy, rfl⟩))
        rcases A4.out with h | ⟨h, h', h''⟩ | ⟨h, h', h'', h3⟩ | ⟨h, h', h'', h3⟩
        · have r1 : decide (b < a) = true := decide_eq_true (by omega)
          go_wp2_with (first | (go_at_call 17; with_reducible refine (C9.out _).mono ?_; rintro e w' ⟨rfl, yy, rfl⟩))
          go_ret
          exact ⟨rfl, BelW.below1 _⟩
        · have r1 : decide (b < a) = false := decide_eq_false (by omega)
          have r2 : decide (a ≤ x) = true := decide_eq_true (by omega)
          have r3 : decide (x ≤ b) = true := decide_eq_true (by omega)
          have r5 : decide (c < a) = true := decide_eq_true (by omega)
          have C10 := Lib.hid (fun u : BelW V => clamp_c x a b x (by have := clamp_cases x a b; omega) u)
          clear h h' h''
          go_wp2_with (first | (go_at_call 17; with_reducible refine (C9.out _).mono ?_; rintro e w' ⟨rfl, yy, rfl⟩) | (go_at_call 17; with_reducible refine (C10.out _).mono ?_; rintro e w' ⟨rfl, yy, rfl⟩))
          go_ret
          exact ⟨rfl, BelW.below1 _⟩
        · exfalso
          have := of_decide_eq_true q1
          omega
        · exfalso
          have := of_decide_eq_true q1
          omega
      · have q1 : decide (c < a) = false := decide_eq_false (by omega)
        have q2 : decide ((9223372036854775807 : Int) ≤ p) = true := decide_eq_true (by omega)
        have q3 : decide (d ≤ q) = true := decide_eq_true (by omega)
        clear h h' h''
        go_upto_region 9 with (first | (go_at_call 19; with_reducible refine (C1.out _).mono ?_; rintro e w' ⟨rfl, yy, rfl⟩) | (go_at_call 19; with_reducible refine (C7.out _).mono ?_; rintro e w' ⟨rfl, yy, rfl⟩) | (go_at_call 21; with_reducible refine (C6.out _).mono ?_; rintro e w' ⟨rfl, yy, rfl⟩) | (go_at_call 21; with_reducible refine (C8.out _).mono ?_; rintro e w' ⟨rfl, yy, rfl⟩) | (go_at_call 17; with_reducible refine (C9.out _).mono ?_; rintro e w' ⟨rfl, yy, rfl⟩))
        rcases A4.out with h | ⟨h, h', h''⟩ | ⟨h, h', h'', h3⟩ | ⟨h, h', h'', h3⟩
        · have r1 : decide (b < a) = true := decide_eq_true (by omega)
          go_wp2_with (first | (go_at_call 17; with_reducible refine (C9.out _).mono ?_; rintro e w' ⟨rfl, yy, rfl⟩))
          go_ret
          exact ⟨rfl, BelW.below1 _⟩
        · exfalso
          have := of_decide_eq_false q1
          omega
        · have r1 : decide (b < a) = false := decide_eq_false (by omega)
          have r2 : decide (a ≤ x) = true := decide_eq_true (by omega)
          have r3 : decide (x ≤ b) = true := decide_eq_true (by omega)
          have r5 : decide (c < a) = false := decide_eq_false (by omega)
          have r6 : decide (b < c) = true := decide_eq_true (by omega)
          have C10 := Lib.hid (fun u : BelW V => clamp_c x a b x (by have := clamp_cases x a b; omega) u)
          clear h h' h'' h3
          go_wp2_with (first | (go_at_call 17; with_reducible refine (C9.out _).mono ?_; rintro e w' ⟨rfl, yy, rfl⟩) | (go_at_call 17; with_reducible refine (C10.out _).mono ?_; rintro e w' ⟨rfl, yy, rfl⟩))
          go_ret
          exact ⟨rfl, BelW.below1 _⟩
        · obtain rfl : x = c := h3
          have r1 : decide (b < a) = false := decide_eq_false (by omega)
          have r2 : decide (a ≤ x) = true := decide_eq_true (by omega)
          have r3 : decide (x ≤ b) = true := decide_eq_true (by omega)
          have r5 : decide (x < a) = false := decide_eq_false (by omega)
          have r6 : decide (b < x) = false := decide_eq_false (by omega)
          skip
          clear h h' h''
          go_wp2_with (first | (go_at_call 17; with_reducible refine (C9.out _).mono ?_; rintro e w' ⟨rfl, yy, rfl⟩))
          go_ret
          exact ⟨rfl, BelW.below1 _⟩
    · subst h
      clear h'
      go_upto_region 7 with fail
      rcases A3.out with h | ⟨h, h', h''⟩
      · have q1 : decide (c < a) = true := decide_eq_true (by omega)
        clear h
        go_upto_region 9 with (first | (go_at_call 17; with_reducible refine (C9.out _).mono ?_; rintro e w' ⟨rfl, yy, rfl⟩))
        rcases A4.out with h | ⟨h, h', h''⟩ | ⟨h, h', h'', h3⟩ | ⟨h, h', h'', h3⟩
        · have r1 : decide (b < a) = true := decide_eq_true (by omega)
          go_wp2_with (first | (go_at_call 17; with_reducible refine (C9.out _).mono ?_; rintro e w' ⟨rfl, yy, rfl⟩))
          go_ret
          exact ⟨rfl, BelW.below1 _⟩
        · have r1 : decide (b < a) = false := decide_eq_false (by omega)
          have r2 : decide (a ≤ x) = true := decide_eq_true (by omega)
          have r3 : decide (x ≤ b) = true := decide_eq_true (by omega)
          have r5 : decide (c < a) = true := decide_eq_true (by omega)
          have C10 := Lib.hid (fun u : BelW V => clamp_c x a b x (by have := clamp_cases x a b; omega) u)
          clear h h' h''
          go_wp2_with (first | (go_at_call 17; with_reducible refine (C9.out _).mono ?_; rintro e w' ⟨rfl, yy, rfl⟩) | (go_at_call 17; with_reducible refine (C10.out _).mono ?_; rintro e w' ⟨rfl, yy, rfl⟩))
          go_ret
          exact ⟨rfl, BelW.below1 _⟩
        · exfalso
          have := of_decide_eq_true q1
          omega
        · exfalso
          have := of_decide_eq_true q1
          omega
      · have q1 : decide (c < a) = false := decide_eq_false (by omega)
        have q2 : decide ((-9223372036854775808 : Int) ≤ p) = true := decide_eq_true (by omega)
        have q3 : decide (d ≤ q) = true := decide_eq_true (by omega)
        clear h h' h''
        go_upto_region 9 with (first | (go_at_call 19; with_reducible refine (C1.out _).mono ?_; rintro e w' ⟨rfl, yy, rfl⟩) | (go_at_call 19; with_reducible refine (C7.out _).mono ?_; rintro e w' ⟨rfl, yy, rfl⟩) | (go_at_call 21; with_reducible refine (C6.out _).mono ?_; rintro e w' ⟨rfl, yy, rfl⟩) | (go_at_call 21; with_reducible refine (C8.out _).mono ?_; rintro e w' ⟨rfl, yy, rfl⟩) | (go_at_call 17; with_reducible refine (C9.out _).mono ?_; rintro e w' ⟨rfl, yy, rfl⟩))
        rcases A4.out with h | ⟨h, h', h''⟩ | ⟨h, h', h'', h3⟩ | ⟨h, h', h'', h3⟩
        · have r1 : decide (b < a) = true := decide_eq_true (by omega)
          go_wp2_with (first | (go_at_call 17; with_reducible refine (C9.out _).mono ?_; rintro e w' ⟨rfl, yy, rfl⟩))
          go_ret
          exact ⟨rfl, BelW.below1 _⟩
        · exfalso
          have := of_decide_eq_false q1
          omega
        · have r1 : decide (b < a) = false := decide_eq_false (by omega)
          have r2 : decide (a ≤ x) = true := decide_eq_true (by omega)
          have r3 : decide (x ≤ b) = true := decide_eq_true (by omega)
          have r5 : decide (c < a) = false := decide_eq_false (by omega)
          have r6 : decide (b < c) = true := decide_eq_true (by omega)
          have C10 := Lib.hid (fun u : BelW V => clamp_c x a b x (by have := clamp_cases x a b; omega) u)
          clear h h' h'' h3
          go_wp2_with (first | (go_at_call 17; with_reducible refine (C9.out _).mono ?_; rintro e w' ⟨rfl, yy, rfl⟩) | (go_at_call 17; with_reducible refine (C10.out _).mono ?_; rintro e w' ⟨rfl, yy, rfl⟩))
          go_ret
          exact ⟨rfl, BelW.below1 _⟩
        · obtain rfl : x = c := h3
          have r1 : decide (b < a) = false := decide_eq_false (by omega)
          have r2 : decide (a ≤ x) = true := decide_eq_true (by omega)
          have r3 : decide (x ≤ b) = true := decide_eq_true (by omega)
          have r5 : decide (x < a) = false := decide_eq_false (by omega)
          have r6 : decide (b < x) = false := decide_eq_false (by omega)
          skip
          clear h h' h''
          go_wp2_with (first | (go_at_call 17; with_reducible refine (C9.out _).mono ?_; rintro e w' ⟨rfl, yy, rfl⟩))
          go_ret
          exact ⟨rfl, BelW.below1 _⟩
    · have p1 : decide (s = 9223372036854775807) = false := decide_eq_false (by omega)
      have p2 : decide (s = -9223372036854775808) = false := decide_eq_false (by omega)
      have h := h''.2
      have fs : Fit s := by unfold Fit; omega
      have D1 := Lib.hid (fun u : BelW V => sub_c s b a fs FB.out (by have := FA.out; unfold Fit at this; have := sub_cases s b; omega) u)
      have D2 := Lib.hid (fun u : BelW V => sub_c s a b fs FA.out (by have := FB.out; unfold Fit at this; have := sub_cases s a; omega) u)
      have p3 : (s == 9223372036854775807) = false := by simp; exact h'
      have p4 : (s == -9223372036854775808) = false := by simp; exact h''.1
      clear h h' h'' fs
      go_upto_region 7 with (first | (go_at_call 21; with_reducible refine (D1.out _).mono ?_; rintro e w' ⟨rfl, yy, rfl⟩) | (go_at_call 21; with_reducible refine (D2.out _).mono ?_; rintro e w' ⟨rfl, yy, rfl⟩))
      rcases A3.out with h | ⟨h, h', h''⟩
      · have q1 : decide (c < a) = true := decide_eq_true (by omega)
        clear h
        go_upto_region 9 with (first | (go_at_call 17; with_reducible refine (C9.out _).mono ?_; rintro e w' ⟨rfl, yy, rfl⟩))
        rcases A4.out with h | ⟨h, h', h''⟩ | ⟨h, h', h'', h3⟩ | ⟨h, h', h'', h3⟩
        · have r1 : decide (b < a) = true := decide_eq_true (by omega)
          go_wp2_with (first | (go_at_call 17; with_reducible refine (C9.out _).mono ?_; rintro e w' ⟨rfl, yy, rfl⟩))
          go_ret
          exact ⟨rfl, BelW.below1 _⟩
        · have r1 : decide (b < a) = false := decide_eq_false (by omega)
          have r2 : decide (a ≤ x) = true := decide_eq_true (by omega)
          have r3 : decide (x ≤ b) = true := decide_eq_true (by omega)
          have r5 : decide (c < a) = true := decide_eq_true (by omega)
          have C10 := Lib.hid (fun u : BelW V => clamp_c x a b x (by have := clamp_cases x a b; omega) u)
          clear h h' h''
          go_wp2_with (first | (go_at_call 17; with_reducible refine (C9.out _).mono ?_; rintro e w' ⟨rfl, yy, rfl⟩) | (go_at_call 17; with_reducible refine (C10.out _).mono ?_; rintro e w' ⟨rfl, yy, rfl⟩))
          go_ret
          exact ⟨rfl, BelW.below1 _⟩
        · exfalso
          have := of_decide_eq_true q1
          omega
        · exfalso
          have := of_decide_eq_true q1
          omega
      · have q1 : decide (c < a) = false := decide_eq_false (by omega)
        have q2 : decide (s ≤ p) = true := decide_eq_true (by omega)
        have q3 : decide (d ≤ q) = true := decide_eq_true (by omega)
        clear h h' h''
        go_upto_region 9 with (first | (go_at_call 19; with_reducible refine (C1.out _).mono ?_; rintro e w' ⟨rfl, yy, rfl⟩) | (go_at_call 19; with_reducible refine (C7.out _).mono ?_; rintro e w' ⟨rfl, yy, rfl⟩) | (go_at_call 21; with_reducible refine (C6.out _).mono ?_; rintro e w' ⟨rfl, yy, rfl⟩) | (go_at_call 21; with_reducible refine (C8.out _).mono ?_; rintro e w' ⟨rfl, yy, rfl⟩) | (go_at_call 17; with_reducible refine (C9.out _).mono ?_; rintro e w' ⟨rfl, yy, rfl⟩))
        rcases A4.out with h | ⟨h, h', h''⟩ | ⟨h, h', h'', h3⟩ | ⟨h, h', h'', h3⟩
        · have r1 : decide (b < a) = true := decide_eq_true (by omega)
          go_wp2_with (first | (go_at_call 17; with_reducible refine (C9.out _).mono ?_; rintro e w' ⟨rfl, yy, rfl⟩))
          go_ret
          exact ⟨rfl, BelW.below1 _⟩
        · exfalso
          have := of_decide_eq_false q1
          omega
        · have r1 : decide (b < a) = false := decide_eq_false (by omega)
          have r2 : decide (a ≤ x) = true := decide_eq_true (by omega)
          have r3 : decide (x ≤ b) = true := decide_eq_true (by omega)
          have r5 : decide (c < a) = false := decide_eq_false (by omega)
          have r6 : decide (b < c) = true := decide_eq_true (by omega)
          have C10 := Lib.hid (fun u : BelW V => clamp_c x a b x (by have := clamp_cases x a b; omega) u)
          clear h h' h'' h3
          go_wp2_with (first | (go_at_call 17; with_reducible refine (C9.out _).mono ?_; rintro e w' ⟨rfl, yy, rfl⟩) | (go_at_call 17; with_reducible refine (C10.out _).mono ?_; rintro e w' ⟨rfl, yy, rfl⟩))
          go_ret
          exact ⟨rfl, BelW.below1 _⟩
        · obtain rfl : x = c := h3
          have r1 : decide (b < a) = false := decide_eq_false (by omega)
          have r2 : decide (a ≤ x) = true := decide_eq_true (by omega)
          have r3 : decide (x ≤ b) = true := decide_eq_true (by omega)
          have r5 : decide (x < a) = false := decide_eq_false (by omega)
          have r6 : decide (b < x) = false := decide_eq_false (by omega)
          skip
          clear h h' h''
          go_wp2_with (first | (go_at_call 17; with_reducible refine (C9.out _).mono ?_; rintro e w' ⟨rfl, yy, rfl⟩))
          go_ret
          exact ⟨rfl, BelW.below1 _⟩

end Go.Proofs.Ytemdnfodpijncaa
