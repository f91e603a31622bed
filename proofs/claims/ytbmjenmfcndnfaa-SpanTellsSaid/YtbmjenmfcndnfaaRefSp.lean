/- Contracts of bourneref09, over pairs of ends. -/
import Derived.Test.YtbmjenmfcndnfaaSpanS
import Derived.Test.YtbmjenmfcndnfaaRefS
import Derived.Test.YtbmjenmfcndnfaaRefA
namespace Go.Proofs.Ytbmjenmfcndnfaa
open Go.RowKit

theorem refright_any (lo hi : Int) (w : World) :
    Calls Try.prog 23 #[.agg #[.int .i64 lo, .int .i64 hi]] w fun e w' => e = .returned (.bool (decide (lo ≤ hi))) ∧ Below w.heap.size w w' := by
  go_enter Try.func23, Try.ntmps23
  go_wp2_with fail
  go_ret
  exact ⟨rfl, by go_grown⟩

theorem refof_any (n : Int) (w : World) :
    Calls Try.prog 25 #[.int .i64 n] w fun e w' => e = .returned (.agg #[.int .i64 n, .int .i64 n]) ∧ Below w.heap.size w w' := by
  go_enter Try.func25, Try.ntmps25
  go_wp2_with fail
  exact bodyPost_ret (v := .agg #[.int .i64 n, .int .i64 n]) (by simp [results, Try.results25, go_sem]) rfl ⟨rfl, by go_grown⟩

theorem refhas_any (lo hi n : Int) (w : World) :
    Calls Try.prog 26 #[.agg #[.int .i64 lo, .int .i64 hi], .int .i64 n] w fun e w' => e = .returned (.bool (decide (lo ≤ n) && decide (n ≤ hi))) ∧ Below w.heap.size w w' := by
  by_cases h : lo ≤ n
  · have t1 : decide (lo ≤ n) = true := decide_eq_true h
    go_enter Try.func26, Try.ntmps26
    go_wp2_with fail
    go_ret
    exact ⟨ret_bool (by simp [h]), by go_grown⟩
  · have t1 : decide (lo ≤ n) = false := decide_eq_false h
    go_enter Try.func26, Try.ntmps26
    go_wp2_with fail
    go_ret
    exact ⟨ret_bool (by simp), by go_grown⟩

set_option maxHeartbeats 1000000 in
theorem refsadd_any (a b c d : Int) (a1 : -9223372036854775808 ≤ a) (a2 : a ≤ 9223372036854775807) (b1 : -9223372036854775808 ≤ b) (b2 : b ≤ 9223372036854775807) (c1 : -9223372036854775808 ≤ c) (c2 : c ≤ 9223372036854775807) (d1 : -9223372036854775808 ≤ d) (d2 : d ≤ 9223372036854775807) (w : World) :
    Calls Try.prog 27 #[.agg #[.int .i64 a, .int .i64 b], .agg #[.int .i64 c, .int .i64 d]] w fun e w' => e = .returned (.agg #[.int .i64 (Xa.add a c), .int .i64 (Xa.add b d)]) ∧ Below w.heap.size w w' := by
  go_enter Try.func27, Try.ntmps27
  go_wp2_with (go_at_call 35; refine (refadd_any _ _ (by assumption) (by assumption) (by assumption) (by assumption) _).mono ?_; rintro e w' ⟨rfl, rfl⟩)
  exact bodyPost_ret (v := .agg #[.int .i64 (Xa.add a c), .int .i64 (Xa.add b d)]) (by simp [results, Try.results27, go_sem]) rfl ⟨rfl, by go_grown⟩

set_option maxHeartbeats 1000000 in
theorem refssub_any (a b c d : Int) (a1 : -9223372036854775808 ≤ a) (a2 : a ≤ 9223372036854775807) (b1 : -9223372036854775808 ≤ b) (b2 : b ≤ 9223372036854775807) (c1 : -9223372036854775808 ≤ c) (c2 : c ≤ 9223372036854775807) (d1 : -9223372036854775808 ≤ d) (d2 : d ≤ 9223372036854775807) (w : World) :
    Calls Try.prog 28 #[.agg #[.int .i64 a, .int .i64 b], .agg #[.int .i64 c, .int .i64 d]] w fun e w' => e = .returned (.agg #[.int .i64 (Xa.sub a d), .int .i64 (Xa.sub b c)]) ∧ Below w.heap.size w w' := by
  go_enter Try.func28, Try.ntmps28
  go_wp2_with (go_at_call 36; refine (refsub_any _ _ (by assumption) (by assumption) (by assumption) (by assumption) _).mono ?_; rintro e w' ⟨rfl, rfl⟩)
  exact bodyPost_ret (v := .agg #[.int .i64 (Xa.sub a d), .int .i64 (Xa.sub b c)]) (by simp [results, Try.results28, go_sem]) rfl ⟨rfl, by go_grown⟩

theorem refwidth_any (a b : Int) (a1 : -9223372036854775808 ≤ a) (a2 : a ≤ 9223372036854775807) (b1 : -9223372036854775808 ≤ b) (b2 : b ≤ 9223372036854775807) (w : World) :
    Calls Try.prog 31 #[.agg #[.int .i64 a, .int .i64 b]] w fun e w' => e = .returned (.int .i64 (Xa.sub b a)) ∧ Below w.heap.size w w' := by
  go_enter Try.func31, Try.ntmps31
  go_wp2_with (go_at_call 36; refine (refsub_any _ _ (by assumption) (by assumption) (by assumption) (by assumption) _).mono ?_; rintro e w' ⟨rfl, rfl⟩)
  go_ret
  exact ⟨rfl, by go_grown⟩

theorem refjoin_any (a b c d : Int) (w : World) :
    Calls Try.prog 29 #[.agg #[.int .i64 a, .int .i64 b], .agg #[.int .i64 c, .int .i64 d]] w fun e w' => e = .returned (.agg #[.int .i64 (min a c), .int .i64 (max b d)]) ∧ Below w.heap.size w w' := by
  by_cases h1 : c < a
  · have t1 : decide (c < a) = true := decide_eq_true h1
    have m1 : min a c = c := by omega
    rw [m1]
    by_cases h2 : b < d
    · have t2 : decide (b < d) = true := decide_eq_true h2
      have m2 : max b d = d := by omega
      rw [m2]
      clear h1 h2 m1 m2
      go_enter Try.func29, Try.ntmps29
      go_wp2_with fail
      exact bodyPost_ret (v := .agg #[.int .i64 c, .int .i64 d]) (by simp [results, Try.results29, go_sem]) rfl ⟨rfl, by go_grown⟩
    · have t2 : decide (b < d) = false := decide_eq_false h2
      have m2 : max b d = b := by omega
      rw [m2]
      clear h1 h2 m1 m2
      go_enter Try.func29, Try.ntmps29
      go_wp2_with fail
      exact bodyPost_ret (v := .agg #[.int .i64 c, .int .i64 b]) (by simp [results, Try.results29, go_sem]) rfl ⟨rfl, by go_grown⟩
  · have t1 : decide (c < a) = false := decide_eq_false h1
    have m1 : min a c = a := by omega
    rw [m1]
    by_cases h2 : b < d
    · have t2 : decide (b < d) = true := decide_eq_true h2
      have m2 : max b d = d := by omega
      rw [m2]
      clear h1 h2 m1 m2
      go_enter Try.func29, Try.ntmps29
      go_wp2_with fail
      exact bodyPost_ret (v := .agg #[.int .i64 a, .int .i64 d]) (by simp [results, Try.results29, go_sem]) rfl ⟨rfl, by go_grown⟩
    · have t2 : decide (b < d) = false := decide_eq_false h2
      have m2 : max b d = b := by omega
      rw [m2]
      clear h1 h2 m1 m2
      go_enter Try.func29, Try.ntmps29
      go_wp2_with fail
      exact bodyPost_ret (v := .agg #[.int .i64 a, .int .i64 b]) (by simp [results, Try.results29, go_sem]) rfl ⟨rfl, by go_grown⟩

theorem refmeet_any (a b c d : Int) (w : World) :
    Calls Try.prog 22 #[.agg #[.int .i64 a, .int .i64 b], .agg #[.int .i64 c, .int .i64 d]] w fun e w' => e = .returned (.tuple (if max a c ≤ min b d then #[.agg #[.int .i64 (max a c), .int .i64 (min b d)], .bool true] else #[.agg #[.int .i64 0, .int .i64 0], .bool false])) ∧ Below w.heap.size w w' := by
  by_cases h1 : a < c
  · have t1 : decide (a < c) = true := decide_eq_true h1
    have m1 : max a c = c := by omega
    rw [m1]
    by_cases h2 : d < b
    · have t2 : decide (d < b) = true := decide_eq_true h2
      have m2 : min b d = d := by omega
      rw [m2]
      clear h1 h2 m1 m2
      by_cases h3 : c ≤ d
      · have t3 : decide (d < c) = false := decide_eq_false (by omega)
        rw [if_pos h3]
        clear h3
        go_enter Try.func22, Try.ntmps22
        go_wp2_with fail
        exact bodyPost_ret (v := .tuple #[.agg #[.int .i64 c, .int .i64 d], .bool true]) (by simp [results, Try.results22, go_sem]) rfl ⟨rfl, by go_grown⟩
      · have t3 : decide (d < c) = true := decide_eq_true (by omega)
        rw [if_neg h3]
        clear h3
        go_enter Try.func22, Try.ntmps22
        go_wp2_with fail
        exact bodyPost_ret (v := .tuple #[.agg #[.int .i64 0, .int .i64 0], .bool false]) (by simp [results, Try.results22, go_sem]) rfl ⟨rfl, by go_grown⟩
    · have t2 : decide (d < b) = false := decide_eq_false h2
      have m2 : min b d = b := by omega
      rw [m2]
      clear h1 h2 m1 m2
      by_cases h3 : c ≤ b
      · have t3 : decide (b < c) = false := decide_eq_false (by omega)
        rw [if_pos h3]
        clear h3
        go_enter Try.func22, Try.ntmps22
        go_wp2_with fail
        exact bodyPost_ret (v := .tuple #[.agg #[.int .i64 c, .int .i64 b], .bool true]) (by simp [results, Try.results22, go_sem]) rfl ⟨rfl, by go_grown⟩
      · have t3 : decide (b < c) = true := decide_eq_true (by omega)
        rw [if_neg h3]
        clear h3
        go_enter Try.func22, Try.ntmps22
        go_wp2_with fail
        exact bodyPost_ret (v := .tuple #[.agg #[.int .i64 0, .int .i64 0], .bool false]) (by simp [results, Try.results22, go_sem]) rfl ⟨rfl, by go_grown⟩
  · have t1 : decide (a < c) = false := decide_eq_false h1
    have m1 : max a c = a := by omega
    rw [m1]
    by_cases h2 : d < b
    · have t2 : decide (d < b) = true := decide_eq_true h2
      have m2 : min b d = d := by omega
      rw [m2]
      clear h1 h2 m1 m2
      by_cases h3 : a ≤ d
      · have t3 : decide (d < a) = false := decide_eq_false (by omega)
        rw [if_pos h3]
        clear h3
        go_enter Try.func22, Try.ntmps22
        go_wp2_with fail
        exact bodyPost_ret (v := .tuple #[.agg #[.int .i64 a, .int .i64 d], .bool true]) (by simp [results, Try.results22, go_sem]) rfl ⟨rfl, by go_grown⟩
      · have t3 : decide (d < a) = true := decide_eq_true (by omega)
        rw [if_neg h3]
        clear h3
        go_enter Try.func22, Try.ntmps22
        go_wp2_with fail
        exact bodyPost_ret (v := .tuple #[.agg #[.int .i64 0, .int .i64 0], .bool false]) (by simp [results, Try.results22, go_sem]) rfl ⟨rfl, by go_grown⟩
    · have t2 : decide (d < b) = false := decide_eq_false h2
      have m2 : min b d = b := by omega
      rw [m2]
      clear h1 h2 m1 m2
      by_cases h3 : a ≤ b
      · have t3 : decide (b < a) = false := decide_eq_false (by omega)
        rw [if_pos h3]
        clear h3
        go_enter Try.func22, Try.ntmps22
        go_wp2_with fail
        exact bodyPost_ret (v := .tuple #[.agg #[.int .i64 a, .int .i64 b], .bool true]) (by simp [results, Try.results22, go_sem]) rfl ⟨rfl, by go_grown⟩
      · have t3 : decide (b < a) = true := decide_eq_true (by omega)
        rw [if_neg h3]
        clear h3
        go_enter Try.func22, Try.ntmps22
        go_wp2_with fail
        exact bodyPost_ret (v := .tuple #[.agg #[.int .i64 0, .int .i64 0], .bool false]) (by simp [results, Try.results22, go_sem]) rfl ⟨rfl, by go_grown⟩

theorem refwithin_any (a b c d : Int) (w : World) :
    Calls Try.prog 30 #[.agg #[.int .i64 a, .int .i64 b], .agg #[.int .i64 c, .int .i64 d]] w fun e w' => e = .returned (.bool (decide (c ≤ a) && decide (b ≤ d))) ∧ Below w.heap.size w w' := by
  by_cases h1 : c ≤ a
  · have t1 : decide (c ≤ a) = true := decide_eq_true h1
    go_enter Try.func30, Try.ntmps30
    go_wp2_with fail
    go_ret
    exact ⟨ret_bool (by simp [h1]), by go_grown⟩
  · have t1 : decide (c ≤ a) = false := decide_eq_false h1
    go_enter Try.func30, Try.ntmps30
    go_wp2_with fail
    go_ret
    exact ⟨ret_bool (by simp), by go_grown⟩

set_option maxHeartbeats 2000000 in
theorem refsscale_any (a b n d : Int) (w : World) :
    Calls Try.prog 21 #[.agg #[.int .i64 a, .int .i64 b], .int .i64 n, .int .i64 d] w fun e w' => e = .returned (.tuple (spanRes (Xa.sscale a b n d))) ∧ Below w.heap.size w w' := by
  by_cases h : a ≤ b
  · have t1 : decide (b < a) = false := decide_eq_false (by omega)
    rcases hf1 : Xa.fits a n d with _ | _
    · have s1 := Xa.scale_of_not hf1
      have hr : Xa.sscale a b n d = none := by unfold Xa.sscale; rw [if_neg (by rw [hf1]; simp)]
      rw [hr]
      clear hr hf1
      go_enter Try.func21, Try.ntmps21
      go_wp2_with (go_at_call 34; refine (refscale_any _ _ _ _).mono ?_; rintro e w' ⟨rfl, rfl⟩)
      exact bodyPost_ret (v := .tuple #[.agg #[.int .i64 0, .int .i64 0], .bool false]) (by simp [results, Try.results21, go_sem]) rfl ⟨rfl, by go_grown⟩
    · have s1 := Xa.scale_of_fits hf1
      rcases hf2 : Xa.fits b n d with _ | _
      · have s2 := Xa.scale_of_not hf2
        have hr : Xa.sscale a b n d = none := by unfold Xa.sscale; rw [if_neg (by rw [hf2]; simp)]
        rw [hr]
        clear hr hf1 hf2
        go_enter Try.func21, Try.ntmps21
        go_wp2_with (go_at_call 34; refine (refscale_any _ _ _ _).mono ?_; rintro e w' ⟨rfl, rfl⟩)
        exact bodyPost_ret (v := .tuple #[.agg #[.int .i64 0, .int .i64 0], .bool false]) (by simp [results, Try.results21, go_sem]) rfl ⟨rfl, by go_grown⟩
      · have s2 := Xa.scale_of_fits hf2
        obtain ⟨q1, q2, q3, q4, q5⟩ := Xa.fits_q hf2
        by_cases hm : b * n % d = 0
        · have t2 : (b * n % d != 0) = false := by simp [hm]
          have t3 : decide (1125899906842624 < b * n / d) = false := decide_eq_false (by omega)
          have hr : Xa.sscale a b n d = some (a * n / d, b * n / d) := by unfold Xa.sscale; rw [if_pos ⟨h, hf1, hf2, by rw [if_pos hm]; omega⟩]; rw [if_pos hm, Int.add_zero]
          rw [hr]
          clear hr hf1 hf2
          clear hm q5
          generalize b * n / d = q at *
          generalize b * n % d = r at *
          generalize a * n / d = q' at *
          generalize a * n % d = r' at *
          go_enter Try.func21, Try.ntmps21
          go_wp2_with (go_at_call 34; refine (refscale_any _ _ _ _).mono ?_; rintro e w' ⟨rfl, rfl⟩)
          exact bodyPost_ret (v := .tuple #[.agg #[.int .i64 q', .int .i64 q], .bool true]) (by simp [results, Try.results21, go_sem]) rfl ⟨rfl, by go_grown⟩
        · have t2 : (b * n % d != 0) = true := by simp [hm]
          by_cases ho : b * n / d + 1 ≤ 1125899906842624
          · have t3 : decide (1125899906842624 < b * n / d + 1) = false := decide_eq_false (by omega)
            have hr : Xa.sscale a b n d = some (a * n / d, b * n / d + 1) := by unfold Xa.sscale; rw [if_pos ⟨h, hf1, hf2, by rw [if_neg hm]; omega⟩]; rw [if_neg hm]
            rw [hr]
            clear hr hf1 hf2
            clear hm q5
            generalize b * n / d = q at *
            generalize b * n % d = r at *
            generalize a * n / d = q' at *
            generalize a * n % d = r' at *
            go_enter Try.func21, Try.ntmps21
            go_wp2_with (go_at_call 34; refine (refscale_any _ _ _ _).mono ?_; rintro e w' ⟨rfl, rfl⟩)
            exact bodyPost_ret (v := .tuple #[.agg #[.int .i64 q', .int .i64 (q + 1)], .bool true]) (by simp [results, Try.results21, go_sem]) rfl ⟨rfl, by go_grown⟩
          · have t3 : decide (1125899906842624 < b * n / d + 1) = true := decide_eq_true (by omega)
            have hr : Xa.sscale a b n d = none := by unfold Xa.sscale; rw [if_neg (by rw [if_neg hm]; omega)]
            rw [hr]
            clear hr hf1 hf2 hm q5
            generalize b * n / d = q at *
            generalize b * n % d = r at *
            generalize a * n / d = q' at *
            generalize a * n % d = r' at *
            go_enter Try.func21, Try.ntmps21
            go_wp2_with (go_at_call 34; refine (refscale_any _ _ _ _).mono ?_; rintro e w' ⟨rfl, rfl⟩)
            exact bodyPost_ret (v := .tuple #[.agg #[.int .i64 0, .int .i64 0], .bool false]) (by simp [results, Try.results21, go_sem]) rfl ⟨rfl, by go_grown⟩
  · have t1 : decide (b < a) = true := decide_eq_true (by omega)
    have hr : Xa.sscale a b n d = none := by unfold Xa.sscale; rw [if_neg (fun x => h x.1)]
    rw [hr]
    clear hr
    go_enter Try.func21, Try.ntmps21
    go_wp2_with (go_at_call 34; refine (refscale_any _ _ _ _).mono ?_; rintro e w' ⟨rfl, rfl⟩)
    exact bodyPost_ret (v := .tuple #[.agg #[.int .i64 0, .int .i64 0], .bool false]) (by simp [results, Try.results21, go_sem]) rfl ⟨rfl, by go_grown⟩

end Go.Proofs.Ytbmjenmfcndnfaa
