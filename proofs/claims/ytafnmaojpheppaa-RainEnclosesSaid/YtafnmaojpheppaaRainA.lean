/- rain.litres, radarSpan, the ends of a span, and the references. -/
import Derived.Test.YtafnmaojpheppaaInts
import Derived.Test.YtafnmaojpheppaaSpan
import Derived.Test.YtafnmaojpheppaaRefS
import Derived.Test.YtafnmaojpheppaaKtail
namespace Go.Proofs.Ytafnmaojpheppaa
open Go.RowKit
set_option linter.unusedVariables false
set_option linter.unusedSimpArgs false

theorem scale_cases (v n d : Int) : Xa.scale v n d = (0, 0, false) ∨ ∃ q r, Xa.scale v n d = (q, r, true) ∧ 0 ≤ v ∧ 0 ≤ n ∧ v * n = q * d + r ∧ 0 ≤ q ∧ q ≤ 1125899906842624 ∧ 0 ≤ r ∧ r < d ∧ 1 ≤ d ∧ d ≤ 1125899906842624 := by
  by_cases h : 0 ≤ v ∧ v ≤ 1125899906842624 ∧ 0 ≤ n ∧ n ≤ 1125899906842624 ∧ 1 ≤ d ∧ d ≤ 1125899906842624 ∧ v * n / d ≤ 1125899906842624
  · right
    obtain ⟨h1, h2, h3, h4, h5, h6, h7⟩ := h
    refine ⟨_, _, Xa.scale_yes ⟨h1, h2, h3, h4, h5, h6, h7⟩, h1, h3, ?_, Int.ediv_nonneg (Int.mul_nonneg h1 h3) (by omega), h7, Int.emod_nonneg _ (by omega), Int.emod_lt_of_pos _ (by omega), h5, h6⟩
    rw [Int.mul_comm (v * n / d) d]
    exact (Int.mul_ediv_add_emod _ _).symm
  · exact .inl (Xa.scale_no h)

/-! litres -/
def litF (n a : Int) : Int := if n ≤ 0 ∨ a ≤ 0 then 0 else if (Xa.scale n a 1).2.2 = true then (Xa.scale n a 1).1 else 1125899906842624
theorem litF_bd (n a : Int) : 0 ≤ litF n a ∧ litF n a ≤ 1125899906842624 := by
  unfold litF
  split
  · omega
  · split
    · rcases scale_cases n a 1 with h | ⟨q, r, h, _, _, _, h1, h2, _⟩ <;> rw [h] <;> simp <;> omega
    · omega
set_option maxHeartbeats 4000000 in
theorem lit_any (n a : Int) (w : World) : Calls Try.prog 31 #[.int .i64 n, .int .i64 a] w fun e w' => e = .returned (.int .i64 (litF n a)) ∧ ∃ k, w' = w.drewN k := by
  have CS := Lib.hid (fun W => scale_any n a 1 W)
  unfold litF
  by_cases h1 : n ≤ 0
  · have t1 : decide (n ≤ 0) = true := decide_eq_true h1
    rw [if_pos (.inl h1)]
    go_enter Try.func31, Try.ntmps31
    go_wp2_with fail
    go_ret
    exact ⟨rfl, 0, rfl⟩
  have t1 : decide (n ≤ 0) = false := decide_eq_false h1
  by_cases h2 : a ≤ 0
  · have t2 : decide (a ≤ 0) = true := decide_eq_true h2
    rw [if_pos (.inr h2)]
    go_enter Try.func31, Try.ntmps31
    go_wp2_with fail
    go_ret
    exact ⟨rfl, 0, rfl⟩
  have t2 : decide (a ≤ 0) = false := decide_eq_false h2
  rw [if_neg (by omega)]
  obtain ⟨q, r, b, hs⟩ : ∃ q r b, Xa.scale n a 1 = (q, r, b) := ⟨_, _, _, rfl⟩
  rw [hs] at CS ⊢
  clear hs
  cases b
  all_goals
    go_enter Try.func31, Try.ntmps31
    go_wp2_with (first | (go_at_call 39; with_reducible refine (CS.out _).mono ?_; rintro e w' ⟨rfl, k, rfl⟩))
    go_ret
    exact ⟨by simp, _, rfl⟩
set_option maxHeartbeats 4000000 in
theorem reflit_any (n a : Int) (w : World) : Calls Try.prog 35 #[.int .i64 n, .int .i64 a] w fun e w' => e = .returned (.int .i64 (litF n a)) ∧ w = w' := by
  have CS := Lib.hid (fun W => refscale_any n a 1 W)
  unfold litF
  by_cases h1 : n ≤ 0
  · have t1 : decide (n ≤ 0) = true := decide_eq_true h1
    rw [if_pos (.inl h1)]
    go_enter Try.func35, Try.ntmps35
    go_wp2_with fail
    go_ret
    exact ⟨rfl, rfl⟩
  have t1 : decide (n ≤ 0) = false := decide_eq_false h1
  by_cases h2 : a ≤ 0
  · have t2 : decide (a ≤ 0) = true := decide_eq_true h2
    rw [if_pos (.inr h2)]
    go_enter Try.func35, Try.ntmps35
    go_wp2_with fail
    go_ret
    exact ⟨rfl, rfl⟩
  have t2 : decide (a ≤ 0) = false := decide_eq_false h2
  rw [if_neg (by omega)]
  obtain ⟨q, r, b, hs⟩ : ∃ q r b, Xa.scale n a 1 = (q, r, b) := ⟨_, _, _, rfl⟩
  rw [hs] at CS ⊢
  clear hs
  cases b
  all_goals
    go_enter Try.func35, Try.ntmps35
    go_wp2_with (first | (go_at_call 43; with_reducible refine (CS.out _).mono ?_; rintro e w' ⟨rfl, rfl⟩))
    go_ret
    exact ⟨by simp, rfl⟩

/-! the ends of a span -/
theorem end2_any (a b : Int) (w : World) : Calls Try.prog 32 #[.agg #[.int .i64 a, .int .i64 b]] w fun e w' => e = .returned (.int .i64 a) ∧ Below w.heap.size w w' := by
  go_enter Try.func32, Try.ntmps32
  go_wp2_with fail
  go_ret
  exact ⟨rfl, by go_grown⟩
theorem end3_any (a b : Int) (w : World) : Calls Try.prog 33 #[.agg #[.int .i64 a, .int .i64 b]] w fun e w' => e = .returned (.int .i64 b) ∧ Below w.heap.size w w' := by
  go_enter Try.func33, Try.ntmps33
  go_wp2_with fail
  go_ret
  exact ⟨rfl, by go_grown⟩

/-! the radar's span -/
def radV (v : Int) : Int := max 0 (min v 1125899906842624)
def radP (p : Int) : Int := max 0 (min p 1000)
def radLo (v p : Int) : Int := radV v * (1000 - radP p) / 1000
def radHi (v p : Int) : Int := min (if radV v * (1000 + radP p) % 1000 = 0 then radV v * (1000 + radP p) / 1000 else radV v * (1000 + radP p) / 1000 + 1) 1125899906842624
theorem clamp_rad (v : Int) : Xa.clamp v 0 1125899906842624 = radV v ∧ Xa.clamp v 0 1000 = radP v := by unfold Xa.clamp radV radP; constructor <;> (split <;> (try split) <;> omega)
theorem rad_bd (v p : Int) : 0 ≤ radV v ∧ radV v ≤ 1125899906842624 ∧ 0 ≤ radP p ∧ radP p ≤ 1000 := by unfold radV radP; omega
theorem rad_lo (v p : Int) : Xa.scale (radV v) (1000 - radP p) 1000 = (radLo v p, radV v * (1000 - radP p) % 1000, true) ∧ 0 ≤ radLo v p ∧ radLo v p ≤ radV v := by
  obtain ⟨h1, h2, h3, h4⟩ := rad_bd v p
  have a : 0 ≤ radV v * (1000 - radP p) := Int.mul_nonneg h1 (by omega)
  have b : radV v * (1000 - radP p) ≤ radV v * 1000 := Int.mul_le_mul_of_nonneg_left (by omega) h1
  have c : radLo v p ≤ radV v := by unfold radLo; omega
  refine ⟨?_, by unfold radLo; omega, c⟩
  unfold radLo at c ⊢
  rw [Xa.scale_yes ⟨h1, h2, by omega, by omega, by omega, by omega, by omega⟩]
theorem rad_hi (v p : Int) : (Xa.scale (radV v) (1000 + radP p) 1000 = (0, 0, false) ∧ radHi v p = 1125899906842624) ∨
    (∃ q r, Xa.scale (radV v) (1000 + radP p) 1000 = (q, r, true) ∧ 0 ≤ q ∧ q ≤ 1125899906842624 ∧ 0 ≤ r ∧ r < 1000 ∧ radHi v p = min (if r = 0 then q else q + 1) 1125899906842624) := by
  obtain ⟨h1, h2, h3, h4⟩ := rad_bd v p
  by_cases h : radV v * (1000 + radP p) / 1000 ≤ 1125899906842624
  · right
    refine ⟨_, _, Xa.scale_yes ⟨h1, h2, by omega, by omega, by omega, by omega, h⟩, Int.ediv_nonneg (Int.mul_nonneg h1 (by omega)) (by omega), h, Int.emod_nonneg _ (by omega), Int.emod_lt_of_pos _ (by omega), rfl⟩
  · left
    refine ⟨Xa.scale_no (fun hh => h hh.2.2.2.2.2.2), ?_⟩
    unfold radHi
    split <;> omega

set_option maxHeartbeats 8000000 in
theorem rad_any (v p : Int) (p1 : -9223372036854775808 ≤ p ∧ p ≤ 9223372036854775807) (w : World) : Calls Try.prog 27 #[.int .i64 v, .int .i64 p] w fun e w' => e = .returned (.agg #[.int .i64 (radLo v p), .int .i64 (radHi v p)]) ∧ Below w.heap.size w w' := by
  have C1 := Lib.hid (fun W => clamp_any v 0 1125899906842624 W)
  have C2 := Lib.hid (fun W => clamp_any p 0 1000 W)
  rw [(clamp_rad v).1] at C1
  rw [(clamp_rad p).2] at C2
  have C3 := Lib.hid (fun W => scale_any (radV v) (1000 - radP p) 1000 W)
  have C4 := Lib.hid (fun W => scale_any (radV v) (1000 + radP p) 1000 W)
  obtain ⟨hb1, hb2, hb3, hb4⟩ := rad_bd v p
  obtain ⟨hlo, hlo1, hlo2⟩ := rad_lo v p
  rw [hlo] at C3
  have hhi := rad_hi v p
  obtain ⟨lo, hlo'⟩ : ∃ lo, radLo v p = lo := ⟨_, rfl⟩
  obtain ⟨hi, hhi'⟩ : ∃ hi, radHi v p = hi := ⟨_, rfl⟩
  rw [hlo'] at C3 ⊢
  rw [hhi'] at hhi ⊢
  obtain ⟨rm, hrm⟩ : ∃ r, radV v * (1000 - radP p) % 1000 = r := ⟨_, rfl⟩
  rw [hrm] at C3
  obtain ⟨V, hV⟩ : ∃ V, radV v = V := ⟨_, rfl⟩
  obtain ⟨p', hp⟩ : ∃ P, radP p = P := ⟨_, rfl⟩
  rw [hV] at C1 C3 C4 hhi
  rw [hp] at C2 C3 C4 hhi hb3 hb4
  have w1 : IntKind.i64.wrap (1000 - p') = 1000 - p' := IntWalk.i64_in _ (by omega)
  have w2 : IntKind.i64.wrap (1000 + p') = 1000 + p' := IntWalk.i64_in _ (by omega)
  clear hlo hlo1 hlo2 hlo' hhi' hrm hV hp hb1 hb2
  rcases hhi with ⟨hs, rfl⟩ | ⟨q, r, hs, q1, q2, r1, r2, rfl⟩
  · rw [hs] at C4
    clear hs
    go_enter Try.func27, Try.ntmps27
    go_wp2_with (first | (go_at_call 17; with_reducible refine (C1.out _).mono ?_; rintro e w' ⟨rfl, rfl⟩) | (go_at_call 17; with_reducible refine (C2.out _).mono ?_; rintro e w' ⟨rfl, rfl⟩) | (go_at_call 39; with_reducible refine (C3.out _).mono ?_; rintro e w' ⟨rfl, k, rfl⟩) | (go_at_call 39; with_reducible refine (C4.out _).mono ?_; rintro e w' ⟨rfl, k', rfl⟩))
    exact bodyPost_ret (v := .agg #[.int .i64 lo, .int .i64 (1125899906842624)]) (by simp [results, Try.results27, go_sem]) rfl ⟨rfl, by go_grown; exact below_drewN ((Below.refl _ _).alloc (Nat.le_refl _) _) _⟩
  · rw [hs] at C4
    clear hs
    by_cases h0 : r = 0
    · subst h0
      rw [if_pos rfl]
      have e1 : min q 1125899906842624 = q := by omega
      have t1 : decide (1125899906842624 < q) = false := decide_eq_false (by omega)
      rw [e1]
      clear e1
      go_enter Try.func27, Try.ntmps27
      go_wp2_with (first | (go_at_call 17; with_reducible refine (C1.out _).mono ?_; rintro e w' ⟨rfl, rfl⟩) | (go_at_call 17; with_reducible refine (C2.out _).mono ?_; rintro e w' ⟨rfl, rfl⟩) | (go_at_call 39; with_reducible refine (C3.out _).mono ?_; rintro e w' ⟨rfl, k, rfl⟩) | (go_at_call 39; with_reducible refine (C4.out _).mono ?_; rintro e w' ⟨rfl, k', rfl⟩))
      exact bodyPost_ret (v := .agg #[.int .i64 lo, .int .i64 (q)]) (by simp [results, Try.results27, go_sem]) rfl ⟨rfl, by go_grown; exact below_drewN ((Below.refl _ _).alloc (Nat.le_refl _) _) _⟩
    · rw [if_neg h0]
      have t0 : (r != 0) = true := bne_iff_ne.2 h0
      have w3 : IntKind.i64.wrap (q + 1) = q + 1 := IntWalk.i64_in _ (by omega)
      clear h0
      by_cases h1 : 1125899906842624 < q + 1
      · have t1 : decide (1125899906842624 < q + 1) = true := decide_eq_true h1
        rw [show min (q + 1) 1125899906842624 = 1125899906842624 by omega]
        go_enter Try.func27, Try.ntmps27
        go_wp2_with (first | (go_at_call 17; with_reducible refine (C1.out _).mono ?_; rintro e w' ⟨rfl, rfl⟩) | (go_at_call 17; with_reducible refine (C2.out _).mono ?_; rintro e w' ⟨rfl, rfl⟩) | (go_at_call 39; with_reducible refine (C3.out _).mono ?_; rintro e w' ⟨rfl, k, rfl⟩) | (go_at_call 39; with_reducible refine (C4.out _).mono ?_; rintro e w' ⟨rfl, k', rfl⟩))
        exact bodyPost_ret (v := .agg #[.int .i64 lo, .int .i64 (1125899906842624)]) (by simp [results, Try.results27, go_sem]) rfl ⟨rfl, by go_grown; exact below_drewN ((Below.refl _ _).alloc (Nat.le_refl _) _) _⟩
      · have t1 : decide (1125899906842624 < q + 1) = false := decide_eq_false h1
        rw [show min (q + 1) 1125899906842624 = q + 1 by omega]
        go_enter Try.func27, Try.ntmps27
        go_wp2_with (first | (go_at_call 17; with_reducible refine (C1.out _).mono ?_; rintro e w' ⟨rfl, rfl⟩) | (go_at_call 17; with_reducible refine (C2.out _).mono ?_; rintro e w' ⟨rfl, rfl⟩) | (go_at_call 39; with_reducible refine (C3.out _).mono ?_; rintro e w' ⟨rfl, k, rfl⟩) | (go_at_call 39; with_reducible refine (C4.out _).mono ?_; rintro e w' ⟨rfl, k', rfl⟩))
        exact bodyPost_ret (v := .agg #[.int .i64 lo, .int .i64 (q + 1)]) (by simp [results, Try.results27, go_sem]) rfl ⟨rfl, by go_grown; exact below_drewN ((Below.refl _ _).alloc (Nat.le_refl _) _) _⟩

set_option maxHeartbeats 8000000 in
theorem refrad_any (v p : Int) (p1 : -9223372036854775808 ≤ p ∧ p ≤ 9223372036854775807) (w : World) : Calls Try.prog 40 #[.int .i64 v, .int .i64 p] w fun e w' => e = .returned (.agg #[.int .i64 (radLo v p), .int .i64 (radHi v p)]) ∧ Below w.heap.size w w' := by
  have C3 := Lib.hid (fun W => refscale_any (radV v) (1000 - radP p) 1000 W)
  have C4 := Lib.hid (fun W => refscale_any (radV v) (1000 + radP p) 1000 W)
  obtain ⟨hb1, hb2, hb3, hb4⟩ := rad_bd v p
  obtain ⟨hlo, hlo1, hlo2⟩ := rad_lo v p
  rw [hlo] at C3
  have hhi := rad_hi v p
  obtain ⟨lo, hlo'⟩ : ∃ lo, radLo v p = lo := ⟨_, rfl⟩
  obtain ⟨hi, hhi'⟩ : ∃ hi, radHi v p = hi := ⟨_, rfl⟩
  rw [hlo'] at C3 ⊢
  rw [hhi'] at hhi ⊢
  obtain ⟨rm, hrm⟩ : ∃ r, radV v * (1000 - radP p) % 1000 = r := ⟨_, rfl⟩
  rw [hrm] at C3
  obtain ⟨V, hV⟩ : ∃ V, radV v = V := ⟨_, rfl⟩
  obtain ⟨p', hp⟩ : ∃ P, radP p = P := ⟨_, rfl⟩
  rw [hV] at C3 C4 hhi
  rw [hp] at C3 C4 hhi hb3 hb4
  have m1 : max 0 (min v 1125899906842624) = V := hV
  have m2 : max 0 (min p 1000) = p' := hp
  have w1 : IntKind.i64.wrap (1000 - p') = 1000 - p' := IntWalk.i64_in _ (by omega)
  have w2 : IntKind.i64.wrap (1000 + p') = 1000 + p' := IntWalk.i64_in _ (by omega)
  clear hlo hlo1 hlo2 hlo' hhi' hrm hV hp hb1 hb2
  rcases hhi with ⟨hs, rfl⟩ | ⟨q, r, hs, q1, q2, r1, r2, rfl⟩
  · rw [hs] at C4
    clear hs
    go_enter Try.func40, Try.ntmps40
    go_wp2_with (first | (go_at_call 43; with_reducible refine (C3.out _).mono ?_; rintro e w' ⟨rfl, rfl⟩) | (go_at_call 43; with_reducible refine (C4.out _).mono ?_; rintro e w' ⟨rfl, rfl⟩))
    exact bodyPost_ret (v := .agg #[.int .i64 lo, .int .i64 1125899906842624]) (by simp [results, Try.results40, go_sem]) rfl ⟨rfl, by go_grown⟩
  · rw [hs] at C4
    clear hs
    by_cases h0 : r = 0
    · subst h0
      rw [if_pos rfl]
      go_enter Try.func40, Try.ntmps40
      go_wp2_with (first | (go_at_call 43; with_reducible refine (C3.out _).mono ?_; rintro e w' ⟨rfl, rfl⟩) | (go_at_call 43; with_reducible refine (C4.out _).mono ?_; rintro e w' ⟨rfl, rfl⟩))
      exact bodyPost_ret (v := .agg #[.int .i64 lo, .int .i64 (min q 1125899906842624)]) (by simp [results, Try.results40, go_sem]) rfl ⟨rfl, by go_grown⟩
    · rw [if_neg h0]
      have t0 : decide (0 < r) = true := decide_eq_true (by omega)
      have w3 : IntKind.i64.wrap (q + 1) = q + 1 := IntWalk.i64_in _ (by omega)
      clear h0
      go_enter Try.func40, Try.ntmps40
      go_wp2_with (first | (go_at_call 43; with_reducible refine (C3.out _).mono ?_; rintro e w' ⟨rfl, rfl⟩) | (go_at_call 43; with_reducible refine (C4.out _).mono ?_; rintro e w' ⟨rfl, rfl⟩))
      exact bodyPost_ret (v := .agg #[.int .i64 lo, .int .i64 (min (q + 1) 1125899906842624)]) (by simp [results, Try.results40, go_sem]) rfl ⟨rfl, by go_grown⟩

end Go.Proofs.Ytafnmaojpheppaa
