/- ReachRoutes: the walk. -/
import Derived.Test.YthbjechgdjcogaaSmall18
namespace Go.Proofs.Ythbjechgdjcogaa
open Go.RowKit
set_option linter.unusedVariables false
set_option linter.unusedSimpArgs false

theorem route_step {n d v m : Int} (hn : 0 ≤ n) (hnd : n ≤ d) (hd1 : 1 ≤ d) (hd : d ≤ 33554432) (hv : 0 ≤ v) (hv2 : v ≤ 33554432) (hm : 0 ≤ m) (hmd : m < d) :
    ∃ q r, routeF n d v m = (q, r) ∧ q * d + r = v * n + m ∧ 0 ≤ r ∧ r < d ∧ 0 ≤ q ∧ q ≤ v := by
  have hvn : 0 ≤ v * n := Int.mul_nonneg hv hn
  have hle : v * n ≤ v * d := Int.mul_le_mul_of_nonneg_left hnd hv
  have hvd : v * d ≤ 33554432 * 33554432 := Int.mul_le_mul hv2 hd (by omega) (by omega)
  have hdiv : v * n / d ≤ v := by
    have := Int.ediv_le_ediv (show 0 < d by omega) hle
    rwa [Int.mul_ediv_cancel _ (show d ≠ 0 by omega)] at this
  rcases scale_cases v n d with h | ⟨q, r, hs, _, _, he, q1, q2, r1, r2, _, _⟩
  · have := Xa.scale_yes (a := v) (num := n) (den := d) ⟨hv, by omega, hn, by omega, hd1, by omega, by omega⟩
    rw [h] at this
    have := congrArg (fun x => x.2.2) this
    simp at this
  · have hc : carry m d = m := by unfold carry; rw [if_pos ⟨hm, hmd⟩]
    have hq : q = v * n / d := by
      rw [he]
      rw [Int.add_comm, Int.add_mul_ediv_right _ _ (show d ≠ 0 by omega), Int.ediv_eq_zero_of_lt r1 r2]; omega
    rw [routeF_yes hs, hc]
    by_cases h : r + m < d
    · rw [if_pos h]
      exact ⟨q, r + m, rfl, by omega, by omega, h, q1, by omega⟩
    · rw [if_neg h]
      refine ⟨q + 1, r + m - d, rfl, by rw [Int.add_mul]; omega, by omega, by omega, by omega, ?_⟩
      -- a carry over asks n < d and v > 0
      by_cases hlt : q < v
      · omega
      · exfalso
        have h1 : v * d ≤ q * d := Int.mul_le_mul_of_nonneg_right (by omega) (by omega)
        have h2 : r = 0 := by omega
        omega
theorem fit_of {p : List Int} (h : ∀ x ∈ p, Fit x) : ∀ i, i < p.length → Fit (gi p i) := fun i hi => by
  have : gi p i = p[i] := by simp [gi, List.getD, hi]
  rw [this]
  exact h _ (List.getElem_mem hi)
theorem quo_rem {S R d T : Int} (h : S * d + R = T) (h0 : 0 ≤ R) (h1 : R < d) (h2 : 0 ≤ S) : T / d = S ∧ T % d = R ∧ 0 ≤ T := by
  subst h
  refine ⟨by rw [Int.add_comm, Int.add_mul_ediv_right _ _ (show d ≠ 0 by omega), Int.ediv_eq_zero_of_lt h0 h1]; omega, ?_, by have := Int.mul_nonneg h2 (show 0 ≤ d by omega); omega⟩
  rw [Int.add_comm, Int.add_mul_emod_self_right, Int.emod_eq_of_lt h0 h1]
def RoR (V : World) (n d : Int) (l : List Int) (s9 s10 s11 s12 : Value) (wr : World) : Prop :=
  ∃ (k : Nat) (R S T : Int), k ≤ l.length ∧ s12 = .int .i64 (k : Int) ∧ s9 = .int .i64 R ∧ s10 = .int .i64 S ∧ s11 = .int .i64 T ∧ 0 ≤ R ∧ R < d ∧ 0 ≤ S ∧ S ≤ (k : Int) * 33554432 ∧ 0 ≤ T ∧ T ≤ (k : Int) * 1125899906842624 ∧ Hid (S * d + R = T) ∧ ∃ y : BelW V, wr = y.w
def pl0 (n d : Int) : List Value := [.string ⟨#[]⟩, .int .i64 0, .int .i64 0, .int .i64 0, .slice none 0 0, .slice none 0 0, .int .i64 n, .int .i64 d, .int .i64 0, .int .i64 0, .int .i64 0, .slice none 0 0]

set_option maxHeartbeats 16000000 in
set_option maxRecDepth 100000 in
theorem rou_any (n d : Int) (A : Option Addr) (c : Nat) (l : List Int) (hl : l.length ≤ 9223372036854775807) (hf : ∀ i, i < l.length → Fit (gi l i)) (n1 : -9223372036854775808 ≤ n ∧ n ≤ 9223372036854775807) (d1 : -9223372036854775808 ≤ d ∧ d ≤ 9223372036854775807) (w : World) (hr : Rd w A (ints l)) :
    Calls Try.prog 4 #[.int .i64 n, .int .i64 d, .slice A l.length c] w fun e w' => e = .returned (.bool true) ∧ Below w.heap.size w w' := by
  have CS := Lib.hid (small_any w)
  by_cases h1 : d < 1
  · have t1 : decide (d < 1) = true := decide_eq_true h1
    clear hr hf
    go_enter Try.func4, Try.ntmps4
    go_wp2_with (first | (go_at_call 8; with_reducible refine CS.out.mono ?_; rintro e w' ⟨rfl, hb⟩))
    go_ret
    exact ⟨rfl, hb⟩
  have t1 : decide (d < 1) = false := decide_eq_false h1
  by_cases h2 : 33554432 < d
  · have t2 : decide (33554432 < d) = true := decide_eq_true h2
    clear hr hf
    go_enter Try.func4, Try.ntmps4
    go_wp2_with (first | (go_at_call 8; with_reducible refine CS.out.mono ?_; rintro e w' ⟨rfl, hb⟩))
    go_ret
    exact ⟨rfl, hb⟩
  have t2 : decide (33554432 < d) = false := decide_eq_false h2
  by_cases h3 : n < 0
  · have t3 : decide (n < 0) = true := decide_eq_true h3
    clear hr hf
    go_enter Try.func4, Try.ntmps4
    go_wp2_with (first | (go_at_call 8; with_reducible refine CS.out.mono ?_; rintro e w' ⟨rfl, hb⟩))
    go_ret
    exact ⟨rfl, hb⟩
  have t3 : decide (n < 0) = false := decide_eq_false h3
  by_cases h4 : d < n
  · have t4 : decide (d < n) = true := decide_eq_true h4
    clear hr hf
    go_enter Try.func4, Try.ntmps4
    go_wp2_with (first | (go_at_call 8; with_reducible refine CS.out.mono ?_; rintro e w' ⟨rfl, hb⟩))
    go_ret
    exact ⟨rfl, hb⟩
  have t4 : decide (d < n) = false := decide_eq_false h4
  by_cases h5 : 40 < l.length
  · have t5 : decide ((40 : Int) < (l.length : Int)) = true := decide_eq_true (by omega)
    clear hr hf
    go_enter Try.func4, Try.ntmps4
    go_wp2_with (first | (go_at_call 8; with_reducible refine CS.out.mono ?_; rintro e w' ⟨rfl, hb⟩))
    go_ret
    exact ⟨rfl, hb⟩
  have t5 : decide ((40 : Int) < (l.length : Int)) = false := decide_eq_false (by omega)
  have HR := Lib.hid hr
  have HF := Lib.hid hf
  have b1 : 1 ≤ d := by omega
  have b2 : d ≤ 33554432 := by omega
  have b3 : 0 ≤ n := by omega
  have b4 : n ≤ d := by omega
  have HB := Lib.hid (And.intro b1 (And.intro b2 (And.intro b3 b4)))
  have hl40 : l.length ≤ 40 := by omega
  have z0 : (d == 0) = false := beq_eq_false_iff_ne.2 (by omega)
  clear hr hf h1 h2 h3 h4 h5
  go_enter Try.func4, Try.ntmps4
  go_upto_region 5 with (first | (go_at_call 8; with_reducible refine CS.out.mono ?_; rintro e w1 ⟨rfl, hb⟩))
  refine wp_rebase _ (fun V hV x0 => ?_)
  have HB0 := Lib.hid (show Below w.heap.size w V by rw [hV]; exact bel_alloc hb _)
  have HR1 := Lib.hid (show V.rangeAt w1.heap.size 0 (pl0 n d) by rw [hV]; exact range_new w1 _ (pl0 n d))
  clear hV hb
  go_wp2_with fail
  go_loopw [9, 10, 11, 12] (fun s9 s10 s11 s12 wr => RoR V n d l s9 s10 s11 s12 wr) (fun _ _ _ i _ => l.length - (intOf i).toNat)
  case atStart => exact ⟨0, 0, 0, 0, by omega, rfl, rfl, rfl, rfl, by omega, by omega, by omega, by omega, by omega, by omega, Lib.hid (by rw [Int.zero_mul]; rfl), x0, rfl⟩
  case round =>
    obtain ⟨k, R, S, T, hk, rfl, rfl, rfl, rfl, r1, r2, s1, s2, q1, q2, HE, y, rfl⟩ := hrel
    by_cases hlt : k < l.length
    · have i4 : decide ((k : Int) < (l.length : Int)) = true := decide_eq_true (by omega)
      have j1 : (0 : Int) ≤ (k : Int) := by omega
      have j2 : (k : Int) < (l.length : Int) := by omega
      obtain ⟨ad, u, rfl, _, e1, e2⟩ := ((HR.out.below (Nat.le_refl _) HB0.out).bel y).at (k := k) (by rw [ints_length]; exact hlt)
      rw [ints_at hlt] at e1
      cases e1
      obtain ⟨v, hv⟩ : ∃ v, gi l k = v := ⟨_, rfl⟩
      rw [hv] at e2
      clear hv
      have hbv := below_next HB0.out y.2
      by_cases v0 : v < 0
      · have v1 : decide (v < 0) = true := decide_eq_true v0
        have HX := Lib.hid hbv
        clear hbv
        go_wp2_with fail
        go_ret
        exact ⟨rfl, HX.out⟩
      have v1 : decide (v < 0) = false := decide_eq_false v0
      by_cases v2 : 33554432 < v
      · have v3 : decide (33554432 < v) = true := decide_eq_true v2
        have HX := Lib.hid hbv
        clear hbv
        go_wp2_with fail
        go_ret
        exact ⟨rfl, HX.out⟩
      have v3 : decide (33554432 < v) = false := decide_eq_false v2
      obtain ⟨q, r, hq, he, g1, g2, g3, g4⟩ := route_step b3 b4 b1 b2 (show 0 ≤ v by omega) (show v ≤ 33554432 by omega) r1 r2
      have hq' := Lib.hid hq
      have m0 : 0 ≤ v * n := Int.mul_nonneg (by omega) b3
      have m1 : v * n ≤ 33554432 * 33554432 := Int.mul_le_mul (by omega) (by omega) b3 (by omega)
      obtain ⟨M, hM⟩ : ∃ M, v * n = M := ⟨_, rfl⟩
      rw [hM] at he m0 m1
      have hE2 : (S + q) * d + r = T + M := by rw [Int.add_mul]; have := HE.out; omega
      obtain ⟨x1, x2, x3⟩ := quo_rem hE2 g1 g2 (by omega)
      have HE2 := Lib.hid hE2
      have wM : IntKind.i64.wrap M = M := IntWalk.i64_in _ (by omega)
      have wS : IntKind.i64.wrap (S + q) = S + q := IntWalk.i64_in _ (by omega)
      have wT : IntKind.i64.wrap (T + M) = T + M := IntWalk.i64_in _ (by omega)
      have y1 : (T + M).tdiv d = S + q := by rw [Int.tdiv_eq_ediv_of_nonneg x3]; exact x1
      have y2 : (T + M).tmod d = r := by rw [Int.tmod_eq_emod_of_nonneg x3]; exact x2
      have u1 : decide (r < 0) = false := decide_eq_false (by omega)
      have u2 : decide (d ≤ r) = false := decide_eq_false (by omega)
      have u3 : decide (v < q) = false := decide_eq_false (by omega)
      have HN := Lib.hid (show S + q ≤ ((k + 1 : Nat) : Int) * 33554432 ∧ T + M ≤ ((k + 1 : Nat) : Int) * 1125899906842624 ∧ 0 ≤ S + q ∧ 0 ≤ T + M by refine ⟨?_, ?_, ?_, ?_⟩ <;> omega)
      have k1 := fun z : BelW y.w => BelW.cells e2 z
      clear hq he hE2 hbv HE
      go_upto_region 14 with fail
      refine wp_rebase y.w (fun U hU z0 => ?_)
      rw [← hU] at k1
      have HU := Lib.hid (show Below V.heap.size V U by rw [hU]; exact y.2)
      have HRU := Lib.hid (show U.rangeAt w1.heap.size 0 (pl0 n d) by rw [hU]; exact BelW.range HR1.out y)
      have C2 := Lib.hid (fun u : BelW U => bel_of (x := u) (v := .tuple #[.int .i64 q, .int .i64 r]) (by have h := route_any (.string ⟨#[]⟩) (.int .i64 0) (.int .i64 0) (.int .i64 0) (.slice none 0 0) (.slice none 0 0) (.int .i64 0) (.int .i64 0) (.int .i64 0) (.slice none 0 0) n d v R u.w; rw [hq'.out] at h; exact h))
      clear hU e2
      refine wp_region_belx (by kernel_rfl) (by kernel_rfl) ?_
      repeat (first
        | (with_reducible refine wpQuiet_load_g 40 _ (by with_reducible rfl) _ _ (by with_unfolding_all rfl) (by with_unfolding_all rfl) _ _ (rangeX HRU.out) Try.underlying40 (by with_unfolding_all rfl) (by kernel_rfl) ?_; simp only [pl0, Act.put, List.setIfInBounds_toArray, List.set_cons_succ, List.set_cons_zero])
        | go_big_quiet_step ((go_at_call 10; with_reducible exact C2.out _)))
      refine wpQuiet_nil ?_
      intro z
      have k2 := k1 z
      clear k1
      go_wp2_with fail
      go_roundw
      case rel => exact ⟨k + 1, r, S + q, T + M, by omega, by go_num, rfl, rfl, rfl, g1, g2, HN.out.2.2.1, HN.out.1, HN.out.2.2.2, HN.out.2.1, HE2, ⟨z.w, below_next HU.out z.2⟩, rfl⟩
      case measure => simp [intOf]; omega
    · have i4 : decide ((k : Int) < (l.length : Int)) = false := decide_eq_false (by omega)
      have HX := Lib.hid (below_next HB0.out y.2)
      clear HE
      go_wp2_with fail
      go_ret
      exact ⟨rfl, HX.out⟩

end Go.Proofs.Ythbjechgdjcogaa
