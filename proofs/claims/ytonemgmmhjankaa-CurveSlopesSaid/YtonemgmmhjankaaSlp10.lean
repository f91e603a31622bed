/- CurveSlopes: the walk. -/
import Derived.Test.YtonemgmmhjankaaCurveS
import Derived.Test.YtonemgmmhjankaaRowP
namespace Go.Proofs.Ytonemgmmhjankaa
open Go.RowKit
set_option linter.unusedVariables false
set_option linter.unusedSimpArgs false

theorem BelW.below'' {w : World} (x : BelW w) : Below w.heap.size w x.w := x.2
def SlR (w : World) (s : Value) (wr : World) : Prop := ∃ k : Nat, 1 ≤ k ∧ s = .int .i64 (k : Int) ∧ ∃ y : BelW w, wr = y.w

set_option maxHeartbeats 16000000 in
set_option maxRecDepth 100000 in
theorem slp_any (A : Option Addr) (c : Nat) (l : List (Int × Int)) (hn : l.length ≤ 9223372036854775807) (hcap : l.length ≤ c) (n d x t : Int) (n_b : -9223372036854775808 ≤ n ∧ n ≤ 9223372036854775807) (d_b : -9223372036854775808 ≤ d ∧ d ≤ 9223372036854775807) (x_b : -9223372036854775808 ≤ x ∧ x ≤ 9223372036854775807) (t_b : -9223372036854775808 ≤ t ∧ t ≤ 9223372036854775807) (w : World) (hr : Rd w A (ptCells l)) :
    Calls Try.prog 5 #[.slice A l.length c, .int .i64 n, .int .i64 d, .int .i64 x, .int .i64 t] w fun e w' => e = .returned (.bool true) ∧ Below w.heap.size w w' := by
  refine rebase w (fun V hV x0 => ?_)
  subst hV
  have CS := Lib.hid (fun u : BelW V => bel_of (small_any u.w))
  by_cases h0 : 40 < l.length
  · have t0 : decide ((40 : Int) < (l.length : Int)) = true := decide_eq_true (by omega)
    go_enter Try.func5, Try.ntmps5
    go_wp2_with (first | (go_at_call 8; with_reducible refine (CS.out _).mono ?_; rintro e w' ⟨rfl, yy, rfl⟩))
    go_ret
    exact ⟨rfl, BelW.below'' _⟩
  have t0 : decide ((40 : Int) < (l.length : Int)) = false := decide_eq_false (by omega)
  by_cases h1 : x < 0
  · have t1 : decide (x < 0) = true := decide_eq_true (by omega)
    go_enter Try.func5, Try.ntmps5
    go_wp2_with (first | (go_at_call 8; with_reducible refine (CS.out _).mono ?_; rintro e w' ⟨rfl, yy, rfl⟩))
    go_ret
    exact ⟨rfl, BelW.below'' _⟩
  have t1 : decide (x < 0) = false := decide_eq_false (by omega)
  by_cases h2 : 1125899906842624 < x
  · have t2 : decide (1125899906842624 < x) = true := decide_eq_true (by omega)
    go_enter Try.func5, Try.ntmps5
    go_wp2_with (first | (go_at_call 8; with_reducible refine (CS.out _).mono ?_; rintro e w' ⟨rfl, yy, rfl⟩))
    go_ret
    exact ⟨rfl, BelW.below'' _⟩
  have t2 : decide (1125899906842624 < x) = false := decide_eq_false (by omega)
  by_cases h3 : t < 0
  · have t3 : decide (t < 0) = true := decide_eq_true (by omega)
    go_enter Try.func5, Try.ntmps5
    go_wp2_with (first | (go_at_call 8; with_reducible refine (CS.out _).mono ?_; rintro e w' ⟨rfl, yy, rfl⟩))
    go_ret
    exact ⟨rfl, BelW.below'' _⟩
  have t3 : decide (t < 0) = false := decide_eq_false (by omega)
  by_cases h4 : 1125899906842624 < t
  · have t4 : decide (1125899906842624 < t) = true := decide_eq_true (by omega)
    go_enter Try.func5, Try.ntmps5
    go_wp2_with (first | (go_at_call 8; with_reducible refine (CS.out _).mono ?_; rintro e w' ⟨rfl, yy, rfl⟩))
    go_ret
    exact ⟨rfl, BelW.below'' _⟩
  have t4 : decide (1125899906842624 < t) = false := decide_eq_false (by omega)
  have CX := Lib.hid (fun (a b : Int) (r : Bool) (e : slopeB l a b = r) (u : BelW V) => bel_of (e ▸ slope_is A c l hn a b u.w (hr.bel u)))
  have HRow := Lib.hid hr
  obtain ⟨ok, hok⟩ : ∃ r, slopeB l n d = r := ⟨_, rfl⟩
  have C0 := Lib.hid (CX.out n d ok hok)
  cases ok with
  | false =>
    by_cases hR : RightP l
    · have CR := Lib.hid (fun u : BelW V => bel_of (rightB_iff.2 hR ▸ right_is A c l hn u.w (hr.bel u)))
      clear hok hR hr
      go_enter Try.func5, Try.ntmps5
      go_wp2_with (first | (go_at_call 8; with_reducible refine (CS.out _).mono ?_; rintro e w' ⟨rfl, yy, rfl⟩) | (go_at_call 15; with_reducible refine (C0.out _).mono ?_; rintro e w' ⟨rfl, yy, rfl⟩))
      go_loopw [13] (fun s wr => SlR V s wr) (fun i _ => l.length - (intOf i).toNat)
      case atStart => exact ⟨1, by omega, rfl, _, rfl⟩
      case round =>
        obtain ⟨k, hk1, rfl, u, rfl⟩ := hrel
        by_cases hlt : k < l.length
        · have i3 : decide ((k : Int) < (l.length : Int)) = true := decide_eq_true (by omega)
          obtain ⟨ad, rfl, hadb, hr2⟩ := HRow.out.two hk1 hlt
          have w1 : IntKind.i64.wrap ((k : Int) - 1) = (k : Int) - 1 := IntWalk.i64_in _ (by omega)
          have w1' : IntKind.i64.wrap ((k : Int) + 1) = (k : Int) + 1 := IntWalk.i64_in _ (by omega)
          have w2 : ((k : Int) - 1).toNat = k - 1 := by omega
          have w2' : ((k : Int) + 1).toNat = k + 1 := by omega
          have w3 : (0 : Int) ≤ (k : Int) - 1 := by omega
          have w4 : (k : Int) - 1 ≤ (k : Int) + 1 := by omega
          have w5 : (k : Int) + 1 ≤ (c : Int) := by omega
          obtain ⟨pt, hpt⟩ : ∃ r, slopeB (two l k) n d = r := ⟨_, rfl⟩
          have CP := Lib.hid (fun (m cc : Nat) (hm : m = 2) (u : BelW V) => bel_of (show Calls Try.prog 15 #[.slice (some (ad.add ((k - 1) * 2))) m cc, .int .i64 n, .int .i64 d] u.w fun e w' => e = .returned (.bool pt) ∧ Below u.w.heap.size u.w w' from by subst hm; have h := slope_is (some (ad.add ((k - 1) * 2))) cc (two l k) (by show 2 ≤ 9223372036854775807; decide) n d u.w (hr2.bel u); rw [hpt] at h; exact h))
          clear hr2 hpt
          cases pt
          all_goals
            go_wp2_with (first | (go_at_call 11; with_reducible refine (CR.out _).mono ?_; rintro e w' ⟨rfl, yy, rfl⟩) | (go_at_call 15; with_reducible refine (CP.out _ _ (by omega) _).mono ?_; rintro e w' ⟨rfl, yy, rfl⟩))
            go_roundw
            case rel => exact ⟨k + 1, by omega, by go_num, _, rfl⟩
            case measure => simp [intOf]; omega
        · have i3 : decide ((k : Int) < (l.length : Int)) = false := decide_eq_false (by omega)
          go_wp2_with fail
          go_ret
          exact ⟨rfl, BelW.below'' _⟩
    · have CR := Lib.hid (fun u : BelW V => bel_of (not_true rightB_iff hR ▸ right_is A c l hn u.w (hr.bel u)))
      clear hok hR hr
      go_enter Try.func5, Try.ntmps5
      go_wp2_with (first | (go_at_call 8; with_reducible refine (CS.out _).mono ?_; rintro e w' ⟨rfl, yy, rfl⟩) | (go_at_call 15; with_reducible refine (C0.out _).mono ?_; rintro e w' ⟨rfl, yy, rfl⟩))
      go_loopw [13] (fun s wr => SlR V s wr) (fun i _ => l.length - (intOf i).toNat)
      case atStart => exact ⟨1, by omega, rfl, _, rfl⟩
      case round =>
        obtain ⟨k, hk1, rfl, u, rfl⟩ := hrel
        by_cases hlt : k < l.length
        · have i3 : decide ((k : Int) < (l.length : Int)) = true := decide_eq_true (by omega)
          go_wp2_with (first | (go_at_call 11; with_reducible refine (CR.out _).mono ?_; rintro e w' ⟨rfl, yy, rfl⟩))
          go_ret
          exact ⟨rfl, BelW.below'' _⟩
        · have i3 : decide ((k : Int) < (l.length : Int)) = false := decide_eq_false (by omega)
          go_wp2_with fail
          go_ret
          exact ⟨rfl, BelW.below'' _⟩
  | true =>
    have hS := slopeB_iff.1 hok
    have hR := hS.right
    have CR := Lib.hid (fun u : BelW V => bel_of (rightB_iff.2 hR ▸ right_is A c l hn u.w (hr.bel u)))
    have HS := Lib.hid hS
    obtain ⟨s1, s2, s3, s4⟩ := And.intro hS.n0 (And.intro hS.n1 (And.intro hS.d0 hS.d1))
    obtain ⟨v, hv⟩ : ∃ r, atF l x = r := ⟨_, rfl⟩
    obtain ⟨q, hq⟩ : ∃ r, atF l (x + t) = r := ⟨_, rfl⟩
    have CA := Lib.hid (fun u : BelW V => bel_of (hv ▸ at_any A c l hn x x_b.1 x_b.2 u.w (hr.bel u)))
    have CB := Lib.hid (fun u : BelW V => bel_of (hq ▸ at_any A c l hn (x + t) (by omega) (by omega) u.w (hr.bel u)))
    have f1 : Far x := by constructor <;> omega
    have f2 : Far (x + t) := by constructor <;> omega
    have b1 := atF_le hR f1
    have b2 := atF_le hR f2
    have lip := slope_lip hS f1 f2 (by omega)
    rw [show x + t - x = t by omega] at lip
    rw [hv] at b1
    rw [hq] at b2
    rw [hv, hq] at lip
    have y1 := (hR.ok 0 hR.pos).2.2.1
    have y2 := (hR.ok (l.length - 1) (by have := hR.pos; omega)).2.2.2.1
    have w6 : IntKind.i64.wrap (x + t) = x + t := IntWalk.i64_in _ (by omega)
    have w7 : IntKind.i64.wrap (q - v) = q - v := IntWalk.i64_in _ (by omega)
    have sc : (Xa.scale t n d = (t * n / d, t * n % d, true) ∧ 0 ≤ t * n / d ∧ t * n / d ≤ 1125899906842624) ∨ Xa.scale t n d = (0, 0, false) := by
      by_cases hb : t * n / d ≤ 1125899906842624
      · exact .inl ⟨Xa.scale_yes ⟨by omega, by omega, s1, s2, s3, s4, hb⟩, Int.ediv_nonneg (Int.mul_nonneg (by omega) s1) (by omega), hb⟩
      · exact .inr (Xa.scale_no fun h => hb h.2.2.2.2.2.2)
    have SC := Lib.hid (fun u : BelW V => bel_of_drew (scale_any t n d u.w))
    have hceil := fun cc h => slope_ceil (k := q - v) (c := cc) (by omega) lip h
    have hm0 := Int.emod_nonneg (t * n) (show d ≠ 0 by omega)
    clear lip hv hq f1 f2 hR hr b1 b2 y1 y2 hok
    have e1 : n < 1125899906842624 → slopeB l (n + 1) d = true := fun h => slopeB_iff.2 (hS.num h)
    have e2 : 1 < d → slopeB l n (d - 1) = true := fun h => slopeB_iff.2 (hS.den h)
    have w8 : IntKind.i64.wrap (n + 1) = n + 1 := IntWalk.i64_in _ (by omega)
    have w9 : IntKind.i64.wrap (d - 1) = d - 1 := IntWalk.i64_in _ (by omega)
    clear hS
    have E1 := Lib.hid e1
    have E2 := Lib.hid e2
    have HC := Lib.hid hceil
    have SCC := Lib.hid sc
    have M0 := Lib.hid hm0
    clear e1 e2 hceil sc hm0
    by_cases p1 : n < 1125899906842624
    · have p1' : decide (n < 1125899906842624) = true := decide_eq_true p1
      have C1 := Lib.hid (CX.out (n + 1) d true (E1.out p1))
      by_cases p2 : 1 < d
      · have p2' : decide (1 < d) = true := decide_eq_true p2
        have C2 := Lib.hid (CX.out n (d - 1) true (E2.out p2))
        go_enter Try.func5, Try.ntmps5
        go_wp2_with (first | (go_at_call 8; with_reducible refine (CS.out _).mono ?_; rintro e w' ⟨rfl, yy, rfl⟩) | (go_at_call 15; with_reducible refine (C0.out _).mono ?_; rintro e w' ⟨rfl, yy, rfl⟩) | (go_at_call 15; with_reducible refine (C1.out _).mono ?_; rintro e w' ⟨rfl, yy, rfl⟩) | (go_at_call 15; with_reducible refine (C2.out _).mono ?_; rintro e w' ⟨rfl, yy, rfl⟩))
        go_loopw [13] (fun s wr => SlR V s wr) (fun i _ => l.length - (intOf i).toNat)
        case atStart => exact ⟨1, by omega, rfl, _, rfl⟩
        case round =>
          obtain ⟨k, hk1, rfl, u, rfl⟩ := hrel
          by_cases hlt : k < l.length
          · have i3 : decide ((k : Int) < (l.length : Int)) = true := decide_eq_true (by omega)
            obtain ⟨ad, rfl, hadb, hr2⟩ := HRow.out.two hk1 hlt
            have w1 : IntKind.i64.wrap ((k : Int) - 1) = (k : Int) - 1 := IntWalk.i64_in _ (by omega)
            have w1' : IntKind.i64.wrap ((k : Int) + 1) = (k : Int) + 1 := IntWalk.i64_in _ (by omega)
            have w2 : ((k : Int) - 1).toNat = k - 1 := by omega
            have w2' : ((k : Int) + 1).toNat = k + 1 := by omega
            have w3 : (0 : Int) ≤ (k : Int) - 1 := by omega
            have w4 : (k : Int) - 1 ≤ (k : Int) + 1 := by omega
            have w5 : (k : Int) + 1 ≤ (c : Int) := by omega
            obtain ⟨pt, hpt⟩ : ∃ r, slopeB (two l k) n d = r := ⟨_, rfl⟩
            have CP := Lib.hid (fun (m cc : Nat) (hm : m = 2) (u : BelW V) => bel_of (show Calls Try.prog 15 #[.slice (some (ad.add ((k - 1) * 2))) m cc, .int .i64 n, .int .i64 d] u.w fun e w' => e = .returned (.bool pt) ∧ Below u.w.heap.size u.w w' from by subst hm; have h := slope_is (some (ad.add ((k - 1) * 2))) cc (two l k) (by show 2 ≤ 9223372036854775807; decide) n d u.w (hr2.bel u); rw [hpt] at h; exact h))
            obtain rfl : pt = true := hpt ▸ slopeB_iff.2 (HS.out.two hk1 hlt)
            clear hr2 hpt
            go_wp2_with (first | (go_at_call 11; with_reducible refine (CR.out _).mono ?_; rintro e w' ⟨rfl, yy, rfl⟩) | (go_at_call 15; with_reducible refine (CP.out _ _ (by omega) _).mono ?_; rintro e w' ⟨rfl, yy, rfl⟩))
            go_roundw
            case rel => exact ⟨k + 1, by omega, by go_num, _, rfl⟩
            case measure => simp [intOf]; omega
          · have i3 : decide ((k : Int) < (l.length : Int)) = false := decide_eq_false (by omega)
            go_upto_region 15 with fail
            rcases SCC.out with ⟨sc, h1, h2⟩ | sc
            · rw [sc] at SC
              have hm0 := M0.out
              have hc := HC.out
              clear sc
              generalize t * n / d = qq at *
              generalize t * n % d = mm at *
              have SC' := Lib.hid (show ∀ u : BelW V, Calls Try.prog 21 #[.int .i64 t, .int .i64 n, .int .i64 d] u.w fun e w' => e = .returned (.tuple #[.int .i64 qq, .int .i64 mm, .bool true]) ∧ ∃ z : BelW V, w' = z.w from SC.out)
              clear SC
              by_cases hmm : 0 < mm
              · have k1 : decide (0 < mm) = true := decide_eq_true hmm
                have wq : IntKind.i64.wrap (qq + 1) = qq + 1 := IntWalk.i64_in _ (by omega)
                have k2 : decide (q - v ≤ qq + 1) = true := decide_eq_true (hc _ (by rw [if_pos hmm]))
                clear hc h1 h2 hm0
                go_wp2_with (first | (go_at_call 21; with_reducible refine (SC'.out _).mono ?_; rintro e w' ⟨rfl, yy, rfl⟩) | (go_at_call 13; with_reducible refine (CA.out _).mono ?_; rintro e w' ⟨rfl, yy, rfl⟩) | (go_at_call 13; with_reducible refine (CB.out _).mono ?_; rintro e w' ⟨rfl, yy, rfl⟩))
                go_ret
                exact ⟨rfl, BelW.below'' _⟩
              · have k1 : decide (0 < mm) = false := decide_eq_false hmm
                have k2 : decide (q - v ≤ qq) = true := decide_eq_true (hc _ (by rw [if_neg hmm, Int.add_zero]))
                clear hc h1 h2 hm0
                go_wp2_with (first | (go_at_call 21; with_reducible refine (SC'.out _).mono ?_; rintro e w' ⟨rfl, yy, rfl⟩) | (go_at_call 13; with_reducible refine (CA.out _).mono ?_; rintro e w' ⟨rfl, yy, rfl⟩) | (go_at_call 13; with_reducible refine (CB.out _).mono ?_; rintro e w' ⟨rfl, yy, rfl⟩))
                go_ret
                exact ⟨rfl, BelW.below'' _⟩
            · rw [sc] at SC
              have SC' := Lib.hid (show ∀ u : BelW V, Calls Try.prog 21 #[.int .i64 t, .int .i64 n, .int .i64 d] u.w fun e w' => e = .returned (.tuple #[.int .i64 0, .int .i64 0, .bool false]) ∧ ∃ z : BelW V, w' = z.w from SC.out)
              clear SC sc
              go_wp2_with (first | (go_at_call 21; with_reducible refine (SC'.out _).mono ?_; rintro e w' ⟨rfl, yy, rfl⟩))
              go_ret
              exact ⟨rfl, BelW.below'' _⟩
      · have p2' : decide (1 < d) = false := decide_eq_false p2
        go_enter Try.func5, Try.ntmps5
        go_wp2_with (first | (go_at_call 8; with_reducible refine (CS.out _).mono ?_; rintro e w' ⟨rfl, yy, rfl⟩) | (go_at_call 15; with_reducible refine (C0.out _).mono ?_; rintro e w' ⟨rfl, yy, rfl⟩) | (go_at_call 15; with_reducible refine (C1.out _).mono ?_; rintro e w' ⟨rfl, yy, rfl⟩))
        go_loopw [13] (fun s wr => SlR V s wr) (fun i _ => l.length - (intOf i).toNat)
        case atStart => exact ⟨1, by omega, rfl, _, rfl⟩
        case round =>
          obtain ⟨k, hk1, rfl, u, rfl⟩ := hrel
          by_cases hlt : k < l.length
          · have i3 : decide ((k : Int) < (l.length : Int)) = true := decide_eq_true (by omega)
            obtain ⟨ad, rfl, hadb, hr2⟩ := HRow.out.two hk1 hlt
            have w1 : IntKind.i64.wrap ((k : Int) - 1) = (k : Int) - 1 := IntWalk.i64_in _ (by omega)
            have w1' : IntKind.i64.wrap ((k : Int) + 1) = (k : Int) + 1 := IntWalk.i64_in _ (by omega)
            have w2 : ((k : Int) - 1).toNat = k - 1 := by omega
            have w2' : ((k : Int) + 1).toNat = k + 1 := by omega
            have w3 : (0 : Int) ≤ (k : Int) - 1 := by omega
            have w4 : (k : Int) - 1 ≤ (k : Int) + 1 := by omega
            have w5 : (k : Int) + 1 ≤ (c : Int) := by omega
            obtain ⟨pt, hpt⟩ : ∃ r, slopeB (two l k) n d = r := ⟨_, rfl⟩
            have CP := Lib.hid (fun (m cc : Nat) (hm : m = 2) (u : BelW V) => bel_of (show Calls Try.prog 15 #[.slice (some (ad.add ((k - 1) * 2))) m cc, .int .i64 n, .int .i64 d] u.w fun e w' => e = .returned (.bool pt) ∧ Below u.w.heap.size u.w w' from by subst hm; have h := slope_is (some (ad.add ((k - 1) * 2))) cc (two l k) (by show 2 ≤ 9223372036854775807; decide) n d u.w (hr2.bel u); rw [hpt] at h; exact h))
            obtain rfl : pt = true := hpt ▸ slopeB_iff.2 (HS.out.two hk1 hlt)
            clear hr2 hpt
            go_wp2_with (first | (go_at_call 11; with_reducible refine (CR.out _).mono ?_; rintro e w' ⟨rfl, yy, rfl⟩) | (go_at_call 15; with_reducible refine (CP.out _ _ (by omega) _).mono ?_; rintro e w' ⟨rfl, yy, rfl⟩))
            go_roundw
            case rel => exact ⟨k + 1, by omega, by go_num, _, rfl⟩
            case measure => simp [intOf]; omega
          · have i3 : decide ((k : Int) < (l.length : Int)) = false := decide_eq_false (by omega)
            go_upto_region 15 with fail
            rcases SCC.out with ⟨sc, h1, h2⟩ | sc
            · rw [sc] at SC
              have hm0 := M0.out
              have hc := HC.out
              clear sc
              generalize t * n / d = qq at *
              generalize t * n % d = mm at *
              have SC' := Lib.hid (show ∀ u : BelW V, Calls Try.prog 21 #[.int .i64 t, .int .i64 n, .int .i64 d] u.w fun e w' => e = .returned (.tuple #[.int .i64 qq, .int .i64 mm, .bool true]) ∧ ∃ z : BelW V, w' = z.w from SC.out)
              clear SC
              by_cases hmm : 0 < mm
              · have k1 : decide (0 < mm) = true := decide_eq_true hmm
                have wq : IntKind.i64.wrap (qq + 1) = qq + 1 := IntWalk.i64_in _ (by omega)
                have k2 : decide (q - v ≤ qq + 1) = true := decide_eq_true (hc _ (by rw [if_pos hmm]))
                clear hc h1 h2 hm0
                go_wp2_with (first | (go_at_call 21; with_reducible refine (SC'.out _).mono ?_; rintro e w' ⟨rfl, yy, rfl⟩) | (go_at_call 13; with_reducible refine (CA.out _).mono ?_; rintro e w' ⟨rfl, yy, rfl⟩) | (go_at_call 13; with_reducible refine (CB.out _).mono ?_; rintro e w' ⟨rfl, yy, rfl⟩))
                go_ret
                exact ⟨rfl, BelW.below'' _⟩
              · have k1 : decide (0 < mm) = false := decide_eq_false hmm
                have k2 : decide (q - v ≤ qq) = true := decide_eq_true (hc _ (by rw [if_neg hmm, Int.add_zero]))
                clear hc h1 h2 hm0
                go_wp2_with (first | (go_at_call 21; with_reducible refine (SC'.out _).mono ?_; rintro e w' ⟨rfl, yy, rfl⟩) | (go_at_call 13; with_reducible refine (CA.out _).mono ?_; rintro e w' ⟨rfl, yy, rfl⟩) | (go_at_call 13; with_reducible refine (CB.out _).mono ?_; rintro e w' ⟨rfl, yy, rfl⟩))
                go_ret
                exact ⟨rfl, BelW.below'' _⟩
            · rw [sc] at SC
              have SC' := Lib.hid (show ∀ u : BelW V, Calls Try.prog 21 #[.int .i64 t, .int .i64 n, .int .i64 d] u.w fun e w' => e = .returned (.tuple #[.int .i64 0, .int .i64 0, .bool false]) ∧ ∃ z : BelW V, w' = z.w from SC.out)
              clear SC sc
              go_wp2_with (first | (go_at_call 21; with_reducible refine (SC'.out _).mono ?_; rintro e w' ⟨rfl, yy, rfl⟩))
              go_ret
              exact ⟨rfl, BelW.below'' _⟩
    · have p1' : decide (n < 1125899906842624) = false := decide_eq_false p1
      by_cases p2 : 1 < d
      · have p2' : decide (1 < d) = true := decide_eq_true p2
        have C2 := Lib.hid (CX.out n (d - 1) true (E2.out p2))
        go_enter Try.func5, Try.ntmps5
        go_wp2_with (first | (go_at_call 8; with_reducible refine (CS.out _).mono ?_; rintro e w' ⟨rfl, yy, rfl⟩) | (go_at_call 15; with_reducible refine (C0.out _).mono ?_; rintro e w' ⟨rfl, yy, rfl⟩) | (go_at_call 15; with_reducible refine (C2.out _).mono ?_; rintro e w' ⟨rfl, yy, rfl⟩))
        go_loopw [13] (fun s wr => SlR V s wr) (fun i _ => l.length - (intOf i).toNat)
        case atStart => exact ⟨1, by omega, rfl, _, rfl⟩
        case round =>
          obtain ⟨k, hk1, rfl, u, rfl⟩ := hrel
          by_cases hlt : k < l.length
          · have i3 : decide ((k : Int) < (l.length : Int)) = true := decide_eq_true (by omega)
            obtain ⟨ad, rfl, hadb, hr2⟩ := HRow.out.two hk1 hlt
            have w1 : IntKind.i64.wrap ((k : Int) - 1) = (k : Int) - 1 := IntWalk.i64_in _ (by omega)
            have w1' : IntKind.i64.wrap ((k : Int) + 1) = (k : Int) + 1 := IntWalk.i64_in _ (by omega)
            have w2 : ((k : Int) - 1).toNat = k - 1 := by omega
            have w2' : ((k : Int) + 1).toNat = k + 1 := by omega
            have w3 : (0 : Int) ≤ (k : Int) - 1 := by omega
            have w4 : (k : Int) - 1 ≤ (k : Int) + 1 := by omega
            have w5 : (k : Int) + 1 ≤ (c : Int) := by omega
            obtain ⟨pt, hpt⟩ : ∃ r, slopeB (two l k) n d = r := ⟨_, rfl⟩
            have CP := Lib.hid (fun (m cc : Nat) (hm : m = 2) (u : BelW V) => bel_of (show Calls Try.prog 15 #[.slice (some (ad.add ((k - 1) * 2))) m cc, .int .i64 n, .int .i64 d] u.w fun e w' => e = .returned (.bool pt) ∧ Below u.w.heap.size u.w w' from by subst hm; have h := slope_is (some (ad.add ((k - 1) * 2))) cc (two l k) (by show 2 ≤ 9223372036854775807; decide) n d u.w (hr2.bel u); rw [hpt] at h; exact h))
            obtain rfl : pt = true := hpt ▸ slopeB_iff.2 (HS.out.two hk1 hlt)
            clear hr2 hpt
            go_wp2_with (first | (go_at_call 11; with_reducible refine (CR.out _).mono ?_; rintro e w' ⟨rfl, yy, rfl⟩) | (go_at_call 15; with_reducible refine (CP.out _ _ (by omega) _).mono ?_; rintro e w' ⟨rfl, yy, rfl⟩))
            go_roundw
            case rel => exact ⟨k + 1, by omega, by go_num, _, rfl⟩
            case measure => simp [intOf]; omega
          · have i3 : decide ((k : Int) < (l.length : Int)) = false := decide_eq_false (by omega)
            go_upto_region 15 with fail
            rcases SCC.out with ⟨sc, h1, h2⟩ | sc
            · rw [sc] at SC
              have hm0 := M0.out
              have hc := HC.out
              clear sc
              generalize t * n / d = qq at *
              generalize t * n % d = mm at *
              have SC' := Lib.hid (show ∀ u : BelW V, Calls Try.prog 21 #[.int .i64 t, .int .i64 n, .int .i64 d] u.w fun e w' => e = .returned (.tuple #[.int .i64 qq, .int .i64 mm, .bool true]) ∧ ∃ z : BelW V, w' = z.w from SC.out)
              clear SC
              by_cases hmm : 0 < mm
              · have k1 : decide (0 < mm) = true := decide_eq_true hmm
                have wq : IntKind.i64.wrap (qq + 1) = qq + 1 := IntWalk.i64_in _ (by omega)
                have k2 : decide (q - v ≤ qq + 1) = true := decide_eq_true (hc _ (by rw [if_pos hmm]))
                clear hc h1 h2 hm0
                go_wp2_with (first | (go_at_call 21; with_reducible refine (SC'.out _).mono ?_; rintro e w' ⟨rfl, yy, rfl⟩) | (go_at_call 13; with_reducible refine (CA.out _).mono ?_; rintro e w' ⟨rfl, yy, rfl⟩) | (go_at_call 13; with_reducible refine (CB.out _).mono ?_; rintro e w' ⟨rfl, yy, rfl⟩))
                go_ret
                exact ⟨rfl, BelW.below'' _⟩
              · have k1 : decide (0 < mm) = false := decide_eq_false hmm
                have k2 : decide (q - v ≤ qq) = true := decide_eq_true (hc _ (by rw [if_neg hmm, Int.add_zero]))
                clear hc h1 h2 hm0
                go_wp2_with (first | (go_at_call 21; with_reducible refine (SC'.out _).mono ?_; rintro e w' ⟨rfl, yy, rfl⟩) | (go_at_call 13; with_reducible refine (CA.out _).mono ?_; rintro e w' ⟨rfl, yy, rfl⟩) | (go_at_call 13; with_reducible refine (CB.out _).mono ?_; rintro e w' ⟨rfl, yy, rfl⟩))
                go_ret
                exact ⟨rfl, BelW.below'' _⟩
            · rw [sc] at SC
              have SC' := Lib.hid (show ∀ u : BelW V, Calls Try.prog 21 #[.int .i64 t, .int .i64 n, .int .i64 d] u.w fun e w' => e = .returned (.tuple #[.int .i64 0, .int .i64 0, .bool false]) ∧ ∃ z : BelW V, w' = z.w from SC.out)
              clear SC sc
              go_wp2_with (first | (go_at_call 21; with_reducible refine (SC'.out _).mono ?_; rintro e w' ⟨rfl, yy, rfl⟩))
              go_ret
              exact ⟨rfl, BelW.below'' _⟩
      · have p2' : decide (1 < d) = false := decide_eq_false p2
        go_enter Try.func5, Try.ntmps5
        go_wp2_with (first | (go_at_call 8; with_reducible refine (CS.out _).mono ?_; rintro e w' ⟨rfl, yy, rfl⟩) | (go_at_call 15; with_reducible refine (C0.out _).mono ?_; rintro e w' ⟨rfl, yy, rfl⟩))
        go_loopw [13] (fun s wr => SlR V s wr) (fun i _ => l.length - (intOf i).toNat)
        case atStart => exact ⟨1, by omega, rfl, _, rfl⟩
        case round =>
          obtain ⟨k, hk1, rfl, u, rfl⟩ := hrel
          by_cases hlt : k < l.length
          · have i3 : decide ((k : Int) < (l.length : Int)) = true := decide_eq_true (by omega)
            obtain ⟨ad, rfl, hadb, hr2⟩ := HRow.out.two hk1 hlt
            have w1 : IntKind.i64.wrap ((k : Int) - 1) = (k : Int) - 1 := IntWalk.i64_in _ (by omega)
            have w1' : IntKind.i64.wrap ((k : Int) + 1) = (k : Int) + 1 := IntWalk.i64_in _ (by omega)
            have w2 : ((k : Int) - 1).toNat = k - 1 := by omega
            have w2' : ((k : Int) + 1).toNat = k + 1 := by omega
            have w3 : (0 : Int) ≤ (k : Int) - 1 := by omega
            have w4 : (k : Int) - 1 ≤ (k : Int) + 1 := by omega
            have w5 : (k : Int) + 1 ≤ (c : Int) := by omega
            obtain ⟨pt, hpt⟩ : ∃ r, slopeB (two l k) n d = r := ⟨_, rfl⟩
            have CP := Lib.hid (fun (m cc : Nat) (hm : m = 2) (u : BelW V) => bel_of (show Calls Try.prog 15 #[.slice (some (ad.add ((k - 1) * 2))) m cc, .int .i64 n, .int .i64 d] u.w fun e w' => e = .returned (.bool pt) ∧ Below u.w.heap.size u.w w' from by subst hm; have h := slope_is (some (ad.add ((k - 1) * 2))) cc (two l k) (by show 2 ≤ 9223372036854775807; decide) n d u.w (hr2.bel u); rw [hpt] at h; exact h))
            obtain rfl : pt = true := hpt ▸ slopeB_iff.2 (HS.out.two hk1 hlt)
            clear hr2 hpt
            go_wp2_with (first | (go_at_call 11; with_reducible refine (CR.out _).mono ?_; rintro e w' ⟨rfl, yy, rfl⟩) | (go_at_call 15; with_reducible refine (CP.out _ _ (by omega) _).mono ?_; rintro e w' ⟨rfl, yy, rfl⟩))
            go_roundw
            case rel => exact ⟨k + 1, by omega, by go_num, _, rfl⟩
            case measure => simp [intOf]; omega
          · have i3 : decide ((k : Int) < (l.length : Int)) = false := decide_eq_false (by omega)
            go_upto_region 15 with fail
            rcases SCC.out with ⟨sc, h1, h2⟩ | sc
            · rw [sc] at SC
              have hm0 := M0.out
              have hc := HC.out
              clear sc
              generalize t * n / d = qq at *
              generalize t * n % d = mm at *
              have SC' := Lib.hid (show ∀ u : BelW V, Calls Try.prog 21 #[.int .i64 t, .int .i64 n, .int .i64 d] u.w fun e w' => e = .returned (.tuple #[.int .i64 qq, .int .i64 mm, .bool true]) ∧ ∃ z : BelW V, w' = z.w from SC.out)
              clear SC
              by_cases hmm : 0 < mm
              · have k1 : decide (0 < mm) = true := decide_eq_true hmm
                have wq : IntKind.i64.wrap (qq + 1) = qq + 1 := IntWalk.i64_in _ (by omega)
                have k2 : decide (q - v ≤ qq + 1) = true := decide_eq_true (hc _ (by rw [if_pos hmm]))
                clear hc h1 h2 hm0
                go_wp2_with (first | (go_at_call 21; with_reducible refine (SC'.out _).mono ?_; rintro e w' ⟨rfl, yy, rfl⟩) | (go_at_call 13; with_reducible refine (CA.out _).mono ?_; rintro e w' ⟨rfl, yy, rfl⟩) | (go_at_call 13; with_reducible refine (CB.out _).mono ?_; rintro e w' ⟨rfl, yy, rfl⟩))
                go_ret
                exact ⟨rfl, BelW.below'' _⟩
              · have k1 : decide (0 < mm) = false := decide_eq_false hmm
                have k2 : decide (q - v ≤ qq) = true := decide_eq_true (hc _ (by rw [if_neg hmm, Int.add_zero]))
                clear hc h1 h2 hm0
                go_wp2_with (first | (go_at_call 21; with_reducible refine (SC'.out _).mono ?_; rintro e w' ⟨rfl, yy, rfl⟩) | (go_at_call 13; with_reducible refine (CA.out _).mono ?_; rintro e w' ⟨rfl, yy, rfl⟩) | (go_at_call 13; with_reducible refine (CB.out _).mono ?_; rintro e w' ⟨rfl, yy, rfl⟩))
                go_ret
                exact ⟨rfl, BelW.below'' _⟩
            · rw [sc] at SC
              have SC' := Lib.hid (show ∀ u : BelW V, Calls Try.prog 21 #[.int .i64 t, .int .i64 n, .int .i64 d] u.w fun e w' => e = .returned (.tuple #[.int .i64 0, .int .i64 0, .bool false]) ∧ ∃ z : BelW V, w' = z.w from SC.out)
              clear SC sc
              go_wp2_with (first | (go_at_call 21; with_reducible refine (SC'.out _).mono ?_; rintro e w' ⟨rfl, yy, rfl⟩))
              go_ret
              exact ⟨rfl, BelW.below'' _⟩

end Go.Proofs.Ytonemgmmhjankaa
