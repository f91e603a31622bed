/- CurveOrders: the walk. -/
import Derived.Test.YtonemgmmhjankaaCurveU
import Derived.Test.YtonemgmmhjankaaRowP
import Derived.Test.YtonemgmmhjankaaSpanEq
namespace Go.Proofs.Ytonemgmmhjankaa
open Go.RowKit
set_option linter.unusedVariables false
set_option linter.unusedSimpArgs false

theorem BelW.below' {w : World} (x : BelW w) : Below w.heap.size w x.w := x.2
theorem leastF_false {l : List (Int × Int)} {y : Int} (h : (leastF l y).2 = false) : (leastF l y).1 = 0 := by
  unfold leastF at *
  split at h
  · cases h
  · rename_i hh; rw [if_neg hh]

set_option maxHeartbeats 16000000 in
set_option maxRecDepth 100000 in
theorem ord_any (A B C : Option Addr) (ca cb cc : Nat) (a b c : List (Int × Int)) (hna : a.length ≤ 9223372036854775807) (hnb : b.length ≤ 9223372036854775807) (hnc : c.length ≤ 9223372036854775807) (x y : Int) (x_b : -9223372036854775808 ≤ x ∧ x ≤ 9223372036854775807) (y_b : -9223372036854775808 ≤ y ∧ y ≤ 9223372036854775807) (w : World) (hra : Rd w A (ptCells a)) (hrb : Rd w B (ptCells b)) (hrc : Rd w C (ptCells c)) :
    Calls Try.prog 6 #[.slice A a.length ca, .slice B b.length cb, .slice C c.length cc, .int .i64 x, .int .i64 y] w fun e w' => e = .returned (.bool true) ∧ Below w.heap.size w w' := by
  refine rebase w (fun V hV x0 => ?_)
  subst hV
  have CS := Lib.hid (fun u : BelW V => bel_of (small_any u.w))
  by_cases ha : 40 < a.length
  · have ta : decide ((40 : Int) < (a.length : Int)) = true := decide_eq_true (by omega)
    go_enter Try.func6, Try.ntmps6
    go_wp2_with (first | (go_at_call 8; with_reducible refine (CS.out _).mono ?_; rintro e w' ⟨rfl, yy, rfl⟩))
    go_ret
    exact ⟨rfl, BelW.below' _⟩
  have ta : decide ((40 : Int) < (a.length : Int)) = false := decide_eq_false (by omega)
  by_cases hb : 40 < b.length
  · have tb : decide ((40 : Int) < (b.length : Int)) = true := decide_eq_true (by omega)
    go_enter Try.func6, Try.ntmps6
    go_wp2_with (first | (go_at_call 8; with_reducible refine (CS.out _).mono ?_; rintro e w' ⟨rfl, yy, rfl⟩))
    go_ret
    exact ⟨rfl, BelW.below' _⟩
  have tb : decide ((40 : Int) < (b.length : Int)) = false := decide_eq_false (by omega)
  by_cases hc : 40 < c.length
  · have tc : decide ((40 : Int) < (c.length : Int)) = true := decide_eq_true (by omega)
    go_enter Try.func6, Try.ntmps6
    go_wp2_with (first | (go_at_call 8; with_reducible refine (CS.out _).mono ?_; rintro e w' ⟨rfl, yy, rfl⟩))
    go_ret
    exact ⟨rfl, BelW.below' _⟩
  have tc : decide ((40 : Int) < (c.length : Int)) = false := decide_eq_false (by omega)
  by_cases hRa : RightP a
  case neg =>
    have CRa := Lib.hid (fun u : BelW V => bel_of (not_true rightB_iff hRa ▸ right_is A ca a hna u.w (hra.bel u)))
    clear hRa
    go_enter Try.func6, Try.ntmps6
    go_wp2_with (first | (go_at_call 8; with_reducible refine (CS.out _).mono ?_; rintro e w' ⟨rfl, yy, rfl⟩) | (go_at_call 11; with_reducible refine (CRa.out _).mono ?_; rintro e w' ⟨rfl, yy, rfl⟩))
    go_ret
    exact ⟨rfl, BelW.below' _⟩
  have CRa := Lib.hid (fun u : BelW V => bel_of (rightB_iff.2 hRa ▸ right_is A ca a hna u.w (hra.bel u)))
  by_cases hRb : RightP b
  case neg =>
    have CRb := Lib.hid (fun u : BelW V => bel_of (not_true rightB_iff hRb ▸ right_is B cb b hnb u.w (hrb.bel u)))
    clear hRb
    go_enter Try.func6, Try.ntmps6
    go_wp2_with (first | (go_at_call 8; with_reducible refine (CS.out _).mono ?_; rintro e w' ⟨rfl, yy, rfl⟩) | (go_at_call 11; with_reducible refine (CRa.out _).mono ?_; rintro e w' ⟨rfl, yy, rfl⟩) | (go_at_call 11; with_reducible refine (CRb.out _).mono ?_; rintro e w' ⟨rfl, yy, rfl⟩))
    go_ret
    exact ⟨rfl, BelW.below' _⟩
  have CRb := Lib.hid (fun u : BelW V => bel_of (rightB_iff.2 hRb ▸ right_is B cb b hnb u.w (hrb.bel u)))
  by_cases hRc : RightP c
  case neg =>
    have CRc := Lib.hid (fun u : BelW V => bel_of (not_true rightB_iff hRc ▸ right_is C cc c hnc u.w (hrc.bel u)))
    clear hRc
    go_enter Try.func6, Try.ntmps6
    go_wp2_with (first | (go_at_call 8; with_reducible refine (CS.out _).mono ?_; rintro e w' ⟨rfl, yy, rfl⟩) | (go_at_call 11; with_reducible refine (CRa.out _).mono ?_; rintro e w' ⟨rfl, yy, rfl⟩) | (go_at_call 11; with_reducible refine (CRb.out _).mono ?_; rintro e w' ⟨rfl, yy, rfl⟩) | (go_at_call 11; with_reducible refine (CRc.out _).mono ?_; rintro e w' ⟨rfl, yy, rfl⟩))
    go_ret
    exact ⟨rfl, BelW.below' _⟩
  have CRc := Lib.hid (fun u : BelW V => bel_of (rightB_iff.2 hRc ▸ right_is C cc c hnc u.w (hrc.bel u)))
  have CUaa := Lib.hid (fun u : BelW V => bel_of (underB_iff.2 (under_refl hRa) ▸ under_is A A ca ca a a hna hna u.w (hra.bel u) (hra.bel u)))
  obtain ⟨ab, hab⟩ : ∃ r, underB a b = r := ⟨_, rfl⟩
  obtain ⟨bc, hbc⟩ : ∃ r, underB b c = r := ⟨_, rfl⟩
  obtain ⟨ac, hac⟩ : ∃ r, underB a c = r := ⟨_, rfl⟩
  obtain ⟨ba, hba⟩ : ∃ r, underB b a = r := ⟨_, rfl⟩
  have CUab := Lib.hid (fun u : BelW V => bel_of (hab ▸ under_is A B ca cb a b hna hnb u.w (hra.bel u) (hrb.bel u)))
  have CUbc := Lib.hid (fun u : BelW V => bel_of (hbc ▸ under_is B C cb cc b c hnb hnc u.w (hrb.bel u) (hrc.bel u)))
  have CUac := Lib.hid (fun u : BelW V => bel_of (hac ▸ under_is A C ca cc a c hna hnc u.w (hra.bel u) (hrc.bel u)))
  have CUba := Lib.hid (fun u : BelW V => bel_of (hba ▸ under_is B A cb ca b a hnb hna u.w (hrb.bel u) (hra.bel u)))
  obtain ⟨v, hv⟩ : ∃ r, atF a x = r := ⟨_, rfl⟩
  obtain ⟨q, hq⟩ : ∃ r, atF b x = r := ⟨_, rfl⟩
  have CAa := Lib.hid (fun u : BelW V => bel_of (hv ▸ at_any A ca a hna x x_b.1 x_b.2 u.w (hra.bel u)))
  have CAb := Lib.hid (fun u : BelW V => bel_of (hq ▸ at_any B cb b hnb x x_b.1 x_b.2 u.w (hrb.bel u)))
  obtain ⟨lv, hlv⟩ : ∃ r, (leastF a y).1 = r := ⟨_, rfl⟩
  obtain ⟨lo, hlo⟩ : ∃ r, (leastF a y).2 = r := ⟨_, rfl⟩
  obtain ⟨mv, hmv⟩ : ∃ r, (leastF b y).1 = r := ⟨_, rfl⟩
  obtain ⟨mo, hmo⟩ : ∃ r, (leastF b y).2 = r := ⟨_, rfl⟩
  have CLa := Lib.hid (fun u : BelW V => bel_of (hlv ▸ hlo ▸ least_is A ca a hna y y_b.1 y_b.2 u.w (hra.bel u)))
  have CLb := Lib.hid (fun u : BelW V => bel_of (hmv ▸ hmo ▸ least_is B cb b hnb y y_b.1 y_b.2 u.w (hrb.bel u)))
  have CB := Lib.hid (fun u : BelW V => bel_of (hv ▸ hq ▸ band_any A B ca cb a b hna hnb x x_b.1 x_b.2 u.w (hra.bel u) (hrb.bel u)))
  have fx : Far x := by constructor <;> omega
  have I1 : ab = true → v ≤ q ∧ (lo = true → mo = true ∧ mv ≤ lv) := fun h => by
    have hu := underB_iff.1 (hab.trans h)
    have h1 := under_at hu fx
    rw [hv, hq] at h1
    refine ⟨h1, fun h2 => ?_⟩
    have := under_least hu (hlo.trans h2)
    rw [hmo, hmv, hlv] at this
    exact this
  have I2 : ba = true → q ≤ v ∧ (mo = true → lo = true ∧ lv ≤ mv) := fun h => by
    have hu := underB_iff.1 (hba.trans h)
    have h1 := under_at hu fx
    rw [hv, hq] at h1
    refine ⟨h1, fun h2 => ?_⟩
    have := under_least hu (hmo.trans h2)
    rw [hlo, hmv, hlv] at this
    exact this
  have I3 : ab = true → bc = true → ac = true := fun h h' => hac ▸ underB_iff.2 (under_trans (underB_iff.1 (hab.trans h)) (underB_iff.1 (hbc.trans h')))
  have I4 : lo = false → lv = 0 := fun h => hlv ▸ leastF_false (hlo.trans h)
  have I5 : mo = false → mv = 0 := fun h => hmv ▸ leastF_false (hmo.trans h)
  have hgt := span_guardType
  have hst := span_stood
  clear hab hbc hac hba hv hq hlv hlo hmv hmo fx hRa hRb hRc hra hrb hrc
  have J1 := Lib.hid I1
  have J2 := Lib.hid I2
  have J3 := Lib.hid I3
  have J4 := Lib.hid I4
  have J5 := Lib.hid I5
  clear I1 I2 I3 I4 I5
  cases ab with
  | false =>
    go_enter Try.func6, Try.ntmps6
    go_wp2_with (first | (go_at_call 8; with_reducible refine (CS.out _).mono ?_; rintro e w' ⟨rfl, yy, rfl⟩) | (go_at_call 11; with_reducible refine (CRa.out _).mono ?_; rintro e w' ⟨rfl, yy, rfl⟩) | (go_at_call 11; with_reducible refine (CRb.out _).mono ?_; rintro e w' ⟨rfl, yy, rfl⟩) | (go_at_call 11; with_reducible refine (CRc.out _).mono ?_; rintro e w' ⟨rfl, yy, rfl⟩) | (go_at_call 17; with_reducible refine (CUaa.out _).mono ?_; rintro e w' ⟨rfl, yy, rfl⟩) | (go_at_call 17; with_reducible refine (CUab.out _).mono ?_; rintro e w' ⟨rfl, yy, rfl⟩) | (go_at_call 17; with_reducible refine (CUbc.out _).mono ?_; rintro e w' ⟨rfl, yy, rfl⟩) | (go_at_call 17; with_reducible refine (CUac.out _).mono ?_; rintro e w' ⟨rfl, yy, rfl⟩) | (go_at_call 17; with_reducible refine (CUba.out _).mono ?_; rintro e w' ⟨rfl, yy, rfl⟩) | (go_at_call 13; with_reducible refine (CAa.out _).mono ?_; rintro e w' ⟨rfl, yy, rfl⟩) | (go_at_call 13; with_reducible refine (CAb.out _).mono ?_; rintro e w' ⟨rfl, yy, rfl⟩) | (go_at_call 9; with_reducible refine (CLa.out _).mono ?_; rintro e w' ⟨rfl, yy, rfl⟩) | (go_at_call 9; with_reducible refine (CLb.out _).mono ?_; rintro e w' ⟨rfl, yy, rfl⟩) | (go_at_call 19; with_reducible refine (CB.out _).mono ?_; rintro e w' ⟨rfl, yy, rfl⟩))
    go_ret
    exact ⟨rfl, bel_alloc (BelW.below' _) _⟩
  | true =>
    obtain ⟨hvq, K1⟩ := J1.out rfl
    have g1 : decide (q < v) = false := decide_eq_false (by omega)
    have n1 : min v q = v := by omega
    have n2 : max v q = q := by omega
    rw [n1, n2] at CB
    have KK1 := Lib.hid K1
    clear K1
    cases bc with
    | false =>
      cases lo with
      | false =>
        obtain rfl : lv = 0 := J4.out rfl
        cases ba with
        | false =>
          go_enter Try.func6, Try.ntmps6
          go_wp2_with (first | (go_at_call 8; with_reducible refine (CS.out _).mono ?_; rintro e w' ⟨rfl, yy, rfl⟩) | (go_at_call 11; with_reducible refine (CRa.out _).mono ?_; rintro e w' ⟨rfl, yy, rfl⟩) | (go_at_call 11; with_reducible refine (CRb.out _).mono ?_; rintro e w' ⟨rfl, yy, rfl⟩) | (go_at_call 11; with_reducible refine (CRc.out _).mono ?_; rintro e w' ⟨rfl, yy, rfl⟩) | (go_at_call 17; with_reducible refine (CUaa.out _).mono ?_; rintro e w' ⟨rfl, yy, rfl⟩) | (go_at_call 17; with_reducible refine (CUab.out _).mono ?_; rintro e w' ⟨rfl, yy, rfl⟩) | (go_at_call 17; with_reducible refine (CUbc.out _).mono ?_; rintro e w' ⟨rfl, yy, rfl⟩) | (go_at_call 17; with_reducible refine (CUac.out _).mono ?_; rintro e w' ⟨rfl, yy, rfl⟩) | (go_at_call 17; with_reducible refine (CUba.out _).mono ?_; rintro e w' ⟨rfl, yy, rfl⟩) | (go_at_call 13; with_reducible refine (CAa.out _).mono ?_; rintro e w' ⟨rfl, yy, rfl⟩) | (go_at_call 13; with_reducible refine (CAb.out _).mono ?_; rintro e w' ⟨rfl, yy, rfl⟩) | (go_at_call 9; with_reducible refine (CLa.out _).mono ?_; rintro e w' ⟨rfl, yy, rfl⟩) | (go_at_call 9; with_reducible refine (CLb.out _).mono ?_; rintro e w' ⟨rfl, yy, rfl⟩) | (go_at_call 19; with_reducible refine (CB.out _).mono ?_; rintro e w' ⟨rfl, yy, rfl⟩))
          go_ret
          exact ⟨rfl, bel_alloc (BelW.below' _) _⟩
        | true =>
          obtain ⟨k1, k2⟩ := J2.out rfl
          cases mo with
          | true => have := (k2 rfl).1; cases this
          | false =>
            obtain rfl : mv = 0 := J5.out rfl
            obtain rfl : q = v := by omega
            clear k1 k2 n1 n2 hvq
            go_enter Try.func6, Try.ntmps6
            go_wp2_with (first | (go_at_call 8; with_reducible refine (CS.out _).mono ?_; rintro e w' ⟨rfl, yy, rfl⟩) | (go_at_call 11; with_reducible refine (CRa.out _).mono ?_; rintro e w' ⟨rfl, yy, rfl⟩) | (go_at_call 11; with_reducible refine (CRb.out _).mono ?_; rintro e w' ⟨rfl, yy, rfl⟩) | (go_at_call 11; with_reducible refine (CRc.out _).mono ?_; rintro e w' ⟨rfl, yy, rfl⟩) | (go_at_call 17; with_reducible refine (CUaa.out _).mono ?_; rintro e w' ⟨rfl, yy, rfl⟩) | (go_at_call 17; with_reducible refine (CUab.out _).mono ?_; rintro e w' ⟨rfl, yy, rfl⟩) | (go_at_call 17; with_reducible refine (CUbc.out _).mono ?_; rintro e w' ⟨rfl, yy, rfl⟩) | (go_at_call 17; with_reducible refine (CUac.out _).mono ?_; rintro e w' ⟨rfl, yy, rfl⟩) | (go_at_call 17; with_reducible refine (CUba.out _).mono ?_; rintro e w' ⟨rfl, yy, rfl⟩) | (go_at_call 13; with_reducible refine (CAa.out _).mono ?_; rintro e w' ⟨rfl, yy, rfl⟩) | (go_at_call 13; with_reducible refine (CAb.out _).mono ?_; rintro e w' ⟨rfl, yy, rfl⟩) | (go_at_call 9; with_reducible refine (CLa.out _).mono ?_; rintro e w' ⟨rfl, yy, rfl⟩) | (go_at_call 9; with_reducible refine (CLb.out _).mono ?_; rintro e w' ⟨rfl, yy, rfl⟩) | (go_at_call 19; with_reducible refine (CB.out _).mono ?_; rintro e w' ⟨rfl, yy, rfl⟩))
            go_ret
            exact ⟨rfl, bel_alloc (BelW.below' _) _⟩
      | true =>
        obtain ⟨rfl, k3⟩ := KK1.out rfl
        have g2 : decide (lv < mv) = false := decide_eq_false (by omega)
        cases ba with
        | false =>
          go_enter Try.func6, Try.ntmps6
          go_wp2_with (first | (go_at_call 8; with_reducible refine (CS.out _).mono ?_; rintro e w' ⟨rfl, yy, rfl⟩) | (go_at_call 11; with_reducible refine (CRa.out _).mono ?_; rintro e w' ⟨rfl, yy, rfl⟩) | (go_at_call 11; with_reducible refine (CRb.out _).mono ?_; rintro e w' ⟨rfl, yy, rfl⟩) | (go_at_call 11; with_reducible refine (CRc.out _).mono ?_; rintro e w' ⟨rfl, yy, rfl⟩) | (go_at_call 17; with_reducible refine (CUaa.out _).mono ?_; rintro e w' ⟨rfl, yy, rfl⟩) | (go_at_call 17; with_reducible refine (CUab.out _).mono ?_; rintro e w' ⟨rfl, yy, rfl⟩) | (go_at_call 17; with_reducible refine (CUbc.out _).mono ?_; rintro e w' ⟨rfl, yy, rfl⟩) | (go_at_call 17; with_reducible refine (CUac.out _).mono ?_; rintro e w' ⟨rfl, yy, rfl⟩) | (go_at_call 17; with_reducible refine (CUba.out _).mono ?_; rintro e w' ⟨rfl, yy, rfl⟩) | (go_at_call 13; with_reducible refine (CAa.out _).mono ?_; rintro e w' ⟨rfl, yy, rfl⟩) | (go_at_call 13; with_reducible refine (CAb.out _).mono ?_; rintro e w' ⟨rfl, yy, rfl⟩) | (go_at_call 9; with_reducible refine (CLa.out _).mono ?_; rintro e w' ⟨rfl, yy, rfl⟩) | (go_at_call 9; with_reducible refine (CLb.out _).mono ?_; rintro e w' ⟨rfl, yy, rfl⟩) | (go_at_call 19; with_reducible refine (CB.out _).mono ?_; rintro e w' ⟨rfl, yy, rfl⟩))
          go_ret
          exact ⟨rfl, bel_alloc (BelW.below' _) _⟩
        | true =>
          obtain ⟨k1, k2⟩ := J2.out rfl
          obtain ⟨_, k4⟩ := k2 rfl
          obtain rfl : q = v := by omega
          obtain rfl : mv = lv := by omega
          clear k1 k2 k3 k4 n1 n2 hvq
          go_enter Try.func6, Try.ntmps6
          go_wp2_with (first | (go_at_call 8; with_reducible refine (CS.out _).mono ?_; rintro e w' ⟨rfl, yy, rfl⟩) | (go_at_call 11; with_reducible refine (CRa.out _).mono ?_; rintro e w' ⟨rfl, yy, rfl⟩) | (go_at_call 11; with_reducible refine (CRb.out _).mono ?_; rintro e w' ⟨rfl, yy, rfl⟩) | (go_at_call 11; with_reducible refine (CRc.out _).mono ?_; rintro e w' ⟨rfl, yy, rfl⟩) | (go_at_call 17; with_reducible refine (CUaa.out _).mono ?_; rintro e w' ⟨rfl, yy, rfl⟩) | (go_at_call 17; with_reducible refine (CUab.out _).mono ?_; rintro e w' ⟨rfl, yy, rfl⟩) | (go_at_call 17; with_reducible refine (CUbc.out _).mono ?_; rintro e w' ⟨rfl, yy, rfl⟩) | (go_at_call 17; with_reducible refine (CUac.out _).mono ?_; rintro e w' ⟨rfl, yy, rfl⟩) | (go_at_call 17; with_reducible refine (CUba.out _).mono ?_; rintro e w' ⟨rfl, yy, rfl⟩) | (go_at_call 13; with_reducible refine (CAa.out _).mono ?_; rintro e w' ⟨rfl, yy, rfl⟩) | (go_at_call 13; with_reducible refine (CAb.out _).mono ?_; rintro e w' ⟨rfl, yy, rfl⟩) | (go_at_call 9; with_reducible refine (CLa.out _).mono ?_; rintro e w' ⟨rfl, yy, rfl⟩) | (go_at_call 9; with_reducible refine (CLb.out _).mono ?_; rintro e w' ⟨rfl, yy, rfl⟩) | (go_at_call 19; with_reducible refine (CB.out _).mono ?_; rintro e w' ⟨rfl, yy, rfl⟩))
          go_ret
          exact ⟨rfl, bel_alloc (BelW.below' _) _⟩
    | true =>
      obtain rfl : ac = true := J3.out rfl rfl
      cases lo with
      | false =>
        obtain rfl : lv = 0 := J4.out rfl
        cases ba with
        | false =>
          go_enter Try.func6, Try.ntmps6
          go_wp2_with (first | (go_at_call 8; with_reducible refine (CS.out _).mono ?_; rintro e w' ⟨rfl, yy, rfl⟩) | (go_at_call 11; with_reducible refine (CRa.out _).mono ?_; rintro e w' ⟨rfl, yy, rfl⟩) | (go_at_call 11; with_reducible refine (CRb.out _).mono ?_; rintro e w' ⟨rfl, yy, rfl⟩) | (go_at_call 11; with_reducible refine (CRc.out _).mono ?_; rintro e w' ⟨rfl, yy, rfl⟩) | (go_at_call 17; with_reducible refine (CUaa.out _).mono ?_; rintro e w' ⟨rfl, yy, rfl⟩) | (go_at_call 17; with_reducible refine (CUab.out _).mono ?_; rintro e w' ⟨rfl, yy, rfl⟩) | (go_at_call 17; with_reducible refine (CUbc.out _).mono ?_; rintro e w' ⟨rfl, yy, rfl⟩) | (go_at_call 17; with_reducible refine (CUac.out _).mono ?_; rintro e w' ⟨rfl, yy, rfl⟩) | (go_at_call 17; with_reducible refine (CUba.out _).mono ?_; rintro e w' ⟨rfl, yy, rfl⟩) | (go_at_call 13; with_reducible refine (CAa.out _).mono ?_; rintro e w' ⟨rfl, yy, rfl⟩) | (go_at_call 13; with_reducible refine (CAb.out _).mono ?_; rintro e w' ⟨rfl, yy, rfl⟩) | (go_at_call 9; with_reducible refine (CLa.out _).mono ?_; rintro e w' ⟨rfl, yy, rfl⟩) | (go_at_call 9; with_reducible refine (CLb.out _).mono ?_; rintro e w' ⟨rfl, yy, rfl⟩) | (go_at_call 19; with_reducible refine (CB.out _).mono ?_; rintro e w' ⟨rfl, yy, rfl⟩))
          go_ret
          exact ⟨rfl, bel_alloc (BelW.below' _) _⟩
        | true =>
          obtain ⟨k1, k2⟩ := J2.out rfl
          cases mo with
          | true => have := (k2 rfl).1; cases this
          | false =>
            obtain rfl : mv = 0 := J5.out rfl
            obtain rfl : q = v := by omega
            clear k1 k2 n1 n2 hvq
            go_enter Try.func6, Try.ntmps6
            go_wp2_with (first | (go_at_call 8; with_reducible refine (CS.out _).mono ?_; rintro e w' ⟨rfl, yy, rfl⟩) | (go_at_call 11; with_reducible refine (CRa.out _).mono ?_; rintro e w' ⟨rfl, yy, rfl⟩) | (go_at_call 11; with_reducible refine (CRb.out _).mono ?_; rintro e w' ⟨rfl, yy, rfl⟩) | (go_at_call 11; with_reducible refine (CRc.out _).mono ?_; rintro e w' ⟨rfl, yy, rfl⟩) | (go_at_call 17; with_reducible refine (CUaa.out _).mono ?_; rintro e w' ⟨rfl, yy, rfl⟩) | (go_at_call 17; with_reducible refine (CUab.out _).mono ?_; rintro e w' ⟨rfl, yy, rfl⟩) | (go_at_call 17; with_reducible refine (CUbc.out _).mono ?_; rintro e w' ⟨rfl, yy, rfl⟩) | (go_at_call 17; with_reducible refine (CUac.out _).mono ?_; rintro e w' ⟨rfl, yy, rfl⟩) | (go_at_call 17; with_reducible refine (CUba.out _).mono ?_; rintro e w' ⟨rfl, yy, rfl⟩) | (go_at_call 13; with_reducible refine (CAa.out _).mono ?_; rintro e w' ⟨rfl, yy, rfl⟩) | (go_at_call 13; with_reducible refine (CAb.out _).mono ?_; rintro e w' ⟨rfl, yy, rfl⟩) | (go_at_call 9; with_reducible refine (CLa.out _).mono ?_; rintro e w' ⟨rfl, yy, rfl⟩) | (go_at_call 9; with_reducible refine (CLb.out _).mono ?_; rintro e w' ⟨rfl, yy, rfl⟩) | (go_at_call 19; with_reducible refine (CB.out _).mono ?_; rintro e w' ⟨rfl, yy, rfl⟩))
            go_ret
            exact ⟨rfl, bel_alloc (BelW.below' _) _⟩
      | true =>
        obtain ⟨rfl, k3⟩ := KK1.out rfl
        have g2 : decide (lv < mv) = false := decide_eq_false (by omega)
        cases ba with
        | false =>
          go_enter Try.func6, Try.ntmps6
          go_wp2_with (first | (go_at_call 8; with_reducible refine (CS.out _).mono ?_; rintro e w' ⟨rfl, yy, rfl⟩) | (go_at_call 11; with_reducible refine (CRa.out _).mono ?_; rintro e w' ⟨rfl, yy, rfl⟩) | (go_at_call 11; with_reducible refine (CRb.out _).mono ?_; rintro e w' ⟨rfl, yy, rfl⟩) | (go_at_call 11; with_reducible refine (CRc.out _).mono ?_; rintro e w' ⟨rfl, yy, rfl⟩) | (go_at_call 17; with_reducible refine (CUaa.out _).mono ?_; rintro e w' ⟨rfl, yy, rfl⟩) | (go_at_call 17; with_reducible refine (CUab.out _).mono ?_; rintro e w' ⟨rfl, yy, rfl⟩) | (go_at_call 17; with_reducible refine (CUbc.out _).mono ?_; rintro e w' ⟨rfl, yy, rfl⟩) | (go_at_call 17; with_reducible refine (CUac.out _).mono ?_; rintro e w' ⟨rfl, yy, rfl⟩) | (go_at_call 17; with_reducible refine (CUba.out _).mono ?_; rintro e w' ⟨rfl, yy, rfl⟩) | (go_at_call 13; with_reducible refine (CAa.out _).mono ?_; rintro e w' ⟨rfl, yy, rfl⟩) | (go_at_call 13; with_reducible refine (CAb.out _).mono ?_; rintro e w' ⟨rfl, yy, rfl⟩) | (go_at_call 9; with_reducible refine (CLa.out _).mono ?_; rintro e w' ⟨rfl, yy, rfl⟩) | (go_at_call 9; with_reducible refine (CLb.out _).mono ?_; rintro e w' ⟨rfl, yy, rfl⟩) | (go_at_call 19; with_reducible refine (CB.out _).mono ?_; rintro e w' ⟨rfl, yy, rfl⟩))
          go_ret
          exact ⟨rfl, bel_alloc (BelW.below' _) _⟩
        | true =>
          obtain ⟨k1, k2⟩ := J2.out rfl
          obtain ⟨_, k4⟩ := k2 rfl
          obtain rfl : q = v := by omega
          obtain rfl : mv = lv := by omega
          clear k1 k2 k3 k4 n1 n2 hvq
          go_enter Try.func6, Try.ntmps6
          go_wp2_with (first | (go_at_call 8; with_reducible refine (CS.out _).mono ?_; rintro e w' ⟨rfl, yy, rfl⟩) | (go_at_call 11; with_reducible refine (CRa.out _).mono ?_; rintro e w' ⟨rfl, yy, rfl⟩) | (go_at_call 11; with_reducible refine (CRb.out _).mono ?_; rintro e w' ⟨rfl, yy, rfl⟩) | (go_at_call 11; with_reducible refine (CRc.out _).mono ?_; rintro e w' ⟨rfl, yy, rfl⟩) | (go_at_call 17; with_reducible refine (CUaa.out _).mono ?_; rintro e w' ⟨rfl, yy, rfl⟩) | (go_at_call 17; with_reducible refine (CUab.out _).mono ?_; rintro e w' ⟨rfl, yy, rfl⟩) | (go_at_call 17; with_reducible refine (CUbc.out _).mono ?_; rintro e w' ⟨rfl, yy, rfl⟩) | (go_at_call 17; with_reducible refine (CUac.out _).mono ?_; rintro e w' ⟨rfl, yy, rfl⟩) | (go_at_call 17; with_reducible refine (CUba.out _).mono ?_; rintro e w' ⟨rfl, yy, rfl⟩) | (go_at_call 13; with_reducible refine (CAa.out _).mono ?_; rintro e w' ⟨rfl, yy, rfl⟩) | (go_at_call 13; with_reducible refine (CAb.out _).mono ?_; rintro e w' ⟨rfl, yy, rfl⟩) | (go_at_call 9; with_reducible refine (CLa.out _).mono ?_; rintro e w' ⟨rfl, yy, rfl⟩) | (go_at_call 9; with_reducible refine (CLb.out _).mono ?_; rintro e w' ⟨rfl, yy, rfl⟩) | (go_at_call 19; with_reducible refine (CB.out _).mono ?_; rintro e w' ⟨rfl, yy, rfl⟩))
          go_ret
          exact ⟨rfl, bel_alloc (BelW.below' _) _⟩

end Go.Proofs.Ytonemgmmhjankaa
