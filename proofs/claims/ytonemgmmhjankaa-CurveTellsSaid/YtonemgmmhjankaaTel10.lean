/- CurveTells: the walk. -/
import Derived.Test.YtonemgmmhjankaaCRefB
import Derived.Test.YtonemgmmhjankaaRowP
import Derived.Test.YtonemgmmhjankaaSmall10
namespace Go.Proofs.Ytonemgmmhjankaa
open Go.RowKit
set_option linter.unusedVariables false
set_option linter.unusedSimpArgs false

set_option maxHeartbeats 16000000 in
set_option maxRecDepth 100000 in
theorem tel_any (A B : Option Addr) (ca cb : Nat) (a b : List (Int × Int)) (hna : a.length ≤ 9223372036854775807) (hnb : b.length ≤ 9223372036854775807) (x y n d : Int) (x1 : -9223372036854775808 ≤ x ∧ x ≤ 9223372036854775807) (y1 : -9223372036854775808 ≤ y ∧ y ≤ 9223372036854775807) (w : World) (hra : Rd w A (ptCells a)) (hrb : Rd w B (ptCells b)) :
    Calls Try.prog 3 #[.slice A a.length ca, .slice B b.length cb, .int .i64 x, .int .i64 y, .int .i64 n, .int .i64 d] w fun e w' => e = .returned (.bool true) ∧ Below w.heap.size w w' := by
  refine rebase w (fun V hV x0 => ?_)
  subst hV
  have CS := Lib.hid (fun u : BelW V => bel_of (small_any u.w))
  by_cases h1 : 40 < a.length
  · have t1 : decide ((40 : Int) < (a.length : Int)) = true := decide_eq_true (by omega)
    clear hra hrb x1 y1
    go_enter Try.func3, Try.ntmps3
    go_wp2_with (first | (go_at_call 8; with_reducible refine (CS.out _).mono ?_; rintro e w' ⟨rfl, yy, rfl⟩))
    go_ret
    exact ⟨rfl, BelW.below10 _⟩
  have t1 : decide ((40 : Int) < (a.length : Int)) = false := decide_eq_false (by omega)
  by_cases h2 : 40 < b.length
  · have t2 : decide ((40 : Int) < (b.length : Int)) = true := decide_eq_true (by omega)
    clear hra hrb x1 y1
    go_enter Try.func3, Try.ntmps3
    go_wp2_with (first | (go_at_call 8; with_reducible refine (CS.out _).mono ?_; rintro e w' ⟨rfl, yy, rfl⟩))
    go_ret
    exact ⟨rfl, BelW.below10 _⟩
  have t2 : decide ((40 : Int) < (b.length : Int)) = false := decide_eq_false (by omega)
  have C1 := Lib.hid (fun u : BelW V => bel_of (x := u) (least_is A ca a hna y y1.1 y1.2 u.w (hra.bel u)))
  have C2 := Lib.hid (fun u : BelW V => bel_of (x := u) (rleast_any A ca a hna y u.w (hra.bel u)))
  have C3 := Lib.hid (fun u : BelW V => bel_of (x := u) (right_is A ca a hna u.w (hra.bel u)))
  have C4 := Lib.hid (fun u : BelW V => bel_of (x := u) (rright_is A ca a hna u.w (hra.bel u)))
  have C5 := Lib.hid (fun u : BelW V => bel_of (x := u) (at_any A ca a hna x x1.1 x1.2 u.w (hra.bel u)))
  have C6 := Lib.hid (fun u : BelW V => bel_of (x := u) (rat_any A ca a hna x u.w (hra.bel u)))
  have HA := Lib.hid hra
  have HB := Lib.hid hrb
  have X1 := Lib.hid x1
  obtain ⟨m, mo, hl⟩ : ∃ m mo, leastF a y = (m, mo) := ⟨_, _, rfl⟩
  rw [hl] at C1 C2
  obtain ⟨rb, hrb'⟩ : ∃ r, rightB a = r := ⟨_, rfl⟩
  rw [hrb'] at C3 C4
  obtain ⟨v, hv⟩ : ∃ v, atF a x = v := ⟨_, rfl⟩
  rw [hv] at C5 C6
  clear hra hrb x1 y1 h1 h2 hl hrb' hv
  go_enter Try.func3, Try.ntmps3
  go_upto_region 9 with (first | (go_at_call 8; with_reducible refine (CS.out _).mono ?_; rintro e w' ⟨rfl, yy, rfl⟩) | (go_at_call 9; with_reducible refine (C1.out _).mono ?_; rintro e w' ⟨rfl, yy, rfl⟩) | (go_at_call 10; with_reducible refine (C2.out _).mono ?_; rintro e w' ⟨rfl, yy, rfl⟩) | (go_at_call 11; with_reducible refine (C3.out _).mono ?_; rintro e w' ⟨rfl, yy, rfl⟩) | (go_at_call 12; with_reducible refine (C4.out _).mono ?_; rintro e w' ⟨rfl, yy, rfl⟩) | (go_at_call 13; with_reducible refine (C5.out _).mono ?_; rintro e w' ⟨rfl, yy, rfl⟩) | (go_at_call 14; with_reducible refine (C6.out _).mono ?_; rintro e w' ⟨rfl, yy, rfl⟩))
  refine wp_rebase _ (fun U hU z0 => ?_)
  have HBU := Lib.hid (bel_at hU (bel_alloc yy.2 _))
  have HCU := Lib.hid (Cs.at hU ((Cs.nil yy.w).alloc _ _))
  have hu := HCU.out.bx
  simp only [Bx, newCells, join, World.size_alloc] at hu
  clear hU C1 C2 C3 C4 C5 C6 CS
  have HAU := Lib.hid (HA.out.below (Nat.le_refl _) HBU.out)
  have HBB := Lib.hid (HB.out.below (Nat.le_refl _) HBU.out)
  have C1 := Lib.hid (fun u : BelW U => bel_of (x := u) (slope_is A ca a hna n d u.w (HAU.out.bel u)))
  have C2 := Lib.hid (fun u : BelW U => bel_of (x := u) (rslope_is A ca a hna n d u.w (HAU.out.bel u)))
  have C3 := Lib.hid (fun u : BelW U => bel_of (x := u) (under_is A B ca cb a b hna hnb u.w (HAU.out.bel u) (HBB.out.bel u)))
  have C4 := Lib.hid (fun u : BelW U => bel_of (x := u) (runder_is A B ca cb a b hna hnb u.w (HAU.out.bel u) (HBB.out.bel u)))
  have C5 := Lib.hid (fun u : BelW U => bel_of (x := u) (band_any A B ca cb a b hna hnb x X1.out.1 X1.out.2 u.w (HAU.out.bel u) (HBB.out.bel u)))
  have C6 := Lib.hid (fun u : BelW U => bel_of (x := u) (rband_any A B ca cb a b hna hnb x u.w (HAU.out.bel u) (HBB.out.bel u)))
  obtain ⟨sl, hsl⟩ : ∃ r, slopeB a n d = r := ⟨_, rfl⟩
  rw [hsl] at C1 C2
  obtain ⟨un, hun⟩ : ∃ r, underB a b = r := ⟨_, rfl⟩
  rw [hun] at C3 C4
  obtain ⟨lo, hlo⟩ : ∃ r, min (atF a x) (atF b x) = r := ⟨_, rfl⟩
  obtain ⟨hi, hhi⟩ : ∃ r, max (atF a x) (atF b x) = r := ⟨_, rfl⟩
  rw [hlo, hhi] at C5 C6
  clear hsl hun hlo hhi
  refine wp_region_belx (by kernel_rfl) (by kernel_rfl) ?_
  repeat (go_big_quiet_step ((first | (go_at_call 15; with_reducible exact C1.out _) | (go_at_call 16; with_reducible exact C2.out _) | (go_at_call 17; with_reducible exact C3.out _) | (go_at_call 18; with_reducible exact C4.out _) | (go_at_call 19; with_reducible exact C5.out _) | (go_at_call 20; with_reducible exact C6.out _))))
  refine wpQuiet_nil ?_
  intro z1
  go_wp2_with fail
  go_ret
  exact ⟨rfl, below_next HBU.out (BelW.below10 _)⟩

end Go.Proofs.Ytonemgmmhjankaa
