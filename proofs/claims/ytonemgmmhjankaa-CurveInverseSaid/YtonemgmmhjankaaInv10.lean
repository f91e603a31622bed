/- CurveInverse: the walk. -/
import Derived.Test.YtonemgmmhjankaaCurveN
import Derived.Test.YtonemgmmhjankaaRowP
namespace Go.Proofs.Ytonemgmmhjankaa
open Go.RowKit
set_option linter.unusedVariables false
set_option linter.unusedSimpArgs false

theorem BelW.below {w : World} (x : BelW w) : Below w.heap.size w x.w := x.2
def PtR (w : World) (n : Nat) (s : Value) (wr : World) : Prop := ∃ k : Nat, k ≤ n ∧ s = .int .i64 (k : Int) ∧ ∃ y : BelW w, wr = y.w

set_option maxHeartbeats 8000000 in
set_option maxRecDepth 100000 in
theorem inv_any (A : Option Addr) (c : Nat) (l : List (Int × Int)) (hn : l.length ≤ 9223372036854775807) (x z y : Int) (x_b : -9223372036854775808 ≤ x ∧ x ≤ 9223372036854775807) (z_b : -9223372036854775808 ≤ z ∧ z ≤ 9223372036854775807) (y_b : -9223372036854775808 ≤ y ∧ y ≤ 9223372036854775807) (w : World) (hr : Rd w A (ptCells l)) :
    Calls Try.prog 4 #[.slice A l.length c, .int .i64 x, .int .i64 z, .int .i64 y] w fun e w' => e = .returned (.bool true) ∧ Below w.heap.size w w' := by
  refine rebase w (fun V hV x0 => ?_)
  subst hV
  have CS := Lib.hid (fun u : BelW V => bel_of (small_any u.w))
  by_cases h1 : 40 < l.length
  · have t1 : decide ((40 : Int) < (l.length : Int)) = true := decide_eq_true (by omega)
    go_enter Try.func4, Try.ntmps4
    go_wp2_with (go_at_call 8; refine (CS.out _).mono ?_; rintro e w' ⟨rfl, yy, rfl⟩)
    go_ret
    exact ⟨rfl, yy.2⟩
  have t1 : decide ((40 : Int) < (l.length : Int)) = false := decide_eq_false (by omega)
  by_cases hR : RightP l
  case neg =>
    have CR := Lib.hid (fun u : BelW V => bel_of (not_true rightB_iff hR ▸ right_is A c l hn u.w (hr.bel u)))
    clear hR hr
    go_enter Try.func4, Try.ntmps4
    go_wp2_with (first | (go_at_call 8; refine (CS.out _).mono ?_; rintro e w' ⟨rfl, yy, rfl⟩) | (go_at_call 11; refine (CR.out _).mono ?_; rintro e w' ⟨rfl, yy, rfl⟩))
    go_ret
    exact ⟨rfl, yy.2⟩
  have CR := Lib.hid (fun u : BelW V => bel_of (rightB_iff.2 hR ▸ right_is A c l hn u.w (hr.bel u)))
  by_cases hxz : z < x
  · have t2 : decide (z < x) = true := decide_eq_true hxz
    clear hR hr
    go_enter Try.func4, Try.ntmps4
    go_wp2_with (first | (go_at_call 8; refine (CS.out _).mono ?_; rintro e w' ⟨rfl, yy, rfl⟩) | (go_at_call 11; refine (CR.out _).mono ?_; rintro e w' ⟨rfl, yy, rfl⟩))
    go_ret
    exact ⟨rfl, yy.2⟩
  have t2 : decide (z < x) = false := decide_eq_false hxz
  have HR := Lib.hid hR
  have HRow := Lib.hid hr
  have hpos := hR.pos
  have hle := hR.le
  have CA := Lib.hid (fun (t : Int) (b1 : -9223372036854775808 ≤ t) (b2 : t ≤ 9223372036854775807) (v : Int) (e : atF l t = v) (u : BelW V) => bel_of (e ▸ at_any A c l hn t b1 b2 u.w (hr.bel u)))
  have CL := Lib.hid (fun (u : BelW V) => bel_of (least_is A c l hn y y_b.1 y_b.2 u.w (hr.bel u)))
  obtain ⟨v, hv⟩ : ∃ v, atF l x = v := ⟨_, rfl⟩
  obtain ⟨v', hv'⟩ : ∃ v', atF l z = v' := ⟨_, rfl⟩
  obtain ⟨Y0, hY0⟩ : ∃ Y, py l 0 = Y := ⟨_, rfl⟩
  obtain ⟨Yl, hYl⟩ : ∃ Y, py l (l.length - 1) = Y := ⟨_, rfl⟩
  have fx : Far x := by constructor <;> omega
  have fz : Far z := by constructor <;> omega
  have b1 := atF_mono hR fx fz (by omega)
  have b2 := atF_le hR fx
  rw [hv, hv'] at b1
  rw [hv, hY0, hYl] at b2
  have t3 : decide (v' < v) = false := decide_eq_false (by omega)
  have t4 : decide (v < Y0) = false := decide_eq_false (by omega)
  have t5 : decide (Yl < v) = false := decide_eq_false (by omega)
  have CAx := Lib.hid (CA.out x x_b.1 x_b.2 v hv)
  have CAz := Lib.hid (CA.out z z_b.1 z_b.2 v' hv')
  obtain ⟨ad, rfl, hadb, q1, q2⟩ := hr.pt (k := 0) (by omega)
  obtain ⟨ad', e', _, r1, r2⟩ := hr.pt (k := l.length - 1) (by omega)
  cases e'
  rw [hY0] at q2
  rw [hYl] at r2
  rw [show (0 : Nat) * 2 = 0 from rfl, show ad.add 0 = ad from by unfold Addr.add; rfl] at q1 q2
  have s2 := fun u : BelW V => BelW.cells q2 u
  have s3 := fun u : BelW V => BelW.cells r2 u
  have i2 : (0 : Int) < (l.length : Int) := by omega
  have w1 : IntKind.i64.wrap ((l.length : Int) - 1) = (l.length : Int) - 1 := IntWalk.i64_in _ (by omega)
  have w2 : ((l.length : Int) - 1).toNat = l.length - 1 := by omega
  have w3 : (0 : Int) ≤ (l.length : Int) - 1 := by omega
  have w4 : (l.length : Int) - 1 < (l.length : Int) := by omega
  clear q1 q2 r1 r2 b1 b2 hr hR
  have HV := Lib.hid hv
  have HYL := Lib.hid hYl
  clear hv hv' hY0 hYl
  have FX := Lib.hid fx
  clear fx fz
  go_enter Try.func4, Try.ntmps4
  go_wp2_with (first | (go_at_call 8; refine (CS.out _).mono ?_; rintro e w' ⟨rfl, yy, rfl⟩) | (go_at_call 11; refine (CR.out _).mono ?_; rintro e w' ⟨rfl, yy, rfl⟩) | (go_at_call 13; with_reducible refine (CAx.out _).mono ?_; rintro e w' ⟨rfl, yy, rfl⟩) | (go_at_call 13; with_reducible refine (CAz.out _).mono ?_; rintro e w' ⟨rfl, yy, rfl⟩))
  go_loopw [12] (fun s wr => PtR V l.length s wr) (fun i _ => l.length - (intOf i).toNat)
  case atStart => exact ⟨0, by omega, rfl, _, rfl⟩
  case round =>
    obtain ⟨k, hk, rfl, u, rfl⟩ := hrel
    by_cases hlt : k < l.length
    · have i1 : (0 : Int) ≤ (k : Int) := by omega
      have i3 : (k : Int) < (l.length : Int) := by omega
      obtain ⟨ad', e', _, q1, q2⟩ := HRow.out.pt (k := k) hlt
      cases e'
      obtain ⟨o1, o2, o3, o4, _⟩ := HR.out.ok k hlt
      have hp := atF_point HR.out hlt
      have m1 : x ≤ px l k → v ≤ py l k := fun h => by have := atF_mono HR.out FX.out (by constructor <;> omega) h; rw [hp, HV.out] at this; exact this
      have m2 : px l k ≤ x → py l k ≤ v := fun h => by have := atF_mono HR.out (by constructor <;> omega) FX.out h; rw [hp, HV.out] at this; exact this
      have CAk := Lib.hid (CA.out (px l k) (by omega) (by omega) _ hp)
      generalize px l k = X at *
      generalize py l k = Y at *
      have d1 := fun u : BelW V => BelW.cells q1 u
      have d2 := fun u : BelW V => BelW.cells q2 u
      have n1 : (!(Y == Y)) = false := by simp
      clear q1 q2 o1 o2 o3 o4 hp
      go_upto_region 11 with fail
      rcases c1 : decide (x ≤ X) with _ | _
      · have hx := of_decide_eq_false c1
        have c2 : decide (X ≤ x) = true := decide_eq_true (by omega)
        have c4 : decide (v < Y) = false := decide_eq_false (by have := m2 (by omega); omega)
        clear m1 m2 hx
        refine wp_region_belx (by kernel_rfl) (by kernel_rfl) ?_
        repeat (go_big_quiet_step ((go_at_call 13; with_reducible exact CAk.out _)))
        refine wpQuiet_nil ?_
        intro z1
        go_wp2_with fail
        go_roundw
        case rel => exact ⟨k + 1, by omega, by go_num, z1, rfl⟩
        case measure => simp [intOf]; omega
      · have hx := of_decide_eq_true c1
        have c3 : decide (Y < v) = false := decide_eq_false (by have := m1 hx; omega)
        rcases c2 : decide (X ≤ x) with _ | _
        · clear m1 m2 hx
          refine wp_region_belx (by kernel_rfl) (by kernel_rfl) ?_
          repeat (go_big_quiet_step ((go_at_call 13; with_reducible exact CAk.out _)))
          refine wpQuiet_nil ?_
          intro z1
          go_wp2_with fail
          go_roundw
          case rel => exact ⟨k + 1, by omega, by go_num, z1, rfl⟩
          case measure => simp [intOf]; omega
        · have c4 : decide (v < Y) = false := decide_eq_false (by have := m2 (of_decide_eq_true c2); omega)
          clear m1 m2 hx
          refine wp_region_belx (by kernel_rfl) (by kernel_rfl) ?_
          repeat (go_big_quiet_step ((go_at_call 13; with_reducible exact CAk.out _)))
          refine wpQuiet_nil ?_
          intro z1
          go_wp2_with fail
          go_roundw
          case rel => exact ⟨k + 1, by omega, by go_num, z1, rfl⟩
          case measure => simp [intOf]; omega
    · have i3 : decide ((k : Int) < (l.length : Int)) = false := decide_eq_false (by omega)
      by_cases hy : y ≤ Yl
      · have hyy : y ≤ py l (l.length - 1) := by rw [HYL.out]; exact hy
        obtain ⟨lv, e1, e2, e3, e4, e5⟩ := least_spec HR.out hyy
        rw [e1] at CL
        have CL' := Lib.hid (show ∀ u : BelW V, Calls Try.prog 9 #[.slice (some ad) l.length c, .int .i64 y] u.w fun e w' => e = .returned (.tuple #[.int .i64 lv, .bool true]) ∧ ∃ z : BelW V, w' = z.w from CL.out)
        clear CL e1 hyy
        obtain ⟨a1, ha1⟩ : ∃ a, atF l lv = a := ⟨_, rfl⟩
        have CA1 := Lib.hid (CA.out lv (by omega) (by omega) a1 ha1)
        have g1 : decide (y ≤ Yl) = true := decide_eq_true hy
        have g2 : decide (lv < 0) = false := decide_eq_false (by omega)
        have g3 : decide (a1 < y) = false := decide_eq_false (by omega)
        have last : (decide (y ≤ v) == decide (lv ≤ x)) = true ∨ x < 0 := by
          by_cases hx0 : x < 0
          · exact .inr hx0
          · refine .inl ?_
            by_cases h : lv ≤ x
            · have := atF_mono HR.out (x := lv) (z := x) (by constructor <;> omega) FX.out h
              rw [HV.out] at this
              rw [decide_eq_true h, decide_eq_true (show y ≤ v by omega)]; rfl
            · have := atF_mono HR.out (x := x) (z := lv - 1) FX.out (by constructor <;> omega) (by omega)
              rw [HV.out] at this
              have := e5 (by omega)
              rw [decide_eq_false h, decide_eq_false (show ¬ y ≤ v by omega)]; rfl
        have LAST := Lib.hid last
        clear last
        by_cases h0 : 0 < lv
        · have g4 : decide (0 < lv) = true := decide_eq_true h0
          obtain ⟨a2, ha2⟩ : ∃ a, atF l (lv - 1) = a := ⟨_, rfl⟩
          have CA2 := Lib.hid (CA.out (lv - 1) (by omega) (by omega) a2 ha2)
          have w5 : IntKind.i64.wrap (lv - 1) = lv - 1 := IntWalk.i64_in _ (by omega)
          have g5 : decide (y ≤ a2) = false := decide_eq_false (by have := e5 h0; omega)
          clear e4 e5 ha1 ha2
          rcases p1 : decide (x < 0) with _ | _
          · have LS : (decide (y ≤ v) == decide (lv ≤ x)) = true := LAST.out.resolve_right (by have := of_decide_eq_false p1; omega)
            rcases p2 : decide (y ≤ v) with _ | _ <;> rcases p3 : decide (lv ≤ x) with _ | _ <;> rw [p2, p3] at LS <;> first | (cases LS; done) | skip
            all_goals
              clear LS
              go_wp2_with (first | (go_at_call 9; refine (CL'.out _).mono ?_; rintro e w' ⟨rfl, yy, rfl⟩) | (go_at_call 13; with_reducible refine (CA1.out _).mono ?_; rintro e w' ⟨rfl, yy, rfl⟩) | (go_at_call 13; with_reducible refine (CA2.out _).mono ?_; rintro e w' ⟨rfl, yy, rfl⟩))
              go_ret
              exact ⟨rfl, BelW.below _⟩
          · go_wp2_with (first | (go_at_call 9; refine (CL'.out _).mono ?_; rintro e w' ⟨rfl, yy, rfl⟩) | (go_at_call 13; with_reducible refine (CA1.out _).mono ?_; rintro e w' ⟨rfl, yy, rfl⟩) | (go_at_call 13; with_reducible refine (CA2.out _).mono ?_; rintro e w' ⟨rfl, yy, rfl⟩))
            go_ret
            exact ⟨rfl, BelW.below _⟩
        · have g4 : decide (0 < lv) = false := decide_eq_false h0
          clear e4 e5 ha1
          rcases p1 : decide (x < 0) with _ | _
          · have LS : (decide (y ≤ v) == decide (lv ≤ x)) = true := LAST.out.resolve_right (by have := of_decide_eq_false p1; omega)
            rcases p2 : decide (y ≤ v) with _ | _ <;> rcases p3 : decide (lv ≤ x) with _ | _ <;> rw [p2, p3] at LS <;> first | (cases LS; done) | skip
            all_goals
              clear LS
              go_wp2_with (first | (go_at_call 9; refine (CL'.out _).mono ?_; rintro e w' ⟨rfl, yy, rfl⟩) | (go_at_call 13; with_reducible refine (CA1.out _).mono ?_; rintro e w' ⟨rfl, yy, rfl⟩))
              go_ret
              exact ⟨rfl, BelW.below _⟩
          · go_wp2_with (first | (go_at_call 9; refine (CL'.out _).mono ?_; rintro e w' ⟨rfl, yy, rfl⟩) | (go_at_call 13; with_reducible refine (CA1.out _).mono ?_; rintro e w' ⟨rfl, yy, rfl⟩))
            go_ret
            exact ⟨rfl, BelW.below _⟩
      · have hyy : ¬ y ≤ py l (l.length - 1) := by rw [HYL.out]; exact hy
        rw [least_no hyy] at CL
        have CL' := Lib.hid (show ∀ u : BelW V, Calls Try.prog 9 #[.slice (some ad) l.length c, .int .i64 y] u.w fun e w' => e = .returned (.tuple #[.int .i64 0, .bool false]) ∧ ∃ z : BelW V, w' = z.w from CL.out)
        clear CL hyy
        have g1 : decide (y ≤ Yl) = false := decide_eq_false hy
        have g2 : decide (y ≤ v) = false := decide_eq_false (by have := of_decide_eq_false t5; omega)
        rcases p1 : decide (x < 0) with _ | _
        all_goals
          go_wp2_with (go_at_call 9; refine (CL'.out _).mono ?_; rintro e w' ⟨rfl, yy, rfl⟩)
          go_ret
          exact ⟨rfl, BelW.below _⟩

end Go.Proofs.Ytonemgmmhjankaa
