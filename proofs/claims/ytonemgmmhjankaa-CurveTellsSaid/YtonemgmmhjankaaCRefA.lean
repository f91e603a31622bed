/- bourneref10: vol, Right, value, At. -/
import Derived.Test.YtonemgmmhjankaaCurveN
import Derived.Test.YtonemgmmhjankaaRefS
import Derived.Test.YtonemgmmhjankaaBand
import Derived.Test.YtonemgmmhjankaaLoad
namespace Go.Proofs.Ytonemgmmhjankaa
open Go.RowKit Go.Shelf
set_option linter.unusedVariables false
set_option linter.unusedSimpArgs false

theorem BelW.below10 {w : World} (x : BelW w) : Below w.heap.size w x.w := x.2
def volB (n : Int) : Bool := decide (0 ≤ n) && decide (n ≤ 1125899906842624)
theorem volB_iff {n : Int} : volB n = true ↔ 0 ≤ n ∧ n ≤ 1125899906842624 := by unfold volB; rw [Bool.and_eq_true, decide_eq_true_eq, decide_eq_true_eq]
theorem volB_no {n : Int} (h : volB n = false) : ¬ (0 ≤ n ∧ n ≤ 1125899906842624) := fun h' => by rw [volB_iff.2 h'] at h; cases h
theorem vol_any (n : Int) (w : World) :
    Calls Try.prog 24 #[.int .i64 n] w fun e w' => e = .returned (.bool (volB n)) ∧ w = w' := by
  unfold volB
  rcases h1 : decide (0 ≤ n) with _ | _
  · go_enter Try.func24, Try.ntmps24
    go_wp2_with fail
    go_ret
    exact ⟨rfl, rfl⟩
  · go_enter Try.func24, Try.ntmps24
    go_wp2_with fail
    go_ret
    exact ⟨rfl, rfl⟩
theorem vol_c {V : World} (n : Int) (b : Bool) (h : volB n = b) (y : BelW V) :
    Calls Try.prog 24 #[.int .i64 n] y.w fun e w' => e = .returned (.bool b) ∧ ∃ z : BelW V, w' = z.w :=
  bel_of_same (by have h' := vol_any n y.w; rw [h] at h'; exact h')

/-! Right -/
def RRight (l : List (Int × Int)) (w : World) (s3 : Value) (wr : World) : Prop := ∃ k : Nat, k ≤ l.length ∧ s3 = .int .i64 (k : Int) ∧ (∀ j, j < k → PtOk l j) ∧ ∃ y : BelW w, wr = y.w
set_option maxHeartbeats 8000000 in
set_option maxRecDepth 100000 in
theorem rright_any (A : Option Addr) (c : Nat) (l : List (Int × Int)) (hn : l.length ≤ 9223372036854775807) (w : World) (hr : Rd w A (ptCells l)) :
    Calls Try.prog 12 #[.slice A l.length c] w (RightPost l w) := by
  have HRow := Lib.hid hr
  clear hr
  go_enter Try.func12, Try.ntmps12
  go_wp2_with fail
  go_loopw [3] (fun s3 wr => RRight l w s3 wr) (fun i _ => l.length - (intOf i).toNat)
  case atStart => exact ⟨0, by omega, rfl, fun j hj => absurd hj (Nat.not_lt_zero _), ⟨w, Below.refl _ _⟩, rfl⟩
  case round =>
    obtain ⟨k, hk, rfl, hok, y0, rfl⟩ := hrel
    have HOK := Lib.hid hok
    clear hok
    by_cases hlt : k < l.length
    · have i1 : (0 : Int) ≤ (k : Int) := by omega
      have i2 : (k : Int) < (l.length : Int) := by omega
      obtain ⟨ad, rfl, hadb, q1, q2⟩ := HRow.out.pt hlt
      obtain ⟨x, hx⟩ : ∃ x, px l k = x := ⟨_, rfl⟩
      obtain ⟨y, hy⟩ : ∃ y, py l k = y := ⟨_, rfl⟩
      rw [hx] at q1
      rw [hy] at q2
      have s1 := fun z : BelW w => BelW.cells q1 z
      have s2 := fun z : BelW w => BelW.cells q2 z
      have HX := Lib.hid hx
      have HY := Lib.hid hy
      have HBAD := Lib.hid (show ¬ PtOk l k → ¬ RightP l from fun h h' => h (h'.ok k hlt))
      clear hx hy q1 q2
      rcases b1 : volB x with _ | _
      · have hno := HBAD.out (fun h => by have := volB_no b1; rw [← HX.out] at this; exact this ⟨h.1, h.2.1⟩)
        have C1 := Lib.hid (fun u : BelW w => vol_c x false b1 u)
        clear b1
        go_upto_region 4 with fail
        refine wp_region_belx (by kernel_rfl) (by kernel_rfl) ?_
        repeat (go_big_quiet_step ((first | (go_at_call 24; with_reducible exact C1.out _))))
        refine wpQuiet_nil ?_
        intro z1
        go_wp2_with fail
        go_ret
        exact rightPost_no hno z1.2
      have C1 := Lib.hid (fun u : BelW w => vol_c x true b1 u)
      rcases b2 : volB y with _ | _
      · have hno := HBAD.out (fun h => by have := volB_no b2; rw [← HY.out] at this; exact this ⟨h.2.2.1, h.2.2.2.1⟩)
        have C2 := Lib.hid (fun u : BelW w => vol_c y false b2 u)
        clear b1 b2
        go_upto_region 4 with fail
        refine wp_region_belx (by kernel_rfl) (by kernel_rfl) ?_
        repeat (go_big_quiet_step ((first | (go_at_call 24; with_reducible exact C1.out _) | (go_at_call 24; with_reducible exact C2.out _))))
        refine wpQuiet_nil ?_
        intro z1
        go_wp2_with fail
        go_ret
        exact rightPost_no hno z1.2
      have C2 := Lib.hid (fun u : BelW w => vol_c y true b2 u)
      have HV := Lib.hid (And.intro (volB_iff.1 b1) (volB_iff.1 b2))
      clear b1 b2
      by_cases hk0 : 0 < k
      · have t0 : decide ((0 : Int) < (k : Int)) = true := decide_eq_true (by omega)
        obtain ⟨ad', e', _, r1, r2⟩ := HRow.out.pt (k := k - 1) (by omega)
        cases e'
        obtain ⟨x', hx'⟩ : ∃ x', px l (k - 1) = x' := ⟨_, rfl⟩
        obtain ⟨y', hy'⟩ : ∃ y', py l (k - 1) = y' := ⟨_, rfl⟩
        rw [hx'] at r1
        rw [hy'] at r2
        have s3 := fun z : BelW w => BelW.cells r1 z
        have s4 := fun z : BelW w => BelW.cells r2 z
        have w1 : IntKind.i64.wrap ((k : Int) - 1) = (k : Int) - 1 := IntWalk.i64_in _ (by omega)
        have w2 : ((k : Int) - 1).toNat = k - 1 := by omega
        have w3 : (0 : Int) ≤ (k : Int) - 1 := by omega
        have w4 : (k : Int) - 1 < (l.length : Int) := by omega
        have HX' := Lib.hid hx'
        have HY' := Lib.hid hy'
        clear hx' hy' r1 r2
        rcases b5 : decide (x ≤ x') with _ | _
        · rcases b6 : decide (y < y') with _ | _
          · go_upto_region 4 with fail
            refine wp_region_belx (by kernel_rfl) (by kernel_rfl) ?_
            repeat (go_big_quiet_step ((first | (go_at_call 24; with_reducible exact C1.out _) | (go_at_call 24; with_reducible exact C2.out _))))
            refine wpQuiet_nil ?_
            intro z1
            clear w1 w2 w3 w4
            go_wp2_with fail
            go_roundw
            case rel =>
              refine ⟨k + 1, by omega, by go_num, fun j hj => ?_, z1, rfl⟩
              by_cases hjk : j < k
              · exact HOK.out j hjk
              · obtain rfl : j = k := by omega
                simp only [decide_eq_false_iff_not] at b5 b6
                have hv := HV.out
                exact ⟨by rw [HX.out]; omega, by rw [HX.out]; omega, by rw [HY.out]; omega, by rw [HY.out]; omega, fun _ => by rw [HX.out, HY.out, HX'.out, HY'.out]; omega⟩
            case measure => simp [intOf]; omega
          · have hno := HBAD.out (fun h => by have := (h.2.2.2.2 hk0).2; rw [HY.out, HY'.out] at this; have := of_decide_eq_true b6; omega)
            go_upto_region 4 with fail
            refine wp_region_belx (by kernel_rfl) (by kernel_rfl) ?_
            repeat (go_big_quiet_step ((first | (go_at_call 24; with_reducible exact C1.out _) | (go_at_call 24; with_reducible exact C2.out _))))
            refine wpQuiet_nil ?_
            intro z1
            go_wp2_with fail
            go_ret
            exact rightPost_no hno z1.2
        · have hno := HBAD.out (fun h => by have := (h.2.2.2.2 hk0).1; rw [HX.out, HX'.out] at this; have := of_decide_eq_true b5; omega)
          go_upto_region 4 with fail
          refine wp_region_belx (by kernel_rfl) (by kernel_rfl) ?_
          repeat (go_big_quiet_step ((first | (go_at_call 24; with_reducible exact C1.out _) | (go_at_call 24; with_reducible exact C2.out _))))
          refine wpQuiet_nil ?_
          intro z1
          go_wp2_with fail
          go_ret
          exact rightPost_no hno z1.2
      · have t0 : decide ((0 : Int) < (k : Int)) = false := decide_eq_false (by omega)
        go_upto_region 4 with fail
        refine wp_region_belx (by kernel_rfl) (by kernel_rfl) ?_
        repeat (go_big_quiet_step ((first | (go_at_call 24; with_reducible exact C1.out _) | (go_at_call 24; with_reducible exact C2.out _))))
        refine wpQuiet_nil ?_
        intro z1
        go_wp2_with fail
        go_roundw
        case rel =>
          refine ⟨k + 1, by omega, by go_num, fun j hj => ?_, z1, rfl⟩
          by_cases hjk : j < k
          · exact HOK.out j hjk
          · obtain rfl : j = k := by omega
            have hv := HV.out
            exact ⟨by rw [HX.out]; omega, by rw [HX.out]; omega, by rw [HY.out]; omega, by rw [HY.out]; omega, fun h0 => absurd h0 hk0⟩
        case measure => simp [intOf]; omega
    · have i2 : decide ((k : Int) < (l.length : Int)) = false := decide_eq_false (by omega)
      have HALL := Lib.hid (show ∀ j, j < l.length → PtOk l j from fun j hj => HOK.out j (by omega))
      clear HOK
      by_cases h1 : 1 ≤ l.length
      · have t1 : decide ((1 : Int) ≤ (l.length : Int)) = true := decide_eq_true (by omega)
        by_cases h2 : l.length ≤ 32
        · have t2 : decide ((l.length : Int) ≤ 32) = true := decide_eq_true (by omega)
          go_wp2_with fail
          go_ret
          exact ⟨true, rfl, ⟨fun _ => ⟨h1, h2, HALL.out⟩, fun _ => rfl⟩, y0.2⟩
        · have t2 : decide ((l.length : Int) ≤ 32) = false := decide_eq_false (by omega)
          go_wp2_with fail
          go_ret
          exact rightPost_no (fun h => h2 h.le) y0.2
      · have t1 : decide ((1 : Int) ≤ (l.length : Int)) = false := decide_eq_false (by omega)
        go_wp2_with fail
        go_ret
        exact rightPost_no (fun h => h1 h.pos) y0.2
theorem rright_is (A : Option Addr) (c : Nat) (l : List (Int × Int)) (hn : l.length ≤ 9223372036854775807) (w : World) (hr : Rd w A (ptCells l)) :
    Calls Try.prog 12 #[.slice A l.length c] w fun e w' => e = .returned (.bool (rightB l)) ∧ Below w.heap.size w w' :=
  (rright_any A c l hn w hr).mono fun e w' ⟨b, h1, h2, h3⟩ => by
    have : b = rightB l := by rw [Bool.eq_iff_iff, h2, rightB_iff]
    exact ⟨this ▸ h1, h3⟩

/-! value -/
theorem cv_seg {l : List (Int × Int)} (hR : RightP l) {x : Int} {k : Nat} (h1 : 1 ≤ k) (h2 : k < l.length) (hl : px l (k - 1) < x) (hu : x ≤ px l k) :
    cv l x = (py l (k - 1) + (x - px l (k - 1)) * (py l k - py l (k - 1)) / (px l k - px l (k - 1)), decide (0 < (x - px l (k - 1)) * (py l k - py l (k - 1)) % (px l k - px l (k - 1)))) := by
  by_cases e : x = px l k
  · subst e
    rw [cv_point hR h2, Int.mul_ediv_cancel_left _ (by omega), Int.mul_emod_right]
    simp only [Prod.mk.injEq]
    exact ⟨by omega, rfl⟩
  · have hI : IsIdx l x k := ⟨by omega, fun t ht => by
      by_cases h : t = k - 1
      · subst h; omega
      · have := hR.mono (k - 1) t (by omega) (by omega); omega, fun t a b => by
      by_cases h : t = k
      · subst h; omega
      · have := hR.mono t k (by omega) b; omega⟩
    rw [cv_at hI]
    unfold cval
    rw [if_neg (by omega), if_neg (by omega)]
def RVal (l : List (Int × Int)) (x : Int) (w : World) (s6 : Value) (wr : World) : Prop := ∃ k : Nat, 1 ≤ k ∧ k ≤ l.length ∧ s6 = .int .i64 (k : Int) ∧ px l (k - 1) < x ∧ ∃ y : BelW w, wr = y.w
set_option maxHeartbeats 8000000 in
set_option maxRecDepth 100000 in
theorem rvalue_any (A : Option Addr) (c : Nat) (l : List (Int × Int)) (hR : RightP l) (x : Int) (w : World) (hr : Rd w A (ptCells l)) :
    Calls Try.prog 26 #[.slice A l.length c, .int .i64 x] w fun e w' => e = .returned (.tuple #[.int .i64 (cv l x).1, .bool (cv l x).2]) ∧ Below w.heap.size w w' := by
  have HRow := Lib.hid hr
  have HR := Lib.hid hR
  obtain ⟨v, m, hvm⟩ : ∃ v m, cv l x = (v, m) := ⟨_, _, rfl⟩
  rw [hvm]
  have HVM := Lib.hid hvm
  have hpos := hR.pos
  have hle := hR.le
  have i0 : (0 : Int) < (l.length : Int) := by omega
  obtain ⟨ad, e, hadb, q1, q2⟩ := hr.pt hpos
  subst e
  obtain ⟨x0, hx0⟩ : ∃ v, px l 0 = v := ⟨_, rfl⟩
  obtain ⟨y0, hy0⟩ : ∃ v, py l 0 = v := ⟨_, rfl⟩
  rw [show (0 : Nat) * 2 = 0 from rfl, show ad.add 0 = ad from by unfold Addr.add; rfl] at q1 q2
  rw [hx0] at q1
  rw [hy0] at q2
  by_cases h0 : x ≤ x0
  · have t0 : decide (x ≤ x0) = true := decide_eq_true h0
    have hc := cv_left hR (x := x) (by omega)
    rw [hvm, hy0] at hc
    obtain ⟨rfl, rfl⟩ := Prod.mk.injEq .. ▸ hc
    clear hc hvm hr hR h0 hx0 hy0
    go_enter Try.func26, Try.ntmps26
    go_wp2_with fail
    go_ret2
    exact ⟨rfl, Below.refl _ _⟩
  have t0 : decide (x ≤ x0) = false := decide_eq_false h0
  have HX0 := Lib.hid (show px l (1 - 1) < x by show px l 0 < x; omega)
  clear hvm hr hR h0 hx0 hy0
  go_enter Try.func26, Try.ntmps26
  go_wp2_with fail
  go_loopw [6] (fun s6 wr => RVal l x w s6 wr) (fun i _ => l.length - (intOf i).toNat)
  case atStart => exact ⟨1, by omega, by omega, rfl, HX0.out, ⟨w, Below.refl _ _⟩, rfl⟩
  case round =>
    obtain ⟨k, hk1, hk, rfl, hlo, z0, rfl⟩ := hrel
    have HLO := Lib.hid hlo
    have w1 : IntKind.i64.wrap ((k : Int) - 1) = (k : Int) - 1 := IntWalk.i64_in _ (by omega)
    have w2 : ((k : Int) - 1).toNat = k - 1 := by omega
    have w3 : (0 : Int) ≤ (k : Int) - 1 := by omega
    have w4 : (k : Int) - 1 < (l.length : Int) := by omega
    obtain ⟨ad', e', _, r1, r2⟩ := HRow.out.pt (k := k - 1) (by omega)
    cases e'
    by_cases hlt : k < l.length
    · have i1 : (0 : Int) ≤ (k : Int) := by omega
      have i2 : (k : Int) < (l.length : Int) := by omega
      obtain ⟨ad', e', _, p1, p2⟩ := HRow.out.pt (k := k) hlt
      cases e'
      have HSEG := Lib.hid (fun hu => cv_seg HR.out hk1 hlt hlo hu)
      have o := HR.out.ok k hlt
      have o' := HR.out.ok (k - 1) (by omega)
      unfold PtOk at o o'
      obtain ⟨o1, o2, o3, o4, o5⟩ := o
      obtain ⟨o6, o7, o8, o9, _⟩ := o'
      have o5 := o5 (by omega)
      have HNX := Lib.hid (show ¬ x ≤ px l k → px l (k + 1 - 1) < x from fun h => by rw [Nat.add_sub_cancel]; omega)
      obtain ⟨xa, hxa⟩ : ∃ v, px l (k - 1) = v := ⟨_, rfl⟩
      obtain ⟨ya, hya⟩ : ∃ v, py l (k - 1) = v := ⟨_, rfl⟩
      obtain ⟨xb, hxb⟩ : ∃ v, px l k = v := ⟨_, rfl⟩
      obtain ⟨yb, hyb⟩ : ∃ v, py l k = v := ⟨_, rfl⟩
      rw [hxa] at r1 HSEG hlo o5 o6 o7
      rw [hya] at r2 HSEG o5 o8 o9
      rw [hxb] at p1 HSEG o1 o2 o5 HNX
      rw [hyb] at p2 HSEG o3 o4 o5
      have s1 := fun z : BelW w => BelW.cells r1 z
      have s2 := fun z : BelW w => BelW.cells r2 z
      have s3 := fun z : BelW w => BelW.cells p1 z
      have s4 := fun z : BelW w => BelW.cells p2 z
      clear r1 r2 p1 p2 hxa hya hxb hyb
      by_cases hu : x ≤ xb
      · have t1 : decide (x ≤ xb) = true := decide_eq_true hu
        have hs := HSEG.out hu
        rw [HVM.out] at hs
        obtain ⟨hsc, u1, u2, u3, u4⟩ := scale_ok (a := x - xa) (n := yb - ya) (d := xb - xa) (by omega) (by omega) (by omega) (by omega) (by omega) (by omega)
        obtain ⟨q, hq⟩ : ∃ q, (x - xa) * (yb - ya) / (xb - xa) = q := ⟨_, rfl⟩
        obtain ⟨r, hr'⟩ : ∃ r, (x - xa) * (yb - ya) % (xb - xa) = r := ⟨_, rfl⟩
        rw [hq, hr'] at hsc hs
        rw [hq] at u1 u2
        rw [hr'] at u3 u4
        have C := Lib.hid (fun u : BelW w => bel_of_same (x := u) (v := .tuple #[.int .i64 q, .int .i64 r, .bool true]) (by have h' := refscale_any (x - xa) (yb - ya) (xb - xa) u.w; rw [hsc] at h'; exact h'))
        have e1 : IntKind.i64.wrap (x - xa) = x - xa := IntWalk.i64_in _ (by omega)
        have e2 : IntKind.i64.wrap (yb - ya) = yb - ya := IntWalk.i64_in _ (by omega)
        have e3 : IntKind.i64.wrap (xb - xa) = xb - xa := IntWalk.i64_in _ (by omega)
        have e4 : IntKind.i64.wrap (ya + q) = ya + q := IntWalk.i64_in _ (by omega)
        have HS := Lib.hid hs
        clear hsc hs hq hr' u1 u2 u3 u4 o1 o2 o3 o4 o5 o6 o7 o8 o9 hlo hu HSEG HNX
        go_upto_region 7 with fail
        refine wp_region_belx (by kernel_rfl) (by kernel_rfl) ?_
        repeat (go_big_quiet_step ((first | (go_at_call 28; with_reducible exact C.out _))))
        refine wpQuiet_nil ?_
        intro z1
        clear e1 e2 e3
        go_wp2_with fail
        go_ret2
        obtain ⟨h1, h2⟩ := Prod.mk.injEq .. ▸ HS.out
        exact ⟨by rw [h1, h2]; rfl, z1.2⟩
      · have t1 : decide (x ≤ xb) = false := decide_eq_false hu
        have hnx := HNX.out hu
        clear o1 o2 o3 o4 o5 o6 o7 o8 o9 hlo hu HSEG HNX w1 w2 w3 w4
        have HN := Lib.hid hnx
        clear hnx
        go_wp2_with fail
        go_roundw
        case rel => exact ⟨k + 1, by omega, by omega, by go_num, HN.out, z0, rfl⟩
        case measure => simp [intOf]; omega
    · have i2 : decide ((k : Int) < (l.length : Int)) = false := decide_eq_false (by omega)
      obtain rfl : k = l.length := by omega
      have hc := cv_right HR.out (x := x) (by omega)
      rw [HVM.out] at hc
      obtain ⟨yl, hyl⟩ : ∃ v, py l (l.length - 1) = v := ⟨_, rfl⟩
      rw [hyl] at hc r2
      obtain ⟨rfl, rfl⟩ := Prod.mk.injEq .. ▸ hc
      have s2 := fun z : BelW w => BelW.cells r2 z
      clear hc r1 r2 hyl hlo
      go_wp2_with fail
      go_ret2
      exact ⟨rfl, z0.2⟩

/-! At -/
set_option maxHeartbeats 4000000 in
theorem rat_any (A : Option Addr) (c : Nat) (l : List (Int × Int)) (hn : l.length ≤ 9223372036854775807) (x : Int) (w : World) (hr : Rd w A (ptCells l)) :
    Calls Try.prog 14 #[.slice A l.length c, .int .i64 x] w fun e w' => e = .returned (.int .i64 (atF l x)) ∧ Below w.heap.size w w' := by
  have RI := Lib.hid (fun u : BelW w => bel_of (x := u) (rright_is A c l hn u.w (hr.bel u)))
  unfold atF
  rcases hb : rightB l with _ | _
  · rw [hb] at RI
    rw [if_neg Bool.false_ne_true]
    clear hb hr
    refine rebase w (fun V hV x0 => ?_)
    subst hV
    go_enter Try.func14, Try.ntmps14
    go_wp2_with (first | (go_at_call 12; with_reducible refine (RI.out _).mono ?_; rintro e w' ⟨rfl, yy, rfl⟩))
    go_ret
    exact ⟨rfl, BelW.below10 _⟩
  · rw [hb] at RI
    rw [if_pos rfl]
    have VI := Lib.hid (fun u : BelW w => bel_of (x := u) (rvalue_any A c l (rightB_iff.1 hb) x u.w (hr.bel u)))
    obtain ⟨v, m, hvm⟩ : ∃ v m, cv l x = (v, m) := ⟨_, _, rfl⟩
    rw [hvm] at VI ⊢
    clear hb hr hvm
    refine rebase w (fun V hV x0 => ?_)
    subst hV
    go_enter Try.func14, Try.ntmps14
    go_wp2_with (first | (go_at_call 12; with_reducible refine (RI.out _).mono ?_; rintro e w' ⟨rfl, yy, rfl⟩) | (go_at_call 26; with_reducible refine (VI.out _).mono ?_; rintro e w' ⟨rfl, yy, rfl⟩))
    go_ret
    exact ⟨rfl, BelW.below10 _⟩

end Go.Proofs.Ytonemgmmhjankaa
