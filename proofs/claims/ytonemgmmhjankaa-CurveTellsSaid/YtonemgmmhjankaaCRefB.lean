/- bourneref10: Least, Slope, Under, Band. -/
import Derived.Test.YtonemgmmhjankaaCRefA
namespace Go.Proofs.Ytonemgmmhjankaa
open Go.RowKit Go.Shelf
set_option linter.unusedVariables false
set_option linter.unusedSimpArgs false

/-! Least -/
def RLe (v : Int) (w : World) (s6 s7 : Value) (wr : World) : Prop := ∃ a b : Int, s6 = .int .i64 a ∧ s7 = .int .i64 b ∧ Hid (0 ≤ a ∧ a ≤ v ∧ v ≤ b ∧ b ≤ 1125899906842624) ∧ ∃ y : BelW w, wr = y.w
theorem least_at {l : List (Int × Int)} (hR : RightP l) {y v : Int} (h0 : 0 ≤ v) (h1 : v ≤ 1125899906842624) (h2 : y ≤ atF l v) (h3 : 0 < v → atF l (v - 1) < y) {x : Int} (hx : 0 ≤ x) (hx1 : x ≤ 1125899906842624) : y ≤ atF l x ↔ v ≤ x := by
  constructor
  · intro h
    by_cases e : v ≤ x
    · exact e
    · have := h3 (by omega)
      have := atF_mono hR (x := x) (z := v - 1) ⟨by omega, by omega⟩ ⟨by omega, by omega⟩ (by omega)
      omega
  · intro h
    have := atF_mono hR (x := v) (z := x) ⟨by omega, by omega⟩ ⟨by omega, by omega⟩ h
    omega
set_option maxHeartbeats 8000000 in
set_option maxRecDepth 100000 in
theorem rleast_any (A : Option Addr) (c : Nat) (l : List (Int × Int)) (hn : l.length ≤ 9223372036854775807) (y : Int) (w : World) (hr : Rd w A (ptCells l)) :
    Calls Try.prog 10 #[.slice A l.length c, .int .i64 y] w fun e w' => e = .returned (.tuple #[.int .i64 (leastF l y).1, .bool (leastF l y).2]) ∧ Below w.heap.size w w' := by
  refine rebase w (fun V hV x0 => ?_)
  subst hV
  have RI := Lib.hid (fun u : BelW V => bel_of (x := u) (rright_is A c l hn u.w (hr.bel u)))
  rcases hb : rightB l with _ | _
  · rw [hb] at RI
    rw [leastF_no (fun h => by rw [rightB_iff.2 h.1] at hb; cases hb)]
    clear hb hr
    go_enter Try.func10, Try.ntmps10
    go_wp2_with (first | (go_at_call 12; with_reducible refine (RI.out _).mono ?_; rintro e w' ⟨rfl, yy, rfl⟩))
    go_ret2
    exact ⟨rfl, BelW.below10 _⟩
  rw [hb] at RI
  have hR := rightB_iff.1 hb
  have hpos := hR.pos
  have hle := hR.le
  obtain ⟨ad, e, hadb, q1, q2⟩ := hr.pt (k := l.length - 1) (by omega)
  subst e
  have s1 := fun z : BelW V => BelW.cells q1 z
  have s2 := fun z : BelW V => BelW.cells q2 z
  have w1 : IntKind.i64.wrap ((l.length : Int) - 1) = (l.length : Int) - 1 := IntWalk.i64_in _ (by omega)
  have w2 : ((l.length : Int) - 1).toNat = l.length - 1 := by omega
  have w3 : (0 : Int) ≤ (l.length : Int) - 1 := by omega
  have w4 : (l.length : Int) - 1 < (l.length : Int) := by omega
  clear q1 q2
  by_cases hy : y ≤ py l (l.length - 1)
  case neg =>
    rw [leastF_no (fun h => hy h.2)]
    obtain ⟨yl, hyl⟩ : ∃ v, py l (l.length - 1) = v := ⟨_, rfl⟩
    rw [hyl] at hy s2
    have t1 : decide (yl < y) = true := decide_eq_true (by omega)
    clear hyl hy hr hR hb
    go_enter Try.func10, Try.ntmps10
    go_wp2_with (first | (go_at_call 12; with_reducible refine (RI.out _).mono ?_; rintro e w' ⟨rfl, yy, rfl⟩))
    go_ret2
    exact ⟨rfl, BelW.below10 _⟩
  obtain ⟨v, hv, v0, v1, v2, v3⟩ := least_spec hR hy
  rw [hv]
  have HAT := Lib.hid (fun (x : Int) (h : 0 ≤ x) (h' : x ≤ 1125899906842624) => least_at hR v0 v1 v2 v3 h h')
  have hlast : v ≤ px l (l.length - 1) ∧ px l (l.length - 1) ≤ 1125899906842624 := by
    have o := hR.ok (l.length - 1) (by omega)
    have := (HAT.out (px l (l.length - 1)) o.1 o.2.1).1 (by rw [atF_point hR (by omega)]; exact hy)
    exact ⟨this, o.2.1⟩
  have CA := Lib.hid (fun (x : Int) (u : BelW V) => bel_of (x := u) (rat_any (some ad) c l hn x u.w (hr.bel u)))
  obtain ⟨yl, hyl⟩ : ∃ v, py l (l.length - 1) = v := ⟨_, rfl⟩
  obtain ⟨xl, hxl⟩ : ∃ v, px l (l.length - 1) = v := ⟨_, rfl⟩
  rw [hyl] at hy s2
  rw [hxl] at hlast s1
  have t1 : decide (yl < y) = false := decide_eq_false (by omega)
  have HL := Lib.hid (And.intro v0 hlast)
  clear hyl hxl hy hr hR hb hv v0 v1 v2 v3 hlast
  go_enter Try.func10, Try.ntmps10
  go_wp2_with (first | (go_at_call 12; with_reducible refine (RI.out _).mono ?_; rintro e w' ⟨rfl, yy, rfl⟩))
  clear w1 w2 w3 w4 s1 s2
  go_loopw [6, 7] (fun s6 s7 wr => RLe v V s6 s7 wr) (fun i j _ => (intOf j - intOf i).toNat)
  case atStart => exact ⟨0, xl, rfl, rfl, Lib.hid ⟨Int.le_refl _, HL.out.1, HL.out.2.1, HL.out.2.2⟩, _, rfl⟩
  case round =>
    obtain ⟨a, b, rfl, rfl, HAB, z0, rfl⟩ := hrel
    obtain ⟨a0, a1, a2, a3⟩ := HAB.out
    by_cases hlt : a < b
    · have i1 : decide (a < b) = true := decide_eq_true hlt
      have e1 : IntKind.i64.wrap (a + b) = a + b := IntWalk.i64_in _ (by omega)
      obtain ⟨m, hm⟩ : ∃ m, (a + b).tdiv 2 = m := ⟨_, rfl⟩
      have hm2 : m = (a + b) / 2 := by rw [← hm, Int.tdiv_eq_ediv_of_nonneg (by omega)]
      have m1 : a ≤ m := by omega
      have m2 : m < b := by omega
      have e2 : IntKind.i64.wrap m = m := IntWalk.i64_in _ (by omega)
      have e3 : IntKind.i64.wrap (m + 1) = m + 1 := IntWalk.i64_in _ (by omega)
      have hat := HAT.out m (by omega) (by omega)
      have C := Lib.hid (CA.out m)
      obtain ⟨t, ht⟩ : ∃ t, atF l m = t := ⟨_, rfl⟩
      rw [ht] at C hat
      have HI := Lib.hid hat
      have HM := Lib.hid (And.intro m1 m2)
      clear hm2 ht hat m1 m2 a0 a1 a2 a3 hlt
      rcases b1 : decide (y ≤ t) with _ | _
      · have hno : ¬ v ≤ m := fun h => by have := HI.out.2 h; simp only [decide_eq_false_iff_not] at b1; exact b1 this
        have HNO := Lib.hid hno
        clear hno
        go_wp2_with (first | (go_at_call 14; with_reducible refine (C.out _).mono ?_; rintro e w' ⟨rfl, yy, rfl⟩))
        go_roundw
        case rel => exact ⟨m + 1, b, by go_num, rfl, Lib.hid (by have := HM.out; have := HAB.out; have := HNO.out; omega), yy, rfl⟩
        case measure => have := HM.out; have := HAB.out; simp [intOf, e3]; omega
      · have hyes : v ≤ m := HI.out.1 (of_decide_eq_true b1)
        have HYES := Lib.hid hyes
        clear hyes
        go_wp2_with (first | (go_at_call 14; with_reducible refine (C.out _).mono ?_; rintro e w' ⟨rfl, yy, rfl⟩))
        go_roundw
        case rel => exact ⟨a, m, rfl, by go_num, Lib.hid (by have := HM.out; have := HAB.out; have := HYES.out; omega), yy, rfl⟩
        case measure => have := HM.out; have := HAB.out; simp [intOf]; omega
    · have i1 : decide (a < b) = false := decide_eq_false hlt
      obtain rfl : a = v := by omega
      go_wp2_with fail
      go_ret2
      exact ⟨rfl, z0.2⟩

/-! Slope -/
theorem slope_scale {dx n d dy q r : Int} {b : Bool} (h1 : 0 ≤ dx ∧ dx ≤ 1125899906842624) (h2 : 0 ≤ n ∧ n ≤ 1125899906842624) (h3 : 1 ≤ d ∧ d ≤ 1125899906842624) (h4 : dy ≤ 1125899906842624) (h : Xa.scale dx n d = (q, r, b)) :
    (b = true → (dy ≤ q ↔ dy * d ≤ dx * n)) ∧ (b = false → dy * d ≤ dx * n) ∧ (0 ≤ q ∧ q ≤ 1125899906842624) := by
  have hi := fun z : Int => Int.le_ediv_iff_mul_le (a := z) (b := dx * n) (c := d) (by omega)
  unfold Xa.scale at h
  by_cases hf : Xa.fits dx n d = true
  · rw [if_pos hf] at h
    simp only [Prod.mk.injEq] at h
    obtain ⟨rfl, rfl, rfl⟩ := h
    unfold Xa.fits at hf
    have hf := of_decide_eq_true hf
    refine ⟨fun _ => hi dy, (fun h => by cases h), Int.ediv_nonneg (Int.mul_nonneg h1.1 h2.1) (by omega), by omega⟩
  · rw [if_neg hf] at h
    simp only [Prod.mk.injEq] at h
    obtain ⟨rfl, rfl, rfl⟩ := h
    refine ⟨(fun h => by cases h), fun _ => (hi dy).1 ?_, by omega⟩
    by_cases hz : dx * n / d ≤ 1125899906842624
    · exact absurd (by unfold Xa.fits; exact decide_eq_true ⟨h1.1, h1.2, h2.1, h2.2, h3.1, h3.2, hz⟩) hf
    · omega
def RSl (l : List (Int × Int)) (n d : Int) (w : World) (s7 : Value) (wr : World) : Prop := ∃ k : Nat, 1 ≤ k ∧ k ≤ l.length ∧ s7 = .int .i64 (k : Int) ∧ (∀ j, 1 ≤ j → j < k → SlopeOk l n d j) ∧ ∃ y : BelW w, wr = y.w
set_option maxHeartbeats 8000000 in
set_option maxRecDepth 100000 in
theorem rslope_any (A : Option Addr) (c : Nat) (l : List (Int × Int)) (hn : l.length ≤ 9223372036854775807) (n d : Int) (w : World) (hr : Rd w A (ptCells l)) :
    Calls Try.prog 16 #[.slice A l.length c, .int .i64 n, .int .i64 d] w (SlopePost l n d w) := by
  refine rebase w (fun V hV x0 => ?_)
  subst hV
  have HRow := Lib.hid hr
  have RI := Lib.hid (fun u : BelW V => bel_of (x := u) (rright_is A c l hn u.w (hr.bel u)))
  clear hr
  rcases hb : rightB l with _ | _
  · rw [hb] at RI
    have hno : ¬ SlopeP l n d := fun h => by rw [rightB_iff.2 h.right] at hb; cases hb
    clear hb
    go_enter Try.func16, Try.ntmps16
    go_wp2_with (first | (go_at_call 12; with_reducible refine (RI.out _).mono ?_; rintro e w' ⟨rfl, yy, rfl⟩))
    go_ret
    exact slopePost_no hno (BelW.below10 _)
  rw [hb] at RI
  have HR := Lib.hid (rightB_iff.1 hb)
  clear hb
  rcases b1 : volB n with _ | _
  · have C1 := Lib.hid (fun u : BelW V => vol_c n false b1 u)
    have hno : ¬ SlopeP l n d := fun h => volB_no b1 ⟨h.n0, h.n1⟩
    clear b1
    go_enter Try.func16, Try.ntmps16
    go_wp2_with (first | (go_at_call 12; with_reducible refine (RI.out _).mono ?_; rintro e w' ⟨rfl, yy, rfl⟩) | (go_at_call 24; with_reducible refine (C1.out _).mono ?_; rintro e w' ⟨rfl, yy, rfl⟩))
    go_ret
    exact slopePost_no hno (BelW.below10 _)
  have C1 := Lib.hid (fun u : BelW V => vol_c n true b1 u)
  rcases b2 : volB d with _ | _
  · have C2 := Lib.hid (fun u : BelW V => vol_c d false b2 u)
    have hno : ¬ SlopeP l n d := fun h => volB_no b2 ⟨by have := h.d0; omega, h.d1⟩
    clear b1 b2
    go_enter Try.func16, Try.ntmps16
    go_wp2_with (first | (go_at_call 12; with_reducible refine (RI.out _).mono ?_; rintro e w' ⟨rfl, yy, rfl⟩) | (go_at_call 24; with_reducible refine (C1.out _).mono ?_; rintro e w' ⟨rfl, yy, rfl⟩) | (go_at_call 24; with_reducible refine (C2.out _).mono ?_; rintro e w' ⟨rfl, yy, rfl⟩))
    go_ret
    exact slopePost_no hno (BelW.below10 _)
  have C2 := Lib.hid (fun u : BelW V => vol_c d true b2 u)
  obtain ⟨n0, n1⟩ := volB_iff.1 b1
  obtain ⟨d0, d1⟩ := volB_iff.1 b2
  clear b1 b2
  by_cases hd : d = 0
  · subst hd
    have hno : ¬ SlopeP l n 0 := fun h => by have := h.d0; omega
    go_enter Try.func16, Try.ntmps16
    go_wp2_with (first | (go_at_call 12; with_reducible refine (RI.out _).mono ?_; rintro e w' ⟨rfl, yy, rfl⟩) | (go_at_call 24; with_reducible refine (C1.out _).mono ?_; rintro e w' ⟨rfl, yy, rfl⟩) | (go_at_call 24; with_reducible refine (C2.out _).mono ?_; rintro e w' ⟨rfl, yy, rfl⟩))
    go_ret
    exact slopePost_no hno (BelW.below10 _)
  have td : (d == 0) = false := beq_eq_false_iff_ne.2 hd
  have G := Lib.hid (show 0 ≤ n ∧ n ≤ 1125899906842624 ∧ 1 ≤ d ∧ d ≤ 1125899906842624 by omega)
  have hle := HR.out.le
  have hpos := HR.out.pos
  clear hd n0 n1 d0 d1
  go_enter Try.func16, Try.ntmps16
  go_wp2_with (first | (go_at_call 12; with_reducible refine (RI.out _).mono ?_; rintro e w' ⟨rfl, yy, rfl⟩) | (go_at_call 24; with_reducible refine (C1.out _).mono ?_; rintro e w' ⟨rfl, yy, rfl⟩) | (go_at_call 24; with_reducible refine (C2.out _).mono ?_; rintro e w' ⟨rfl, yy, rfl⟩))
  go_loopw [7] (fun s7 wr => RSl l n d V s7 wr) (fun i _ => l.length - (intOf i).toNat)
  case atStart => exact ⟨1, by omega, by omega, rfl, fun j h1 h2 => absurd h2 (by omega), _, rfl⟩
  case round =>
    obtain ⟨k, hk1, hk, rfl, hok, z0, rfl⟩ := hrel
    have HOK := Lib.hid hok
    clear hok
    by_cases hlt : k < l.length
    · have i1 : (0 : Int) ≤ (k : Int) := by omega
      have i2 : (k : Int) < (l.length : Int) := by omega
      have w1 : IntKind.i64.wrap ((k : Int) - 1) = (k : Int) - 1 := IntWalk.i64_in _ (by omega)
      have w2 : ((k : Int) - 1).toNat = k - 1 := by omega
      have w3 : (0 : Int) ≤ (k : Int) - 1 := by omega
      have w4 : (k : Int) - 1 < (l.length : Int) := by omega
      obtain ⟨ad, rfl, _, r1, r2⟩ := HRow.out.pt (k := k - 1) (by omega)
      obtain ⟨ad', e', _, p1, p2⟩ := HRow.out.pt (k := k) hlt
      cases e'
      have o := HR.out.ok k hlt
      have o' := HR.out.ok (k - 1) (by omega)
      unfold PtOk at o o'
      obtain ⟨o1, o2, o3, o4, o5⟩ := o
      obtain ⟨o6, o7, o8, o9, _⟩ := o'
      have o5 := o5 (by omega)
      have HSO := Lib.hid (show SlopeOk l n d k ↔ (py l k - py l (k - 1)) * d ≤ (px l k - px l (k - 1)) * n from Iff.rfl)
      obtain ⟨xa, hxa⟩ : ∃ v, px l (k - 1) = v := ⟨_, rfl⟩
      obtain ⟨ya, hya⟩ : ∃ v, py l (k - 1) = v := ⟨_, rfl⟩
      obtain ⟨xb, hxb⟩ : ∃ v, px l k = v := ⟨_, rfl⟩
      obtain ⟨yb, hyb⟩ : ∃ v, py l k = v := ⟨_, rfl⟩
      rw [hxa] at r1 HSO o5 o6 o7
      rw [hya] at r2 HSO o5 o8 o9
      rw [hxb] at p1 HSO o1 o2 o5
      rw [hyb] at p2 HSO o3 o4 o5
      have s1 := fun z : BelW V => BelW.cells r1 z
      have s2 := fun z : BelW V => BelW.cells r2 z
      have s3 := fun z : BelW V => BelW.cells p1 z
      have s4 := fun z : BelW V => BelW.cells p2 z
      obtain ⟨q, r, b, hsc⟩ : ∃ q r b, Xa.scale (xb - xa) n d = (q, r, b) := ⟨_, _, _, rfl⟩
      obtain ⟨u1, u2, u3⟩ := slope_scale (dy := yb - ya) (by omega) ⟨G.out.1, G.out.2.1⟩ G.out.2.2 (by omega) hsc
      have C := Lib.hid (fun u : BelW V => bel_of_same (x := u) (v := .tuple #[.int .i64 q, .int .i64 r, .bool b]) (by have h' := refscale_any (xb - xa) n d u.w; rw [hsc] at h'; exact h'))
      have e2 : IntKind.i64.wrap (yb - ya) = yb - ya := IntWalk.i64_in _ (by omega)
      have e3 : IntKind.i64.wrap (xb - xa) = xb - xa := IntWalk.i64_in _ (by omega)
      have HU1 := Lib.hid u1
      have HU2 := Lib.hid u2
      clear r1 r2 p1 p2 hxa hya hxb hyb hsc u1 u2 u3 o1 o2 o3 o4 o5 o6 o7 o8 o9
      cases b
      case false =>
        have HGOOD := Lib.hid (HSO.out.2 (HU2.out rfl))
        go_upto_region 6 with fail
        refine wp_region_belx (by kernel_rfl) (by kernel_rfl) ?_
        repeat (go_big_quiet_step ((first | (go_at_call 28; with_reducible exact C.out _))))
        refine wpQuiet_nil ?_
        intro z1
        go_upto_region 7 with fail
        refine wp_region_belx (by kernel_rfl) (by kernel_rfl) ?_
        repeat (go_big_quiet_step (fail))
        refine wpQuiet_nil ?_
        intro z2
        clear w1 w2 w3 w4
        go_wp2_with fail
        go_roundw
        case rel =>
          refine ⟨k + 1, by omega, by omega, by go_num, fun j h1 hj => ?_, z2, rfl⟩
          by_cases hjk : j < k
          · exact HOK.out j h1 hjk
          · obtain rfl : j = k := by omega
            exact HGOOD.out
        case measure => simp [intOf]; omega
      case true =>
        rcases b1 : decide (q < yb - ya) with _ | _
        · have HGOOD := Lib.hid (HSO.out.2 ((HU1.out rfl).1 (by simp only [decide_eq_false_iff_not] at b1; omega)))
          go_upto_region 6 with fail
          refine wp_region_belx (by kernel_rfl) (by kernel_rfl) ?_
          repeat (go_big_quiet_step ((first | (go_at_call 28; with_reducible exact C.out _))))
          refine wpQuiet_nil ?_
          intro z1
          go_upto_region 7 with fail
          refine wp_region_belx (by kernel_rfl) (by kernel_rfl) ?_
          repeat (go_big_quiet_step (fail))
          refine wpQuiet_nil ?_
          intro z2
          clear w1 w2 w3 w4
          go_wp2_with fail
          go_roundw
          case rel =>
            refine ⟨k + 1, by omega, by omega, by go_num, fun j h1 hj => ?_, z2, rfl⟩
            by_cases hjk : j < k
            · exact HOK.out j h1 hjk
            · obtain rfl : j = k := by omega
              exact HGOOD.out
          case measure => simp [intOf]; omega
        · have hno : ¬ SlopeP l n d := fun h => by have := (HU1.out rfl).2 (HSO.out.1 (h.ok k hk1 hlt)); simp only [decide_eq_true_eq] at b1; omega
          go_upto_region 6 with fail
          refine wp_region_belx (by kernel_rfl) (by kernel_rfl) ?_
          repeat (go_big_quiet_step ((first | (go_at_call 28; with_reducible exact C.out _))))
          refine wpQuiet_nil ?_
          intro z1
          go_upto_region 7 with fail
          refine wp_region_belx (by kernel_rfl) (by kernel_rfl) ?_
          repeat (go_big_quiet_step (fail))
          refine wpQuiet_nil ?_
          intro z2
          go_wp2_with fail
          go_ret
          exact slopePost_no hno z2.2
    · have i2 : decide ((k : Int) < (l.length : Int)) = false := decide_eq_false (by omega)
      go_wp2_with fail
      go_ret
      exact ⟨true, rfl, ⟨fun _ => ⟨HR.out, G.out.1, G.out.2.1, G.out.2.2.1, G.out.2.2.2, fun j h1 hj => HOK.out j h1 (by omega)⟩, fun _ => rfl⟩, z0.2⟩
theorem rslope_is (A : Option Addr) (c : Nat) (l : List (Int × Int)) (hn : l.length ≤ 9223372036854775807) (n d : Int) (w : World) (hr : Rd w A (ptCells l)) :
    Calls Try.prog 16 #[.slice A l.length c, .int .i64 n, .int .i64 d] w fun e w' => e = .returned (.bool (slopeB l n d)) ∧ Below w.heap.size w w' :=
  (rslope_any A c l hn n d w hr).mono fun e w' ⟨b, h1, h2, h3⟩ => by
    have : b = slopeB l n d := by rw [Bool.eq_iff_iff, h2, slopeB_iff]
    exact ⟨this ▸ h1, h3⟩

/-! Under -/
def RUn (Q : Nat → Prop) (n : Nat) (w : World) (s : Value) (wr : World) : Prop := ∃ k : Nat, k ≤ n ∧ s = .int .i64 (k : Int) ∧ (∀ j, j < k → Q j) ∧ ∃ y : BelW w, wr = y.w
set_option maxHeartbeats 8000000 in
set_option maxRecDepth 100000 in
theorem runder_any (A B : Option Addr) (ca cb : Nat) (a b : List (Int × Int)) (hna : a.length ≤ 9223372036854775807) (hnb : b.length ≤ 9223372036854775807) (w : World) (hra : Rd w A (ptCells a)) (hrb : Rd w B (ptCells b)) :
    Calls Try.prog 18 #[.slice A a.length ca, .slice B b.length cb] w (UnderPost a b w) := by
  refine rebase w (fun V hV x0 => ?_)
  subst hV
  have HRA := Lib.hid hra
  have HRB := Lib.hid hrb
  have RI := Lib.hid (fun u : BelW V => bel_of (x := u) (rright_is A ca a hna u.w (hra.bel u)))
  have RJ := Lib.hid (fun u : BelW V => bel_of (x := u) (rright_is B cb b hnb u.w (hrb.bel u)))
  clear hra hrb
  rcases h1 : rightB a with _ | _
  · rw [h1] at RI
    have hno : ¬ UnderP a b := fun h => by rw [rightB_iff.2 h.ra] at h1; cases h1
    clear h1 RJ
    go_enter Try.func18, Try.ntmps18
    go_wp2_with (first | (go_at_call 12; with_reducible refine (RI.out _).mono ?_; rintro e w' ⟨rfl, yy, rfl⟩))
    go_ret
    exact underPost_no hno (BelW.below10 _)
  rw [h1] at RI
  rcases h2 : rightB b with _ | _
  · rw [h2] at RJ
    have hno : ¬ UnderP a b := fun h => by rw [rightB_iff.2 h.rb] at h2; cases h2
    clear h1 h2
    go_enter Try.func18, Try.ntmps18
    go_wp2_with (first | (go_at_call 12; with_reducible refine (RI.out _).mono ?_; rintro e w' ⟨rfl, yy, rfl⟩) | (go_at_call 12; with_reducible refine (RJ.out _).mono ?_; rintro e w' ⟨rfl, yy, rfl⟩))
    go_ret
    exact underPost_no hno (BelW.below10 _)
  rw [h2] at RJ
  have HA := Lib.hid (rightB_iff.1 h1)
  have HB := Lib.hid (rightB_iff.1 h2)
  clear h1 h2
  go_enter Try.func18, Try.ntmps18
  go_wp2_with (first | (go_at_call 12; with_reducible refine (RI.out _).mono ?_; rintro e w' ⟨rfl, yy, rfl⟩) | (go_at_call 12; with_reducible refine (RJ.out _).mono ?_; rintro e w' ⟨rfl, yy, rfl⟩))
  go_loopw [5] (fun s wr => RUn (UnA a b) a.length V s wr) (fun i _ => a.length - (intOf i).toNat)
  case atStart => exact ⟨0, by omega, rfl, fun j h2 => absurd h2 (by omega), _, rfl⟩
  case round =>
    obtain ⟨k, hk, rfl, hok, z0, rfl⟩ := hrel
    have HOK := Lib.hid hok
    clear hok
    by_cases hlt : k < a.length
    · have i1 : (0 : Int) ≤ (k : Int) := by omega
      have i2 : (k : Int) < (a.length : Int) := by omega
      obtain ⟨ad, rfl, hadb, q1, q2⟩ := HRA.out.pt hlt
      have s1 := fun z : BelW V => BelW.cells q1 z
      have s2 := fun z : BelW V => BelW.cells q2 z
      have VI := Lib.hid (fun u : BelW V => bel_of (x := u) (rvalue_any B cb b HB.out (px a k) u.w (HRB.out.bel u)))
      have IFF := Lib.hid (show UnA a b k ↔ py a k ≤ (cv b (px a k)).1 from Iff.rfl)
      generalize (cv b (px a k)).1 = v at *
      generalize (cv b (px a k)).2 = m at *
      generalize px a k = x at *
      generalize py a k = y at *
      clear q1 q2
      rcases b1 : decide (v < y) with _ | _
      · have HGOOD := Lib.hid (show UnA a b k from IFF.out.2 (by simp only [decide_eq_false_iff_not] at b1; omega))
        go_wp2_with (first | (go_at_call 26; with_reducible refine (VI.out _).mono ?_; rintro e w' ⟨rfl, yy, rfl⟩))
        go_roundw
        case rel =>
          refine ⟨k + 1, by omega, by go_num, fun j hj => ?_, _, rfl⟩
          by_cases hjk : j < k
          · exact HOK.out j hjk
          · obtain rfl : j = k := by omega
            exact HGOOD.out
        case measure => simp [intOf]; omega
      · have hno : ¬ UnderP a b := fun h => by have := IFF.out.1 (h.ua k hlt); simp only [decide_eq_true_eq] at b1; omega
        go_wp2_with (first | (go_at_call 26; with_reducible refine (VI.out _).mono ?_; rintro e w' ⟨rfl, yy, rfl⟩))
        go_ret
        exact underPost_no hno (BelW.below10 _)
    · have i2 : decide ((k : Int) < (a.length : Int)) = false := decide_eq_false (by omega)
      have HUA := Lib.hid (show ∀ j, j < a.length → UnA a b j from fun j hj => HOK.out j (by omega))
      clear HOK
      go_wp2_with fail
      go_loopw [8] (fun s wr => RUn (UnB a b) b.length V s wr) (fun i _ => b.length - (intOf i).toNat)
      case atStart => exact ⟨0, by omega, rfl, fun j h2 => absurd h2 (by omega), z0, rfl⟩
      case round =>
        obtain ⟨k, hk, rfl, hok, z0, rfl⟩ := hrel
        have HOK := Lib.hid hok
        clear hok
        by_cases hlt : k < b.length
        · have i1 : (0 : Int) ≤ (k : Int) := by omega
          have i2 : (k : Int) < (b.length : Int) := by omega
          obtain ⟨ad, rfl, hadb, q1, q2⟩ := HRB.out.pt hlt
          have s1 := fun z : BelW V => BelW.cells q1 z
          have s2 := fun z : BelW V => BelW.cells q2 z
          have VI := Lib.hid (fun u : BelW V => bel_of (x := u) (rvalue_any A ca a HA.out (px b k) u.w (HRA.out.bel u)))
          have IFF := Lib.hid (show UnB a b k ↔ (cv a (px b k)).1 ≤ py b k ∧ ¬ ((cv a (px b k)).1 = py b k ∧ (cv a (px b k)).2 = true) from Iff.rfl)
          generalize (cv a (px b k)).1 = v at *
          generalize (cv a (px b k)).2 = m at *
          generalize px b k = x at *
          generalize py b k = y at *
          clear q1 q2
          rcases b1 : decide (y < v) with _ | _
          · rcases b2 : (v == y) with _ | _
            · have HGOOD := Lib.hid (show UnB a b k from IFF.out.2 (by simp only [decide_eq_false_iff_not, beq_eq_false_iff_ne] at b1 b2; exact ⟨by omega, fun h => b2 h.1⟩))
              go_wp2_with (first | (go_at_call 26; with_reducible refine (VI.out _).mono ?_; rintro e w' ⟨rfl, yy, rfl⟩))
              go_roundw
              case rel =>
                refine ⟨k + 1, by omega, by go_num, fun j hj => ?_, _, rfl⟩
                by_cases hjk : j < k
                · exact HOK.out j hjk
                · obtain rfl : j = k := by omega
                  exact HGOOD.out
              case measure => simp [intOf]; omega
            · cases m with
              | false =>
                have HGOOD := Lib.hid (show UnB a b k from IFF.out.2 (by simp only [decide_eq_false_iff_not] at b1; exact ⟨by omega, fun h => absurd h.2 Bool.false_ne_true⟩))
                go_wp2_with (first | (go_at_call 26; with_reducible refine (VI.out _).mono ?_; rintro e w' ⟨rfl, yy, rfl⟩))
                go_roundw
                case rel =>
                  refine ⟨k + 1, by omega, by go_num, fun j hj => ?_, _, rfl⟩
                  by_cases hjk : j < k
                  · exact HOK.out j hjk
                  · obtain rfl : j = k := by omega
                    exact HGOOD.out
                case measure => simp [intOf]; omega
              | true =>
                have hno : ¬ UnderP a b := fun h => (IFF.out.1 (h.ub k hlt)).2 ⟨by simpa using b2, rfl⟩
                go_wp2_with (first | (go_at_call 26; with_reducible refine (VI.out _).mono ?_; rintro e w' ⟨rfl, yy, rfl⟩))
                go_ret
                exact underPost_no hno (BelW.below10 _)
          · have hno : ¬ UnderP a b := fun h => by have := (IFF.out.1 (h.ub k hlt)).1; simp only [decide_eq_true_eq] at b1; omega
            go_wp2_with (first | (go_at_call 26; with_reducible refine (VI.out _).mono ?_; rintro e w' ⟨rfl, yy, rfl⟩))
            go_ret
            exact underPost_no hno (BelW.below10 _)
        · have i2 : decide ((k : Int) < (b.length : Int)) = false := decide_eq_false (by omega)
          go_wp2_with fail
          go_ret
          exact ⟨true, rfl, ⟨fun _ => ⟨HA.out, HB.out, HUA.out, fun j hj => HOK.out j (by omega)⟩, fun _ => rfl⟩, z0.2⟩
theorem runder_is (A B : Option Addr) (ca cb : Nat) (a b : List (Int × Int)) (hna : a.length ≤ 9223372036854775807) (hnb : b.length ≤ 9223372036854775807) (w : World) (hra : Rd w A (ptCells a)) (hrb : Rd w B (ptCells b)) :
    Calls Try.prog 18 #[.slice A a.length ca, .slice B b.length cb] w fun e w' => e = .returned (.bool (underB a b)) ∧ Below w.heap.size w w' :=
  (runder_any A B ca cb a b hna hnb w hra hrb).mono fun e w' ⟨r, h1, h2, h3⟩ => by
    have : r = underB a b := by rw [Bool.eq_iff_iff, h2, underB_iff]
    exact ⟨this ▸ h1, h3⟩

/-! Band -/
theorem rband_any (A B : Option Addr) (ca cb : Nat) (a b : List (Int × Int)) (hna : a.length ≤ 9223372036854775807) (hnb : b.length ≤ 9223372036854775807) (x : Int) (w : World) (hra : Rd w A (ptCells a)) (hrb : Rd w B (ptCells b)) :
    Calls Try.prog 20 #[.agg #[.slice A a.length ca, .slice B b.length cb], .int .i64 x] w fun e w' => e = .returned (.agg #[.int .i64 (min (atF a x) (atF b x)), .int .i64 (max (atF a x) (atF b x))]) ∧ Below w.heap.size w w' := by
  have AI := Lib.hid (fun w' (h : Below w.heap.size w w') => rat_any A ca a hna x w' (hra.below (Nat.le_refl _) h))
  have AJ := Lib.hid (fun w' (h : Below w.heap.size w w') => rat_any B cb b hnb x w' (hrb.below (Nat.le_refl _) h))
  clear hra hrb hna hnb
  generalize atF a x = u at *
  generalize atF b x = v at *
  go_enter Try.func20, Try.ntmps20
  go_upto_region 1 with fail
  refine wp_rebase _ (fun V hV x1 => ?_)
  have HB1 := Lib.hid (bel_at hV (bel_alloc (bel_alloc (Below.refl w.heap.size w) _) _))
  have HC1 := Lib.hid (Cs.at hV (((Cs.nil w).alloc _ _).alloc _ _))
  have HF1 := Lib.hid (show Fz V (w.heap.size + 1) by rw [hV]; exact Fz.new _ _ _ (by simp))
  have hu1 := HC1.out.bx
  simp only [Bx, newCells, join, World.size_alloc] at hu1
  clear hV
  have hg := HF1.out.bel
  have CI := Lib.hid (fun y : BelW V => bel_of (AI.out y.w (below_next HB1.out y.2)))
  have CJ := Lib.hid (fun y : BelW V => bel_of (AJ.out y.w (below_next HB1.out y.2)))
  go_wp2_with (first | (go_at_call 14; with_reducible refine (CI.out _).mono ?_; rintro e w' ⟨rfl, yy, rfl⟩) | (go_at_call 14; with_reducible refine (CJ.out _).mono ?_; rintro e w' ⟨rfl, yy, rfl⟩))
  have hB : Below w.heap.size w yy.w := below_next HB1.out yy.2
  exact bodyPost_ret (v := .agg #[.int .i64 (min u v), .int .i64 (max u v)]) (by simp [results, Try.results20, go_sem, hu1]) rfl ⟨rfl, (hB.setCell (Nat.le_succ _) _).setCell (Nat.le_succ _) _⟩

end Go.Proofs.Ytonemgmmhjankaa
