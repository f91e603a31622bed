/- curve.Slope. -/
import Derived.Test.YtonemgmmhjankaaLeast
namespace Go.Proofs.Ytonemgmmhjankaa
open Go.RowKit Go.Shelf
set_option linter.unusedVariables false
set_option linter.unusedSimpArgs false

theorem mul_int (a b : Int) (ha : 0 ≤ a ∧ a ≤ 1125899906842624) (hb : 0 ≤ b ∧ b ≤ 1125899906842624) : ∃ h lo : Int, h * 18446744073709551616 + lo = a * b ∧ 0 ≤ lo ∧ lo < 18446744073709551616 ∧
    ∀ w, Calls Try.prog 27 #[.int .u64 a, .int .u64 b] w fun e w' => e = .returned (.tuple #[.int .u64 h, .int .u64 lo]) ∧ w = w' := by
  obtain ⟨x, rfl⟩ := Int.eq_ofNat_of_zero_le ha.1
  obtain ⟨y, rfl⟩ := Int.eq_ofNat_of_zero_le hb.1
  refine ⟨((x * y / 18446744073709551616 : Nat) : Int), ((x * y % 18446744073709551616 : Nat) : Int), ?_, by omega, by omega, fun w => mul64_any x y (by omega) (by omega) w⟩
  rw [← Int.natCast_mul]
  omega
def SlopeOk (l : List (Int × Int)) (n d : Int) (k : Nat) : Prop := (py l k - py l (k - 1)) * d ≤ (px l k - px l (k - 1)) * n
structure SlopeP (l : List (Int × Int)) (n d : Int) : Prop where
  right : RightP l
  n0 : 0 ≤ n
  n1 : n ≤ 1125899906842624
  d0 : 1 ≤ d
  d1 : d ≤ 1125899906842624
  ok : ∀ k, 1 ≤ k → k < l.length → SlopeOk l n d k
def SlopePost (l : List (Int × Int)) (n d : Int) (w : World) (e : Ending) (w' : World) : Prop := ∃ b : Bool, e = .returned (.bool b) ∧ (b = true ↔ SlopeP l n d) ∧ Below w.heap.size w w'
theorem slopePost_no {l : List (Int × Int)} {n d : Int} {w w' : World} (h : ¬ SlopeP l n d) (hb : Below w.heap.size w w') : SlopePost l n d w (.returned (.bool false)) w' := ⟨false, rfl, ⟨fun h => absurd h Bool.false_ne_true, fun h' => absurd h' h⟩, hb⟩
def SlopeR (l : List (Int × Int)) (n d : Int) (w : World) (s7 : Value) (wr : World) : Prop := ∃ k : Nat, 1 ≤ k ∧ k ≤ l.length ∧ s7 = .int .i64 (k : Int) ∧ (∀ j, 1 ≤ j → j < k → SlopeOk l n d j) ∧ Below w.heap.size w wr

set_option maxHeartbeats 8000000 in
set_option maxRecDepth 100000 in
theorem slope_any (A : Option Addr) (c : Nat) (l : List (Int × Int)) (hn : l.length ≤ 9223372036854775807) (n d : Int) (w : World) (hr : Rd w A (ptCells l)) :
    Calls Try.prog 15 #[.slice A l.length c, .int .i64 n, .int .i64 d] w (SlopePost l n d w) := by
  have HRow := Lib.hid hr
  have RI := Lib.hid (right_is A c l hn w hr)
  clear hr
  by_cases hR : RightP l
  case neg =>
    have hb : rightB l = false := by rcases h : rightB l with _ | _; rfl; exact absurd (rightB_iff.1 h) hR
    rw [hb] at RI
    have hno : ¬ SlopeP l n d := fun h => hR h.right
    clear hR hb
    go_enter Try.func15, Try.ntmps15
    go_wp2_with fail
    refine RI.out.mono ?_
    rintro e w1 ⟨rfl, hB⟩
    go_wp2_with fail
    go_ret
    exact slopePost_no hno hB
  rw [rightB_iff.2 hR] at RI
  have HR := Lib.hid hR
  have hpos := hR.pos
  have hle := hR.le
  clear hR
  by_cases g : 0 ≤ n ∧ n ≤ 1125899906842624 ∧ 1 ≤ d ∧ d ≤ 1125899906842624
  case neg =>
    have hno : ¬ SlopeP l n d := fun h => g ⟨h.n0, h.n1, h.d0, h.d1⟩
    have HNO := Lib.hid hno
    have HG := Lib.hid g
    clear hno g
    rcases t1 : decide (n < 0) with _ | _
    · rcases t2 : decide (1125899906842624 < n) with _ | _
      · rcases t3 : decide (d < 1) with _ | _
        · have t4 : decide (1125899906842624 < d) = true := decide_eq_true (by have := HG.out; simp only [decide_eq_false_iff_not] at t1 t2 t3; omega)
          go_enter Try.func15, Try.ntmps15
          go_wp2_with fail
          refine RI.out.mono ?_
          rintro e w1 ⟨rfl, hB⟩
          go_wp2_with fail
          go_ret
          exact slopePost_no HNO.out hB
        · go_enter Try.func15, Try.ntmps15
          go_wp2_with fail
          refine RI.out.mono ?_
          rintro e w1 ⟨rfl, hB⟩
          go_wp2_with fail
          go_ret
          exact slopePost_no HNO.out hB
      · go_enter Try.func15, Try.ntmps15
        go_wp2_with fail
        refine RI.out.mono ?_
        rintro e w1 ⟨rfl, hB⟩
        go_wp2_with fail
        go_ret
        exact slopePost_no HNO.out hB
    · go_enter Try.func15, Try.ntmps15
      go_wp2_with fail
      refine RI.out.mono ?_
      rintro e w1 ⟨rfl, hB⟩
      go_wp2_with fail
      go_ret
      exact slopePost_no HNO.out hB
  have t1 : decide (n < 0) = false := decide_eq_false (by omega)
  have t2 : decide (1125899906842624 < n) = false := decide_eq_false (by omega)
  have t3 : decide (d < 1) = false := decide_eq_false (by omega)
  have t4 : decide (1125899906842624 < d) = false := decide_eq_false (by omega)
  have wn : IntKind.u64.wrap n = n := IntWalk.u64_in _ (by omega)
  have wd : IntKind.u64.wrap d = d := IntWalk.u64_in _ (by omega)
  have G := Lib.hid g
  go_enter Try.func15, Try.ntmps15
  go_wp2_with fail
  refine RI.out.mono ?_
  rintro e w1 ⟨rfl, hB1⟩
  go_wp2_with fail
  go_loopw [7] (fun s7 wr => SlopeR l n d w s7 wr) (fun i _ => l.length - (intOf i).toNat)
  case atStart => exact ⟨1, by omega, by omega, rfl, fun j h1 h2 => absurd h2 (by omega), hB1⟩
  case round =>
    obtain ⟨k, hk1, hk, rfl, hok, hB⟩ := hrel
    have HOK := Lib.hid hok
    clear hok
    by_cases hlt : k < l.length
    · have i1 : (0 : Int) ≤ (k : Int) := by omega
      have i2 : (k : Int) < (l.length : Int) := by omega
      have hrow := HRow.out.below (Nat.le_refl _) hB
      obtain ⟨ad, rfl, hadb, q1, q2⟩ := hrow.pt hlt
      obtain ⟨ad', e', _, r1, r2⟩ := hrow.pt (k := k - 1) (by omega)
      cases e'
      obtain ⟨o1, o2, o3, o4, o5⟩ := HR.out.ok k hlt
      obtain ⟨o1', o2', o3', o4', _⟩ := HR.out.ok (k - 1) (by omega)
      obtain ⟨o5, o6⟩ := o5 (by omega)
      have iff0 : SlopeOk l n d k ↔ (py l k - py l (k - 1)) * d ≤ (px l k - px l (k - 1)) * n := Iff.rfl
      obtain ⟨h1, l1, m1, m1', m1'', M1⟩ := mul_int (py l k - py l (k - 1)) d (by omega) (by omega)
      obtain ⟨h2, l2, m2, m2', m2'', M2⟩ := mul_int (px l k - px l (k - 1)) n (by omega) (by omega)
      rw [← m1, ← m2] at iff0
      clear m1 m2
      have IFF := Lib.hid iff0
      clear iff0
      generalize px l k = x at *
      generalize py l k = y at *
      generalize px l (k - 1) = x' at *
      generalize py l (k - 1) = y' at *
      have w1 : IntKind.i64.wrap ((k : Int) - 1) = (k : Int) - 1 := IntWalk.i64_in _ (by omega)
      have w2 : ((k : Int) - 1).toNat = k - 1 := by omega
      have w3 : (0 : Int) ≤ (k : Int) - 1 := by omega
      have w4 : (k : Int) - 1 < (l.length : Int) := by omega
      have w5 : IntKind.i64.wrap (y - y') = y - y' := IntWalk.i64_in _ (by omega)
      have w6 : IntKind.i64.wrap (x - x') = x - x' := IntWalk.i64_in _ (by omega)
      have w7 : IntKind.u64.wrap (y - y') = y - y' := IntWalk.u64_in _ (by omega)
      have w8 : IntKind.u64.wrap (x - x') = x - x' := IntWalk.u64_in _ (by omega)
      have MI := Lib.hid M1
      have MJ := Lib.hid M2
      have LB := Lib.hid (And.intro m1' (And.intro m1'' (And.intro m2' m2'')))
      clear M1 M2 m1' m1'' m2' m2'' hrow o1 o2 o3 o4 o5 o6 o1' o2' o3' o4'
      go_upto_region 6 with fail
      refine wp_rebase _ (fun V hV z0 => ?_)
      have HB := Lib.hid (show Below w.heap.size w V by rw [hV]; exact hB)
      rw [← hV] at q1 q2 r1 r2
      have s1 := fun z : BelW V => BelW.cells q1 z
      have s2 := fun z : BelW V => BelW.cells q2 z
      have s3 := fun z : BelW V => BelW.cells r1 z
      have s4 := fun z : BelW V => BelW.cells r2 z
      clear hV q1 q2 r1 r2
      refine wp_region_belx (by kernel_rfl) (by kernel_rfl) ?_
      repeat (go_big_quiet_step ((go_at_call 27; exact bel_of_same (MI.out _))))
      refine wpQuiet_nil ?_
      intro z1
      go_upto_region 7 with fail
      refine wp_region_belx (by kernel_rfl) (by kernel_rfl) ?_
      repeat (go_big_quiet_step ((go_at_call 27; exact bel_of_same (MJ.out _))))
      refine wpQuiet_nil ?_
      intro z2
      clear w1 w2 w3 w4 w5 w6 w7 w8 s1 s2 s3 s4
      have hBz : Below w.heap.size w z2.w := below_next HB.out z2.2
      have bad : ¬ SlopeOk l n d k → ¬ SlopeP l n d := fun h h' => h (h'.ok k hk1 hlt)
      have HBAD := Lib.hid bad
      clear bad
      rcases b1 : decide (h2 < h1) with _ | _
      · rcases b2 : (h1 == h2) with _ | _
        · have hgood : SlopeOk l n d k := IFF.out.2 (by have := LB.out; simp only [decide_eq_false_iff_not, beq_eq_false_iff_ne] at b1 b2; omega)
          have HGOOD := Lib.hid hgood
          clear hgood
          go_wp2_with fail
          go_roundw
          case rel =>
            refine ⟨k + 1, by omega, by omega, by go_num, fun j h1 hj => ?_, hBz⟩
            by_cases hjk : j < k
            · exact HOK.out j h1 hjk
            · obtain rfl : j = k := by omega
              exact HGOOD.out
          case measure => simp [intOf]; omega
        · rcases b3 : decide (l2 < l1) with _ | _
          · have hgood : SlopeOk l n d k := IFF.out.2 (by have := LB.out; simp only [decide_eq_false_iff_not, beq_iff_eq] at b1 b2 b3; omega)
            have HGOOD := Lib.hid hgood
            clear hgood
            go_wp2_with fail
            go_roundw
            case rel =>
              refine ⟨k + 1, by omega, by omega, by go_num, fun j h1 hj => ?_, hBz⟩
              by_cases hjk : j < k
              · exact HOK.out j h1 hjk
              · obtain rfl : j = k := by omega
                exact HGOOD.out
            case measure => simp [intOf]; omega
          · have hno := HBAD.out (fun h => by have h' := IFF.out.1 h; have := LB.out; simp only [beq_iff_eq, decide_eq_true_eq] at b2 b3; omega)
            go_wp2_with fail
            go_ret
            exact slopePost_no hno hBz
      · have hno := HBAD.out (fun h => by have h' := IFF.out.1 h; have := LB.out; simp only [decide_eq_true_eq] at b1; omega)
        go_wp2_with fail
        go_ret
        exact slopePost_no hno hBz
    · have i2 : decide ((k : Int) < (l.length : Int)) = false := decide_eq_false (by omega)
      go_wp2_with fail
      go_ret
      exact ⟨true, rfl, ⟨fun _ => ⟨HR.out, G.out.1, G.out.2.1, G.out.2.2.1, G.out.2.2.2, fun j h1 hj => HOK.out j h1 (by omega)⟩, fun _ => rfl⟩, hB⟩
noncomputable def slopeB (l : List (Int × Int)) (n d : Int) : Bool := @decide (SlopeP l n d) (Classical.propDecidable _)
theorem slopeB_iff {l : List (Int × Int)} {n d : Int} : slopeB l n d = true ↔ SlopeP l n d := by unfold slopeB; exact @decide_eq_true_iff _ (Classical.propDecidable _)
theorem slope_is (A : Option Addr) (c : Nat) (l : List (Int × Int)) (hn : l.length ≤ 9223372036854775807) (n d : Int) (w : World) (hr : Rd w A (ptCells l)) :
    Calls Try.prog 15 #[.slice A l.length c, .int .i64 n, .int .i64 d] w fun e w' => e = .returned (.bool (slopeB l n d)) ∧ Below w.heap.size w w' :=
  (slope_any A c l hn n d w hr).mono fun e w' ⟨b, h1, h2, h3⟩ => by
    have : b = slopeB l n d := by rw [Bool.eq_iff_iff, h2, slopeB_iff]
    exact ⟨this ▸ h1, h3⟩

end Go.Proofs.Ytonemgmmhjankaa
