/- ExactOrders: the walk. -/
import Derived.Test.YtemdnfodpijncaaWhole
namespace Go.Proofs.Ytemdnfodpijncaa
open Go.RowKit
set_option linter.unusedVariables false
set_option linter.unusedSimpArgs false

theorem BelW.below5 {w : World} (x : BelW w) : Below w.heap.size w x.w := x.2
theorem IR.next {w w' : World} {B g n : Nat} {xs : List Int} (h : IR w B g n xs) (hb : Below w.heap.size w w') : IR w' B g n xs := h.kept (grown_bel ⟨w', hb⟩) (by simp)
def OrA (V : World) (n : Nat) (s16 : Value) (wr : World) : Prop := ∃ k : Nat, k ≤ n ∧ s16 = .int .i64 (k : Int) ∧ ∃ y : BelW V, wr = y.w

set_option maxHeartbeats 16000000 in
set_option maxRecDepth 100000 in
theorem ord_any (t : Int) (A : Option Addr) (c : Nat) (l : List Int) (hn : l.length ≤ 9223372036854775807) (w : World) (hr : Rd w A (ints l)) :
    Calls Try.prog 6 #[.int .i64 t, .slice A l.length c] w fun e w' => e = .returned (.bool true) ∧ Below w.heap.size w w' := by
  refine rebase w (fun V hV x0 => ?_)
  subst hV
  have CS := Lib.hid (fun u : BelW V => bel_of (small_any u.w))
  by_cases hW : Wt l
  case neg =>
    have CW := Lib.hid (fun u : BelW V => whole_nil l hW A c hn u hr)
    clear hW hr
    go_enter Try.func6, Try.ntmps6
    go_wp2_with (first | (go_at_call 9; with_reducible refine (CS.out _).mono ?_; rintro e w' ⟨rfl, yy, rfl⟩) | (go_at_call 23; with_reducible refine (CW.out _).mono ?_; rintro e w' ⟨rfl, yy, rfl⟩))
    go_ret
    exact ⟨rfl, BelW.below5 _⟩
  obtain ⟨S, hS⟩ : ∃ S, l.sum = S := ⟨_, rfl⟩
  have CW := Lib.hid (fun u : BelW V => whole_yes l hW S hS A c hn u hr)
  have hS0 : 0 ≤ S := by rw [← hS]; exact hW.nonneg
  have hS1 : S ≤ 1125899906842624 := by rw [← hS]; exact hW.sum
  by_cases h0 : t < 0
  · have t1 : decide (t < 0) = true := decide_eq_true h0
    clear hW hr hS hS0 hS1
    go_enter Try.func6, Try.ntmps6
    go_wp2_with (first | (go_at_call 9; with_reducible refine (CS.out _).mono ?_; rintro e w' ⟨rfl, yy, rfl⟩) | (go_at_call 23; with_reducible refine (CW.out _).mono ?_; rintro e w' ⟨rfl, yy, rfl⟩))
    go_ret
    exact ⟨rfl, BelW.below5 _⟩
  have t1 : decide (t < 0) = false := decide_eq_false h0
  by_cases h1 : S < t
  · have t2 : decide (S < t) = true := decide_eq_true h1
    clear hW hr hS hS0 hS1
    go_enter Try.func6, Try.ntmps6
    go_wp2_with (first | (go_at_call 9; with_reducible refine (CS.out _).mono ?_; rintro e w' ⟨rfl, yy, rfl⟩) | (go_at_call 23; with_reducible refine (CW.out _).mono ?_; rintro e w' ⟨rfl, yy, rfl⟩))
    go_ret
    exact ⟨rfl, BelW.below5 _⟩
  have t2 : decide (S < t) = false := decide_eq_false h1
  have wT : IntKind.i64.wrap (S - t) = S - t := IntWalk.i64_in _ (by omega)
  have g0 : 0 ≤ t := by omega
  have g1 : t ≤ l.sum := by omega
  have HW := Lib.hid hW
  have HS := Lib.hid hS
  have HR := Lib.hid hr
  have HG := Lib.hid (show 0 ≤ l.sum ∧ 0 ≤ l.sum - t ∧ l.sum - t ≤ l.sum ∧ t ≤ l.sum by omega)
  clear hW hS hr h0 h1 hS0 hS1
  go_enter Try.func6, Try.ntmps6
  go_upto_region 5 with (first | (go_at_call 9; with_reducible refine (CS.out _).mono ?_; rintro e w' ⟨rfl, yy, rfl⟩) | (go_at_call 23; with_reducible refine (CW.out _).mono ?_; rintro e w' ⟨rfl, yy, rfl⟩))
  go_wp2_with fail
  refine (share_any t A c l hn _ (HR.out.bel yy)).mono ?_
  rintro e w1 (⟨g1', x, rfl, _, _, _, hx, hI1, hB1⟩ | ⟨_, hno, _⟩)
  case inr => exact absurd ⟨HW.out, g0, g1⟩ hno
  have hV1 := below_next yy.2 hB1
  go_upto_region 6 with fail
  go_wp2_with fail
  refine (share_any S A c l hn _ (HR.out.below (Nat.le_refl _) hV1)).mono ?_
  rintro e w2 (⟨g2', y, rfl, _, _, _, hy, hI2, hB2⟩ | ⟨_, hno, _⟩)
  case inr => exact absurd ⟨HW.out, by rw [← HS.out]; exact HG.out.1, by rw [← HS.out]; exact Int.le_refl _⟩ hno
  rw [← HS.out] at hy
  obtain rfl := hy.full HW.out
  clear hy
  have hV2 := below_next hV1 hB2
  have hI1 := hI1.next hB2
  go_upto_region 7 with fail
  go_wp2_with fail
  refine (share_any 0 A c y hn _ (HR.out.below (Nat.le_refl _) hV2)).mono ?_
  rintro e w3 (⟨g3', z, rfl, _, _, _, hz, hI3, hB3⟩ | ⟨_, hno, _⟩)
  case inr => exact absurd ⟨HW.out, Int.le_refl _, HG.out.1⟩ hno
  have hV3 := below_next hV2 hB3
  have hI1 := hI1.next hB3
  have hI2 := hI2.next hB3
  go_upto_region 8 with fail
  go_wp2_with fail
  refine (share_any (S - t) A c y hn _ (HR.out.below (Nat.le_refl _) hV3)).mono ?_
  rintro e w4 (⟨g4', u, rfl, _, _, _, hu, hI4, hB4⟩ | ⟨_, hno, _⟩)
  case inr => exact absurd ⟨HW.out, by rw [← HS.out]; exact HG.out.2.1, by rw [← HS.out]; exact HG.out.2.2.1⟩ hno
  rw [← HS.out] at hu
  have hV4 := below_next hV3 hB4
  have HI1 := Lib.hid (hI1.next hB4)
  have HI2 := Lib.hid (hI2.next hB4)
  have HI3 := Lib.hid (hI3.next hB4)
  have HI4 := Lib.hid hI4
  have HX := Lib.hid hx
  have HZ := Lib.hid hz
  have HU := Lib.hid hu
  have HV := Lib.hid hV4
  clear hV1 hV2 hV3 hV4 hI1 hI2 hI3 hI4 hB1 hB2 hB3 hB4 hx hz hu CS CW g1
  go_upto_region 9 with fail
  refine wp_rebase _ (fun U hU z0 => ?_)
  subst hU
  have HRU := Lib.hid (HR.out.below (Nat.le_refl _) HV.out)
  have CE := Lib.hid (fun v : BelW U => same_c (V := U) (some ⟨g2', 0, none⟩) A y.length c y y y.length y.length rfl rfl hn hn true (by simp) v (HI2.out.rd.bel v) (HRU.out.bel v))
  go_wp2_with (first | (go_at_call 16; with_reducible refine (CE.out _).mono ?_; rintro e w' ⟨rfl, yy2, rfl⟩))
  go_loopw [16] (fun s16 wr => OrA U y.length s16 wr) (fun i _ => y.length - (intOf i).toNat)
  case atStart => exact ⟨0, by omega, rfl, _, rfl⟩
  case round =>
    obtain ⟨i, hi, rfl, v, rfl⟩ := hrel
    by_cases hlt : i < y.length
    · have i3 : decide ((i : Int) < (y.length : Int)) = true := decide_eq_true (by omega)
      obtain ⟨ad, u', rfl, _, e1, e2⟩ := HRU.out.at (k := i) (by rw [ints_length]; exact hlt)
      rw [ints_at hlt] at e1
      cases e1
      have f1 := HI1.out.cell hlt
      have f2 := HI3.out.cell hlt
      have f3 := HI4.out.cell hlt
      have j1 : (0 : Int) ≤ (i : Int) := by omega
      have j2 : (i : Int) < (y.length : Int) := by omega
      have b1 := HX.out.le HW.out g0 HG.out.2.2.2 hlt
      have b2 := HW.out.le hlt
      have b3 := HU.out.le HW.out HG.out.2.1 HG.out.2.2.1 hlt
      have b4 := HX.out.rest HU.out HW.out g0 HG.out.2.2.2 hlt
      have b5 := HW.out.sum
      rw [HZ.out.none hlt HW.out] at f2
      obtain ⟨vi, hvi⟩ : ∃ v, gi y i = v := ⟨_, rfl⟩
      obtain ⟨xi, hxi⟩ : ∃ v, gi x i = v := ⟨_, rfl⟩
      obtain ⟨ui, hui⟩ : ∃ v, gi u i = v := ⟨_, rfl⟩
      rw [hvi] at e2 b1 b2 b3 b4
      rw [hxi] at f1 b1 b4
      rw [hui] at f3 b3 b4
      have c1 := fun z : BelW U => BelW.cells e2 z
      have c2 := fun z : BelW U => BelW.cells f1 z
      have c3 := fun z : BelW U => BelW.cells f2 z
      have c4 := fun z : BelW U => BelW.cells f3 z
      have w1' : IntKind.i64.wrap (vi - xi) = vi - xi := IntWalk.i64_in _ (by omega)
      have w2' : IntKind.i64.wrap (vi - xi - ui) = vi - xi - ui := IntWalk.i64_in _ (by omega)
      have d1 : decide (vi - xi - ui < -1) = false := decide_eq_false (by omega)
      have d2 : decide (1 < vi - xi - ui) = false := decide_eq_false (by omega)
      have HVI := Lib.hid hvi
      have HXI := Lib.hid hxi
      clear e2 f1 f2 f3 b1 b2 b3 b4 b5 hvi hxi hui
      go_upto_region 14 with fail
      refine wp_region_belx (by kernel_rfl) (by kernel_rfl) ?_
      repeat (go_big_quiet_step (fail))
      refine wpQuiet_nil ?_
      intro zz
      go_wp2_with fail
      go_loopw [18] (fun s18 wr => OrA U y.length s18 wr) (fun i _ => y.length - (intOf i).toNat)
      case atStart => exact ⟨0, by omega, rfl, _, rfl⟩
      case round =>
        obtain ⟨k, hk, rfl, v2, rfl⟩ := hrel
        by_cases hlk : k < y.length
        · have k3 : decide ((k : Int) < (y.length : Int)) = true := decide_eq_true (by omega)
          obtain ⟨ad2, u2, e', _, e1, e2⟩ := HRU.out.at (k := k) (by rw [ints_length]; exact hlk)
          cases e'
          rw [ints_at hlk] at e1
          cases e1
          have f1 := HI1.out.cell hlk
          have k1 : (0 : Int) ≤ (k : Int) := by omega
          have k2 : (k : Int) < (y.length : Int) := by omega
          have hm := HX.out.mono HW.out g0 HG.out.2.2.2 hlt hlk
          obtain ⟨vk, hvk⟩ : ∃ v, gi y k = v := ⟨_, rfl⟩
          obtain ⟨xk, hxk⟩ : ∃ v, gi x k = v := ⟨_, rfl⟩
          rw [HVI.out, HXI.out, hvk, hxk] at hm
          rw [hvk] at e2
          rw [hxk] at f1
          have c5 := fun z : BelW U => BelW.cells e2 z
          have c6 := fun z : BelW U => BelW.cells f1 z
          clear e2 f1 hvk hxk
          by_cases hg : vk < vi
          · have d3 : decide (vk < vi) = true := decide_eq_true hg
            have d4 : decide (xi < xk) = false := decide_eq_false (by have := hm hg; omega)
            clear hm hg
            go_upto_region 20 with fail
            refine wp_region_belx (by kernel_rfl) (by kernel_rfl) ?_
            repeat (go_big_quiet_step (fail))
            refine wpQuiet_nil ?_
            intro zz2
            go_wp2_with fail
            go_roundw
            case rel => exact ⟨k + 1, by omega, by go_num, _, rfl⟩
            case measure => simp [intOf]; omega
          · have d3 : decide (vk < vi) = false := decide_eq_false hg
            clear hm hg
            go_upto_region 20 with fail
            refine wp_region_belx (by kernel_rfl) (by kernel_rfl) ?_
            repeat (go_big_quiet_step (fail))
            refine wpQuiet_nil ?_
            intro zz2
            go_wp2_with fail
            go_roundw
            case rel => exact ⟨k + 1, by omega, by go_num, _, rfl⟩
            case measure => simp [intOf]; omega
        · have k3 : decide ((k : Int) < (y.length : Int)) = false := decide_eq_false (by omega)
          go_wp2_with fail
          go_roundw
          case rel => exact ⟨i + 1, by omega, by go_num, _, rfl⟩
          case measure => simp [intOf]; omega
    · have i3 : decide ((i : Int) < (y.length : Int)) = false := decide_eq_false (by omega)
      have HB := Lib.hid (show Below V.heap.size V v.w from below_next HV.out v.2)
      go_wp2_with fail
      go_ret
      exact ⟨rfl, HB.out⟩

end Go.Proofs.Ytemdnfodpijncaa
