/- CurvePoints: the walk. -/
import Derived.Test.YtonemgmmhjankaaRowA
import Derived.Deep.RegionHeld3
namespace Go.Proofs.Ytonemgmmhjankaa
open Go.RowKit
set_option linter.unusedVariables false
set_option linter.unusedSimpArgs false

theorem BelW.below3 {w : World} (x : BelW w) : Below w.heap.size w x.w := x.2
def HiR (V : World) (n : Nat) (h : List (Int × Int)) (s12 s13 : Value) (wr : World) : Prop := ∃ k : Nat, k ≤ n ∧ s13 = .int .i64 (k : Int) ∧ ∃ y : BelW V, wr = y.w ∧ y.w.ownsRow V.heap.size 37 2 s12 k (ptCells (h.take k))
def MoR (V : World) (n m : Nat) (h : List (Int × Int)) (s14 s15 : Value) (wr : World) : Prop := ∃ k : Nat, k ≤ n ∧ s15 = .int .i64 (k : Int) ∧ ∃ y : BelW V, wr = y.w ∧ y.w.ownsRow V.heap.size 37 2 s14 (cnt m k) (ptCells (h.take (cnt m k)))

set_option maxHeartbeats 16000000 in
set_option maxRecDepth 100000 in
theorem pnt_any (A B : Option Addr) (ca cb : Nat) (l d : List (Int × Int)) (hnl : l.length ≤ 9223372036854775807) (hnd : d.length ≤ 9223372036854775807) (x m u : Int) (x_b : -9223372036854775808 ≤ x ∧ x ≤ 9223372036854775807) (m_b : -9223372036854775808 ≤ m ∧ m ≤ 9223372036854775807) (u_b : -9223372036854775808 ≤ u ∧ u ≤ 9223372036854775807) (w : World) (hr : Rd w A (ptCells l)) (hd : Rd w B (ptCells d)) :
    Calls Try.prog 7 #[.slice A l.length ca, .slice B d.length cb, .int .i64 x, .int .i64 m, .int .i64 u] w fun e w' => e = .returned (.bool true) ∧ Below w.heap.size w w' := by
  obtain ⟨i0, hi0, hz0, hz1, hz2⟩ := info_parts info_pt
  have INF := Lib.hid (And.intro hi0 (And.intro hz0 (And.intro hz1 hz2)))
  clear hi0 hz0 hz1 hz2
  refine rebase w (fun V hV x0 => ?_)
  subst hV
  have CS := Lib.hid (fun u : BelW V => bel_of (small_any u.w))
  by_cases h0 : 31 < l.length
  · have t0 : decide ((31 : Int) < (l.length : Int)) = true := decide_eq_true (by omega)
    go_enter Try.func7, Try.ntmps7
    go_wp2_with (first | (go_at_call 8; with_reducible refine (CS.out _).mono ?_; rintro e w' ⟨rfl, yy, rfl⟩))
    go_ret
    exact ⟨rfl, BelW.below3 _⟩
  have t0 : decide ((31 : Int) < (l.length : Int)) = false := decide_eq_false (by omega)
  by_cases hRc : RightP l
  case neg =>
    have CRc := Lib.hid (fun u : BelW V => bel_of (not_true rightB_iff hRc ▸ right_is A ca l hnl u.w (hr.bel u)))
    go_enter Try.func7, Try.ntmps7
    go_wp2_with (first | (go_at_call 8; with_reducible refine (CS.out _).mono ?_; rintro e w' ⟨rfl, yy, rfl⟩) | (go_at_call 11; with_reducible refine (CRc.out _).mono ?_; rintro e w' ⟨rfl, yy, rfl⟩))
    go_ret
    exact ⟨rfl, BelW.below3 _⟩
  have CRc := Lib.hid (fun u : BelW V => bel_of (rightB_iff.2 hRc ▸ right_is A ca l hnl u.w (hr.bel u)))
  by_cases h2 : 40 < d.length
  · have t2 : decide ((40 : Int) < (d.length : Int)) = true := decide_eq_true (by omega)
    go_enter Try.func7, Try.ntmps7
    go_wp2_with (first | (go_at_call 8; with_reducible refine (CS.out _).mono ?_; rintro e w' ⟨rfl, yy, rfl⟩) | (go_at_call 11; with_reducible refine (CRc.out _).mono ?_; rintro e w' ⟨rfl, yy, rfl⟩))
    go_ret
    exact ⟨rfl, BelW.below3 _⟩
  have t2 : decide ((40 : Int) < (d.length : Int)) = false := decide_eq_false (by omega)
  by_cases hRd : RightP d
  case neg =>
    have CRd := Lib.hid (fun u : BelW V => bel_of (not_true rightB_iff hRd ▸ right_is B cb d hnd u.w (hd.bel u)))
    go_enter Try.func7, Try.ntmps7
    go_wp2_with (first | (go_at_call 8; with_reducible refine (CS.out _).mono ?_; rintro e w' ⟨rfl, yy, rfl⟩) | (go_at_call 11; with_reducible refine (CRc.out _).mono ?_; rintro e w' ⟨rfl, yy, rfl⟩) | (go_at_call 11; with_reducible refine (CRd.out _).mono ?_; rintro e w' ⟨rfl, yy, rfl⟩))
    go_ret
    exact ⟨rfl, BelW.below3 _⟩
  have CRd := Lib.hid (fun u : BelW V => bel_of (rightB_iff.2 hRd ▸ right_is B cb d hnd u.w (hd.bel u)))
  by_cases h4 : u < 0
  · have t4 : decide (u < 0) = true := decide_eq_true (by omega)
    go_enter Try.func7, Try.ntmps7
    go_wp2_with (first | (go_at_call 8; with_reducible refine (CS.out _).mono ?_; rintro e w' ⟨rfl, yy, rfl⟩) | (go_at_call 11; with_reducible refine (CRc.out _).mono ?_; rintro e w' ⟨rfl, yy, rfl⟩) | (go_at_call 11; with_reducible refine (CRd.out _).mono ?_; rintro e w' ⟨rfl, yy, rfl⟩))
    go_ret
    exact ⟨rfl, BelW.below3 _⟩
  have t4 : decide (u < 0) = false := decide_eq_false (by omega)
  by_cases h5 : 1000 < u
  · have t5 : decide (1000 < u) = true := decide_eq_true (by omega)
    go_enter Try.func7, Try.ntmps7
    go_wp2_with (first | (go_at_call 8; with_reducible refine (CS.out _).mono ?_; rintro e w' ⟨rfl, yy, rfl⟩) | (go_at_call 11; with_reducible refine (CRc.out _).mono ?_; rintro e w' ⟨rfl, yy, rfl⟩) | (go_at_call 11; with_reducible refine (CRd.out _).mono ?_; rintro e w' ⟨rfl, yy, rfl⟩))
    go_ret
    exact ⟨rfl, BelW.below3 _⟩
  have t5 : decide (1000 < u) = false := decide_eq_false (by omega)
  have hp := hRc.pos
  obtain ⟨ad, rfl, hadb, -, q2⟩ := hr.pt (k := l.length - 1) (by omega)
  have HR := Lib.hid hr
  have HD := Lib.hid hd
  clear hr hd
  have hok := hRc.ok (l.length - 1) (by omega)
  obtain ⟨Y, hY⟩ : ∃ Y, py l (l.length - 1) = Y := ⟨_, rfl⟩
  have y1 := hok.2.2.1
  have y2 := hok.2.2.2.1
  rw [hY] at q2 y1 y2
  clear hok
  have HY := Lib.hid hY
  clear hY
  have HRC := Lib.hid hRc
  have HRD := Lib.hid hRd
  clear hRc hRd
  have s2 := fun z : BelW V => BelW.cells q2 z
  clear q2
  have i1 : IntKind.i64.wrap ((l.length : Int) - 1) = (l.length : Int) - 1 := IntWalk.i64_in _ (by omega)
  have i2 : ((l.length : Int) - 1).toNat = l.length - 1 := by omega
  have i3 : (0 : Int) ≤ (l.length : Int) - 1 := by omega
  have i4 : (l.length : Int) - 1 < (l.length : Int) := by omega
  have wY : IntKind.i64.wrap (Y + u) = Y + u := IntWalk.i64_in _ (by omega)
  clear y1 y2
  by_cases h6 : 1125899906842624 < Y + u
  · have t6 : decide (1125899906842624 < Y + u) = true := decide_eq_true (by omega)
    go_enter Try.func7, Try.ntmps7
    go_wp2_with (first | (go_at_call 8; with_reducible refine (CS.out _).mono ?_; rintro e w' ⟨rfl, yy, rfl⟩) | (go_at_call 11; with_reducible refine (CRc.out _).mono ?_; rintro e w' ⟨rfl, yy, rfl⟩) | (go_at_call 11; with_reducible refine (CRd.out _).mono ?_; rintro e w' ⟨rfl, yy, rfl⟩))
    go_ret
    exact ⟨rfl, BelW.below3 _⟩
  have t6 : decide (1125899906842624 < Y + u) = false := decide_eq_false (by omega)
  have hhi : RightP (high l u) := HRC.out.high (by omega) (by rw [HY.out]; omega)
  have HHI := Lib.hid hhi
  clear hhi
  go_enter Try.func7, Try.ntmps7
  go_wp2_with (first | (go_at_call 8; with_reducible refine (CS.out _).mono ?_; rintro e w' ⟨rfl, yy, rfl⟩) | (go_at_call 11; with_reducible refine (CRc.out _).mono ?_; rintro e w' ⟨rfl, yy, rfl⟩) | (go_at_call 11; with_reducible refine (CRd.out _).mono ?_; rintro e w' ⟨rfl, yy, rfl⟩))
  go_loopw [12, 13] (fun s12 s13 wr => HiR V l.length (high l u) s12 s13 wr) (fun _ i _ => l.length - (intOf i).toNat)
  case atStart => exact ⟨0, by omega, rfl, _, rfl, World.ownsRow_nil _ _ _ _⟩
  case round =>
    obtain ⟨k, hk, rfl, y, rfl, hown⟩ := hrel
    by_cases hlt : k < l.length
    · have i3' : decide ((k : Int) < (l.length : Int)) = true := decide_eq_true (by omega)
      obtain ⟨ad', e', hadb', p1, p2⟩ := (HR.out.bel y).pt hlt
      cases e'
      have hok := HRC.out.ok k hlt
      have hst := take_step (high l u) (j := k) (by rw [high_length]; exact hlt)
      rw [high_px hlt, high_py hlt] at hst
      obtain ⟨X, hX⟩ : ∃ X, px l k = X := ⟨_, rfl⟩
      obtain ⟨Z, hZ⟩ : ∃ Z, py l k = Z := ⟨_, rfl⟩
      have z1 := hok.2.2.1
      have z2 := hok.2.2.2.1
      rw [hX] at p1 hst
      rw [hZ] at p2 z1 z2 hst
      clear hok hX hZ
      have j1 : (0 : Int) ≤ (k : Int) := by omega
      have j2 : (k : Int) < (l.length : Int) := by omega
      have wz : IntKind.i64.wrap (Z + u) = Z + u := IntWalk.i64_in _ (by omega)
      have HST := Lib.hid hst
      clear z1 z2 hst
      go_upto_region 8 with fail
      refine wp_named _ (fun U hU => ?_)
      rw [← hU] at p1 p2 hown
      have HO := Lib.hid hown
      have far : ∀ j, some (ad.add j).block ≠ u12.ownBlock := fun j h => by have := (hown.lt _ h.symm).1; rw [add_block] at this; omega
      have HB := Lib.hid (show Below V.heap.size V U by rw [hU]; exact y.2)
      have hsz := HB.out.size
      have H9223372036854775807 := Lib.hid (show k + 1 ≤ maxLen ∧ (k + 1) * 16 ≤ 140737488355328 by unfold maxLen; constructor <;> omega)
      clear hU hown
      go_region_held3 (fun w' => w'.cell? (ad.add (k * 2)) = some (.int .i64 X) ∧ w'.cell? ⟨(ad.add (k * 2)).block, (ad.add (k * 2)).off + 1, none⟩ = some (.int .i64 Z))
        (first
          | (go_split_ands; exact ⟨hgrow.cell (by assumption) (far _), hgrow.cell (by assumption) (far _)⟩)
          | (go_split_ands; exact ⟨cell_alloc (by assumption) _, cell_alloc (by assumption) _⟩)
          | (go_split_ands; refine ⟨?_, ?_⟩ <;> assumption))
        (((refine step_append_lies _ (by rfl) _ _ _ (by rfl) _ 37 i0 _ 2 16 Try.underlying22 INF.out.1 INF.out.2.1 INF.out.2.2.1 INF.out.2.2.2 rfl (by omega) _ (k) (ptCells ((high l u).take k)) (by rfl) ((HO.out.alloc _).drew) ⟨U.heap.size, 0, none⟩ 1 1 [.int .i64 X, .int .i64 (Z + u)] (by rfl) (by rfl) (World.news_of_block (cs := #[.int .i64 X, .int .i64 (Z + u)]) (t := 37) (fr := (0, 0)) (heap_alloc_new U _)) (by simp [Value.oneCell']) (by omega) H9223372036854775807.out.1 H9223372036854775807.out.2 (Nat.le_trans HB.out.size (by simp)) (U.heap.size + 1) (by simp) ?_; intro gg cap w1 hown1 hgrow hat hl1)))
      have hB1 : Below V.heap.size V w1 := own_grown (bel_alloc HB.out _).drew ((HO.out.alloc _).drew) hgrow
      have HN := Lib.hid hown1
      have HM := Lib.hid hB1
      clear hown1 hgrow hat hB1
      go_wp2_with fail
      go_roundw
      case rel => exact ⟨k + 1, by omega, by go_num, ⟨w1, HM.out⟩, rfl, by rw [HST.out]; exact HN.out⟩
      case measure => simp [intOf]; omega
    · have i3' : decide ((k : Int) < (l.length : Int)) = false := decide_eq_false (by omega)
      obtain rfl : k = l.length := by omega
      rw [List.take_of_length_le (by rw [high_length]; exact Nat.le_refl _)] at hown
      obtain ⟨g, cap, rfl, hrd⟩ := own_rd hown (by omega)
      go_upto_region 9 with fail
      refine wp_rebase _ (fun U hU z0 => ?_)
      rw [← hU] at hrd
      have HB := Lib.hid (show Below V.heap.size V U by rw [hU]; exact y.2)
      have HRU := Lib.hid (HR.out.below (Nat.le_refl _) HB.out)
      have HDU := Lib.hid (HD.out.below (Nat.le_refl _) HB.out)
      clear hown hU
      obtain ⟨v, hv⟩ : ∃ v, atF l x = v := ⟨_, rfl⟩
      have CA := Lib.hid (at_c (some ad) ca l _ rfl hnl x v x_b hv HRU.out)
      have CH := Lib.hid (at_c (some ⟨g, 0, none⟩) cap (high l u) _ (high_length l u) hnl x (v + u) x_b (by rw [at_high HRC.out HHI.out, hv]) hrd)
      have fx : Far x := by constructor <;> omega
      have hle := atF_le HRC.out fx
      have y1 := (HRC.out.ok 0 HRC.out.pos).2.2.1
      have y2 := (HRC.out.ok (l.length - 1) (by omega)).2.2.2.1
      rw [hv] at hle
      have wv : IntKind.i64.wrap (v + u) = v + u := IntWalk.i64_in _ (by omega)
      have HV := Lib.hid hv
      have FX := Lib.hid fx
      clear hle y1 y2 hv fx
      have CU1 := Lib.hid (under_c (some ad) (some ⟨g, 0, none⟩) ca cap l (high l u) _ _ rfl (high_length l u) hnl hnl true (underB_iff.2 (under_high HRC.out (by omega) HHI.out)) HRU.out hrd)
      have CU2 := Lib.hid (fun h : 0 < u => under_c (some ⟨g, 0, none⟩) (some ad) cap ca (high l u) l _ _ (high_length l u) rfl hnl hnl false (not_true underB_iff (not_under_high HRC.out h)) hrd HRU.out)
      clear hrd
      have M1 := Lib.hid (show m < 0 ∨ (l.length : Int) - 1 ≤ m ∨ ∃ mm : Nat, m = (mm : Int) ∧ mm + 1 < l.length by
        by_cases a : m < 0
        · exact .inl a
        · by_cases b : (l.length : Int) - 1 ≤ m
          · exact .inr (.inl b)
          · exact .inr (.inr ⟨m.toNat, by omega, by omega⟩))
      rcases Int.lt_or_le 0 u with hu0 | hu0
      · have t7 : decide (0 < u) = true := decide_eq_true hu0
        have CU3 := Lib.hid (CU2.out hu0)
        go_upto_region 11 with (first | (go_at_call 13; with_reducible refine (CA.out _).mono ?_; rintro e w' ⟨rfl, yy, rfl⟩) | (go_at_call 13; with_reducible refine (CH.out _).mono ?_; rintro e w' ⟨rfl, yy, rfl⟩) | (go_at_call 17; with_reducible refine (CU1.out _).mono ?_; rintro e w' ⟨rfl, yy, rfl⟩) | (go_at_call 17; with_reducible refine (CU3.out _).mono ?_; rintro e w' ⟨rfl, yy, rfl⟩))
        rcases M1.out with hm | hm | ⟨mm, rfl, hm⟩
        · have t8 : decide (m < 0) = true := decide_eq_true hm
          refine wp_region_belx (by kernel_rfl) (by kernel_rfl) ?_
          repeat (go_big_quiet_step (fail))
          refine wpQuiet_nil ?_
          intro zz
          go_wp2_with fail
          go_ret
          exact ⟨rfl, below_next HB.out zz.2⟩
        · have t8 : decide (m < 0) = false := decide_eq_false (by omega)
          have t9 : decide ((l.length : Int) - 1 ≤ m) = true := decide_eq_true hm
          refine wp_region_belx (by kernel_rfl) (by kernel_rfl) ?_
          repeat (go_big_quiet_step (fail))
          refine wpQuiet_nil ?_
          intro zz
          go_wp2_with fail
          go_ret
          exact ⟨rfl, below_next HB.out zz.2⟩
        · have t8 : decide ((mm : Int) < 0) = false := decide_eq_false (by omega)
          have t9 : decide ((l.length : Int) - 1 ≤ (mm : Int)) = false := decide_eq_false (by omega)
          have n1 : IntKind.i64.wrap ((mm : Int) + 1) = (mm : Int) + 1 := IntWalk.i64_in _ (by omega)
          have n2 : ((mm : Int) + 1).toNat = mm + 1 := by omega
          have n3 : (0 : Int) ≤ (mm : Int) + 1 := by omega
          have n4 : (mm : Int) + 1 < (l.length : Int) := by omega
          have n5 : (0 : Int) ≤ (mm : Int) := by omega
          have n6 : (mm : Int) < (l.length : Int) := by omega
          have oA := HRC.out.ok mm (by omega)
          have oB := HRC.out.ok (mm + 1) hm
          obtain ⟨ad1, e1, -, a1, a2⟩ := HRU.out.pt (k := mm) (by omega)
          cases e1
          obtain ⟨ad2, e2, -, b1, b2⟩ := HRU.out.pt (k := mm + 1) hm
          cases e2
          obtain ⟨Xa, hXa⟩ : ∃ X, px l mm = X := ⟨_, rfl⟩
          obtain ⟨Ya, hYa⟩ : ∃ X, py l mm = X := ⟨_, rfl⟩
          obtain ⟨Xb, hXb⟩ : ∃ X, px l (mm + 1) = X := ⟨_, rfl⟩
          obtain ⟨Yb, hYb⟩ : ∃ X, py l (mm + 1) = X := ⟨_, rfl⟩
          have oA1 := oA.1
          have oA2 := oA.2.1
          have oB1 := oB.1
          have oB2 := oB.2.1
          rw [hXa] at a1 oA1 oA2
          rw [hYa] at a2
          rw [hXb] at b1 oB1 oB2
          rw [hYb] at b2
          have gX : IntKind.i64.wrap (Xb - Xa) = Xb - Xa := IntWalk.i64_in _ (by omega)
          have gY : IntKind.i64.wrap (Xa + 1) = Xa + 1 := IntWalk.i64_in _ (by omega)
          have r1 := fun z : BelW U => BelW.cells a1 z
          have r2 := fun z : BelW U => BelW.cells a2 z
          have r3 := fun z : BelW U => BelW.cells b1 z
          have r4 := fun z : BelW U => BelW.cells b2 z
          have HXa := Lib.hid hXa
          have HYa := Lib.hid hYa
          have HXb := Lib.hid hXb
          have HYb := Lib.hid hYb
          clear oA oB a1 a2 b1 b2 hXa hYa hXb hYb oA1 oA2 oB1 oB2
          by_cases hy : Yb = Ya
          case neg =>
            have t10 : (Yb != Ya) = true := by simp [hy]
            refine wp_region_belx (by kernel_rfl) (by kernel_rfl) ?_
            repeat (go_big_quiet_step (fail))
            refine wpQuiet_nil ?_
            intro zz
            go_wp2_with fail
            go_ret
            exact ⟨rfl, below_next HB.out zz.2⟩
          have t10 : (Yb != Ya) = false := by simp [hy]
          by_cases hg : Xb - Xa < 2
          · have t11 : decide (Xb - Xa < 2) = true := decide_eq_true hg
            refine wp_region_belx (by kernel_rfl) (by kernel_rfl) ?_
            repeat (go_big_quiet_step (fail))
            refine wpQuiet_nil ?_
            intro zz
            go_wp2_with fail
            go_ret
            exact ⟨rfl, below_next HB.out zz.2⟩
          · have t11 : decide (Xb - Xa < 2) = false := decide_eq_false hg
            have HF := Lib.hid (show Flat l mm from ⟨hm, by rw [HYa.out, HYb.out]; exact hy, by rw [HXa.out, HXb.out]; omega⟩)
            have HRM := Lib.hid (HRC.out.more (by omega) HF.out)
            clear CH CU1 CU2
            refine wp_region_belx (by kernel_rfl) (by kernel_rfl) ?_
            repeat (go_big_quiet_step (fail))
            refine wpQuiet_nil ?_
            intro zz
            go_wp2_with fail
            go_loopw [14, 15] (fun s14 s15 wr => MoR U l.length mm (more l mm) s14 s15 wr) (fun _ i _ => l.length - (intOf i).toNat)
            case atStart => exact ⟨0, by omega, rfl, _, rfl, by rw [cnt_le (Nat.zero_le _)]; exact World.ownsRow_nil _ _ _ _⟩
            case round =>
              obtain ⟨k, hk, rfl, y, rfl, hown⟩ := hrel
              have HRY := Lib.hid (HRU.out.bel y)
              by_cases hlt : k < l.length
              · have k3 : decide ((k : Int) < (l.length : Int)) = true := decide_eq_true (by omega)
                obtain ⟨ad3, e3, hadb3, p1, p2⟩ := HRY.out.pt hlt
                cases e3
                have hadU : ad.block < U.heap.size := Nat.lt_of_lt_of_le hadb HB.out.size
                obtain ⟨X, hX⟩ : ∃ X, px l k = X := ⟨_, rfl⟩
                obtain ⟨Z, hZ⟩ : ∃ Z, py l k = Z := ⟨_, rfl⟩
                rw [hX] at p1
                rw [hZ] at p2
                have HX := Lib.hid hX
                have HZ := Lib.hid hZ
                clear hX hZ
                have j1 : (0 : Int) ≤ (k : Int) := by omega
                have j2 : (k : Int) < (l.length : Int) := by omega
                have H9223372036854775807 := Lib.hid (show cnt mm k + 1 ≤ maxLen ∧ (cnt mm k + 1) * 16 ≤ 140737488355328 by unfold maxLen cnt; split <;> constructor <;> omega)
                have HMY := Lib.hid (show cnt mm k + 1 + 1 ≤ maxLen ∧ (cnt mm k + 1 + 1) * 16 ≤ 140737488355328 by unfold maxLen cnt; split <;> constructor <;> omega)
                have HO := Lib.hid hown
                have HBY := Lib.hid (show Below U.heap.size U y.w from y.2)
                clear hown
                go_wp2_with (first | (at_builtin; refine wpList_append_lies _ rfl _ _ _ (by rfl) _ 37 i0 _ 2 16 Try.underlying22 INF.out.1 INF.out.2.1 INF.out.2.2.1 INF.out.2.2.2 rfl (by omega) _ (cnt mm k) (ptCells ((more l mm).take (cnt mm k))) (by rfl) (HO.out.alloc _) ⟨y.w.heap.size, 0, none⟩ 1 1 [.int .i64 X, .int .i64 Z] (by rfl) (by rfl) (World.news_of_block (heap_alloc_new _ _)) (by simp [Value.oneCell']) (by omega) H9223372036854775807.out.1 H9223372036854775807.out.2 (bel_alloc HBY.out _).size (y.w.heap.size + 1) (by simp) ?_))
                intro gg cap2 w1 hown1 hgrow hat hl1
                have hB1 : Below U.heap.size U w1 := own_grown (bel_alloc HBY.out _) (HO.out.alloc _) hgrow
                have HN := Lib.hid hown1
                have HM := Lib.hid hB1
                clear hown1 hgrow hat hB1
                by_cases hkm : k = mm
                · subst hkm
                  have k4 : decide ((k : Int) = (k : Int)) = true := decide_eq_true rfl
                  have p1' := (HM.out.cell (p := ad.add (k * 2)) (by rw [add_block]; exact hadU)).trans ((y.2.cell (p := ad.add (k * 2)) (by rw [add_block]; exact hadU)).symm.trans p1)
                  have p2' := (HM.out.cell (p := ⟨(ad.add (k * 2)).block, (ad.add (k * 2)).off + 1, none⟩) (by show (ad.add (k * 2)).block < _; rw [add_block]; exact hadU)).trans ((y.2.cell (p := ⟨(ad.add (k * 2)).block, (ad.add (k * 2)).off + 1, none⟩) (by show (ad.add (k * 2)).block < _; rw [add_block]; exact hadU)).symm.trans p2)
                  obtain rfl : Xa = X := HXa.out.symm.trans HX.out
                  obtain rfl : Ya = Z := HYa.out.symm.trans HZ.out
                  have HMS := Lib.hid (more_mid (l := l) (m := k) hm)
                  have far : ∀ j, some (ad.add j).block ≠ (Value.slice (some ⟨gg, 0, none⟩) (cnt k k + 1) cap2).ownBlock := fun j h => by have := (HN.out.lt _ h.symm).1; rw [add_block] at this; omega
                  clear p1 p2 r1 r2
                  go_upto_region 19 with fail
                  go_region_held3 (fun w' => w'.cell? (ad.add (k * 2)) = some (.int .i64 Xa) ∧ w'.cell? ⟨(ad.add (k * 2)).block, (ad.add (k * 2)).off + 1, none⟩ = some (.int .i64 Ya))
                    (first
                      | (go_split_ands; exact ⟨hgrow.cell (by assumption) (far _), hgrow.cell (by assumption) (far _)⟩)
                      | (go_split_ands; exact ⟨cell_alloc (by assumption) _, cell_alloc (by assumption) _⟩)
                      | (go_split_ands; refine ⟨?_, ?_⟩ <;> assumption))
                    (((refine step_append_lies _ (by rfl) _ _ _ (by rfl) _ 37 i0 _ 2 16 Try.underlying22 INF.out.1 INF.out.2.1 INF.out.2.2.1 INF.out.2.2.2 rfl (by omega) _ (cnt k k + 1) _ (by rfl) ((HN.out.alloc _).drew) ⟨w1.heap.size, 0, none⟩ 1 1 [.int .i64 (Xa + 1), .int .i64 Ya] (by rfl) (by rfl) (World.news_of_block (cs := #[.int .i64 (Xa + 1), .int .i64 Ya]) (t := 37) (fr := (0, 0)) (heap_alloc_new w1 _)) (by simp [Value.oneCell']) (by omega) HMY.out.1 HMY.out.2 (Nat.le_trans HM.out.size (by simp)) (w1.heap.size + 1) (by simp) ?_; intro gg2 cap3 w2 hown2 hgrow hat hl2)))
                  have hB2 : Below U.heap.size U w2 := own_grown (bel_alloc HM.out _).drew ((HN.out.alloc _).drew) hgrow
                  have HN2 := Lib.hid hown2
                  have HM2 := Lib.hid hB2
                  clear hown2 hgrow hat hB2
                  go_wp2_with fail
                  go_roundw
                  case rel => exact ⟨k + 1, by omega, by go_num, ⟨w2, HM2.out⟩, rfl, by rw [HMS.out.2, HMS.out.1, HXa.out, HYa.out]; exact HN2.out⟩
                  case measure => simp [intOf]; omega
                · have k4 : decide ((k : Int) = (mm : Int)) = false := decide_eq_false (by omega)
                  have HMS := Lib.hid (more_step (l := l) (m := mm) hm hlt hkm)
                  go_wp2_with fail
                  go_roundw
                  case rel => exact ⟨k + 1, by omega, by go_num, ⟨w1, HM.out⟩, rfl, by rw [HMS.out.2, HMS.out.1, HX.out, HZ.out]; exact HN.out⟩
                  case measure => simp [intOf]; omega
              · have k3 : decide ((k : Int) < (l.length : Int)) = false := decide_eq_false (by omega)
                obtain rfl : k = l.length := by omega
                obtain ⟨c1, c2⟩ := more_all hm
                rw [c2, c1] at hown
                obtain ⟨g2, cap2, rfl, hrd2⟩ := own_rd hown (by omega)
                have hLM := more_length hm
                go_upto_region 20 with fail
                refine wp_rebase _ (fun W hW z2 => ?_)
                rw [← hW] at hrd2
                have HBW := Lib.hid (show Below U.heap.size U W by rw [hW]; exact y.2)
                have hrw := HRU.out.below (Nat.le_refl _) HBW.out
                have hdw := HDU.out.below (Nat.le_refl _) HBW.out
                clear hown hW
                obtain ⟨hu1, hu2⟩ := more_under (by omega) HRC.out HF.out
                have CA1 := Lib.hid (at_c (some ad) ca l _ rfl hnl x v x_b HV.out hrw)
                have CA2 := Lib.hid (at_c (some ⟨g2, 0, none⟩) cap2 (more l mm) _ hLM (by omega) x v x_b (by rw [more_at_eq (by omega) HRC.out HF.out FX.out, HV.out]) hrd2)
                have CV1 := Lib.hid (under_c (some ⟨g2, 0, none⟩) (some ad) cap2 ca (more l mm) l _ _ hLM rfl (by omega) hnl true (underB_iff.2 hu1) hrd2 hrw)
                have CV2 := Lib.hid (under_c (some ad) (some ⟨g2, 0, none⟩) ca cap2 l (more l mm) _ _ rfl hLM hnl (by omega) true (underB_iff.2 hu2) hrw hrd2)
                obtain ⟨b1, hb1⟩ : ∃ r, underB l d = r := ⟨_, rfl⟩
                obtain ⟨b2, hb2⟩ : ∃ r, underB d l = r := ⟨_, rfl⟩
                have CV3 := Lib.hid (under_c (some ad) B ca cb l d _ _ rfl rfl hnl hnd b1 hb1 hrw hdw)
                have CV4 := Lib.hid (under_c (some ⟨g2, 0, none⟩) B cap2 cb (more l mm) d _ _ hLM rfl (by omega) hnd b1 (by rw [under_eq (more_under_r (by omega) HRC.out HF.out), hb1]) hrd2 hdw)
                have CV5 := Lib.hid (under_c B (some ad) cb ca d l _ _ rfl rfl hnd hnl b2 hb2 hdw hrw)
                have CV6 := Lib.hid (under_c B (some ⟨g2, 0, none⟩) cb cap2 d (more l mm) _ _ rfl hLM hnd (by omega) b2 (by rw [under_eq (more_under_l (by omega) HRC.out HF.out), hb2]) hdw hrd2)
                clear hu1 hu2 hb1 hb2 hrw hdw hrd2 c1 c2 hLM
                go_wp2_with (first | (go_at_call 13; with_reducible refine (CA1.out _).mono ?_; rintro e w' ⟨rfl, yy, rfl⟩) | (go_at_call 13; with_reducible refine (CA2.out _).mono ?_; rintro e w' ⟨rfl, yy, rfl⟩) | (go_at_call 17; with_reducible refine (CV1.out _).mono ?_; rintro e w' ⟨rfl, yy, rfl⟩) | (go_at_call 17; with_reducible refine (CV2.out _).mono ?_; rintro e w' ⟨rfl, yy, rfl⟩) | (go_at_call 17; with_reducible refine (CV3.out _).mono ?_; rintro e w' ⟨rfl, yy, rfl⟩) | (go_at_call 17; with_reducible refine (CV4.out _).mono ?_; rintro e w' ⟨rfl, yy, rfl⟩) | (go_at_call 17; with_reducible refine (CV5.out _).mono ?_; rintro e w' ⟨rfl, yy, rfl⟩) | (go_at_call 17; with_reducible refine (CV6.out _).mono ?_; rintro e w' ⟨rfl, yy, rfl⟩))
                go_ret
                exact ⟨rfl, below_next HB.out (below_next HBW.out (BelW.below3 _))⟩
      · have t7 : decide (0 < u) = false := decide_eq_false (by omega)
        go_upto_region 11 with (first | (go_at_call 13; with_reducible refine (CA.out _).mono ?_; rintro e w' ⟨rfl, yy, rfl⟩) | (go_at_call 13; with_reducible refine (CH.out _).mono ?_; rintro e w' ⟨rfl, yy, rfl⟩) | (go_at_call 17; with_reducible refine (CU1.out _).mono ?_; rintro e w' ⟨rfl, yy, rfl⟩) | (go_at_call 17; with_reducible refine (CU3.out _).mono ?_; rintro e w' ⟨rfl, yy, rfl⟩))
        rcases M1.out with hm | hm | ⟨mm, rfl, hm⟩
        · have t8 : decide (m < 0) = true := decide_eq_true hm
          refine wp_region_belx (by kernel_rfl) (by kernel_rfl) ?_
          repeat (go_big_quiet_step (fail))
          refine wpQuiet_nil ?_
          intro zz
          go_wp2_with fail
          go_ret
          exact ⟨rfl, below_next HB.out zz.2⟩
        · have t8 : decide (m < 0) = false := decide_eq_false (by omega)
          have t9 : decide ((l.length : Int) - 1 ≤ m) = true := decide_eq_true hm
          refine wp_region_belx (by kernel_rfl) (by kernel_rfl) ?_
          repeat (go_big_quiet_step (fail))
          refine wpQuiet_nil ?_
          intro zz
          go_wp2_with fail
          go_ret
          exact ⟨rfl, below_next HB.out zz.2⟩
        · have t8 : decide ((mm : Int) < 0) = false := decide_eq_false (by omega)
          have t9 : decide ((l.length : Int) - 1 ≤ (mm : Int)) = false := decide_eq_false (by omega)
          have n1 : IntKind.i64.wrap ((mm : Int) + 1) = (mm : Int) + 1 := IntWalk.i64_in _ (by omega)
          have n2 : ((mm : Int) + 1).toNat = mm + 1 := by omega
          have n3 : (0 : Int) ≤ (mm : Int) + 1 := by omega
          have n4 : (mm : Int) + 1 < (l.length : Int) := by omega
          have n5 : (0 : Int) ≤ (mm : Int) := by omega
          have n6 : (mm : Int) < (l.length : Int) := by omega
          have oA := HRC.out.ok mm (by omega)
          have oB := HRC.out.ok (mm + 1) hm
          obtain ⟨ad1, e1, -, a1, a2⟩ := HRU.out.pt (k := mm) (by omega)
          cases e1
          obtain ⟨ad2, e2, -, b1, b2⟩ := HRU.out.pt (k := mm + 1) hm
          cases e2
          obtain ⟨Xa, hXa⟩ : ∃ X, px l mm = X := ⟨_, rfl⟩
          obtain ⟨Ya, hYa⟩ : ∃ X, py l mm = X := ⟨_, rfl⟩
          obtain ⟨Xb, hXb⟩ : ∃ X, px l (mm + 1) = X := ⟨_, rfl⟩
          obtain ⟨Yb, hYb⟩ : ∃ X, py l (mm + 1) = X := ⟨_, rfl⟩
          have oA1 := oA.1
          have oA2 := oA.2.1
          have oB1 := oB.1
          have oB2 := oB.2.1
          rw [hXa] at a1 oA1 oA2
          rw [hYa] at a2
          rw [hXb] at b1 oB1 oB2
          rw [hYb] at b2
          have gX : IntKind.i64.wrap (Xb - Xa) = Xb - Xa := IntWalk.i64_in _ (by omega)
          have gY : IntKind.i64.wrap (Xa + 1) = Xa + 1 := IntWalk.i64_in _ (by omega)
          have r1 := fun z : BelW U => BelW.cells a1 z
          have r2 := fun z : BelW U => BelW.cells a2 z
          have r3 := fun z : BelW U => BelW.cells b1 z
          have r4 := fun z : BelW U => BelW.cells b2 z
          have HXa := Lib.hid hXa
          have HYa := Lib.hid hYa
          have HXb := Lib.hid hXb
          have HYb := Lib.hid hYb
          clear oA oB a1 a2 b1 b2 hXa hYa hXb hYb oA1 oA2 oB1 oB2
          by_cases hy : Yb = Ya
          case neg =>
            have t10 : (Yb != Ya) = true := by simp [hy]
            refine wp_region_belx (by kernel_rfl) (by kernel_rfl) ?_
            repeat (go_big_quiet_step (fail))
            refine wpQuiet_nil ?_
            intro zz
            go_wp2_with fail
            go_ret
            exact ⟨rfl, below_next HB.out zz.2⟩
          have t10 : (Yb != Ya) = false := by simp [hy]
          by_cases hg : Xb - Xa < 2
          · have t11 : decide (Xb - Xa < 2) = true := decide_eq_true hg
            refine wp_region_belx (by kernel_rfl) (by kernel_rfl) ?_
            repeat (go_big_quiet_step (fail))
            refine wpQuiet_nil ?_
            intro zz
            go_wp2_with fail
            go_ret
            exact ⟨rfl, below_next HB.out zz.2⟩
          · have t11 : decide (Xb - Xa < 2) = false := decide_eq_false hg
            have HF := Lib.hid (show Flat l mm from ⟨hm, by rw [HYa.out, HYb.out]; exact hy, by rw [HXa.out, HXb.out]; omega⟩)
            have HRM := Lib.hid (HRC.out.more (by omega) HF.out)
            clear CH CU1 CU2
            refine wp_region_belx (by kernel_rfl) (by kernel_rfl) ?_
            repeat (go_big_quiet_step (fail))
            refine wpQuiet_nil ?_
            intro zz
            go_wp2_with fail
            go_loopw [14, 15] (fun s14 s15 wr => MoR U l.length mm (more l mm) s14 s15 wr) (fun _ i _ => l.length - (intOf i).toNat)
            case atStart => exact ⟨0, by omega, rfl, _, rfl, by rw [cnt_le (Nat.zero_le _)]; exact World.ownsRow_nil _ _ _ _⟩
            case round =>
              obtain ⟨k, hk, rfl, y, rfl, hown⟩ := hrel
              have HRY := Lib.hid (HRU.out.bel y)
              by_cases hlt : k < l.length
              · have k3 : decide ((k : Int) < (l.length : Int)) = true := decide_eq_true (by omega)
                obtain ⟨ad3, e3, hadb3, p1, p2⟩ := HRY.out.pt hlt
                cases e3
                have hadU : ad.block < U.heap.size := Nat.lt_of_lt_of_le hadb HB.out.size
                obtain ⟨X, hX⟩ : ∃ X, px l k = X := ⟨_, rfl⟩
                obtain ⟨Z, hZ⟩ : ∃ Z, py l k = Z := ⟨_, rfl⟩
                rw [hX] at p1
                rw [hZ] at p2
                have HX := Lib.hid hX
                have HZ := Lib.hid hZ
                clear hX hZ
                have j1 : (0 : Int) ≤ (k : Int) := by omega
                have j2 : (k : Int) < (l.length : Int) := by omega
                have H9223372036854775807 := Lib.hid (show cnt mm k + 1 ≤ maxLen ∧ (cnt mm k + 1) * 16 ≤ 140737488355328 by unfold maxLen cnt; split <;> constructor <;> omega)
                have HMY := Lib.hid (show cnt mm k + 1 + 1 ≤ maxLen ∧ (cnt mm k + 1 + 1) * 16 ≤ 140737488355328 by unfold maxLen cnt; split <;> constructor <;> omega)
                have HO := Lib.hid hown
                have HBY := Lib.hid (show Below U.heap.size U y.w from y.2)
                clear hown
                go_wp2_with (first | (at_builtin; refine wpList_append_lies _ rfl _ _ _ (by rfl) _ 37 i0 _ 2 16 Try.underlying22 INF.out.1 INF.out.2.1 INF.out.2.2.1 INF.out.2.2.2 rfl (by omega) _ (cnt mm k) (ptCells ((more l mm).take (cnt mm k))) (by rfl) (HO.out.alloc _) ⟨y.w.heap.size, 0, none⟩ 1 1 [.int .i64 X, .int .i64 Z] (by rfl) (by rfl) (World.news_of_block (heap_alloc_new _ _)) (by simp [Value.oneCell']) (by omega) H9223372036854775807.out.1 H9223372036854775807.out.2 (bel_alloc HBY.out _).size (y.w.heap.size + 1) (by simp) ?_))
                intro gg cap2 w1 hown1 hgrow hat hl1
                have hB1 : Below U.heap.size U w1 := own_grown (bel_alloc HBY.out _) (HO.out.alloc _) hgrow
                have HN := Lib.hid hown1
                have HM := Lib.hid hB1
                clear hown1 hgrow hat hB1
                by_cases hkm : k = mm
                · subst hkm
                  have k4 : decide ((k : Int) = (k : Int)) = true := decide_eq_true rfl
                  have p1' := (HM.out.cell (p := ad.add (k * 2)) (by rw [add_block]; exact hadU)).trans ((y.2.cell (p := ad.add (k * 2)) (by rw [add_block]; exact hadU)).symm.trans p1)
                  have p2' := (HM.out.cell (p := ⟨(ad.add (k * 2)).block, (ad.add (k * 2)).off + 1, none⟩) (by show (ad.add (k * 2)).block < _; rw [add_block]; exact hadU)).trans ((y.2.cell (p := ⟨(ad.add (k * 2)).block, (ad.add (k * 2)).off + 1, none⟩) (by show (ad.add (k * 2)).block < _; rw [add_block]; exact hadU)).symm.trans p2)
                  obtain rfl : Xa = X := HXa.out.symm.trans HX.out
                  obtain rfl : Ya = Z := HYa.out.symm.trans HZ.out
                  have HMS := Lib.hid (more_mid (l := l) (m := k) hm)
                  have far : ∀ j, some (ad.add j).block ≠ (Value.slice (some ⟨gg, 0, none⟩) (cnt k k + 1) cap2).ownBlock := fun j h => by have := (HN.out.lt _ h.symm).1; rw [add_block] at this; omega
                  clear p1 p2 r1 r2
                  go_upto_region 19 with fail
                  go_region_held3 (fun w' => w'.cell? (ad.add (k * 2)) = some (.int .i64 Xa) ∧ w'.cell? ⟨(ad.add (k * 2)).block, (ad.add (k * 2)).off + 1, none⟩ = some (.int .i64 Ya))
                    (first
                      | (go_split_ands; exact ⟨hgrow.cell (by assumption) (far _), hgrow.cell (by assumption) (far _)⟩)
                      | (go_split_ands; exact ⟨cell_alloc (by assumption) _, cell_alloc (by assumption) _⟩)
                      | (go_split_ands; refine ⟨?_, ?_⟩ <;> assumption))
                    (((refine step_append_lies _ (by rfl) _ _ _ (by rfl) _ 37 i0 _ 2 16 Try.underlying22 INF.out.1 INF.out.2.1 INF.out.2.2.1 INF.out.2.2.2 rfl (by omega) _ (cnt k k + 1) _ (by rfl) ((HN.out.alloc _).drew) ⟨w1.heap.size, 0, none⟩ 1 1 [.int .i64 (Xa + 1), .int .i64 Ya] (by rfl) (by rfl) (World.news_of_block (cs := #[.int .i64 (Xa + 1), .int .i64 Ya]) (t := 37) (fr := (0, 0)) (heap_alloc_new w1 _)) (by simp [Value.oneCell']) (by omega) HMY.out.1 HMY.out.2 (Nat.le_trans HM.out.size (by simp)) (w1.heap.size + 1) (by simp) ?_; intro gg2 cap3 w2 hown2 hgrow hat hl2)))
                  have hB2 : Below U.heap.size U w2 := own_grown (bel_alloc HM.out _).drew ((HN.out.alloc _).drew) hgrow
                  have HN2 := Lib.hid hown2
                  have HM2 := Lib.hid hB2
                  clear hown2 hgrow hat hB2
                  go_wp2_with fail
                  go_roundw
                  case rel => exact ⟨k + 1, by omega, by go_num, ⟨w2, HM2.out⟩, rfl, by rw [HMS.out.2, HMS.out.1, HXa.out, HYa.out]; exact HN2.out⟩
                  case measure => simp [intOf]; omega
                · have k4 : decide ((k : Int) = (mm : Int)) = false := decide_eq_false (by omega)
                  have HMS := Lib.hid (more_step (l := l) (m := mm) hm hlt hkm)
                  go_wp2_with fail
                  go_roundw
                  case rel => exact ⟨k + 1, by omega, by go_num, ⟨w1, HM.out⟩, rfl, by rw [HMS.out.2, HMS.out.1, HX.out, HZ.out]; exact HN.out⟩
                  case measure => simp [intOf]; omega
              · have k3 : decide ((k : Int) < (l.length : Int)) = false := decide_eq_false (by omega)
                obtain rfl : k = l.length := by omega
                obtain ⟨c1, c2⟩ := more_all hm
                rw [c2, c1] at hown
                obtain ⟨g2, cap2, rfl, hrd2⟩ := own_rd hown (by omega)
                have hLM := more_length hm
                go_upto_region 20 with fail
                refine wp_rebase _ (fun W hW z2 => ?_)
                rw [← hW] at hrd2
                have HBW := Lib.hid (show Below U.heap.size U W by rw [hW]; exact y.2)
                have hrw := HRU.out.below (Nat.le_refl _) HBW.out
                have hdw := HDU.out.below (Nat.le_refl _) HBW.out
                clear hown hW
                obtain ⟨hu1, hu2⟩ := more_under (by omega) HRC.out HF.out
                have CA1 := Lib.hid (at_c (some ad) ca l _ rfl hnl x v x_b HV.out hrw)
                have CA2 := Lib.hid (at_c (some ⟨g2, 0, none⟩) cap2 (more l mm) _ hLM (by omega) x v x_b (by rw [more_at_eq (by omega) HRC.out HF.out FX.out, HV.out]) hrd2)
                have CV1 := Lib.hid (under_c (some ⟨g2, 0, none⟩) (some ad) cap2 ca (more l mm) l _ _ hLM rfl (by omega) hnl true (underB_iff.2 hu1) hrd2 hrw)
                have CV2 := Lib.hid (under_c (some ad) (some ⟨g2, 0, none⟩) ca cap2 l (more l mm) _ _ rfl hLM hnl (by omega) true (underB_iff.2 hu2) hrw hrd2)
                obtain ⟨b1, hb1⟩ : ∃ r, underB l d = r := ⟨_, rfl⟩
                obtain ⟨b2, hb2⟩ : ∃ r, underB d l = r := ⟨_, rfl⟩
                have CV3 := Lib.hid (under_c (some ad) B ca cb l d _ _ rfl rfl hnl hnd b1 hb1 hrw hdw)
                have CV4 := Lib.hid (under_c (some ⟨g2, 0, none⟩) B cap2 cb (more l mm) d _ _ hLM rfl (by omega) hnd b1 (by rw [under_eq (more_under_r (by omega) HRC.out HF.out), hb1]) hrd2 hdw)
                have CV5 := Lib.hid (under_c B (some ad) cb ca d l _ _ rfl rfl hnd hnl b2 hb2 hdw hrw)
                have CV6 := Lib.hid (under_c B (some ⟨g2, 0, none⟩) cb cap2 d (more l mm) _ _ rfl hLM hnd (by omega) b2 (by rw [under_eq (more_under_l (by omega) HRC.out HF.out), hb2]) hdw hrd2)
                clear hu1 hu2 hb1 hb2 hrw hdw hrd2 c1 c2 hLM
                go_wp2_with (first | (go_at_call 13; with_reducible refine (CA1.out _).mono ?_; rintro e w' ⟨rfl, yy, rfl⟩) | (go_at_call 13; with_reducible refine (CA2.out _).mono ?_; rintro e w' ⟨rfl, yy, rfl⟩) | (go_at_call 17; with_reducible refine (CV1.out _).mono ?_; rintro e w' ⟨rfl, yy, rfl⟩) | (go_at_call 17; with_reducible refine (CV2.out _).mono ?_; rintro e w' ⟨rfl, yy, rfl⟩) | (go_at_call 17; with_reducible refine (CV3.out _).mono ?_; rintro e w' ⟨rfl, yy, rfl⟩) | (go_at_call 17; with_reducible refine (CV4.out _).mono ?_; rintro e w' ⟨rfl, yy, rfl⟩) | (go_at_call 17; with_reducible refine (CV5.out _).mono ?_; rintro e w' ⟨rfl, yy, rfl⟩) | (go_at_call 17; with_reducible refine (CV6.out _).mono ?_; rintro e w' ⟨rfl, yy, rfl⟩))
                go_ret
                exact ⟨rfl, below_next HB.out (below_next HBW.out (BelW.below3 _))⟩

end Go.Proofs.Ytonemgmmhjankaa
