/- Part 43 of the proof of TopRights: exact.Share: the walk. -/
import Derived.Test.YtngjakahanmepaaGreatDoorM42
import Derived.Deep.RegionHeld3
namespace Go.Proofs.YtngjakahanmepaaGreatDoor.Pw
open Go.RowKit
set_option linter.unusedVariables false
set_option linter.unusedSimpArgs false
theorem info_int : (Tryz.prog.info? 3).map (fun i => (i.zero, i.size, i.bytes)) = some (some (.int .i64 0), 1, 8) := by kernel_rfl
theorem ir_made {w : World} {B g n : Nat} (f : Nat → Int) (h : w.ownsRow B 3 1 (.slice (some ⟨g, 0, none⟩) n n) n (madeCells #[Value.int .i64 0] n).toList) : IR w B g n (fl n 0 f) := by
  unfold IR
  rw [fl_zero, ← toList_madeCells_one]
  exact h
def ShA (V : World) (l : List Int) (s6 s25 : Value) (wr : World) : Prop := ∃ k : Nat, k ≤ l.length ∧ s25 = .int .i64 (k : Int) ∧ s6 = .int .i64 (su (gi l) k) ∧ Hid (WtK l k) ∧ ∃ y : BelW V, wr = y.w
def ShB (V : World) (t : Int) (l : List Int) (P R bR O bO : Nat) (s12 s63 : Value) (wr : World) : Prop :=
  ∃ k : Nat, k ≤ l.length ∧ s63 = .int .i64 (k : Int) ∧ s12 = .int .i64 (t - su (qq t l) k) ∧ ShM V l.length P R bR O bO (fl l.length k (qq t l)) (fl l.length k (rr t l)) (fl l.length k (fun i => (i : Int))) wr
def ShC (V : World) (t : Int) (l : List Int) (d : List Nat) (P O e : Nat) (s100 : Value) (wr : World) : Prop :=
  ∃ k : Nat, k ≤ e ∧ s100 = .int .i64 (k : Int) ∧ Below V.heap.size V wr ∧ IR wr V.heap.size P l.length (pts t l (d.take k)) ∧ ∀ j (hj : j < d.length), wr.cell? ⟨O, j, none⟩ = some (.int .i64 (d[j] : Int))
set_option maxHeartbeats 16000000 in
set_option maxRecDepth 100000 in
theorem share_any (t : Int) (A : Option Addr) (c : Nat) (l : List Int) (hn : l.length ≤ 9223372036854775807) (w : World) (hr : Rd w A (ints l)) :
    Calls Tryz.prog 124 #[.int .i64 t, .slice A l.length c] w (SharePost t l w) := by
  obtain ⟨i0, hi0, hz0, hz1, hz2⟩ := info_parts info_int
  have HR := Lib.hid hr
  clear hr
  by_cases h64 : 64 < l.length
  · have t0 : decide ((64 : Int) < (l.length : Int)) = true := decide_eq_true (by omega)
    have hno : ¬ Wt l := fun h => by have := h.len; omega
    clear hi0 hz0 hz1 hz2
    go_enter Tryz.func124, Tryz.ntmps124
    go_wp2_with fail
    go_ret2
    exact share_no (fun h => hno h.1) (Below.refl _ _)
  have t0 : decide ((64 : Int) < (l.length : Int)) = false := decide_eq_false (by omega)
  have hmk : i0.bytes * l.length ≤ 281474976710656 := by rw [hz2]; omega
  have hml : l.length ≤ maxLen := by unfold maxLen; omega
  have INF := Lib.hid (And.intro hi0 (And.intro hz0 (And.intro hz1 (And.intro hmk hml))))
  clear hi0 hz0 hz1 hz2 hmk hml
  go_enter Tryz.func124, Tryz.ntmps124
  go_wp2_with fail
  go_loopw [6, 25] (fun s6 s25 wr => ShA w l s6 s25 wr) (fun _ i _ => l.length - (intOf i).toNat)
  case atStart => exact ⟨0, by omega, rfl, rfl, Lib.hid ⟨fun i hi => absurd hi (Nat.not_lt_zero _), by show (0 : Int) ≤ _; omega⟩, ⟨w, Below.refl _ _⟩, rfl⟩
  case round =>
    obtain ⟨k, hk, rfl, rfl, hwt, y, rfl⟩ := hrel
    have s1 := hwt.out.nonneg
    have s2 := hwt.out.sum
    by_cases hlt : k < l.length
    · have i3 : decide ((k : Int) < (l.length : Int)) = true := decide_eq_true (by omega)
      obtain ⟨ad, u, rfl, hadb, e1, e2⟩ := (HR.out.bel y).at (k := k) (by rw [ints_length]; exact hlt)
      rw [ints_at hlt] at e1
      cases e1
      have j1 : (0 : Int) ≤ (k : Int) := by omega
      have j2 : (k : Int) < (l.length : Int) := by omega
      have HL := Lib.hid hlt
      obtain ⟨S, hS⟩ : ∃ S, su (gi l) k = S := ⟨_, rfl⟩
      obtain ⟨v, hv⟩ : ∃ v, gi l k = v := ⟨_, rfl⟩
      rw [hS] at s1 s2
      rw [hv] at e2
      rw [hS]
      have wS : IntKind.i64.wrap (1125899906842624 - S) = 1125899906842624 - S := IntWalk.i64_in _ (by omega)
      have HS := Lib.hid hS
      have HV := Lib.hid hv
      clear hS hv
      by_cases v0 : v < 0
      · have v0' : decide (v < 0) = true := decide_eq_true v0
        go_wp2_with fail
        go_ret2
        exact share_no (fun h => not_wt_neg HL.out (by rw [HV.out]; exact of_decide_eq_true v0') h.1) y.2
      have v0' : decide (v < 0) = false := decide_eq_false v0
      by_cases v1 : 1125899906842624 - S < v
      · have v1' : decide (1125899906842624 - S < v) = true := decide_eq_true v1
        go_wp2_with fail
        go_ret2
        exact share_no (fun h => not_wt_sum HL.out (by rw [HV.out, HS.out]; exact of_decide_eq_true v1') h.1) y.2
      have v1' : decide (1125899906842624 - S < v) = false := decide_eq_false v1
      have wA : IntKind.i64.wrap (S + v) = S + v := IntWalk.i64_in _ (by omega)
      have HX := Lib.hid (hwt.out.step (by rw [HV.out]; omega) (by rw [HV.out, HS.out]; omega))
      have HZ := Lib.hid (show su (gi l) (k + 1) = S + v by show su (gi l) k + gi l k = _; rw [HV.out, HS.out])
      go_wp2_with fail
      go_roundw
      case rel => exact ⟨k + 1, by have := HL.out; omega, by go_num, by rw [HZ.out], HX, y, rfl⟩
      case measure => have := HL.out; simp [intOf]; omega
    · have i3 : decide ((k : Int) < (l.length : Int)) = false := decide_eq_false (by omega)
      obtain rfl : k = l.length := by omega
      have HW := Lib.hid (hwt.out.all (by omega))
      rw [← sum_su] at s1 s2 ⊢
      obtain ⟨S, hS⟩ : ∃ S, l.sum = S := ⟨_, rfl⟩
      rw [hS] at s1 s2
      rw [hS]
      have HS := Lib.hid hS
      clear hS hwt
      by_cases t1 : t < 0
      · have t1' : decide (t < 0) = true := decide_eq_true t1
        go_wp2_with fail
        go_ret2
        exact share_no (fun h => by have := of_decide_eq_true t1'; omega) y.2
      have t1' : decide (t < 0) = false := decide_eq_false t1
      by_cases t2 : S < t
      · have t2' : decide (S < t) = true := decide_eq_true t2
        go_wp2_with fail
        go_ret2
        exact share_no (fun h => by have := of_decide_eq_true t2'; rw [HS.out] at h; omega) y.2
      have t2' : decide (S < t) = false := decide_eq_false t2
      have hby : Below w.heap.size w y.w := y.2
      by_cases t3 : S = 0
      · have t3' : decide (S = 0) = true := decide_eq_true t3
        obtain rfl : t = 0 := by omega
        go_upto_region 13 with fail
        go_wp2_with (first | (at_make; refine wpList_make_full _ rfl _ _ 29 rfl w.heap.size 3 i0 (.int .i64 0) 1 Tryz.underlying29 INF.out.1 INF.out.2.1 INF.out.2.2.1 _ _ _ _ l.length rfl rfl rfl rfl INF.out.2.2.2.1 INF.out.2.2.2.2 y.2.size ?_))
        intro w1 hown1 hg1
        have hI := ir_made (fun _ => 0) hown1
        clear hown1
        go_wp2_with fail
        go_ret2
        exact .inl ⟨_, _, rfl, HW.out, Int.le_refl _, by rw [HS.out]; exact s1, share_zero (by rw [HS.out]; exact t3), hI, below_grown hby hg1 (fun k hk => by cases hk)⟩
      have t3' : decide (S = 0) = false := decide_eq_false t3
      go_upto_region 13 with fail
      go_wp2_with (first | (at_make; refine wpList_make_full _ rfl _ _ 29 rfl w.heap.size 3 i0 (.int .i64 0) 1 Tryz.underlying29 INF.out.1 INF.out.2.1 INF.out.2.2.1 _ _ _ _ l.length rfl rfl rfl rfl INF.out.2.2.2.1 INF.out.2.2.2.2 y.2.size ?_))
      intro w1 hown1 hg1
      have HI1 := Lib.hid (ir_made (qq t l) hown1)
      have HB1 := Lib.hid (below_grown hby hg1 (fun k hk => by cases hk))
      clear hown1 hg1
      go_upto_region 16 with fail
      go_wp2_with (first | (at_make; refine wpList_make_full _ rfl _ _ 29 rfl w.heap.size 3 i0 (.int .i64 0) 1 Tryz.underlying29 INF.out.1 INF.out.2.1 INF.out.2.2.1 _ _ _ _ l.length rfl rfl rfl rfl INF.out.2.2.2.1 INF.out.2.2.2.2 HB1.out.size ?_))
      intro w2 hown2 hg2
      have HI2 := Lib.hid (ir_made (rr t l) hown2)
      have HJ1 := Lib.hid (HI1.out.kept hg2 (by simp))
      have HB2 := Lib.hid (below_grown HB1.out hg2 (fun k hk => by cases hk))
      clear hown2 hg2
      go_upto_region 17 with fail
      refine wp_named _ (fun w3 h3 => ?_)
      have hcR : w3.cell? ⟨w2.heap.size, 0, none⟩ = some (.slice (some ⟨w1.heap.size, 0, none⟩) l.length l.length) := by rw [h3]; simp
      have hg3 := grown_alloc w2 (Obj.cells #[Value.slice (some ⟨w1.heap.size, 0, none⟩) l.length l.length] 29)
      have hsz3 : w2.heap.size < w3.heap.size := by rw [h3, World.size_alloc]; omega
      rw [← h3] at hg3
      have HK1 := Lib.hid (HJ1.out.kept hg3 (by simp))
      have HK2 := Lib.hid (HI2.out.kept hg3 (by simp))
      have HB3 := Lib.hid (below_grown HB2.out hg3 (fun k hk => by cases hk))
      have l1 := HI1.out.lt.2
      have l2 := HI2.out.lt.2
      clear h3 hg3
      go_wp2_with (first | (at_make; refine wpList_make_full _ rfl _ _ 29 rfl w.heap.size 3 i0 (.int .i64 0) 1 Tryz.underlying29 INF.out.1 INF.out.2.1 INF.out.2.2.1 _ _ _ _ l.length rfl rfl rfl rfl INF.out.2.2.2.1 INF.out.2.2.2.2 HB3.out.size ?_))
      intro w4 hown4 hg4
      have HI4 := Lib.hid (ir_made (fun i => (i : Int)) hown4)
      have HL1 := Lib.hid (HK1.out.kept hg4 (by simp))
      have HL2 := Lib.hid (HK2.out.kept hg4 (by simp))
      have hcR4 := hg4.cell hcR (by simp)
      have HB4 := Lib.hid (below_grown HB3.out hg4 (fun k hk => by cases hk))
      have l4 := HI4.out.lt.2
      clear hown4 hg4 hcR
      go_upto_region 18 with fail
      refine wp_named _ (fun w5 h5 => ?_)
      have hM : ShM w l.length y.w.heap.size w1.heap.size w2.heap.size w3.heap.size w4.heap.size (fl l.length 0 (qq t l)) (fl l.length 0 (rr t l)) (fl l.length 0 (fun i => (i : Int))) w5 := by
        have hg := grown_alloc w4 (Obj.cells #[Value.slice (some ⟨w3.heap.size, 0, none⟩) l.length l.length] 29)
        rw [← h5] at hg
        exact ⟨below_grown HB4.out hg (fun k hk => by cases hk), HL1.out.kept hg (by simp), HL2.out.kept hg (by simp), HI4.out.kept hg (by simp), hg.cell hcR4 (by simp), by rw [h5]; simp⟩
      have hap : Apart y.w.heap.size w1.heap.size w2.heap.size w3.heap.size w4.heap.size := ⟨l1, l2, hsz3, l4⟩
      clear h5 hcR4 hsz3 l1 l2 l4 HI1 HI2 HI4 HJ1 HK1 HK2 HL1 HL2 HB1 HB2 HB3 HB4
      obtain ⟨P, hP⟩ : ∃ P, y.w.heap.size = P := ⟨_, rfl⟩
      obtain ⟨R, hR⟩ : ∃ P, w1.heap.size = P := ⟨_, rfl⟩
      obtain ⟨bR, hbR⟩ : ∃ P, w2.heap.size = P := ⟨_, rfl⟩
      obtain ⟨O, hO⟩ : ∃ P, w3.heap.size = P := ⟨_, rfl⟩
      obtain ⟨bO, hbO⟩ : ∃ P, w4.heap.size = P := ⟨_, rfl⟩
      rw [hP, hR, hbR, hO, hbO] at hM hap ⊢
      clear hP hR hbR hO hbO hby
      have HM0 := Lib.hid hM
      have HAP := Lib.hid hap
      clear hM
      obtain ⟨a1, a2, a3, a4⟩ := hap
      have n1 : P ≠ R := by omega
      have n2 : P ≠ O := by omega
      have n3 : R ≠ O := by omega
      have n4 : bR ≠ P ∧ bR ≠ R ∧ bR ≠ O ∧ bO ≠ P ∧ bO ≠ R ∧ bO ≠ O := by omega
      have hS1 : l.sum ≥ 1 := by rw [HS.out]; omega
      have hw : wOf l = S := by unfold wOf; rw [HS.out]; omega
      have hex := extra_bounds (t := t) hS1
      have HEX := Lib.hid hex
      have HWO := Lib.hid hw
      have HS1 := Lib.hid hS1
      clear hex hw hS1 a1 a2 a3 a4
      go_wp2_with fail
      go_loopw [12, 63] (fun s12 s63 wr => ShB w t l P R bR O bO s12 s63 wr) (fun _ i _ => l.length - (intOf i).toNat)
      case atStart => exact ⟨0, by omega, rfl, by show _ = Value.int _ (t - 0); rw [Int.sub_zero], HM0.out⟩
      case round =>
        obtain ⟨k, hk, rfl, rfl, hM⟩ := hrel
        by_cases hlt : k < l.length
        · have i3 : decide ((k : Int) < (l.length : Int)) = true := decide_eq_true (by omega)
          refine wp_rebase _ (fun U hU x1 => ?_)
          subst hU
          obtain ⟨ad, u, rfl, hadb, e1, e2⟩ := (HR.out.below (Nat.le_refl _) hM.bel).at (k := k) (by rw [ints_length]; exact hlt)
          rw [ints_at hlt] at e1
          cases e1
          have j1 : (0 : Int) ≤ (k : Int) := by omega
          have j2 : (k : Int) < (l.length : Int) := by omega
          have hq := qq_le HW.out (by omega : 0 ≤ t) (by rw [HS.out]; omega) hlt
          have hle := HW.out.le hlt
          have hsq := suq_le HW.out (by omega : 0 ≤ t) (by rw [HS.out]; omega) hk
          have hv0 := HW.out.pos k hlt
          rw [HS.out] at hle
          have hqr : qq t l k = t * gi l k / S ∧ rr t l k = t * gi l k % S := by unfold qq rr; rw [HWO.out]; exact ⟨rfl, rfl⟩
          have SC := Lib.hid (fun u : BelW U => bel_of_drew (scale_any t (gi l k) S u.w))
          rw [Xa.scale_yes ⟨by omega, by omega, hv0, by omega, by omega, s2, by rw [← hqr.1]; omega⟩, ← hqr.1, ← hqr.2] at SC
          obtain ⟨v, hv⟩ : ∃ v, gi l k = v := ⟨_, rfl⟩
          obtain ⟨q, hqe⟩ : ∃ v, qq t l k = v := ⟨_, rfl⟩
          obtain ⟨r, hre⟩ : ∃ v, rr t l k = v := ⟨_, rfl⟩
          obtain ⟨E, hE⟩ : ∃ v, su (qq t l) k = v := ⟨_, rfl⟩
          rw [hv] at e2 SC hq
          rw [hqe, hre] at SC
          rw [hqe] at hq
          rw [hE] at hsq ⊢
          have wE : IntKind.i64.wrap (t - E - q) = t - E - q := IntWalk.i64_in _ (by omega)
          have HZ := Lib.hid (show su (qq t l) (k + 1) = E + q by show su (qq t l) k + qq t l k = _; rw [hqe, hE])
          have HQ := Lib.hid hqe
          have HRR := Lib.hid hre
          have HM := Lib.hid hM
          have s1' := fun z : BelW U => BelW.cells e2 z
          have s2' := fun z : BelW U => BelW.cells HM.out.cR z
          have s3' := fun z : BelW U => BelW.cells HM.out.cO z
          have SC' := Lib.hid (show ∀ u : BelW U, Calls Tryz.prog 106 #[.int .i64 t, .int .i64 v, .int .i64 S] u.w fun e w' => e = .returned (.tuple #[.int .i64 q, .int .i64 r, .bool true]) ∧ ∃ z : BelW U, w' = z.w from SC.out)
          clear e2 hq hsq hv hqe hre hE hqr hle hv0 hM SC
          go_upto_region 23 with (first | (go_at_call 106; with_reducible refine (SC'.out _).mono ?_; rintro e w' ⟨rfl, yy, rfl⟩))
          refine wp_named _ (fun U2 hU2 => ?_)
          have hz : ShM w l.length P R bR O bO (fl l.length k (qq t l)) (fl l.length k (rr t l)) (fl l.length k (fun i => (i : Int))) U2 := by rw [hU2]; exact HM.out.bel' _
          have c1 := hz.p.cell hlt
          have c2 := hz.r.cell hlt
          have c3 := hz.o.cell hlt
          have f1 := hz.p.frozen k
          have f2 := hz.r.frozen k
          have f3 := hz.o.frozen k
          have c4 := hz.cR
          have c5 := hz.cO
          have HZZ := Lib.hid hz
          have NE := Lib.hid (show (⟨P, k, none⟩ : Addr) ≠ ⟨bR, 0, none⟩ ∧ (⟨P, k, none⟩ : Addr) ≠ ⟨bO, 0, none⟩ ∧ (⟨R, k, none⟩ : Addr) ≠ ⟨bR, 0, none⟩ ∧ (⟨R, k, none⟩ : Addr) ≠ ⟨bO, 0, none⟩ ∧ (⟨O, k, none⟩ : Addr) ≠ ⟨bR, 0, none⟩ ∧ (⟨O, k, none⟩ : Addr) ≠ ⟨bO, 0, none⟩ from by
            have g : ∀ a b : Nat, a ≠ b → (⟨a, k, none⟩ : Addr) ≠ ⟨b, 0, none⟩ := fun a b h e => h (congrArg Addr.block e)
            exact ⟨g _ _ (by omega), g _ _ (by omega), g _ _ (by omega), g _ _ (by omega), g _ _ (by omega), g _ _ (by omega)⟩)
          clear hz s1' s2' s3' hU2
          go_region_held3 (fun w' => w'.cell? ⟨bR, 0, none⟩ = some (.slice (some ⟨R, 0, none⟩) l.length l.length) ∧ w'.cell? ⟨bO, 0, none⟩ = some (.slice (some ⟨O, 0, none⟩) l.length l.length))
            (first
              | (go_split_ands; exact ⟨by assumption, by assumption⟩)
              | (go_split_ands; refine ⟨?_, ?_⟩ <;> ((try simp only [World.cell?_drew]); first | (rw [World.cell?_setCell_other _ _ _ _ NE.out.1]; assumption) | (rw [World.cell?_setCell_other _ _ _ _ NE.out.2.1]; assumption) | (rw [World.cell?_setCell_other _ _ _ _ NE.out.2.2.1]; assumption) | (rw [World.cell?_setCell_other _ _ _ _ NE.out.2.2.2.1]; assumption) | (rw [World.cell?_setCell_other _ _ _ _ NE.out.2.2.2.2.1]; assumption) | (rw [World.cell?_setCell_other _ _ _ _ NE.out.2.2.2.2.2]; assumption)))
              | go_keep)
            (fail)
          go_upto_region 24 with fail
          refine wp_named _ (fun w6 h6 => ?_)
          have hM6 : ShM w l.length P R bR O bO (fl l.length (k + 1) (qq t l)) (fl l.length (k + 1) (rr t l)) (fl l.length (k + 1) (fun i => (i : Int))) w6 := by
            have h := ((HZZ.out.setP HAP.out k q).setR HAP.out k r).setO HAP.out k (k : Int)
            rw [← HQ.out, ← HRR.out, fl_set hlt, fl_set hlt, fl_set (f := fun i => (i : Int)) hlt, HQ.out, HRR.out] at h
            rw [h6]
            exact ⟨h.bel.drew, h.p.drew, h.r.drew, h.o.drew, h.cR, h.cO⟩
          have HM6 := Lib.hid hM6
          clear hM6 h6 c1 c2 c3 c4 c5 f1 f2 f3 NE
          go_wp2_with fail
          go_roundw
          case rel => exact ⟨k + 1, by omega, by go_num, by rw [HZ.out, Int.sub_sub], HM6.out⟩
          case measure => simp [intOf]; omega
        · have i3 : decide ((k : Int) < (l.length : Int)) = false := decide_eq_false (by omega)
          obtain rfl : k = l.length := by omega
          obtain ⟨e, he⟩ : ∃ e : Nat, t - su (qq t l) l.length = (e : Int) := ⟨(t - su (qq t l) l.length).toNat, by have := HEX.out.1; omega⟩
          have hen : e ≤ l.length := by have := HEX.out.2; omega
          have hn1 : 1 ≤ l.length := by
            rcases Nat.eq_zero_or_pos l.length with h0 | h0
            · have := HS1.out; rw [sum_su, h0] at this; exact absurd this (by show ¬ ((0 : Int) ≥ 1); decide)
            · exact h0
          have HM := Lib.hid hM
          have HE := Lib.hid he
          rw [he]
          have hS := Lib.hid (sort_any l.length O R bO bR (rr t l) wr hM.cO hM.cR (fun k hk => by rw [hM.o.cell hk, fl_at hk, if_pos hk]) (fun k _ => hM.o.frozen k) (fun k hk => by rw [hM.r.cell hk, fl_at hk, if_pos hk]) n4.2.2.2.2.2 n4.2.2.1 n3 hn1 (by omega))
          have c4 := hM.cR
          have c5 := hM.cO
          clear hM he hk
          go_upto_region 27 with (first | (go_at_call 133; with_reducible refine hS.out.mono ?_; rintro e' w' ⟨rfl, hsr⟩))
          obtain ⟨d, hp, hs, hg, hc⟩ := hsr
          have hdl : d.length = l.length := by rw [hp.length_eq, List.length_range]
          have hB7 := below_grown HM.out.bel hg (fun k hk => by cases hk; exact HM.out.o.lt.1)
          have hP7 : IR w' w.heap.size P l.length (pts t l (d.take 0)) := by
            have h := HM.out.p.kept hg (by simp; omega)
            have e0 : fl l.length l.length (qq t l) = pts t l (d.take 0) := gi_ext (by rw [fl_length, pts_length]) fun i hi => by
              rw [fl_length] at hi
              rw [fl_at hi, pts_at hi, if_pos hi, List.take_zero, if_neg (by simp), Int.add_zero]
            rwa [e0] at h
          have c6 := hg.cell c5 (by simp; exact n4.2.2.2.2.2)
          have HD := Lib.hid hp
          have HSO := Lib.hid hs
          have HC0 := Lib.hid (And.intro hB7 (And.intro hP7 hc))
          have HDL := Lib.hid hdl
          have m1 : (0 : Int) ≤ (e : Int) := by omega
          have m2 : (e : Int) ≤ (l.length : Int) := by omega
          clear hp hs hg hc hB7 hP7 c4 c5 hdl HM0 HM hS n1 n3 HWO HEX
          go_wp2_with fail
          go_loopw [100] (fun s100 wr => ShC w t l d P O e s100 wr) (fun i _ => e - (intOf i).toNat)
          case atStart => exact ⟨0, by omega, rfl, HC0.out⟩
          case round =>
            obtain ⟨k, hk, rfl, hB, hP, hc⟩ := hrel
            by_cases hlt : k < e
            · have i3 : decide ((k : Int) < (e : Int)) = true := decide_eq_true (by omega)
              have hkd : k < d.length := by rw [HDL.out]; omega
              obtain ⟨st1, st2, st3⟩ := pts_step (t := t) HD.out hkd
              have hq := qq_le HW.out (by omega : 0 ≤ t) (by rw [HS.out]; omega) st2
              have hle := HW.out.le st2
              rw [HS.out] at hle
              have o1 := hc k hkd
              have o2 := hP.cell st2
              have f2 := hP.frozen d[k]
              rw [st3] at o2 st1
              obtain ⟨i, hi⟩ : ∃ i, d[k] = i := ⟨_, rfl⟩
              rw [hi] at st1 st2 o1 o2 f2 hq hle
              obtain ⟨q, hqe⟩ : ∃ q, qq t l i = q := ⟨_, rfl⟩
              rw [hqe] at o2 st1 hq
              have j1 : (0 : Int) ≤ (k : Int) := by omega
              have j2 : (k : Int) < (e : Int) := by omega
              have j3 : (0 : Int) ≤ (i : Int) := by omega
              have j4 : (i : Int) < (l.length : Int) := by omega
              have wq : IntKind.i64.wrap (q + 1) = q + 1 := IntWalk.i64_in _ (by omega)
              have ne : ∀ j, (⟨P, i, none⟩ : Addr) ≠ ⟨O, j, none⟩ := fun j h => n2 (congrArg Addr.block h)
              have HX := Lib.hid (show Below w.heap.size w (wr.setCell ⟨P, i, none⟩ (.int .i64 (q + 1))) ∧ IR (wr.setCell ⟨P, i, none⟩ (.int .i64 (q + 1))) w.heap.size P l.length (pts t l (d.take (k + 1))) ∧ ∀ j (hj : j < d.length), (wr.setCell ⟨P, i, none⟩ (.int .i64 (q + 1))).cell? ⟨O, j, none⟩ = some (.int .i64 (d[j] : Int)) from
                ⟨hB.setCell hP.lt.1 _, by rw [← st1]; exact hP.set i (q + 1), fun j hj => by rw [World.cell?_setCell_other _ _ _ _ (ne j)]; exact hc j hj⟩)
              clear st1 st2 st3 hq hle hi hqe hB hP hc ne
              go_wp2_with fail
              go_roundw
              case rel => exact ⟨k + 1, by omega, by go_num, HX.out⟩
              case measure => simp [intOf]; omega
            · have i3 : decide ((k : Int) < (e : Int)) = false := decide_eq_false (by omega)
              obtain rfl : k = e := by omega
              have HX := Lib.hid (And.intro hB hP)
              clear hB hP hc
              go_wp2_with fail
              go_ret2
              refine .inl ⟨P, _, rfl, HW.out, by omega, by rw [HS.out]; omega, share_sorted HD.out (fun a b ha hb hab hbf => ?_) HE.out.symm hen, HX.out.2, HX.out.1⟩
              have := HSO.out a b ha hb hab
              rw [ltI_iff.2 hbf] at this
              cases this
end Go.Proofs.YtngjakahanmepaaGreatDoor.Pw
