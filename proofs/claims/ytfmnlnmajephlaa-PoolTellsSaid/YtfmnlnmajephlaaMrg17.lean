/- PoolMerges: the walk. -/
import Derived.Test.YtfmnlnmajephlaaGiv17
namespace Go.Proofs.Ytfmnlnmajephlaa
open Go.RowKit
set_option linter.unusedVariables false
set_option linter.unusedSimpArgs false

def sumL (p q : List Int) : List Int := gl p.length fun i => gi p i + gi q i
theorem sumL_length (p q : List Int) : (sumL p q).length = p.length := gl_length _ _
theorem sumL_at {p q : List Int} {i : Nat} (h : i < p.length) : gi (sumL p q) i = gi p i + gi q i := gl_at h
theorem add_small {a b : Int} (ha : 0 ≤ a ∧ a ≤ 1125899906842624) (hb : 0 ≤ b ∧ b ≤ 1125899906842624) : Xa.add a b = a + b := by
  unfold Xa.add
  rw [if_neg (by omega), if_neg (by omega)]
theorem addF_sum {p q : List Int} (hp : RiP p) (hq : RiP q) (hl : q.length = p.length) : addF p.length p q = sumL p q ∧ addF p.length q p = sumL p q := by
  constructor <;> refine gl_congr fun i hi => ?_
  · exact add_small (ri_le hp hi) (ri_le hq (by omega))
  · rw [add_small (ri_le hq (by omega)) (ri_le hp hi), Int.add_comm]
theorem sumL_su {p q : List Int} {k : Nat} (hk : k ≤ p.length) : su (gi (sumL p q)) k = su (gi p) k + su (gi q) k := by
  rw [su_congr (fun i hi => sumL_at (by omega)), su_add]
theorem su_nonneg {p : List Int} (hp : RiP p) {k : Nat} (hk : k ≤ p.length) : 0 ≤ su (gi p) k ∧ su (gi p) k ≤ 1125899906842624 := by
  have e := su_le (f := fun _ => 0) (g := gi p) (n := k) (fun j hj => hp.pos j (by omega))
  rw [su_zero (fun _ _ => rfl)] at e
  have := su_mono hp.pos hk
  have := hp.sum
  omega
theorem sumL_tot {p q : List Int} (hp : RiP p) (hq : RiP q) (hl : q.length = p.length) : tot (sumL p q) p.length = tot p p.length + tot q p.length := by
  rw [tot_ri hp (Nat.le_refl _), tot_ri hq (by omega), ← sumL_su (Nat.le_refl _)]
  refine tot_su fun j hj => ?_
  rw [sumL_su hj]
  have a := su_nonneg hp hj
  have b := su_nonneg hq (k := j) (by omega)
  omega

set_option maxHeartbeats 16000000 in
set_option maxRecDepth 100000 in
theorem mrg_any (A B : Option Addr) (ca cb : Nat) (p q : List Int) (hnp : p.length ≤ 9223372036854775807) (hnq : q.length ≤ 9223372036854775807) (hfp : ∀ i, i < p.length → Fit (gi p i)) (hfq : ∀ i, i < q.length → Fit (gi q i)) (w : World) (hrp : Rd w A (ints p)) (hrq : Rd w B (ints q)) :
    Calls Try.prog 7 #[.slice A p.length ca, .slice B q.length cb] w fun e w' => e = .returned (.bool true) ∧ Below w.heap.size w w' := by
  refine rebase w (fun V hV x0 => ?_)
  subst hV
  have CS := Lib.hid (fun u : BelW V => bel_of (small_any u.w))
  cases hb : rightF p (p.length : Int)
  case false =>
    have CR := Lib.hid (fun u : BelW V => right_c A ca p p.length _ rfl hnp false hb u (hrp.bel u))
    clear hb hrp hrq hfp hfq
    go_enter Try.func7, Try.ntmps7
    go_wp2_with (first | (go_at_call 8; with_reducible refine (CS.out _).mono ?_; rintro e w' ⟨rfl, yy, rfl⟩) | (go_at_call 9; with_reducible refine (CR.out _).mono ?_; rintro e w' ⟨rfl, yy, rfl⟩))
    go_ret
    exact ⟨rfl, BelW.below7 _⟩
  have CR := Lib.hid (fun u : BelW V => right_c A ca p p.length _ rfl hnp true hb u (hrp.bel u))
  cases hb2 : rightF q (p.length : Int)
  case false =>
    have C1 := Lib.hid (fun u : BelW V => right_c B cb q q.length _ rfl hnq false hb2 u (hrq.bel u))
    clear hb hb2 hrp hrq hfp hfq
    go_enter Try.func7, Try.ntmps7
    go_wp2_with (first | (go_at_call 8; with_reducible refine (CS.out _).mono ?_; rintro e w' ⟨rfl, yy, rfl⟩) | (go_at_call 9; with_reducible refine (CR.out _).mono ?_; rintro e w' ⟨rfl, yy, rfl⟩) | (go_at_call 9; with_reducible refine (C1.out _).mono ?_; rintro e w' ⟨rfl, yy, rfl⟩))
    go_ret
    exact ⟨rfl, BelW.below7 _⟩
  have C1 := Lib.hid (fun u : BelW V => right_c B cb q q.length _ rfl hnq true hb2 u (hrq.bel u))
  obtain ⟨_, h16, _, hrip⟩ := rightF_iff.1 hb
  obtain ⟨_, _, hlq, hriq⟩ := rightF_iff.1 hb2
  have h16' : p.length ≤ 16 := by omega
  have hlq' : q.length = p.length := by omega
  have HP := Lib.hid hrip
  have HQ := Lib.hid hriq
  have CA := Lib.hid (fun (u : World) (h : Below V.heap.size V u) => padd_any A B ca cb p q p.length q.length p.length rfl rfl (by omega) (by omega) hfp hfq u (hrp.below (Nat.le_refl _) h) (hrq.below (Nat.le_refl _) h))
  have CA2 := Lib.hid (fun (u : World) (h : Below V.heap.size V u) => padd_any B A cb ca q p q.length p.length p.length rfl rfl (by omega) (by omega) hfq hfp u (hrq.below (Nat.le_refl _) h) (hrp.below (Nat.le_refl _) h))
  rw [(addF_sum hrip hriq hlq').1] at CA
  rw [(addF_sum hrip hriq hlq').2] at CA2
  have HLQ := Lib.hid hlq'
  have HRP := Lib.hid hrp
  have HRQ := Lib.hid hrq
  have HFP := Lib.hid hfp
  have HFQ := Lib.hid hfq
  have HST := Lib.hid (sumL_tot hrip hriq hlq')
  have HRS := Lib.hid (show (sumL p q).sum ≤ 1125899906842624 → RiP (sumL p q) from fun h => by
    rw [sum_su, sumL_length] at h
    unfold RiP
    rw [sumL_length]
    exact ⟨fun i hi => by rw [sumL_at hi]; have := (ri_le hrip hi).1; have := (ri_le hriq (i := i) (by omega)).1; omega, h⟩)
  have HSF := Lib.hid (show ∀ i, i < p.length → Fit (gi (sumL p q) i) from fun i hi => by
    rw [sumL_at hi]; have := ri_le hrip hi; have := ri_le hriq (i := i) (by omega); unfold Fit; omega)
  have HSE := Lib.hid (show (sumL p q).sum = tot (sumL p q) p.length by
    rw [sum_su, sumL_length, sumL_su (Nat.le_refl _), sumL_tot hrip hriq hlq', tot_ri hrip (Nat.le_refl _), tot_ri hriq (by omega)])
  have hsp := tot_ri hrip (Nat.le_refl _)
  have hsp2 := su_nonneg hrip (Nat.le_refl _)
  have hsq := tot_ri hriq (Nat.le_refl _)
  have hsq2 := su_nonneg hriq (Nat.le_refl _)
  clear hb hb2 hrp hrq hfp hfq h16 hlq hrip hriq hlq'
  go_enter Try.func7, Try.ntmps7
  go_upto_region 4 with (first | (go_at_call 8; with_reducible refine (CS.out _).mono ?_; rintro e w' ⟨rfl, yy, rfl⟩) | (go_at_call 9; with_reducible refine (CR.out _).mono ?_; rintro e w' ⟨rfl, yy, rfl⟩) | (go_at_call 9; with_reducible refine (C1.out _).mono ?_; rintro e w' ⟨rfl, yy, rfl⟩))
  go_wp2_with fail
  refine (CA.out _ yy.2).mono ?_
  rintro e w1 ⟨g1, rfl, hI1, hB1⟩
  have hB1' := below_next yy.2 hB1
  go_upto_region 5 with fail
  go_wp2_with fail
  refine (CA2.out _ hB1').mono ?_
  rintro e w2 ⟨g2, rfl, hI2, hB2⟩
  have HI1 := Lib.hid (hI1.next hB2)
  have HI2 := Lib.hid hI2
  have HB := Lib.hid (below_next hB1' hB2)
  clear hI1 hI2 hB1 hB2 hB1' CA CA2 CR CS C1
  go_upto_region 6 with fail
  refine wp_rebase _ (fun U hU z0 => ?_)
  subst hU
  have HRU := Lib.hid (HRP.out.below (Nat.le_refl _) HB.out)
  have HQU := Lib.hid (HRQ.out.below (Nat.le_refl _) HB.out)
  obtain ⟨Sp, hSp⟩ : ∃ S, tot p p.length = S := ⟨_, rfl⟩
  obtain ⟨Sq, hSq⟩ : ∃ S, tot q q.length = S := ⟨_, rfl⟩
  have hst := HST.out
  rw [show tot q p.length = Sq by rw [← hSq, HLQ.out], hSp] at hst
  rw [hSp] at hsp
  rw [hSq] at hsq
  have wS : IntKind.i64.wrap (Sp + Sq) = Sp + Sq := IntWalk.i64_in _ (by omega)
  obtain ⟨S, hS⟩ : ∃ S, Sp + Sq = S := ⟨_, rfl⟩
  rw [hS] at hst
  have wS' : IntKind.i64.wrap (Sp + Sq) = S := wS.trans hS
  have C1 := Lib.hid (fun u : BelW U => total_c A ca p p.length rfl hnp HFP.out Sp hSp u (HRU.out.bel u))
  have C2 := Lib.hid (fun u : BelW U => total_c B cb q q.length rfl hnq HFQ.out Sq hSq u (HQU.out.bel u))
  have C3 := Lib.hid (fun u : BelW U => total_c (some ⟨g1, 0, none⟩) p.length (sumL p q) p.length (sumL_length _ _) hnp HSF.out S hst u (HI1.out.rd.bel u))
  have C4 := Lib.hid (fun u : BelW U => same_c (some ⟨g1, 0, none⟩) (some ⟨g2, 0, none⟩) p.length p.length (sumL p q) (sumL p q) p.length p.length (sumL_length _ _) (sumL_length _ _) hnp hnp true (by simp) u (HI1.out.rd.bel u) (HI2.out.rd.bel u))
  have HSS := Lib.hid (show (sumL p q).sum = S by rw [HSE.out, hst])
  have hS0 : 0 ≤ S := by omega
  clear hsp hsp2 hsq hsq2 hst hSp hSq wS hS
  go_wp2_with (first | (go_at_call 11; with_reducible refine (C1.out _).mono ?_; rintro e w' ⟨rfl, yy, rfl⟩) | (go_at_call 11; with_reducible refine (C2.out _).mono ?_; rintro e w' ⟨rfl, yy, rfl⟩) | (go_at_call 11; with_reducible refine (C3.out _).mono ?_; rintro e w' ⟨rfl, yy, rfl⟩) | (go_at_call 15; with_reducible refine (C4.out _).mono ?_; rintro e w' ⟨rfl, yy, rfl⟩))
  go_loopw [8] (fun s8 wr => Rng U p.length s8 wr) (fun i _ => p.length - (intOf i).toNat)
  case atStart => exact ⟨0, by omega, rfl, _, rfl⟩
  case round =>
    obtain ⟨i, hi, rfl, y, rfl⟩ := hrel
    by_cases hlt : i < p.length
    · have i3 : decide ((i : Int) < (p.length : Int)) = true := decide_eq_true (by omega)
      have j1 : (0 : Int) ≤ (i : Int) := by omega
      have j2 : (i : Int) < (p.length : Int) := by omega
      have hlq := HLQ.out
      have j3 : (i : Int) < (q.length : Int) := by omega
      obtain ⟨ad, u, rfl, _, e3, e4⟩ := HRU.out.at (k := i) (by rw [ints_length]; exact hlt)
      rw [ints_at hlt] at e3
      cases e3
      obtain ⟨bd, u, rfl, _, e5, e6⟩ := HQU.out.at (k := i) (by rw [ints_length]; omega)
      rw [ints_at (by omega)] at e5
      cases e5
      have f1 := HI1.out.cell hlt
      rw [sumL_at hlt] at f1
      have b1 := ri_le HP.out hlt
      have b2 := ri_le HQ.out (i := i) (by omega)
      obtain ⟨v, hv⟩ : ∃ v, gi p i = v := ⟨_, rfl⟩
      obtain ⟨v2, hv2⟩ : ∃ v, gi q i = v := ⟨_, rfl⟩
      rw [hv] at e4 f1 b1
      rw [hv2] at e6 f1 b2
      have w1 : IntKind.i64.wrap (v + v2) = v + v2 := IntWalk.i64_in _ (by omega)
      have c1 := fun z : BelW U => BelW.cells e4 z
      have c2 := fun z : BelW U => BelW.cells f1 z
      have c3 := fun z : BelW U => BelW.cells e6 z
      clear e4 e6 f1 hv hv2 b1 b2 hlq
      go_upto_region 11 with fail
      refine wp_region_belx (by kernel_rfl) (by kernel_rfl) ?_
      repeat (go_big_quiet_step (fail))
      refine wpQuiet_nil ?_
      intro zz
      go_wp2_with fail
      go_roundw
      case rel => exact ⟨i + 1, by omega, by go_num, _, rfl⟩
      case measure => simp [intOf]; omega
    · have i3 : decide ((i : Int) < (p.length : Int)) = false := decide_eq_false (by omega)
      by_cases hbig : 1125899906842624 < S
      · have d1 : decide (1125899906842624 < S) = true := decide_eq_true hbig
        have hno : rightF (sumL p q) (p.length : Int) = false := by
          cases hx : rightF (sumL p q) (p.length : Int) with
          | false => rfl
          | true =>
            have := (rightF_iff.1 hx).2.2.2.sum
            have h2 := HSS.out
            rw [sum_su] at h2
            omega
        have C5 := Lib.hid (fun u : BelW U => right_c (some ⟨g1, 0, none⟩) p.length (sumL p q) p.length p.length (sumL_length _ _) hnp false hno u (HI1.out.rd.bel u))
        clear hno hbig
        go_wp2_with (first | (go_at_call 11; with_reducible refine (C3.out _).mono ?_; rintro e w' ⟨rfl, yy, rfl⟩) | (go_at_call 9; with_reducible refine (C5.out _).mono ?_; rintro e w' ⟨rfl, yy, rfl⟩))
        go_ret
        exact ⟨rfl, below_next HB.out (BelW.below7 _)⟩
      · have d1 : decide (1125899906842624 < S) = false := decide_eq_false hbig
        have hrs := HRS.out (by rw [HSS.out]; omega)
        have HRI := Lib.hid hrs
        have hws := hrs.wt (by rw [sumL_length]; omega)
        have HWS := Lib.hid hws
        have CT := Lib.hid (fun u : BelW U => take_any (some ⟨g1, 0, none⟩) p.length (sumL p q) (by rw [sumL_length]; omega) (by rw [sumL_length]; exact HSF.out) S u.w (HI1.out.rd.bel u))
        rw [sumL_length] at CT
        clear hrs hws hbig
        go_upto_region 15 with (first | (go_at_call 11; with_reducible refine (C3.out _).mono ?_; rintro e w' ⟨rfl, yy, rfl⟩))
        go_wp2_with (first | (go_at_call 11; with_reducible refine (C3.out _).mono ?_; rintro e w' ⟨rfl, yy, rfl⟩))
        refine (CT.out _).mono ?_
        rintro e w3 ⟨g3, g4, T, rfl, hT, _, hI3, hI4, hB3⟩
        have hX := hT.share HRI.out (by rw [sumL_length]; omega) hS0
        rw [show min S (sumL p q).sum = (sumL p q).sum by rw [HSS.out]; omega] at hX
        have r3 := share_ri' hX HWS.out (by rw [HSS.out]; exact hS0) (Int.le_refl _)
        rw [Int.sub_self, sumL_length] at r3
        obtain rfl := hX.full HWS.out
        have hU3 := below_next yy.2 hB3
        have HB3 := Lib.hid (below_next HB.out hU3)
        have HI1' := Lib.hid (HI1.out.next hU3)
        have HI3 := Lib.hid hI3
        have HI4 := Lib.hid hI4
        clear hT hX hI3 hI4 hB3 hU3 CT C1 C2 C3 C4
        go_upto_region 16 with fail
        refine wp_rebase _ (fun W hW z2 => ?_)
        subst hW
        have C1 := Lib.hid (fun u : BelW W => same_c (some ⟨g3, 0, none⟩) (some ⟨g1, 0, none⟩) p.length p.length (sumL p q) (sumL p q) p.length p.length (sumL_length _ _) (sumL_length _ _) hnp hnp true (by simp) u (HI3.out.rd.bel u) (HI1'.out.rd.bel u))
        have hfd := r3.1.fit
        rw [gl_length] at hfd
        have C2 := Lib.hid (fun u : BelW W => total_c (some ⟨g4, 0, none⟩) p.length (gl p.length fun i => gi (sumL p q) i - gi (sumL p q) i) p.length (gl_length _ _) hnp hfd 0 r3.2 u (HI4.out.rd.bel u))
        have C3 := Lib.hid (fun u : BelW W => right_c (some ⟨g4, 0, none⟩) p.length (gl p.length fun i => gi (sumL p q) i - gi (sumL p q) i) p.length p.length (gl_length _ _) hnp true (rightF_iff.2 ⟨by omega, by omega, by rw [gl_length], r3.1⟩) u (HI4.out.rd.bel u))
        clear r3 hfd
        go_wp2_with (first | (go_at_call 15; with_reducible refine (C1.out _).mono ?_; rintro e w' ⟨rfl, yy, rfl⟩) | (go_at_call 11; with_reducible refine (C2.out _).mono ?_; rintro e w' ⟨rfl, yy, rfl⟩) | (go_at_call 9; with_reducible refine (C3.out _).mono ?_; rintro e w' ⟨rfl, yy, rfl⟩))
        go_ret
        exact ⟨rfl, below_next HB3.out (BelW.below7 _)⟩

end Go.Proofs.Ytfmnlnmajephlaa
