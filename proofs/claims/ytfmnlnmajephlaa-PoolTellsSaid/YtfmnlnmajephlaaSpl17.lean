/- PoolSplits: the walk. -/
import Derived.Test.YtfmnlnmajephlaaOwn17
namespace Go.Proofs.Ytfmnlnmajephlaa
open Go.RowKit
set_option linter.unusedVariables false
set_option linter.unusedSimpArgs false

/-! near -/
theorem near_yes {V : World} (a v m S q r : Int) (hs : Xa.scale m v S = (q, r, true)) (h : a = q ∨ (a = q + 1 ∧ 0 < r)) (hq : -9223372036854775808 ≤ q + 1 ∧ q + 1 ≤ 9223372036854775807) (y : BelW V) :
    Calls Try.prog 12 #[.int .i64 a, .int .i64 v, .int .i64 m, .int .i64 S] y.w fun e w' => e = .returned (.bool true) ∧ ∃ z : BelW V, w' = z.w := by
  have C := Lib.hid (fun u : BelW V => bel_of_drew (x := u) (by have h' := scale_any m v S u.w; rw [hs] at h'; exact h'))
  have C' := Lib.hid (show ∀ u : BelW V, Calls Try.prog 27 #[.int .i64 m, .int .i64 v, .int .i64 S] u.w fun e w' => e = .returned (.tuple #[.int .i64 q, .int .i64 r, .bool true]) ∧ ∃ z : BelW V, w' = z.w from C.out)
  have w1 : IntKind.i64.wrap (q + 1) = q + 1 := IntWalk.i64_in _ hq
  clear hs C
  rcases h with h | ⟨h, h'⟩
  · subst h
    go_enter Try.func12, Try.ntmps12
    go_wp2_with (first | (go_at_call 27; with_reducible refine (C'.out _).mono ?_; rintro e w' ⟨rfl, yy, rfl⟩))
    go_ret
    exact ⟨rfl, _, rfl⟩
  · have t1 : (a == q) = false := beq_eq_false_iff_ne.2 (by omega)
    have t2 : (a == q + 1) = true := beq_iff_eq.2 h
    have t3 : decide (0 < r) = true := decide_eq_true h'
    clear h h'
    go_enter Try.func12, Try.ntmps12
    go_wp2_with (first | (go_at_call 27; with_reducible refine (C'.out _).mono ?_; rintro e w' ⟨rfl, yy, rfl⟩))
    go_ret
    exact ⟨rfl, _, rfl⟩

theorem share_nought {p : List Int} : ShareP 0 p (gl p.length fun _ => 0) := by
  have hq : ∀ i, qq 0 p i = 0 := fun i => by unfold qq; rw [Int.zero_mul, Int.zero_ediv]
  refine ⟨gl_length _ _, ?_, fun i hi => .inl (by rw [gl_at hi, hq]), fun i j hi _ h1 => ?_⟩
  · rw [sum_su, gl_length]
    exact su_zero fun i hi => gl_at hi
  · rw [gl_at hi, hq] at h1; omega
theorem TakeQ.share {p : List Int} {k : Int} {T : List Int} (h : TakeQ p k T) (hr : RiP p) (hl : p.length ≤ 64) (hk : 0 ≤ k) : ShareP (min k p.sum) p T := by
  rcases h with ⟨_, _, _, h⟩ | ⟨h, rfl⟩
  · exact h
  · have : k = 0 := by
      rcases Int.lt_or_le 0 k with h' | h'
      · exact absurd ⟨h', hl, hr⟩ h
      · omega
    subst this
    have := (hr.wt hl).nonneg
    rw [show min 0 p.sum = 0 by omega]
    exact share_nought
theorem share_ri {m : Int} {p T : List Int} (h : ShareP m p T) (hw : Wt p) (h0 : 0 ≤ m) (h1 : m ≤ p.sum) : RiP T ∧ tot T p.length = m := by
  have hs := hw.sum
  have hsum : su (gi T) p.length = m := h.sum_su'
  have hr : RiP T := by
    unfold RiP
    rw [h.len]
    exact ⟨fun i hi => (h.le hw h0 h1 hi).1, by rw [hsum]; omega⟩
  refine ⟨hr, ?_⟩
  have := tot_ri hr (k := p.length) (by rw [h.len]; exact Nat.le_refl _)
  rw [this, hsum]
theorem share_ri' {m : Int} {p T : List Int} (h : ShareP m p T) (hw : Wt p) (h0 : 0 ≤ m) (h1 : m ≤ p.sum) : RiP (gl p.length fun i => gi p i - gi T i) ∧ tot (gl p.length fun i => gi p i - gi T i) p.length = p.sum - m := by
  have hs := hw.sum
  have hsum : su (gi (gl p.length fun i => gi p i - gi T i)) p.length = p.sum - m := by
    rw [su_congr (g := fun i => gi p i + (-1) * gi T i) (fun i hi => by rw [gl_at hi]; omega), su_add, su_mul, h.sum_su', ← sum_su]
    omega
  have hr : RiP (gl p.length fun i => gi p i - gi T i) := by
    unfold RiP
    rw [gl_length]
    exact ⟨fun i hi => by rw [gl_at hi]; have := h.le hw h0 h1 hi; omega, by rw [hsum]; omega⟩
  refine ⟨hr, ?_⟩
  have := tot_ri hr (k := p.length) (by rw [gl_length]; exact Nat.le_refl _)
  rw [this, hsum]
theorem RiP.fit {p : List Int} (h : RiP p) : ∀ i, i < p.length → Fit (gi p i) := fun i hi => by
  have a := h.pos i hi
  have b := su_mono h.pos (k := i + 1) (by omega)
  have c := h.sum
  have d : su (gi p) (i + 1) = su (gi p) i + gi p i := rfl
  have e := su_le (f := fun _ => 0) (g := gi p) (n := i) (fun j hj => h.pos j (by omega))
  rw [su_zero (fun _ _ => rfl)] at e
  unfold Fit
  omega

set_option maxHeartbeats 16000000 in
set_option maxRecDepth 100000 in
theorem spl_any (A : Option Addr) (c : Nat) (p : List Int) (hn : p.length ≤ 9223372036854775807) (hf : ∀ i, i < p.length → Fit (gi p i)) (k : Int) (w : World) (hr : Rd w A (ints p)) :
    Calls Try.prog 3 #[.slice A p.length c, .int .i64 k] w fun e w' => e = .returned (.bool true) ∧ Below w.heap.size w w' := by
  refine rebase w (fun V hV x0 => ?_)
  subst hV
  have CS := Lib.hid (fun u : BelW V => bel_of (small_any u.w))
  cases hb : rightF p (p.length : Int)
  case false =>
    have CR := Lib.hid (fun u : BelW V => right_c A c p p.length _ rfl hn false hb u (hr.bel u))
    clear hb hr hf
    go_enter Try.func3, Try.ntmps3
    go_wp2_with (first | (go_at_call 8; with_reducible refine (CS.out _).mono ?_; rintro e w' ⟨rfl, yy, rfl⟩) | (go_at_call 9; with_reducible refine (CR.out _).mono ?_; rintro e w' ⟨rfl, yy, rfl⟩))
    go_ret
    exact ⟨rfl, BelW.below7 _⟩
  have CR := Lib.hid (fun u : BelW V => right_c A c p p.length _ rfl hn true hb u (hr.bel u))
  by_cases h1 : k < 0
  · have t1 : decide (k < 0) = true := decide_eq_true h1
    clear hb hr hf
    go_enter Try.func3, Try.ntmps3
    go_wp2_with (first | (go_at_call 8; with_reducible refine (CS.out _).mono ?_; rintro e w' ⟨rfl, yy, rfl⟩) | (go_at_call 9; with_reducible refine (CR.out _).mono ?_; rintro e w' ⟨rfl, yy, rfl⟩))
    go_ret
    exact ⟨rfl, BelW.below7 _⟩
  have t1 : decide (k < 0) = false := decide_eq_false h1
  by_cases h2 : 1125899906842624 < k
  · have t2 : decide (1125899906842624 < k) = true := decide_eq_true h2
    clear hb hr hf
    go_enter Try.func3, Try.ntmps3
    go_wp2_with (first | (go_at_call 8; with_reducible refine (CS.out _).mono ?_; rintro e w' ⟨rfl, yy, rfl⟩) | (go_at_call 9; with_reducible refine (CR.out _).mono ?_; rintro e w' ⟨rfl, yy, rfl⟩))
    go_ret
    exact ⟨rfl, BelW.below7 _⟩
  have t2 : decide (1125899906842624 < k) = false := decide_eq_false h2
  obtain ⟨_, h16, _, hri⟩ := rightF_iff.1 hb
  have h16' : p.length ≤ 16 := by omega
  have HRI := Lib.hid hri
  have HW := Lib.hid (hri.wt (by omega))
  have CT := Lib.hid (fun u : BelW V => take_any A c p (by omega) hf k u.w (hr.bel u))
  have HR := Lib.hid hr
  have HF := Lib.hid hf
  have HK := Lib.hid (show 0 ≤ k ∧ k ≤ 1125899906842624 by omega)
  clear hb hr hf hri h16 h1 h2
  go_enter Try.func3, Try.ntmps3
  go_upto_region 4 with (first | (go_at_call 8; with_reducible refine (CS.out _).mono ?_; rintro e w' ⟨rfl, yy, rfl⟩) | (go_at_call 9; with_reducible refine (CR.out _).mono ?_; rintro e w' ⟨rfl, yy, rfl⟩))
  go_wp2_with fail
  refine (CT.out _).mono ?_
  rintro e w1 ⟨g1, g2, T, rfl, hT, _, hI1, hI2, hB1⟩
  have hX := hT.share HRI.out (by omega) HK.out.1
  obtain ⟨S, hS⟩ : ∃ S, p.sum = S := ⟨_, rfl⟩
  have hS0 := HW.out.nonneg
  have hS1 := HW.out.sum
  rw [hS] at hX hS0 hS1
  obtain ⟨m, hm⟩ : ∃ m, min k S = m := ⟨_, rfl⟩
  rw [hm] at hX
  have hmb : 0 ≤ m ∧ m ≤ S := by have := HK.out; omega
  have HX := Lib.hid hX
  have HS := Lib.hid hS
  have HMB := Lib.hid (show 0 ≤ m ∧ m ≤ p.sum by rw [hS]; exact hmb)
  have HI1 := Lib.hid hI1
  have HI2 := Lib.hid hI2
  have HB := Lib.hid (show Below V.heap.size V w1 from below_next yy.2 hB1)
  clear hI1 hI2 hB1 CT CR CS hT hX hS
  go_upto_region 5 with fail
  refine wp_rebase _ (fun U hU z0 => ?_)
  subst hU
  have HRU := Lib.hid (HR.out.below (Nat.le_refl _) HB.out)
  have hto := tot_ri HRI.out (Nat.le_refl _)
  rw [← sum_su, HS.out] at hto
  have C1 := Lib.hid (fun u : BelW U => total_c A c p p.length rfl hn HF.out S hto u (HRU.out.bel u))
  obtain ⟨r1, r2⟩ := share_ri HX.out HW.out HMB.out.1 HMB.out.2
  obtain ⟨r3, r4⟩ := share_ri' HX.out HW.out HMB.out.1 HMB.out.2
  rw [HS.out] at r4
  have C2 := Lib.hid (fun u : BelW U => total_c (some ⟨g1, 0, none⟩) p.length T p.length HX.out.len hn (by have := r1.fit; rwa [HX.out.len] at this) m r2 u (HI1.out.rd.bel u))
  have C3 := Lib.hid (fun u : BelW U => total_c (some ⟨g2, 0, none⟩) p.length (gl p.length fun i => gi p i - gi T i) p.length (gl_length _ _) hn (by have := r3.fit; rwa [gl_length] at this) (S - m) r4 u (HI2.out.rd.bel u))
  have C4 := Lib.hid (fun u : BelW U => right_c (some ⟨g1, 0, none⟩) p.length T p.length p.length HX.out.len hn true (rightF_iff.2 ⟨by omega, by omega, by rw [HX.out.len], r1⟩) u (HI1.out.rd.bel u))
  have C5 := Lib.hid (fun u : BelW U => right_c (some ⟨g2, 0, none⟩) p.length (gl p.length fun i => gi p i - gi T i) p.length p.length (gl_length _ _) hn true (rightF_iff.2 ⟨by omega, by omega, by rw [gl_length], r3⟩) u (HI2.out.rd.bel u))
  have wSm : IntKind.i64.wrap (S - m) = S - m := IntWalk.i64_in _ (by omega)
  clear hto r1 r2 r3 r4
  go_wp2_with (first | (go_at_call 11; with_reducible refine (C1.out _).mono ?_; rintro e w' ⟨rfl, yy, rfl⟩))
  go_loopw [10] (fun s10 wr => Rng U p.length s10 wr) (fun i _ => p.length - (intOf i).toNat)
  case atStart => exact ⟨0, by omega, rfl, _, rfl⟩
  case round =>
    obtain ⟨i, hi, rfl, y, rfl⟩ := hrel
    by_cases hlt : i < p.length
    · have i3 : decide ((i : Int) < (p.length : Int)) = true := decide_eq_true (by omega)
      obtain ⟨ad, u, rfl, _, e1, e2⟩ := HRU.out.at (k := i) (by rw [ints_length]; exact hlt)
      rw [ints_at hlt] at e1
      cases e1
      have f1 := HI1.out.cell hlt
      have f2 := HI2.out.cell hlt
      rw [gl_at hlt] at f2
      have hle := HX.out.le HW.out HMB.out.1 HMB.out.2 hlt
      have htw := HX.out.two i hlt
      have hup : gi T i = qq m p i + 1 → 0 < rr m p i := HX.out.no_up HW.out HMB.out.1 HMB.out.2 hlt
      have hq := qq_le HW.out HMB.out.1 HMB.out.2 hlt
      have hpl := HW.out.le hlt
      rw [HS.out] at hpl
      have hsc : 0 < S → Xa.scale m (gi p i) S = (qq m p i, rr m p i, true) := fun h => by
        have e : wOf p = S := by rw [wOf_eq (by rw [HS.out]; omega), HS.out]
        unfold qq rr
        rw [e]
        refine Xa.scale_yes ⟨hmb.1, by omega, by omega, by omega, by omega, by omega, ?_⟩
        have := hq.2
        unfold qq at this
        rw [e] at this
        omega
      obtain ⟨v, hv⟩ : ∃ v, gi p i = v := ⟨_, rfl⟩
      obtain ⟨ta, hta⟩ : ∃ v, gi T i = v := ⟨_, rfl⟩
      obtain ⟨tb, htb⟩ : ∃ b, v - ta = b := ⟨_, rfl⟩
      rw [hv] at e2 f2 hle hq hpl hsc
      rw [hta] at f1 f2 hle htw hup
      rw [htb] at f2
      have j1 : (0 : Int) ≤ (i : Int) := by omega
      have j2 : (i : Int) < (p.length : Int) := by omega
      have d1 : decide (ta < 0) = false := decide_eq_false (by omega)
      have d2 : decide (tb < 0) = false := decide_eq_false (by omega)
      have d3 : IntKind.i64.wrap (ta + tb) = v := by rw [IntWalk.i64_in _ (by omega)]; omega
      have c1 := fun z : BelW U => BelW.cells e2 z
      have c2 := fun z : BelW U => BelW.cells f1 z
      have c3 := fun z : BelW U => BelW.cells f2 z
      by_cases hS2 : 0 < S
      · have d4 : decide (0 < S) = true := decide_eq_true hS2
        have CN := Lib.hid (fun u : BelW U => near_yes ta v m S (qq m p i) (rr m p i) (hsc hS2) (by rcases htw with h | h; exact .inl h; exact .inr ⟨h, hup h⟩) (by omega) u)
        clear e2 f1 f2 hle htw hup hq hpl hsc hv hta htb hS2
        go_upto_region 12 with fail
        refine wp_region_belx (by kernel_rfl) (by kernel_rfl) ?_
        repeat (go_big_quiet_step ((go_at_call 12; with_reducible exact CN.out _)))
        refine wpQuiet_nil ?_
        intro zz
        go_wp2_with fail
        go_roundw
        case rel => exact ⟨i + 1, by omega, by go_num, _, rfl⟩
        case measure => simp [intOf]; omega
      · have d4 : decide (0 < S) = false := decide_eq_false hS2
        clear e2 f1 f2 hle htw hup hq hpl hsc hv hta htb hS2
        go_upto_region 12 with fail
        refine wp_region_belx (by kernel_rfl) (by kernel_rfl) ?_
        repeat (go_big_quiet_step (fail))
        refine wpQuiet_nil ?_
        intro zz
        go_wp2_with fail
        go_roundw
        case rel => exact ⟨i + 1, by omega, by go_num, _, rfl⟩
        case measure => simp [intOf]; omega
    · have i3 : decide ((i : Int) < (p.length : Int)) = false := decide_eq_false (by omega)
      go_wp2_with (first | (go_at_call 11; with_reducible refine (C2.out _).mono ?_; rintro e w' ⟨rfl, yy, rfl⟩) | (go_at_call 11; with_reducible refine (C3.out _).mono ?_; rintro e w' ⟨rfl, yy, rfl⟩) | (go_at_call 9; with_reducible refine (C4.out _).mono ?_; rintro e w' ⟨rfl, yy, rfl⟩) | (go_at_call 9; with_reducible refine (C5.out _).mono ?_; rintro e w' ⟨rfl, yy, rfl⟩))
      go_ret
      exact ⟨rfl, below_next HB.out (BelW.below7 _)⟩

end Go.Proofs.Ytfmnlnmajephlaa
