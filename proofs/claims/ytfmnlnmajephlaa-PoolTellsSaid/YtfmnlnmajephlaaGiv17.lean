/- PoolGives: the walk. -/
import Derived.Test.YtfmnlnmajephlaaSpl17
namespace Go.Proofs.Ytfmnlnmajephlaa
open Go.RowKit
set_option linter.unusedVariables false
set_option linter.unusedSimpArgs false

def moved (p : List Int) (i j : Nat) (M : Int) : List Int := gl p.length fun x => gi p x + ((if x = i then -M else 0) + (if x = j then M else 0))
theorem moved_length (p : List Int) (i j : Nat) (M : Int) : (moved p i j M).length = p.length := gl_length _ _
theorem moved_at {p : List Int} {i j x : Nat} {M : Int} (h : x < p.length) : gi (moved p i j M) x = gi p x + ((if x = i then -M else 0) + (if x = j then M else 0)) := gl_at h
theorem su_pick {n a : Nat} (h : a < n) (c : Int) : su (fun x => if x = a then c else 0) n = c := by
  have e : su (fun x => if x = a then c else 0) n = su (fun x => c * (if x = a then 1 else 0)) n := su_congr fun x _ => by
    by_cases e : x = a
    · rw [if_pos e, if_pos e, Int.mul_one]
    · rw [if_neg e, if_neg e, Int.mul_zero]
  rw [e, su_mul, su_one h, Int.mul_one]
theorem moved_su {p : List Int} {i j : Nat} (hi : i < p.length) (hj : j < p.length) (M : Int) : su (gi (moved p i j M)) p.length = su (gi p) p.length := by
  rw [su_congr (fun x hx => moved_at hx), su_add, su_add, su_pick hi, su_pick hj]
  omega
theorem moved_ri {p : List Int} (h : RiP p) {i j : Nat} (hi : i < p.length) (hj : j < p.length) {M : Int} (h0 : 0 ≤ M) (h1 : M ≤ gi p i) : RiP (moved p i j M) := by
  unfold RiP
  rw [moved_length]
  refine ⟨fun x hx => ?_, by rw [moved_su hi hj]; exact h.sum⟩
  rw [moved_at hx]
  have := h.pos x hx
  by_cases e : x = i
  · subst e
    rw [if_pos rfl]
    by_cases e2 : x = j
    · rw [if_pos e2]; omega
    · rw [if_neg e2]; omega
  · rw [if_neg e]
    by_cases e2 : x = j
    · rw [if_pos e2]; omega
    · rw [if_neg e2]; omega
theorem ri_le {p : List Int} (h : RiP p) {i : Nat} (hi : i < p.length) : 0 ≤ gi p i ∧ gi p i ≤ 1125899906842624 := by
  have a := h.pos i hi
  have b := su_mono h.pos (k := i + 1) (by omega)
  have c := h.sum
  have d : su (gi p) (i + 1) = su (gi p) i + gi p i := rfl
  have e := su_le (f := fun _ => 0) (g := gi p) (n := i) (fun j hj => h.pos j (by omega))
  rw [su_zero (fun _ _ => rfl)] at e
  omega
theorem moved_none {p : List Int} (i j : Nat) : moved p i j 0 = p := gi_ext (moved_length _ _ _ _) fun x hx => by
  rw [moved_length] at hx
  rw [moved_at hx]
  by_cases e : x = i <;> by_cases e2 : x = j <;> simp [e, e2]
theorem give_is {p : List Int} (h : RiP p) {i j : Nat} (hi : i < p.length) (hj : j < p.length) (hij : i ≠ j) (k : Int) : giveF p (i : Int) (j : Int) k = moved p i j (max 0 (min k (gi p i))) := by
  have bi := ri_le h hi
  have bj := ri_le h hj
  unfold giveF
  rw [hasF_nat hi bi.1]
  by_cases hm : 0 < min k (gi p i)
  · rw [if_pos ⟨hm, by omega, by omega, by omega⟩, show max 0 (min k (gi p i)) = min k (gi p i) by omega]
    refine gi_ext (by simp [moved_length]) fun x hx => ?_
    simp only [List.length_set] at hx
    rw [moved_at hx]
    simp only [Int.toNat_natCast]
    have ea : Xa.add (gi p j) (min k (gi p i)) = gi p j + min k (gi p i) := by
      unfold Xa.add
      rw [if_neg (by omega), if_neg (by omega)]
    by_cases e : x = j
    · subst e
      rw [gi_set_same (by simpa using hx), if_neg (Ne.symm hij), if_pos rfl, ea]
      omega
    · rw [gi_set_other (Ne.symm e), if_neg e]
      by_cases e2 : x = i
      · subst e2; rw [gi_set_same hx, if_pos rfl]; omega
      · rw [gi_set_other (Ne.symm e2), if_neg e2]; omega
  · rw [if_neg (fun h => hm h.1), show max 0 (min k (gi p i)) = 0 by omega, moved_none]
theorem moved_back {p : List Int} (h : RiP p) {i j : Nat} (hi : i < p.length) (hj : j < p.length) (hij : i ≠ j) {M : Int} (h0 : 0 ≤ M) (h1 : M ≤ gi p i) : giveF (moved p i j M) (j : Int) (i : Int) M = p := by
  have bj := ri_le h hj
  rw [give_is (moved_ri h hi hj h0 h1) (by rw [moved_length]; exact hj) (by rw [moved_length]; exact hi) (Ne.symm hij)]
  have e : gi (moved p i j M) j = gi p j + M := by rw [moved_at hj, if_neg (Ne.symm hij), if_pos rfl]; omega
  rw [e, show max 0 (min M (gi p j + M)) = M by omega]
  refine gi_ext (by rw [moved_length, moved_length]) fun x hx => ?_
  rw [moved_length, moved_length] at hx
  rw [moved_at (by rw [moved_length]; exact hx), moved_at hx]
  by_cases e1 : x = i <;> by_cases e2 : x = j <;> simp [e1, e2] <;> omega

set_option maxHeartbeats 16000000 in
set_option maxRecDepth 100000 in
theorem giv_any (A : Option Addr) (c : Nat) (p : List Int) (hn : p.length ≤ 9223372036854775807) (hf : ∀ i, i < p.length → Fit (gi p i)) (f t k : Int) (w : World) (hr : Rd w A (ints p)) :
    Calls Try.prog 5 #[.slice A p.length c, .int .i64 f, .int .i64 t, .int .i64 k] w fun e w' => e = .returned (.bool true) ∧ Below w.heap.size w w' := by
  refine rebase w (fun V hV x0 => ?_)
  subst hV
  have CS := Lib.hid (fun u : BelW V => bel_of (small_any u.w))
  cases hb : rightF p (p.length : Int)
  case false =>
    have CR := Lib.hid (fun u : BelW V => right_c A c p p.length _ rfl hn false hb u (hr.bel u))
    clear hb hr hf
    go_enter Try.func5, Try.ntmps5
    go_wp2_with (first | (go_at_call 8; with_reducible refine (CS.out _).mono ?_; rintro e w' ⟨rfl, yy, rfl⟩) | (go_at_call 9; with_reducible refine (CR.out _).mono ?_; rintro e w' ⟨rfl, yy, rfl⟩))
    go_ret
    exact ⟨rfl, BelW.below7 _⟩
  have CR := Lib.hid (fun u : BelW V => right_c A c p p.length _ rfl hn true hb u (hr.bel u))
  by_cases h1 : f < 0
  · have t1 : decide (f < 0) = true := decide_eq_true h1
    go_enter Try.func5, Try.ntmps5
    go_wp2_with (first | (go_at_call 8; with_reducible refine (CS.out _).mono ?_; rintro e w' ⟨rfl, yy, rfl⟩) | (go_at_call 9; with_reducible refine (CR.out _).mono ?_; rintro e w' ⟨rfl, yy, rfl⟩))
    go_ret
    exact ⟨rfl, BelW.below7 _⟩
  have t1 : decide (f < 0) = false := decide_eq_false h1
  by_cases h2 : (p.length : Int) ≤ f
  · have t2 : decide ((p.length : Int) ≤ f) = true := decide_eq_true h2
    go_enter Try.func5, Try.ntmps5
    go_wp2_with (first | (go_at_call 8; with_reducible refine (CS.out _).mono ?_; rintro e w' ⟨rfl, yy, rfl⟩) | (go_at_call 9; with_reducible refine (CR.out _).mono ?_; rintro e w' ⟨rfl, yy, rfl⟩))
    go_ret
    exact ⟨rfl, BelW.below7 _⟩
  have t2 : decide ((p.length : Int) ≤ f) = false := decide_eq_false h2
  by_cases h3 : t < 0
  · have t3 : decide (t < 0) = true := decide_eq_true h3
    go_enter Try.func5, Try.ntmps5
    go_wp2_with (first | (go_at_call 8; with_reducible refine (CS.out _).mono ?_; rintro e w' ⟨rfl, yy, rfl⟩) | (go_at_call 9; with_reducible refine (CR.out _).mono ?_; rintro e w' ⟨rfl, yy, rfl⟩))
    go_ret
    exact ⟨rfl, BelW.below7 _⟩
  have t3 : decide (t < 0) = false := decide_eq_false h3
  by_cases h4 : (p.length : Int) ≤ t
  · have t4 : decide ((p.length : Int) ≤ t) = true := decide_eq_true h4
    go_enter Try.func5, Try.ntmps5
    go_wp2_with (first | (go_at_call 8; with_reducible refine (CS.out _).mono ?_; rintro e w' ⟨rfl, yy, rfl⟩) | (go_at_call 9; with_reducible refine (CR.out _).mono ?_; rintro e w' ⟨rfl, yy, rfl⟩))
    go_ret
    exact ⟨rfl, BelW.below7 _⟩
  have t4 : decide ((p.length : Int) ≤ t) = false := decide_eq_false h4
  by_cases h5 : f = t
  · have t5 : (f == t) = true := beq_iff_eq.2 h5
    subst h5
    go_enter Try.func5, Try.ntmps5
    go_wp2_with (first | (go_at_call 8; with_reducible refine (CS.out _).mono ?_; rintro e w' ⟨rfl, yy, rfl⟩) | (go_at_call 9; with_reducible refine (CR.out _).mono ?_; rintro e w' ⟨rfl, yy, rfl⟩))
    go_ret
    exact ⟨rfl, BelW.below7 _⟩
  have t5 : (f == t) = false := beq_eq_false_iff_ne.2 h5
  obtain ⟨a, rfl⟩ := Int.eq_ofNat_of_zero_le (show 0 ≤ f by omega)
  obtain ⟨b, rfl⟩ := Int.eq_ofNat_of_zero_le (show 0 ≤ t by omega)
  have ha : a < p.length := by omega
  have hb' : b < p.length := by omega
  have hab : a ≠ b := by omega
  obtain ⟨_, h16, _, hri⟩ := rightF_iff.1 hb
  have h16' : p.length ≤ 16 := by omega
  have HRI := Lib.hid hri
  have CG := Lib.hid (fun u : BelW V => give_any A c p p.length rfl (by omega) hf (a : Int) (b : Int) k u.w (hr.bel u))
  rw [give_is hri ha hb' hab] at CG
  have hpa := ri_le hri ha
  have hpb := ri_le hri hb'
  obtain ⟨M, hM⟩ : ∃ M, max 0 (min k (gi p a)) = M := ⟨_, rfl⟩
  rw [hM] at CG
  have hMb : 0 ≤ M ∧ M ≤ gi p a ∧ M ≤ max 0 k := by omega
  have HR := Lib.hid hr
  have HF := Lib.hid hf
  have HMB := Lib.hid hMb
  have HAB := Lib.hid (And.intro ha (And.intro hb' hab))
  clear hb hr hf hri h16 h1 h2 h3 h4 h5 hM
  go_enter Try.func5, Try.ntmps5
  go_upto_region 4 with (first | (go_at_call 8; with_reducible refine (CS.out _).mono ?_; rintro e w' ⟨rfl, yy, rfl⟩) | (go_at_call 9; with_reducible refine (CR.out _).mono ?_; rintro e w' ⟨rfl, yy, rfl⟩))
  go_wp2_with fail
  refine (CG.out _).mono ?_
  rintro e w1 ⟨g1, rfl, hI1, hB1⟩
  have HI1 := Lib.hid hI1
  have HB := Lib.hid (show Below V.heap.size V w1 from below_next yy.2 hB1)
  clear hI1 hB1 CG CR CS
  go_upto_region 5 with fail
  refine wp_rebase _ (fun U hU z0 => ?_)
  subst hU
  have HRU := Lib.hid (HR.out.below (Nat.le_refl _) HB.out)
  have hmr := moved_ri HRI.out ha hb' HMB.out.1 HMB.out.2.1
  have hto := tot_ri HRI.out (Nat.le_refl _)
  have hto2 := tot_ri hmr (Nat.le_refl _)
  rw [moved_length, moved_su ha hb', ← hto] at hto2
  obtain ⟨S, hS⟩ : ∃ S, tot p p.length = S := ⟨_, rfl⟩
  rw [hS] at hto2
  have hmf := hmr.fit
  rw [moved_length] at hmf
  have C1 := Lib.hid (fun u : BelW U => total_c A c p p.length rfl hn HF.out S hS u (HRU.out.bel u))
  have C2 := Lib.hid (fun u : BelW U => total_c (some ⟨g1, 0, none⟩) p.length (moved p a b M) p.length (moved_length _ _ _ _) hn hmf S hto2 u (HI1.out.rd.bel u))
  have CB := Lib.hid (fun u : BelW U => give_any (some ⟨g1, 0, none⟩) p.length (moved p a b M) p.length (moved_length _ _ _ _) (by omega) hmf (b : Int) (a : Int) M u.w (HI1.out.rd.bel u))
  rw [moved_back HRI.out ha hb' hab HMB.out.1 HMB.out.2.1] at CB
  clear hmr hto hto2 hS hmf
  go_wp2_with (first | (go_at_call 11; with_reducible refine (C1.out _).mono ?_; rintro e w' ⟨rfl, yy, rfl⟩) | (go_at_call 11; with_reducible refine (C2.out _).mono ?_; rintro e w' ⟨rfl, yy, rfl⟩))
  go_loopw [11] (fun s11 wr => Rng U p.length s11 wr) (fun i _ => p.length - (intOf i).toNat)
  case atStart => exact ⟨0, by omega, rfl, _, rfl⟩
  case round =>
    obtain ⟨i, hi, rfl, y, rfl⟩ := hrel
    by_cases hlt : i < p.length
    · have i3 : decide ((i : Int) < (p.length : Int)) = true := decide_eq_true (by omega)
      have j1 : (0 : Int) ≤ (i : Int) := by omega
      have j2 : (i : Int) < (p.length : Int) := by omega
      by_cases e1 : i = a
      · have d1 : (((i : Int)) != (a : Int)) = false := bne_eq_false_iff_eq.2 (by omega)
        subst e1
        go_upto_region 10 with fail
        refine wp_region_belx (by kernel_rfl) (by kernel_rfl) ?_
        repeat (go_big_quiet_step (fail))
        refine wpQuiet_nil ?_
        intro zz
        go_wp2_with fail
        go_roundw
        case rel => exact ⟨i + 1, by omega, by go_num, _, rfl⟩
        case measure => simp [intOf]; omega
      have d1 : (((i : Int)) != (a : Int)) = true := bne_iff_ne.2 (by omega)
      by_cases e2 : i = b
      · have d2 : (((i : Int)) != (b : Int)) = false := bne_eq_false_iff_eq.2 (by omega)
        subst e2
        go_upto_region 10 with fail
        refine wp_region_belx (by kernel_rfl) (by kernel_rfl) ?_
        repeat (go_big_quiet_step (fail))
        refine wpQuiet_nil ?_
        intro zz
        go_wp2_with fail
        go_roundw
        case rel => exact ⟨i + 1, by omega, by go_num, _, rfl⟩
        case measure => simp [intOf]; omega
      have d2 : (((i : Int)) != (b : Int)) = true := bne_iff_ne.2 (by omega)
      obtain ⟨ad, u, rfl, _, e3, e4⟩ := HRU.out.at (k := i) (by rw [ints_length]; exact hlt)
      rw [ints_at hlt] at e3
      cases e3
      have f1 := HI1.out.cell hlt
      rw [moved_at hlt, if_neg e1, if_neg e2, show gi p i + ((0 : Int) + 0) = gi p i by omega] at f1
      obtain ⟨v, hv⟩ : ∃ v, gi p i = v := ⟨_, rfl⟩
      rw [hv] at e4 f1
      have c1 := fun z : BelW U => BelW.cells e4 z
      have c2 := fun z : BelW U => BelW.cells f1 z
      clear e4 f1 hv e1 e2
      go_upto_region 10 with fail
      refine wp_region_belx (by kernel_rfl) (by kernel_rfl) ?_
      repeat (go_big_quiet_step (fail))
      refine wpQuiet_nil ?_
      intro zz
      go_wp2_with fail
      go_roundw
      case rel => exact ⟨i + 1, by omega, by go_num, _, rfl⟩
      case measure => simp [intOf]; omega
    · have i3 : decide ((i : Int) < (p.length : Int)) = false := decide_eq_false (by omega)
      obtain ⟨ad, u, rfl, _, e3, e4⟩ := HRU.out.at (k := b) (by rw [ints_length]; exact HAB.out.2.1)
      rw [ints_at HAB.out.2.1] at e3
      cases e3
      have f1 := HI1.out.cell HAB.out.2.1
      rw [moved_at HAB.out.2.1, if_neg (Ne.symm HAB.out.2.2), if_pos rfl] at f1
      obtain ⟨pb, hpb'⟩ : ∃ v, gi p b = v := ⟨_, rfl⟩
      rw [hpb'] at e4 f1 hpb
      obtain ⟨qb, hqb⟩ : ∃ v, pb + (0 + M) = v := ⟨_, rfl⟩
      rw [hqb] at f1
      have wq : IntKind.i64.wrap (qb - pb) = M := by rw [IntWalk.i64_in _ (by omega)]; omega
      have c1 := fun z : BelW U => BelW.cells e4 z
      have c2 := fun z : BelW U => BelW.cells f1 z
      have j3 : (0 : Int) ≤ (b : Int) := by omega
      have j4 : (b : Int) < (p.length : Int) := by have := HAB.out.2.1; omega
      have j5 : (0 : Int) ≤ (a : Int) := by omega
      have j6 : (a : Int) < (p.length : Int) := by have := HAB.out.1; omega
      clear e4 f1 hpb' hqb C1 C2
      go_upto_region 12 with fail
      refine wp_region_belx (by kernel_rfl) (by kernel_rfl) ?_
      repeat (go_big_quiet_step (fail))
      refine wpQuiet_nil ?_
      intro zz
      go_upto_region 13 with fail
      go_wp2_with fail
      refine (CB.out _).mono ?_
      rintro e w2 ⟨g2, rfl, hI2, hB2⟩
      have hU2 : Below U.heap.size U w2 := below_next zz.2 hB2
      have HB2 := Lib.hid (below_next HB.out hU2)
      have HIq := Lib.hid (HI1.out.next hU2)
      have HIb := Lib.hid hI2
      have HR2 := Lib.hid (HRU.out.below (Nat.le_refl _) hU2)
      clear c1 c2 hI2 hB2 hU2 CB
      go_upto_region 14 with fail
      refine wp_rebase _ (fun W hW z2 => ?_)
      subst hW
      have C1 := Lib.hid (fun u : BelW W => same_c (some ⟨g2, 0, none⟩) (some ad) p.length c p p p.length p.length rfl rfl hn hn true (by simp) u (HIb.out.rd.bel u) (HR2.out.bel u))
      have f1 := HIq.out.cell HAB.out.1
      rw [moved_at HAB.out.1, if_pos rfl, if_neg HAB.out.2.2] at f1
      obtain ⟨qa, hqa⟩ : ∃ v, gi p a + (-M + 0) = v := ⟨_, rfl⟩
      rw [hqa] at f1
      have c2 := fun z : BelW W => BelW.cells f1 z
      obtain ⟨mx, hmx⟩ : ∃ v, max 0 k = v := ⟨_, rfl⟩
      have d1 : decide (0 ≤ M) = true := decide_eq_true HMB.out.1
      have d2 : decide (M ≤ mx) = true := decide_eq_true (by have := HMB.out; omega)
      have d3 : decide (0 ≤ qa) = true := decide_eq_true (by have := HMB.out; omega)
      have c3 := c2 z2
      clear f1 hqa
      go_wp2_with (first | (go_at_call 15; with_reducible refine (C1.out _).mono ?_; rintro e w' ⟨rfl, yy, rfl⟩))
      go_ret
      exact ⟨rfl, below_next HB2.out (BelW.below7 _)⟩

end Go.Proofs.Ytfmnlnmajephlaa
