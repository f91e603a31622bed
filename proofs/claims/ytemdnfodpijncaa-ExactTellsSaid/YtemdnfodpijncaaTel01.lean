/- ExactTells: the walk. -/
import Derived.Test.YtemdnfodpijncaaSmall01
import Derived.Test.YtemdnfodpijncaaShrQ
import Derived.Test.YtemdnfodpijncaaRefSum
import Derived.Test.YtemdnfodpijncaaRefShW
import Derived.Test.YtemdnfodpijncaaRefA
namespace Go.Proofs.Ytemdnfodpijncaa
open Go.RowKit
set_option linter.unusedVariables false
set_option linter.unusedSimpArgs false

theorem BelW.below9 {w : World} (x : BelW w) : Below w.heap.size w x.w := x.2
theorem sumR_eq (l : List Int) : sumR l = sumF l := rfl
theorem refclamp_any (n lo hi : Int) (w : World) :
    Calls Try.prog 18 #[.int .i64 n, .int .i64 lo, .int .i64 hi] w fun e w' => e = .returned (.int .i64 (Xa.clamp n lo hi)) ∧ w = w' := by
  by_cases h1 : n < lo
  · have t1 : decide (n < lo) = true := decide_eq_true h1
    have e : Xa.clamp n lo hi = lo := by unfold Xa.clamp; rw [if_pos h1]
    rw [e]
    go_enter Try.func18, Try.ntmps18
    go_wp2_with fail
    go_ret
    exact ⟨rfl, rfl⟩
  · have t1 : decide (n < lo) = false := decide_eq_false h1
    by_cases h2 : hi < n
    · have t2 : decide (hi < n) = true := decide_eq_true h2
      have e : Xa.clamp n lo hi = hi := by unfold Xa.clamp; rw [if_neg h1, if_pos h2]
      rw [e]
      go_enter Try.func18, Try.ntmps18
      go_wp2_with fail
      go_ret
      exact ⟨rfl, rfl⟩
    · have t2 : decide (hi < n) = false := decide_eq_false h2
      have e : Xa.clamp n lo hi = n := by unfold Xa.clamp; rw [if_neg h1, if_neg h2]
      rw [e]
      go_enter Try.func18, Try.ntmps18
      go_wp2_with fail
      go_ret
      exact ⟨rfl, rfl⟩
theorem IR.next9 {w w' : World} {B g n : Nat} {xs : List Int} (h : IR w B g n xs) (hb : Below w.heap.size w w') : IR w' B g n xs := h.kept (grown_bel ⟨w', hb⟩) (by simp)

set_option maxHeartbeats 16000000 in
set_option maxRecDepth 100000 in
theorem tel_any (a b d : Int) (ha : Fit a) (hb : Fit b) (A : Option Addr) (c : Nat) (l : List Int) (hn : l.length ≤ 9223372036854775807) (hf : ∀ i, i < l.length → Fit (gi l i)) (w : World) (hr : Rd w A (ints l)) :
    Calls Try.prog 3 #[.int .i64 a, .int .i64 b, .int .i64 d, .slice A l.length c] w fun e w' => e = .returned (.bool true) ∧ Below w.heap.size w w' := by
  refine rebase w (fun V hV x0 => ?_)
  subst hV
  have CS := Lib.hid (fun u : BelW V => bel_of (small_any u.w))
  by_cases h0 : 200 < l.length
  · have t0 : decide ((200 : Int) < (l.length : Int)) = true := decide_eq_true (by omega)
    clear hr hf
    go_enter Try.func3, Try.ntmps3
    go_wp2_with (first | (go_at_call 9; with_reducible refine (CS.out _).mono ?_; rintro e w' ⟨rfl, yy, rfl⟩))
    go_ret
    exact ⟨rfl, BelW.below9 _⟩
  have t0 : decide ((200 : Int) < (l.length : Int)) = false := decide_eq_false (by omega)
  obtain ⟨q, r, b1, hs⟩ : ∃ q r b1, Xa.scale a b d = (q, r, b1) := ⟨_, _, _, rfl⟩
  have C1 := Lib.hid (fun u : BelW V => scale_c a b d q r b1 hs u)
  have C2 := Lib.hid (fun u : BelW V => bel_of_same (x := u) (v := .tuple #[.int .i64 q, .int .i64 r, .bool b1]) (by have h' := refscale_any a b d u.w; rw [hs] at h'; exact h'))
  obtain ⟨S, sb, hS⟩ : ∃ S sb, sumF l = (S, sb) := ⟨_, _, rfl⟩
  have HR := Lib.hid hr
  have HF := Lib.hid hf
  have HS := Lib.hid hS
  have FA := Lib.hid ha
  have FB := Lib.hid hb
  have h200 : l.length ≤ 200 := by omega
  clear hs hr hf hS ha hb h0
  go_enter Try.func3, Try.ntmps3
  go_upto_region 6 with (first | (go_at_call 9; with_reducible refine (CS.out _).mono ?_; rintro e w' ⟨rfl, yy, rfl⟩) | (go_at_call 10; with_reducible refine (C1.out _).mono ?_; rintro e w' ⟨rfl, yy, rfl⟩) | (go_at_call 11; with_reducible refine (C2.out _).mono ?_; rintro e w' ⟨rfl, yy, rfl⟩))
  go_wp2_with fail
  refine (share_any a A c l hn _ (HR.out.bel yy)).mono ?_
  rintro e w1 hsh
  have hB1 : Below V.heap.size V w1 := by
    rcases hsh with ⟨_, _, _, _, _, _, _, _, h⟩ | ⟨_, _, h⟩ <;> exact below_next yy.2 h
  rcases hsh with ⟨g1, x, rfl, v1, v2, v3, hx, hI1, _⟩ | ⟨rfl, hno, _⟩
  · have HX := Lib.hid hx
    have HV := Lib.hid (And.intro v1 (And.intro v2 v3))
    clear hx v1 v2 v3
    go_upto_region 7 with fail
    go_wp2_with fail
    refine (refshare_any a A c l hn _ (HR.out.below (Nat.le_refl _) hB1)).mono ?_
    rintro e w2 (⟨g2, y, rfl, _, _, _, hy, hI2, hB2⟩ | ⟨_, hno, _⟩)
    case inr => exact absurd HV.out hno
    obtain rfl := hy.unique HX.out
    have HI1 := Lib.hid (hI1.next9 hB2)
    have HI2 := Lib.hid hI2
    have HB := Lib.hid (below_next hB1 hB2)
    clear hy hI1 hI2 hB1 hB2 CS C1 C2
    go_upto_region 8 with fail
    refine wp_rebase _ (fun U hU z0 => ?_)
    subst hU
    have HRU := Lib.hid (HR.out.below (Nat.le_refl _) HB.out)
    have C3 := Lib.hid (fun u : BelW U => same_c (some ⟨g1, 0, none⟩) (some ⟨g2, 0, none⟩) l.length l.length y y l.length l.length HX.out.len HX.out.len hn hn true (by simp) u (HI1.out.rd.bel u) (HI2.out.rd.bel u))
    have C4 := Lib.hid (fun u : BelW U => sum_c A c l l.length rfl hn HF.out S sb HS.out u (HRU.out.bel u))
    have C5 := Lib.hid (fun u : BelW U => bel_of (x := u) (v := .tuple #[.int .i64 S, .bool sb]) (by have h' := refsum_any A c l (by omega) HF.out u.w (HRU.out.bel u); rw [sumR_eq, HS.out] at h'; exact h'))
    obtain ⟨cl, hcl⟩ : ∃ v, Xa.clamp a b d = v := ⟨_, rfl⟩
    obtain ⟨ad, had⟩ : ∃ v, Xa.add a b = v := ⟨_, rfl⟩
    obtain ⟨sd, hsd⟩ : ∃ v, Xa.sub a b = v := ⟨_, rfl⟩
    have C6 := Lib.hid (fun u : BelW U => clamp_c a b d cl hcl u)
    have C7 := Lib.hid (fun u : BelW U => bel_of_same (x := u) (v := .int .i64 cl) (by have h' := refclamp_any a b d u.w; rw [hcl] at h'; exact h'))
    have C8 := Lib.hid (fun u : BelW U => add_c a b ad FA.out FB.out had u)
    have C9 := Lib.hid (fun u : BelW U => bel_of_same (x := u) (v := .int .i64 ad) (by have h' := refadd_any a b FA.out.1 FA.out.2 FB.out.1 FB.out.2 u.w; rw [had] at h'; exact h'))
    have Ca := Lib.hid (fun u : BelW U => sub_c a b sd FA.out FB.out hsd u)
    have Cb := Lib.hid (fun u : BelW U => bel_of_same (x := u) (v := .int .i64 sd) (by have h' := refsub_any a b FA.out.1 FA.out.2 FB.out.1 FB.out.2 u.w; rw [hsd] at h'; exact h'))
    clear hcl had hsd
    go_wp2_with (first | (go_at_call 16; with_reducible refine (C3.out _).mono ?_; rintro e w' ⟨rfl, yy, rfl⟩) | (go_at_call 14; with_reducible refine (C4.out _).mono ?_; rintro e w' ⟨rfl, yy, rfl⟩) | (go_at_call 15; with_reducible refine (C5.out _).mono ?_; rintro e w' ⟨rfl, yy, rfl⟩) | (go_at_call 17; with_reducible refine (C6.out _).mono ?_; rintro e w' ⟨rfl, yy, rfl⟩) | (go_at_call 18; with_reducible refine (C7.out _).mono ?_; rintro e w' ⟨rfl, yy, rfl⟩) | (go_at_call 19; with_reducible refine (C8.out _).mono ?_; rintro e w' ⟨rfl, yy, rfl⟩) | (go_at_call 20; with_reducible refine (C9.out _).mono ?_; rintro e w' ⟨rfl, yy, rfl⟩) | (go_at_call 21; with_reducible refine (Ca.out _).mono ?_; rintro e w' ⟨rfl, yy, rfl⟩) | (go_at_call 22; with_reducible refine (Cb.out _).mono ?_; rintro e w' ⟨rfl, yy, rfl⟩))
    go_ret
    exact ⟨rfl, below_next HB.out (BelW.below9 _)⟩
  · have HNO := Lib.hid hno
    clear hno
    go_upto_region 7 with fail
    go_wp2_with fail
    refine (refshare_any a A c l hn _ (HR.out.below (Nat.le_refl _) hB1)).mono ?_
    rintro e w2 (⟨g2, y, rfl, v1, v2, v3, _⟩ | ⟨rfl, _, hB2⟩)
    case inl => exact absurd ⟨v1, v2, v3⟩ HNO.out
    have HB := Lib.hid (below_next hB1 hB2)
    clear hB1 hB2 CS C1 C2
    go_upto_region 8 with fail
    refine wp_rebase _ (fun U hU z0 => ?_)
    subst hU
    have HRU := Lib.hid (HR.out.below (Nat.le_refl _) HB.out)
    have C3 := Lib.hid (fun u : BelW U => same_c none none 0 0 [] [] 0 0 rfl rfl (by omega) (by omega) true (by simp) u (fun h => absurd h (by simp [ints])) (fun h => absurd h (by simp [ints])))
    have C4 := Lib.hid (fun u : BelW U => sum_c A c l l.length rfl hn HF.out S sb HS.out u (HRU.out.bel u))
    have C5 := Lib.hid (fun u : BelW U => bel_of (x := u) (v := .tuple #[.int .i64 S, .bool sb]) (by have h' := refsum_any A c l (by omega) HF.out u.w (HRU.out.bel u); rw [sumR_eq, HS.out] at h'; exact h'))
    obtain ⟨cl, hcl⟩ : ∃ v, Xa.clamp a b d = v := ⟨_, rfl⟩
    obtain ⟨ad, had⟩ : ∃ v, Xa.add a b = v := ⟨_, rfl⟩
    obtain ⟨sd, hsd⟩ : ∃ v, Xa.sub a b = v := ⟨_, rfl⟩
    have C6 := Lib.hid (fun u : BelW U => clamp_c a b d cl hcl u)
    have C7 := Lib.hid (fun u : BelW U => bel_of_same (x := u) (v := .int .i64 cl) (by have h' := refclamp_any a b d u.w; rw [hcl] at h'; exact h'))
    have C8 := Lib.hid (fun u : BelW U => add_c a b ad FA.out FB.out had u)
    have C9 := Lib.hid (fun u : BelW U => bel_of_same (x := u) (v := .int .i64 ad) (by have h' := refadd_any a b FA.out.1 FA.out.2 FB.out.1 FB.out.2 u.w; rw [had] at h'; exact h'))
    have Ca := Lib.hid (fun u : BelW U => sub_c a b sd FA.out FB.out hsd u)
    have Cb := Lib.hid (fun u : BelW U => bel_of_same (x := u) (v := .int .i64 sd) (by have h' := refsub_any a b FA.out.1 FA.out.2 FB.out.1 FB.out.2 u.w; rw [hsd] at h'; exact h'))
    clear hcl had hsd
    go_wp2_with (first | (go_at_call 16; with_reducible refine (C3.out _).mono ?_; rintro e w' ⟨rfl, yy, rfl⟩) | (go_at_call 14; with_reducible refine (C4.out _).mono ?_; rintro e w' ⟨rfl, yy, rfl⟩) | (go_at_call 15; with_reducible refine (C5.out _).mono ?_; rintro e w' ⟨rfl, yy, rfl⟩) | (go_at_call 17; with_reducible refine (C6.out _).mono ?_; rintro e w' ⟨rfl, yy, rfl⟩) | (go_at_call 18; with_reducible refine (C7.out _).mono ?_; rintro e w' ⟨rfl, yy, rfl⟩) | (go_at_call 19; with_reducible refine (C8.out _).mono ?_; rintro e w' ⟨rfl, yy, rfl⟩) | (go_at_call 20; with_reducible refine (C9.out _).mono ?_; rintro e w' ⟨rfl, yy, rfl⟩) | (go_at_call 21; with_reducible refine (Ca.out _).mono ?_; rintro e w' ⟨rfl, yy, rfl⟩) | (go_at_call 22; with_reducible refine (Cb.out _).mono ?_; rintro e w' ⟨rfl, yy, rfl⟩))
    go_ret
    exact ⟨rfl, below_next HB.out (BelW.below9 _)⟩

end Go.Proofs.Ytemdnfodpijncaa
