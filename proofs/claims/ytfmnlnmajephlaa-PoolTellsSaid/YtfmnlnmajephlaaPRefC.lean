/- bourneref17: From, Take. -/
import Derived.Test.YtfmnlnmajephlaaPRefB
namespace Go.Proofs.Ytfmnlnmajephlaa
open Go.RowKit
set_option linter.unusedVariables false
set_option linter.unusedSimpArgs false

theorem own_base {w : World} {B B' : Nat} {e : TypeId} {v : Value} {n : Nat} {xs : List Value} (h : w.ownsRow B e 1 v n xs) (hb : B' ≤ B) : w.ownsRow B' e 1 v n xs := by
  refine ⟨h.1, ?_⟩
  rcases h.2 with a | ⟨g, cap, cur, a, b, c⟩
  · exact .inl a
  · exact .inr ⟨g, cap, cur, a, Nat.le_trans hb b, c⟩
theorem own_next {w w' : World} {B : Nat} {e : TypeId} {v : Value} {n : Nat} {xs : List Value} (h : w.ownsRow B e 1 v n xs) (hb : Below w.heap.size w w') : w'.ownsRow B e 1 v n xs :=
  h.kept (row := none) ⟨hb.os, hb.tape, hb.output, hb.size, fun k hk _ => hb.block k hk⟩ (by cases v.ownBlock <;> simp)
def RTwo (n : Nat) (Q : List Int → Prop) (p : List Int) (w : World) (e : Ending) (w' : World) : Prop :=
  ∃ g v2 T, e = .returned (.tuple #[.slice (some ⟨g, 0, none⟩) n n, v2]) ∧ Q T ∧ T.length = n ∧ IR w' w.heap.size g n T ∧ w'.ownsRow w.heap.size 3 1 v2 n (ints (gl n fun i => gi p i - gi T i)) ∧ Below w.heap.size w w'
theorem at_has (p : List Int) (o k : Int) : (0 < min k (atI p o) ↔ 0 < min k (hasF p o)) ∧ (0 < min k (atI p o) → min k (atI p o) = min k (hasF p o) ∧ ∃ i : Nat, o = (i : Int) ∧ i < p.length ∧ gi p i = atI p o) := by
  unfold atI hasF
  by_cases h : 0 ≤ o ∧ o < (p.length : Int)
  · rw [if_pos h]
    by_cases h2 : 0 ≤ gi p o.toNat
    · rw [if_pos ⟨h.1, h.2, h2⟩]
      exact ⟨Iff.rfl, fun _ => ⟨rfl, o.toNat, by omega, by omega, rfl⟩⟩
    · rw [if_neg (fun h' => h2 h'.2.2)]
      exact ⟨by omega, fun hm => by omega⟩
  · rw [if_neg h, if_neg (fun h' => h ⟨h'.1, h'.2.1⟩)]
    exact ⟨Iff.rfl, fun hm => by omega⟩
theorem fromT_eq (n : Nat) (p : List Int) (o k : Int) : fromT n o (min k (atI p o)) = fromT n o (min k (hasF p o)) := gl_congr fun i _ => by
  obtain ⟨a, b⟩ := at_has p o k
  by_cases hm : 0 < min k (atI p o)
  · rw [(b hm).1]
  · rw [if_neg (fun h => hm h.2), if_neg (fun h => hm (a.2 h.2))]

set_option maxHeartbeats 8000000 in
set_option maxRecDepth 100000 in
theorem reffrom_any (A : Option Addr) (c : Nat) (p : List Int) (n : Nat) (hp : p.length = n) (hn : n ≤ 1000) (hf : ∀ i, i < n → Fit (gi p i)) (o k : Int) (w : World) (hr : Rd w A (ints p)) :
    Calls Try.prog 17 #[.slice A n c, .int .i64 o, .int .i64 k] w (RTwo n (fun T => T = fromT n o (min k (hasF p o))) p w) := by
  obtain ⟨i0, hi0, hz0, hz1, hz2⟩ := info_parts info_int2
  have hmk : i0.bytes * n ≤ 281474976710656 := by rw [hz2]; omega
  have hml : n ≤ maxLen := by unfold maxLen; omega
  have INF := Lib.hid (And.intro hi0 (And.intro hz0 (And.intro hz1 (And.intro hmk hml))))
  have HP := Lib.hid hr
  have HF := Lib.hid hf
  rw [← fromT_eq]
  obtain ⟨_, hex⟩ := at_has p o k
  obtain ⟨h, hh⟩ : ∃ h, atI p o = h := ⟨_, rfl⟩
  rw [hh] at hex
  obtain ⟨m, hm⟩ : ∃ m, min k h = m := ⟨_, rfl⟩
  rw [hm] at hex
  rw [hh, hm]
  have HH := Lib.hid hh
  have HM := Lib.hid hm
  have HEX := Lib.hid (fun hm0 => (hex hm0).2)
  clear hi0 hz0 hz1 hz2 hmk hml hr hf hh hm hex
  go_enter Try.func17, Try.ntmps17
  go_upto_region 1 with fail
  go_wp2_with (first | (at_make; refine wpList_make_full _ rfl _ _ 22 rfl w.heap.size 3 i0 (.int .i64 0) 1 Try.underlying22 INF.out.1 INF.out.2.1 INF.out.2.2.1 _ _ _ _ n rfl rfl rfl rfl INF.out.2.2.2.1 INF.out.2.2.2.2 (Nat.le_refl _) ?_))
  intro w1 hown1 hg1
  have HI1 := Lib.hid (ir_made2 hown1)
  have HB1 := Lib.hid (below_grown (Below.refl w.heap.size w) hg1 (fun k hk => by cases hk))
  have HC := Lib.hid (at_any A c p o (by omega) w1 (HP.out.below (Nat.le_refl _) HB1.out))
  rw [hp, HH.out] at HC
  have hm := HM.out
  clear hown1 hg1
  go_upto_region 3 with (first | (go_at_call 32; with_reducible refine HC.out.mono ?_; rintro e w2 ⟨rfl, rfl⟩))
  clear hm HC
  by_cases hm0 : 0 < m
  · have t1 : decide (0 < m) = true := decide_eq_true hm0
    have hmh : m ≤ h := by have := HM.out; omega
    obtain ⟨i, rfl, hi, hip⟩ := HEX.out hm0
    rw [hp] at hi
    have c1 := HI1.out.cell hi
    have f1 := HI1.out.frozen i
    rw [gl_at hi] at c1
    have hT : (gl n fun _ => 0).set i m = fromT n (i : Int) m := by
      rw [gl_set hi]
      exact gl_congr fun j _ => by
        by_cases e : j = i
        · subst e; rw [if_pos rfl, if_pos ⟨rfl, hm0⟩]
        · rw [if_neg e, if_neg (by omega)]
    have HI3 := Lib.hid (hT ▸ HI1.out.set i m)
    have HB3 := Lib.hid (HB1.out.setCell (p := ⟨w.heap.size, i, none⟩) (Nat.le_refl _) (.int .i64 m))
    have HTA := Lib.hid (show ∀ j, j < n → gi (fromT n (i : Int) m) j = if j = i then m else 0 from fun j hj => by
      unfold fromT
      rw [gl_at hj]
      by_cases e : j = i
      · subst e; rw [if_pos ⟨rfl, hm0⟩, if_pos rfl]
      · rw [if_neg (by omega), if_neg e])
    have HIP := Lib.hid hip
    have j1 : (0 : Int) ≤ (i : Int) := by omega
    have j2 : (i : Int) < (n : Int) := by omega
    clear hip hT
    go_upto_region 5 with fail
    refine wp_named _ (fun w3 h3 => ?_)
    have HI4 := Lib.hid (show IR w3 w.heap.size w.heap.size n (fromT n (i : Int) m) by rw [h3]; exact HI3.out)
    have HB4 := Lib.hid (show Below w.heap.size w w3 by rw [h3]; exact HB3.out)
    clear h3 c1 f1
    have HW := Lib.hid (less_row A (some ⟨w.heap.size, 0, none⟩) c n p (fromT n (i : Int) m) n hp (gl_length _ _) hn (fun j hj => by
      rw [HTA.out j hj]
      have a := HF.out j hj
      unfold Fit at a ⊢
      by_cases e : j = i
      · subst e; rw [if_pos rfl]; have := HIP.out; omega
      · rw [if_neg e]; omega) w3 (HP.out.below (Nat.le_refl _) HB4.out) HI4.out.rd)
    go_wp2_with fail
    refine HW.out.mono ?_
    rintro e w4 ⟨v2, rfl, hI5, hB5⟩
    have HX := Lib.hid (And.intro (HI4.out.next hB5) (And.intro (own_base hI5 HB4.out.size) (below_next HB4.out hB5)))
    clear hI5 hB5
    go_wp2_with fail
    go_ret2
    exact ⟨_, _, _, rfl, rfl, gl_length _ _, HX.out⟩
  · have t1 : decide (0 < m) = false := decide_eq_false hm0
    have hT : (gl n fun _ => 0) = fromT n o m := gl_congr fun j _ => by rw [if_neg (fun h => hm0 h.2)]
    have HI4 := Lib.hid (hT ▸ HI1.out)
    have HTA := Lib.hid (show ∀ j, j < n → gi (fromT n o m) j = 0 from fun j hj => by
      unfold fromT
      rw [gl_at hj, if_neg (fun h => hm0 h.2)])
    clear hT
    have HW := Lib.hid (less_row A (some ⟨w.heap.size, 0, none⟩) c n p (fromT n o m) n hp (gl_length _ _) hn (fun j hj => by
      rw [HTA.out j hj, Int.sub_zero]
      exact HF.out j hj) w1 (HP.out.below (Nat.le_refl _) HB1.out) HI4.out.rd)
    go_wp2_with fail
    refine HW.out.mono ?_
    rintro e w4 ⟨v2, rfl, hI5, hB5⟩
    have HX := Lib.hid (And.intro (HI4.out.next hB5) (And.intro (own_base hI5 HB1.out.size) (below_next HB1.out hB5)))
    clear hI5 hB5
    go_wp2_with fail
    go_ret2
    exact ⟨_, _, _, rfl, rfl, gl_length _ _, HX.out⟩

/-! Take -/
set_option maxHeartbeats 8000000 in
set_option maxRecDepth 100000 in
theorem reftake_any (A : Option Addr) (c : Nat) (p : List Int) (hn : p.length ≤ 1000) (hf : ∀ i, i < p.length → Fit (gi p i)) (k : Int) (w : World) (hr : Rd w A (ints p)) :
    Calls Try.prog 16 #[.slice A p.length c, .int .i64 k] w (RTwo p.length (TakeQ p k) p w) := by
  obtain ⟨i0, hi0, hz0, hz1, hz2⟩ := info_parts info_int2
  have hmk : i0.bytes * p.length ≤ 281474976710656 := by rw [hz2]; omega
  have hml : p.length ≤ maxLen := by unfold maxLen; omega
  have INF := Lib.hid (And.intro hi0 (And.intro hz0 (And.intro hz1 (And.intro hmk hml))))
  have HP := Lib.hid hr
  have HF := Lib.hid hf
  clear hi0 hz0 hz1 hz2 hmk hml hr hf
  go_enter Try.func16, Try.ntmps16
  go_upto_region 1 with fail
  go_wp2_with (first | (at_make; refine wpList_make_full _ rfl _ _ 22 rfl w.heap.size 3 i0 (.int .i64 0) 1 Try.underlying22 INF.out.1 INF.out.2.1 INF.out.2.2.1 _ _ _ _ p.length rfl rfl rfl rfl INF.out.2.2.2.1 INF.out.2.2.2.2 (Nat.le_refl _) ?_))
  intro w1 hown1 hg1
  have HI1 := Lib.hid (ir_made2 hown1)
  have HB1 := Lib.hid (below_grown (Below.refl w.heap.size w) hg1 (fun k hk => by cases hk))
  clear hown1 hg1
  have END := Lib.hid (fun (w2 : World) (hb : Below w1.heap.size w1 w2) =>
    less_row A (some ⟨w.heap.size, 0, none⟩) c p.length p (gl p.length fun _ => 0) p.length rfl (gl_length _ _) hn (fun j hj => by rw [gl_at hj, Int.sub_zero]; exact HF.out j hj) w2 (HP.out.below (Nat.le_refl _) (below_next HB1.out hb)) (HI1.out.next hb).rd)
  have HPL := Lib.hid (plain_any A c p hn HF.out w1 (HP.out.below (Nat.le_refl _) HB1.out))
  obtain ⟨b, hb⟩ : ∃ b, riB p = b := ⟨_, rfl⟩
  rw [hb] at HPL
  have HBB := Lib.hid hb
  clear hb
  go_upto_region 2 with fail
  go_wp2_with fail
  refine HPL.out.mono ?_
  rintro e w2 ⟨rfl, hB2⟩
  have HB2 := Lib.hid (below_next HB1.out hB2)
  have HI2 := Lib.hid (HI1.out.next hB2)
  have HW2 := Lib.hid (END.out w2 hB2)
  cases b
  case false =>
    have HNO := Lib.hid (show ¬ (0 < k ∧ p.length ≤ 64 ∧ RiP p) from fun h => by have := riB_iff.2 h.2.2; rw [HBB.out] at this; cases this)
    clear END hB2 HPL
    go_wp2_with fail
    refine HW2.out.mono ?_
    rintro e w4 ⟨v2, rfl, hI5, hB5⟩
    have HX := Lib.hid (And.intro (HI2.out.next hB5) (And.intro (own_base hI5 HB2.out.size) (below_next HB2.out hB5)))
    clear hI5 hB5
    go_wp2_with fail
    go_ret2
    exact ⟨_, _, _, rfl, .inr ⟨HNO.out, rfl⟩, gl_length _ _, HX.out⟩
  case true =>
    by_cases h1 : k ≤ 0
    · have t1 : decide (k ≤ 0) = true := decide_eq_true h1
      have HNO := Lib.hid (show ¬ (0 < k ∧ p.length ≤ 64 ∧ RiP p) from fun h => by omega)
      clear END hB2 HPL h1
      go_wp2_with fail
      refine HW2.out.mono ?_
      rintro e w4 ⟨v2, rfl, hI5, hB5⟩
      have HX := Lib.hid (And.intro (HI2.out.next hB5) (And.intro (own_base hI5 HB2.out.size) (below_next HB2.out hB5)))
      clear hI5 hB5
      go_wp2_with fail
      go_ret2
      exact ⟨_, _, _, rfl, .inr ⟨HNO.out, rfl⟩, gl_length _ _, HX.out⟩
    have t1 : decide (k ≤ 0) = false := decide_eq_false h1
    have HRP := Lib.hid (riB_iff.1 HBB.out)
    have HTo := Lib.hid (reftotal_any A c p (by omega) HF.out w2 (HP.out.below (Nat.le_refl _) HB2.out))
    rw [tot_ri HRP.out (Nat.le_refl _), ← sum_su] at HTo
    obtain ⟨S, hS⟩ : ∃ S, p.sum = S := ⟨_, rfl⟩
    rw [hS] at HTo
    obtain ⟨m, hm⟩ : ∃ m, min k S = m := ⟨_, rfl⟩
    have HS := Lib.hid hS
    have HM := Lib.hid hm
    have HK := Lib.hid (show 0 < k by omega)
    clear hS h1
    go_wp2_with fail
    refine HTo.out.mono ?_
    rintro e w3 ⟨rfl, hB3⟩
    have hB23 := below_next hB2 hB3
    have HB3 := Lib.hid (below_next HB2.out hB3)
    have HI3 := Lib.hid (HI2.out.next hB3)
    have HSh := Lib.hid (refshare_any m A c p (by omega) w3 (HP.out.below (Nat.le_refl _) HB3.out))
    go_wp2_with fail
    refine HSh.out.mono ?_
    rintro e w4 (⟨g, x, rfl, v1, v2, v3, hx, hI, hB⟩ | ⟨rfl, hno, hB⟩)
    · have HB4 := Lib.hid (below_next HB3.out hB)
      have HX := Lib.hid hx
      have HIX := Lib.hid (hI.base HB3.out.size)
      have HV := Lib.hid (And.intro v1 (And.intro v2 v3))
      have HW := Lib.hid (less_row A (some ⟨g, 0, none⟩) c p.length p x p.length rfl hx.len hn (fun j hj => by
        have a := HX.out.le HV.out.1 HV.out.2.1 HV.out.2.2 hj
        have b := HF.out j hj
        unfold Fit at b ⊢
        omega) w4 (HP.out.below (Nat.le_refl _) HB4.out) HIX.out.rd)
      clear hx hI hB HTo HSh v1 v2 v3 hB23 hB3 END hB2 HPL
      go_wp2_with fail
      refine HW.out.mono ?_
      rintro e w6 ⟨v2, rfl, hI6, hB6⟩
      have HXX := Lib.hid (And.intro (HIX.out.next hB6) (And.intro (own_base hI6 HB4.out.size) (below_next HB4.out hB6)))
      have HQ := Lib.hid (show TakeQ p k x from .inl ⟨HK.out, HV.out.1.len, HRP.out, by rw [HS.out, HM.out]; exact HX.out⟩)
      clear hI6 hB6
      go_wp2_with fail
      go_ret2
      exact ⟨_, _, _, rfl, HQ.out, HX.out.len, HXX.out⟩
    · have HNO := Lib.hid (show ¬ (0 < k ∧ p.length ≤ 64 ∧ RiP p) from fun h => hno (by
        have hw := h.2.2.wt h.2.1
        have h0 := hw.nonneg
        have e := HS.out
        have e2 := HM.out
        exact ⟨hw, by omega, by omega⟩))
      have HB4 := Lib.hid (below_next HB3.out hB)
      have HI4 := Lib.hid (HI3.out.next hB)
      have HW4 := Lib.hid (END.out w4 (below_next hB23 hB))
      clear hno hB HTo HSh hB23 hB3 END hB2 HPL
      go_wp2_with fail
      refine HW4.out.mono ?_
      rintro e w6 ⟨v2, rfl, hI6, hB6⟩
      have HXX := Lib.hid (And.intro (HI4.out.next hB6) (And.intro (own_base hI6 HB4.out.size) (below_next HB4.out hB6)))
      clear hI6 hB6
      go_wp2_with fail
      go_ret2
      exact ⟨_, _, _, rfl, .inr ⟨HNO.out, rfl⟩, gl_length _ _, HXX.out⟩

end Go.Proofs.Ytfmnlnmajephlaa
