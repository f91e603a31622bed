/- The proportional division: what it keeps. -/
import Derived.Test.YtfmnlnmajephlaaShare
namespace Go.Proofs.Ytfmnlnmajephlaa
set_option linter.unusedVariables false
set_option linter.unusedSimpArgs false

theorem wOf_eq {l : List Int} (h : l.sum ≥ 1) : wOf l = l.sum := by unfold wOf; omega
theorem ShareP.sum_su' {t : Int} {l x : List Int} (h : ShareP t l x) : su (gi x) l.length = t := by rw [← h.len, ← sum_su]; exact h.sum
theorem ShareP.no_up {t : Int} {l x : List Int} (h : ShareP t l x) (hw : Wt l) (h0 : 0 ≤ t) (h1 : t ≤ l.sum) {i : Nat} (hi : i < l.length) (hu : gi x i = qq t l i + 1) : 0 < rr t l i := by
  have hr := rr_nonneg t l i
  rcases Int.lt_or_le 0 (rr t l i) with h' | h'
  · exact h'
  · exfalso
    have hz : rr t l i = 0 := by omega
    by_cases hS : l.sum ≥ 1
    · have e := su_rr (t := t) hS
      have hW := wOf_pos l
      -- the sum of the remainders is below the number of those that were rounded up, times w
      have e2 : su (fun j => wOf l * (gi x j - qq t l j)) l.length = wOf l * (t - su (qq t l) l.length) := by
        rw [su_mul]
        have : su (fun j => gi x j - qq t l j) l.length = t - su (qq t l) l.length := by
          have a := su_add (fun j => gi x j - qq t l j) (qq t l) l.length
          have b : su (fun j => (gi x j - qq t l j) + qq t l j) l.length = su (gi x) l.length := su_congr fun j _ => by omega
          rw [b, h.sum_su'] at a
          omega
        rw [this]
      have lt := su_lt (f := rr t l) (g := fun j => wOf l * (gi x j - qq t l j)) (n := l.length) (fun j hj => by
        rcases h.two j hj with hd | hu'
        · have hb := h.ord i j hi hj hu hd
          unfold bef at hb
          have := rr_nonneg t l j
          rw [hd, Int.sub_self, Int.mul_zero]
          omega
        · have := rr_lt t l j
          rw [hu', show qq t l j + 1 - qq t l j = 1 by omega, Int.mul_one]
          omega) hi (by rw [hz, hu, show qq t l i + 1 - qq t l i = 1 by omega, Int.mul_one]; exact hW)
      rw [e2, e] at lt
      omega
    · have hs0 : l.sum = 0 := by have := hw.nonneg; omega
      have ht : t = 0 := by omega
      subst ht
      have hq : ∀ j, qq 0 l j = 0 := fun j => by unfold qq; rw [Int.zero_mul, Int.zero_ediv]
      have lt := su_lt (f := fun _ => 0) (g := gi x) (n := l.length) (fun j hj => by have := h.two j hj; rw [hq] at this; omega) hi (by rw [hu, hq]; omega)
      rw [su_zero (fun _ _ => rfl), h.sum_su'] at lt
      omega
theorem ShareP.le {t : Int} {l x : List Int} (h : ShareP t l x) (hw : Wt l) (h0 : 0 ≤ t) (h1 : t ≤ l.sum) {i : Nat} (hi : i < l.length) : 0 ≤ gi x i ∧ gi x i ≤ gi l i := by
  have hq := qq_le hw h0 h1 hi
  rcases h.two i hi with hd | hu
  · omega
  · have hp := h.no_up hw h0 h1 hi hu
    refine ⟨by omega, ?_⟩
    have e := qr t l i
    have hW := wOf_pos l
    have htw : t ≤ wOf l := by unfold wOf; omega
    have m := Int.mul_le_mul_of_nonneg_right htw (hw.pos i hi)
    have hlt : wOf l * qq t l i < wOf l * gi l i := by omega
    have := Int.lt_of_mul_lt_mul_left hlt (Int.le_of_lt hW)
    omega
theorem ShareP.mono {t : Int} {l x : List Int} (h : ShareP t l x) (hw : Wt l) (h0 : 0 ≤ t) (h1 : t ≤ l.sum) {i k : Nat} (hi : i < l.length) (hk : k < l.length) (hlt : gi l k < gi l i) : gi x k ≤ gi x i := by
  have hW := wOf_pos l
  have m : t * gi l k ≤ t * gi l i := Int.mul_le_mul_of_nonneg_left (by omega) h0
  have hq : qq t l k ≤ qq t l i := Int.ediv_le_ediv hW m
  rcases h.two i hi with a | a <;> rcases h.two k hk with b | b
  · omega
  · -- k up, i down: then k comes before i
    have hb := h.ord k i hk hi b a
    rcases Int.lt_or_le (qq t l k) (qq t l i) with hc | hc
    · omega
    · exfalso
      have e : qq t l k = qq t l i := by omega
      have e1 := qr t l i
      have e2 := qr t l k
      rw [e] at e2
      have hr : rr t l k ≤ rr t l i := by omega
      have hp := h.no_up hw h0 h1 hk b
      have ht : 0 < t := by
        rcases Int.lt_or_le 0 t with h' | h'
        · exact h'
        · have : t = 0 := by omega
          subst this
          unfold rr at hp
          rw [Int.zero_mul, Int.zero_emod] at hp
          omega
      have ms : t * gi l k < t * gi l i := Int.mul_lt_mul_of_pos_left hlt ht
      unfold bef at hb
      omega
  · omega
  · omega
theorem ShareP.none {l x : List Int} (h : ShareP 0 l x) {i : Nat} (hi : i < l.length) (hw : Wt l) : gi x i = 0 := by
  have hs := hw.nonneg
  rcases h.two i hi with a | a
  · rw [a]; unfold qq; rw [Int.zero_mul, Int.zero_ediv]
  · have := h.no_up hw (Int.le_refl _) hs hi a
    unfold rr at this
    rw [Int.zero_mul, Int.zero_emod] at this
    omega
theorem ShareP.full {l x : List Int} (h : ShareP l.sum l x) (hw : Wt l) : x = l := by
  refine gi_ext h.len fun i hi => ?_
  rw [h.len] at hi
  have hs := hw.nonneg
  by_cases hS : l.sum ≥ 1
  · have e : wOf l = l.sum := wOf_eq hS
    have hr : rr l.sum l i = 0 := by unfold rr; rw [e]; exact Int.mul_emod_right _ _
    have hq : qq l.sum l i = gi l i := by unfold qq; rw [e]; exact Int.mul_ediv_cancel_left _ (by omega)
    rcases h.two i hi with a | a
    · rw [a, hq]
    · have := h.no_up hw hs (Int.le_refl _) hi a
      omega
  · have h0 : l.sum = 0 := by omega
    have a := h.le hw hs (Int.le_refl _) hi
    have b := hw.le hi
    omega
theorem ShareP.rest {t : Int} {l x u : List Int} (h : ShareP t l x) (g : ShareP (l.sum - t) l u) (hw : Wt l) (h0 : 0 ≤ t) (h1 : t ≤ l.sum) {i : Nat} (hi : i < l.length) : -1 ≤ gi l i - gi x i - gi u i ∧ gi l i - gi x i - gi u i ≤ 1 := by
  by_cases hS : l.sum ≥ 1
  · have e : wOf l = l.sum := wOf_eq hS
    have hW := wOf_pos l
    have e1 := qr t l i
    have e2 := qr (l.sum - t) l i
    have r1 := rr_nonneg t l i
    have r2 := rr_nonneg (l.sum - t) l i
    have r3 := rr_lt t l i
    have r4 := rr_lt (l.sum - t) l i
    rw [Int.sub_mul] at e2
    have key : wOf l * (gi l i - qq t l i - qq (l.sum - t) l i) = rr t l i + rr (l.sum - t) l i := by
      rw [Int.mul_sub, Int.mul_sub]
      rw [e] at e1 e2 ⊢
      omega
    generalize hv : gi l i - qq t l i - qq (l.sum - t) l i = v at key
    have v0 : 0 ≤ v := by
      rcases Int.lt_or_le v 0 with hn | hn
      · have := Int.mul_neg_of_pos_of_neg hW hn; omega
      · exact hn
    have v1 : v ≤ 1 := by
      rcases Int.lt_or_le 1 v with hn | hn
      · have := Int.mul_le_mul_of_nonneg_left (show 2 ≤ v by omega) (Int.le_of_lt hW); omega
      · exact hn
    rcases h.two i hi with a | a <;> rcases g.two i hi with b | b
    · omega
    · omega
    · omega
    · have p1 := h.no_up hw h0 h1 hi a
      have p2 := g.no_up hw (by omega) (by omega) hi b
      have : v ≠ 0 := fun hv0 => by rw [hv0, Int.mul_zero] at key; omega
      omega
  · have hs0 : l.sum = 0 := by have := hw.nonneg; omega
    have a := h.le hw h0 h1 hi
    have b := g.le hw (by omega) (by omega) hi
    have c := hw.le hi
    omega

end Go.Proofs.Ytfmnlnmajephlaa
