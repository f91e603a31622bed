/- Least and At: plain arithmetic. -/
import Derived.Test.YtonemgmmhjankaaCurveM
namespace Go.Proofs.Ytonemgmmhjankaa
open Go.RowKit
set_option linter.unusedVariables false
set_option linter.unusedSimpArgs false

theorem RightP.hasIdy {l : List (Int × Int)} (h : RightP l) (y : Int) : ∃ r, IsIdy l y r := by
  have : ∀ m, m ≤ l.length → ∃ r, r ≤ m ∧ (∀ t, t < r → py l t < y) ∧ (∀ t, r ≤ t → t < m → y ≤ py l t) := by
    intro m
    induction m with
    | zero => exact fun _ => ⟨0, Nat.le_refl _, fun t ht => absurd ht (Nat.not_lt_zero _), fun t _ ht => absurd ht (Nat.not_lt_zero _)⟩
    | succ m ih =>
      intro hm
      obtain ⟨r, h1, h2, h3⟩ := ih (by omega)
      by_cases hx : py l m < y
      · exact ⟨m + 1, Nat.le_refl _, fun t ht => by
          have := h.mono_y m t (by omega) (by omega); omega, fun t a b => absurd a (by omega)⟩
      · exact ⟨r, by omega, h2, fun t a b => by
          by_cases e : t = m
          · subst e; omega
          · exact h3 t a (by omega)⟩
  obtain ⟨r, h1, h2, h3⟩ := this l.length (Nat.le_refl _)
  exact ⟨r, h1, h2, h3⟩
theorem ceil_spec (p d : Int) (hp : 0 < p) (hd : 0 < d) (c : Int) (hc : c = p / d + (if p % d = 0 then 0 else 1)) : p ≤ c * d ∧ (c - 1) * d < p ∧ 1 ≤ c := by
  have h1 := Int.mul_ediv_add_emod p d
  have h2 := Int.emod_nonneg p (show d ≠ 0 by omega)
  have h3 := Int.emod_lt_of_pos p hd
  rw [Int.mul_comm] at h1
  have h4 : 0 ≤ p / d := Int.ediv_nonneg (by omega) (by omega)
  generalize p % d = m at *
  generalize p / d = q at *
  subst hc
  by_cases e : m = 0
  · rw [if_pos e, Int.add_zero, Int.sub_mul]
    refine ⟨by omega, by omega, ?_⟩
    by_cases h : 0 < q
    · omega
    · obtain rfl : q = 0 := by omega
      omega
  · rw [if_neg e, Int.add_sub_cancel, Int.add_mul]
    exact ⟨by omega, by omega, by omega⟩
theorem least_spec {l : List (Int × Int)} (hR : RightP l) {y : Int} (hy : y ≤ py l (l.length - 1)) :
    ∃ v, leastF l y = (v, true) ∧ 0 ≤ v ∧ v ≤ 1125899906842624 ∧ y ≤ atF l v ∧ (0 < v → atF l (v - 1) < y) := by
  obtain ⟨r, hr⟩ := hR.hasIdy y
  rw [leastF_yes hR hy hr]
  refine ⟨_, rfl, ?_⟩
  have hp := hR.pos
  by_cases h0 : r = 0
  · subst h0
    have e : cleast l y 0 = 0 := by unfold cleast; rw [if_pos rfl]
    rw [e]
    exact ⟨by omega, by omega, Int.le_trans (hr.2.2 0 (Nat.le_refl _) hp) (atF_le hR (by constructor <;> omega)).1, fun h => absurd h (by omega)⟩
  · obtain ⟨k, rfl⟩ : ∃ k, r = k + 1 := ⟨r - 1, by omega⟩
    have hk : k + 1 < l.length := by
      rcases Nat.lt_or_ge (k + 1) l.length with h | h
      · exact h
      · have := hr.2.1 (l.length - 1) (by omega)
        omega
    have hlo := hr.2.1 k (by omega)
    have hhi := hr.2.2 (k + 1) (Nat.le_refl _) hk
    obtain ⟨o1, o2, _, _, o5⟩ := hR.ok (k + 1) hk
    obtain ⟨o1', o2', _, _, _⟩ := hR.ok k (by omega)
    have hx := (o5 (by omega)).1
    rw [Nat.add_sub_cancel] at hx
    clear o5
    have ev : cleast l y (k + 1) = px l k + ((y - py l k) * (px l (k + 1) - px l k) / (py l (k + 1) - py l k) + (if (y - py l k) * (px l (k + 1) - px l k) % (py l (k + 1) - py l k) = 0 then 0 else 1)) := by
      unfold cleast
      rw [if_neg (by omega), Nat.add_sub_cancel, Int.add_assoc]
    rw [ev]
    obtain ⟨c, hc⟩ : ∃ c, (y - py l k) * (px l (k + 1) - px l k) / (py l (k + 1) - py l k) + (if (y - py l k) * (px l (k + 1) - px l k) % (py l (k + 1) - py l k) = 0 then 0 else 1) = c := ⟨_, rfl⟩
    rw [hc]
    obtain ⟨c1, c2, c3⟩ := ceil_spec ((y - py l k) * (px l (k + 1) - px l k)) (py l (k + 1) - py l k) (Int.mul_pos (by omega) (by omega)) (by omega) c hc.symm
    have hcd : c ≤ px l (k + 1) - px l k := by
      have h1 : (y - py l k) * (px l (k + 1) - px l k) ≤ (py l (k + 1) - py l k) * (px l (k + 1) - px l k) := Int.mul_le_mul_of_nonneg_right (by omega) (by omega)
      have h2 : (c - 1) * (py l (k + 1) - py l k) < (px l (k + 1) - px l k) * (py l (k + 1) - py l k) := by rw [Int.mul_comm (px l (k + 1) - px l k)]; omega
      have := Int.lt_of_mul_lt_mul_right h2 (by omega)
      omega
    have hnn : ∀ t, nn l (k + 1) (px l k + t) = py l k * (px l (k + 1) - px l k) + t * (py l (k + 1) - py l k) := by
      intro t
      unfold nn nd
      rw [ey_mid hk, ey_mid (by omega), ex_mid hk, ex_mid (by omega)]
      rw [show px l k + t - px l k = t by omega]
    have hsg : ∀ t, 0 ≤ t → t < px l (k + 1) - px l k → Sg l (px l k + t) (k + 1) := fun t h1 h2 => ⟨by omega, by rw [ex_mid (by omega)]; omega, by rw [ex_mid hk]; omega⟩
    have hnd : nd l (k + 1) = px l (k + 1) - px l k := by unfold nd; rw [ex_mid hk, ex_mid (by omega)]
    have hsub := Int.sub_mul y (py l k) (px l (k + 1) - px l k)
    refine ⟨by omega, by omega, ?_, fun _ => ?_⟩
    · rw [atF_eq hR]
      by_cases e : c = px l (k + 1) - px l k
      · rw [show px l k + c = px l (k + 1) by omega, cv_point hR hk]; exact hhi
      · rw [cv_sg hR (hsg c (by omega) (by omega)), hnn, hnd]
        show y ≤ _
        rw [Int.le_ediv_iff_mul_le (by omega)]
        omega
    · rw [atF_eq hR, show px l k + c - 1 = px l k + (c - 1) by omega, cv_sg hR (hsg (c - 1) (by omega) (by omega)), hnn, hnd]
      show _ < y
      refine Int.ediv_lt_of_lt_mul (by omega) ?_
      omega
theorem atF_mono {l : List (Int × Int)} (hR : RightP l) {x z : Int} (hx : Far x) (hz : Far z) (h : x ≤ z) : atF l x ≤ atF l z := by
  rw [atF_eq hR, atF_eq hR]; exact cv_mono hR hx hz h
theorem atF_point {l : List (Int × Int)} (hR : RightP l) {k : Nat} (hk : k < l.length) : atF l (px l k) = py l k := by rw [atF_eq hR, cv_point hR hk]
theorem least_no {l : List (Int × Int)} {y : Int} (hy : ¬ y ≤ py l (l.length - 1)) : leastF l y = (0, false) := leastF_no fun h => hy h.2

end Go.Proofs.Ytonemgmmhjankaa
