/- Curves as functions: plain arithmetic. -/
import Derived.Test.YtonemgmmhjankaaSmall10
namespace Go.Proofs.Ytonemgmmhjankaa
open Go.RowKit
set_option linter.unusedVariables false
set_option linter.unusedSimpArgs false

/-- the points, with one far to the left and one far to the right -/
def ex (l : List (Int × Int)) (t : Nat) : Int := if t = 0 then -36893488147419103232 else if t ≤ l.length then px l (t - 1) else 36893488147419103232
def ey (l : List (Int × Int)) (t : Nat) : Int := if t = 0 then py l 0 else if t ≤ l.length then py l (t - 1) else py l (l.length - 1)
theorem ex_zero (l : List (Int × Int)) : ex l 0 = -36893488147419103232 := rfl
theorem ex_mid {l : List (Int × Int)} {t : Nat} (h : t < l.length) : ex l (t + 1) = px l t := by unfold ex; rw [if_neg (by omega), if_pos (by omega)]; rfl
theorem ex_end {l : List (Int × Int)} {t : Nat} (h : t = l.length) : ex l (t + 1) = 36893488147419103232 := by unfold ex; rw [if_neg (by omega), if_neg (by omega)]
theorem ey_zero (l : List (Int × Int)) : ey l 0 = py l 0 := rfl
theorem ey_mid {l : List (Int × Int)} {t : Nat} (h : t < l.length) : ey l (t + 1) = py l t := by unfold ey; rw [if_neg (by omega), if_pos (by omega)]; rfl
theorem ey_end {l : List (Int × Int)} {t : Nat} (h : t = l.length) : ey l (t + 1) = py l (l.length - 1) := by unfold ey; rw [if_neg (by omega), if_neg (by omega)]
theorem RightP.ex_lt {l : List (Int × Int)} (h : RightP l) {t : Nat} (ht : t ≤ l.length) : ex l t < ex l (t + 1) := by
  have hp := h.pos
  rcases t with _ | t
  · rw [ex_zero, ex_mid hp]
    have := (h.ok 0 hp).1
    omega
  · rw [ex_mid (t := t) (by omega)]
    by_cases e : t + 1 < l.length
    · rw [ex_mid e]; exact h.mono (t + 1) t (by omega) e
    · rw [ex_end (by omega)]
      have := (h.ok t (by omega)).2.1
      omega
theorem RightP.ey_le {l : List (Int × Int)} (h : RightP l) {t : Nat} (ht : t ≤ l.length) : ey l t ≤ ey l (t + 1) := by
  have hp := h.pos
  rcases t with _ | t
  · rw [ey_zero, ey_mid hp]; exact Int.le_refl _
  · rw [ey_mid (t := t) (by omega)]
    by_cases e : t + 1 < l.length
    · rw [ey_mid e]; exact h.mono_y (t + 1) t (by omega) e
    · rw [ey_end (by omega)]; exact h.mono_y _ _ (by omega) (by omega)
theorem RightP.ey_mono {l : List (Int × Int)} (h : RightP l) : ∀ (b a : Nat), a ≤ b → b ≤ l.length + 1 → ey l a ≤ ey l b
  | 0, a, h1, _ => by obtain rfl : a = 0 := by omega
                      exact Int.le_refl _
  | b + 1, a, h1, h2 => by
    by_cases e : a = b + 1
    · subst e; exact Int.le_refl _
    · exact Int.le_trans (RightP.ey_mono h b a (by omega) (by omega)) (h.ey_le (by omega))
theorem RightP.ex_mono {l : List (Int × Int)} (h : RightP l) : ∀ (b a : Nat), a ≤ b → b ≤ l.length + 1 → ex l a ≤ ex l b
  | 0, a, h1, _ => by obtain rfl : a = 0 := by omega
                      exact Int.le_refl _
  | b + 1, a, h1, h2 => by
    by_cases e : a = b + 1
    · subst e; exact Int.le_refl _
    · exact Int.le_trans (RightP.ex_mono h b a (by omega) (by omega)) (Int.le_of_lt (h.ex_lt (by omega)))
theorem RightP.hasIdx {l : List (Int × Int)} (h : RightP l) (x : Int) : ∃ r, IsIdx l x r := by
  have : ∀ m, m ≤ l.length → ∃ r, r ≤ m ∧ (∀ t, t < r → px l t ≤ x) ∧ (∀ t, r ≤ t → t < m → x < px l t) := by
    intro m
    induction m with
    | zero => exact fun _ => ⟨0, Nat.le_refl _, fun t ht => absurd ht (Nat.not_lt_zero _), fun t _ ht => absurd ht (Nat.not_lt_zero _)⟩
    | succ m ih =>
      intro hm
      obtain ⟨r, h1, h2, h3⟩ := ih (by omega)
      by_cases hx : px l m ≤ x
      · exact ⟨m + 1, Nat.le_refl _, fun t ht => by
          by_cases e : t = m
          · subst e; exact hx
          · have := h.mono m t (by omega) (by omega); omega, fun t a b => absurd a (by omega)⟩
      · exact ⟨r, by omega, h2, fun t a b => by
          by_cases e : t = m
          · subst e; omega
          · exact h3 t a (by omega)⟩
  obtain ⟨r, h1, h2, h3⟩ := this l.length (Nat.le_refl _)
  exact ⟨r, h1, h2, h3⟩
/-- x lies in piece r -/
structure Sg (l : List (Int × Int)) (x : Int) (r : Nat) : Prop where
  le : r ≤ l.length
  lo : ex l r ≤ x
  hi : x < ex l (r + 1)
def Far (x : Int) : Prop := -36893488147419103232 ≤ x ∧ x < 36893488147419103232
theorem IsIdx.sg {l : List (Int × Int)} {x : Int} {r : Nat} (h : IsIdx l x r) (hx : Far x) : Sg l x r := by
  obtain ⟨h1, h2, h3⟩ := h
  refine ⟨h1, ?_, ?_⟩
  · rcases r with _ | r
    · exact hx.1
    · rw [ex_mid (by omega)]; exact h2 r (by omega)
  · by_cases e : r < l.length
    · rw [ex_mid e]; exact h3 r (by omega) e
    · rw [ex_end (by omega)]; exact hx.2
theorem Sg.idx {l : List (Int × Int)} {x : Int} {r : Nat} (hR : RightP l) (h : Sg l x r) : IsIdx l x r := by
  obtain ⟨h1, h2, h3⟩ := h
  refine ⟨h1, fun t ht => ?_, fun t a b => ?_⟩
  · rw [← ex_mid (by omega)]
    exact Int.le_trans (hR.ex_mono r (t + 1) (by omega) (by omega)) h2
  · rw [← ex_mid b]
    exact Int.lt_of_lt_of_le h3 (hR.ex_mono (t + 1) (r + 1) (by omega) (by omega))
def nd (l : List (Int × Int)) (r : Nat) : Int := ex l (r + 1) - ex l r
def nn (l : List (Int × Int)) (r : Nat) (x : Int) : Int := ey l r * nd l r + (x - ex l r) * (ey l (r + 1) - ey l r)
theorem RightP.nd_pos {l : List (Int × Int)} (h : RightP l) {r : Nat} (hr : r ≤ l.length) : 0 < nd l r := by have := h.ex_lt hr; unfold nd; omega
theorem nn_lo (l : List (Int × Int)) (r : Nat) : nn l r (ex l r) = ey l r * nd l r := by unfold nn; rw [Int.sub_self, Int.zero_mul, Int.add_zero]
theorem nn_hi (l : List (Int × Int)) (r : Nat) : nn l r (ex l (r + 1)) = ey l (r + 1) * nd l r := by unfold nn nd; grind
theorem cval_seg {l : List (Int × Int)} (hR : RightP l) {x : Int} {r : Nat} (h : r ≤ l.length) : cval l x r = (nn l r x / nd l r, decide (0 < nn l r x % nd l r)) := by
  have hd := hR.nd_pos h
  have e1 : nn l r x / nd l r = ey l r + (x - ex l r) * (ey l (r + 1) - ey l r) / nd l r := by unfold nn; rw [Int.add_comm, Int.add_mul_ediv_right _ _ (by omega), Int.add_comm]
  have e2 : nn l r x % nd l r = (x - ex l r) * (ey l (r + 1) - ey l r) % nd l r := by unfold nn; rw [Int.add_comm, Int.add_mul_emod_self_right]
  rw [e1, e2]
  have hp := hR.pos
  unfold cval
  by_cases h0 : r = 0
  · subst h0
    rw [if_pos rfl, ey_mid hp, ey_zero, Int.sub_self, Int.mul_zero, Int.zero_ediv, Int.zero_emod, Int.add_zero]; rfl
  · rw [if_neg h0]
    obtain ⟨k, rfl⟩ : ∃ k, r = k + 1 := ⟨r - 1, by omega⟩
    rw [Nat.add_sub_cancel]
    by_cases h1 : k + 1 = l.length
    · rw [if_pos h1, ey_end h1, ey_mid (by omega), ← h1, Nat.add_sub_cancel, Int.sub_self, Int.mul_zero, Int.zero_ediv, Int.zero_emod, Int.add_zero]; rfl
    · rw [if_neg h1]
      unfold nd
      rw [ey_mid (t := k + 1) (by omega), ey_mid (t := k) (by omega), ex_mid (t := k + 1) (by omega), ex_mid (t := k) (by omega)]
theorem cv_sg {l : List (Int × Int)} (hR : RightP l) {x : Int} {r : Nat} (h : Sg l x r) : cv l x = (nn l r x / nd l r, decide (0 < nn l r x % nd l r)) := by
  rw [cv_at (h.idx hR), cval_seg hR h.le]
theorem RightP.hasSg {l : List (Int × Int)} (h : RightP l) {x : Int} (hx : Far x) : ∃ r, Sg l x r := by
  obtain ⟨r, hr⟩ := h.hasIdx x
  exact ⟨r, hr.sg hx⟩
theorem atF_eq {l : List (Int × Int)} (hR : RightP l) (x : Int) : atF l x = (cv l x).1 := by unfold atF; rw [if_pos (rightB_iff.2 hR)]
/-- the value lies between the ends of the piece -/
theorem Sg.bounds {l : List (Int × Int)} (hR : RightP l) {x : Int} {r : Nat} (h : Sg l x r) : ey l r ≤ (cv l x).1 ∧ (cv l x).1 ≤ ey l (r + 1) := by
  rw [cv_sg hR h]
  have hd := hR.nd_pos h.le
  have hy := hR.ey_le h.le
  constructor
  · rw [Int.le_ediv_iff_mul_le hd]
    unfold nn
    have := Int.mul_nonneg (a := x - ex l r) (b := ey l (r + 1) - ey l r) (by have := h.lo; omega) (by omega)
    omega
  · have h2 : nn l r x ≤ ey l (r + 1) * nd l r := by
      rw [← nn_hi]
      unfold nn
      have := Int.mul_le_mul_of_nonneg_right (a := x - ex l r) (b := ex l (r + 1) - ex l r) (c := ey l (r + 1) - ey l r) (by have := h.hi; omega) (by omega)
      omega
    have h3 := Int.ediv_le_ediv hd h2
    rwa [Int.mul_ediv_cancel _ (by omega)] at h3
theorem cv_mono {l : List (Int × Int)} (hR : RightP l) {x z : Int} (hx : Far x) (hz : Far z) (h : x ≤ z) : (cv l x).1 ≤ (cv l z).1 := by
  obtain ⟨r, hr⟩ := hR.hasSg hx
  obtain ⟨s, hs⟩ := hR.hasSg hz
  by_cases e : r = s
  · subst e
    rw [cv_sg hR hr, cv_sg hR hs]
    refine Int.ediv_le_ediv (hR.nd_pos hr.le) ?_
    unfold nn
    have := Int.mul_le_mul_of_nonneg_right (a := x - ex l r) (b := z - ex l r) (c := ey l (r + 1) - ey l r) (by omega) (by have := hR.ey_le hr.le; omega)
    omega
  · have hlt : r < s := by
      rcases Nat.lt_or_ge r s with h' | h'
      · exact h'
      · have := hR.ex_mono r (s + 1) (by omega) (by have := hr.le; omega)
        have := hr.lo
        have := hs.hi
        omega
    exact Int.le_trans (hr.bounds hR).2 (Int.le_trans (hR.ey_mono s (r + 1) (by omega) (by have := hs.le; omega)) (hs.bounds hR).1)
theorem cv_left {l : List (Int × Int)} (hR : RightP l) {x : Int} (hx : x ≤ px l 0) : cv l x = (py l 0, false) := by
  by_cases e : x = px l 0
  · subst e; exact cv_point hR hR.pos
  · have hI : IsIdx l x 0 := ⟨Nat.zero_le _, fun t ht => absurd ht (Nat.not_lt_zero _), fun t _ ht => by
      by_cases h0 : t = 0
      · subst h0; omega
      · have := hR.mono t 0 (by omega) ht; omega⟩
    rw [cv_at hI]; rfl
theorem cv_right {l : List (Int × Int)} (hR : RightP l) {x : Int} (hx : px l (l.length - 1) ≤ x) : cv l x = (py l (l.length - 1), false) := by
  have hp := hR.pos
  have hI : IsIdx l x l.length := ⟨Nat.le_refl _, fun t ht => by
      by_cases h0 : t = l.length - 1
      · subst h0; omega
      · have := hR.mono (l.length - 1) t (by omega) (by omega); omega, fun t h1 h2 => absurd h1 (by omega)⟩
  rw [cv_at hI]
  unfold cval
  rw [if_neg (by omega), if_pos rfl]
theorem atF_le {l : List (Int × Int)} (hR : RightP l) {x : Int} (hx : Far x) : py l 0 ≤ atF l x ∧ atF l x ≤ py l (l.length - 1) := by
  obtain ⟨r, hr⟩ := hR.hasSg hx
  rw [atF_eq hR]
  have h := hr.bounds hR
  have h1 := hR.ey_mono r 0 (by omega) (by have := hr.le; omega)
  have h2 := hR.ey_mono (l.length + 1) (r + 1) (by have := hr.le; omega) (by omega)
  rw [ey_end rfl] at h2
  rw [ey_zero] at h1
  omega

end Go.Proofs.Ytonemgmmhjankaa
