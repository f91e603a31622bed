/- Slopes: plain arithmetic. -/
import Derived.Test.YtonemgmmhjankaaCurveN
namespace Go.Proofs.Ytonemgmmhjankaa
open Go.RowKit
set_option linter.unusedVariables false
set_option linter.unusedSimpArgs false

theorem SlopeP.piece {l : List (Int × Int)} {n d : Int} (h : SlopeP l n d) {t : Nat} (ht : t ≤ l.length) : (ey l (t + 1) - ey l t) * d ≤ nd l t * n := by
  have hR := h.right
  have hp := hR.pos
  have hn0 := h.n0
  have hd := hR.nd_pos ht
  rcases t with _ | t
  · rw [ey_mid hp, ey_zero, Int.sub_self, Int.zero_mul]
    exact Int.mul_nonneg (by omega) hn0
  · by_cases e : t + 1 < l.length
    · have := h.ok (t + 1) (by omega) e
      unfold SlopeOk at this
      unfold nd
      rw [ey_mid e, ey_mid (by omega), ex_mid e, ex_mid (by omega)]
      exact this
    · rw [ey_end (by omega), ey_mid (by omega), show t = l.length - 1 by omega, Int.sub_self, Int.zero_mul]
      rw [show l.length - 1 = t by omega]
      exact Int.mul_nonneg (by omega) hn0
theorem SlopeP.chain {l : List (Int × Int)} {n d : Int} (h : SlopeP l n d) : ∀ (b a : Nat), a ≤ b → b ≤ l.length + 1 → (ey l b - ey l a) * d ≤ (ex l b - ex l a) * n
  | 0, a, h1, _ => by
    obtain rfl : a = 0 := by omega
    rw [Int.sub_self, Int.sub_self, Int.zero_mul, Int.zero_mul]; exact Int.le_refl _
  | b + 1, a, h1, h2 => by
    by_cases e : a = b + 1
    · subst e
      rw [Int.sub_self, Int.sub_self, Int.zero_mul, Int.zero_mul]; exact Int.le_refl _
    · have h3 := SlopeP.chain h b a (by omega) (by omega)
      have h4 := h.piece (t := b) (by omega)
      unfold nd at h4
      rw [Int.sub_mul, Int.sub_mul] at *
      omega
theorem cancel_le {k D e dy d n : Int} (h1 : k * D ≤ e * dy) (h2 : dy * d ≤ D * n) (hD : 0 < D) (he : 0 ≤ e) (hd : 0 < d) : k * d ≤ e * n := by
  have h3 := Int.mul_le_mul_of_nonneg_right h1 (show 0 ≤ d by omega)
  have h4 := Int.mul_le_mul_of_nonneg_left h2 he
  have e1 : k * D * d = k * d * D := by grind
  have e2 : e * dy * d = e * (dy * d) := by grind
  have e3 : e * (D * n) = e * n * D := by grind
  exact Int.le_of_mul_le_mul_right (a := D) (by omega) hD
theorem cancel_lt {k D e dy d n : Int} (h1 : k * D < e * dy) (h2 : dy * d ≤ D * n) (hD : 0 < D) (he : 0 ≤ e) (hd : 0 < d) : k * d < e * n := by
  have h3 := Int.mul_lt_mul_of_pos_right h1 hd
  have h4 := Int.mul_le_mul_of_nonneg_left h2 he
  have e1 : k * D * d = k * d * D := by grind
  have e2 : e * dy * d = e * (dy * d) := by grind
  have e3 : e * (D * n) = e * n * D := by grind
  exact Int.lt_of_mul_lt_mul_right (a := D) (by omega) (by omega)
theorem slope_lip {l : List (Int × Int)} {n d : Int} (h : SlopeP l n d) {x z : Int} (hx : Far x) (hz : Far z) (hxz : x ≤ z) : (atF l z - atF l x - 1) * d < (z - x) * n := by
  have hR := h.right
  have hd : 0 < d := by have := h.d0; omega
  obtain ⟨r, hr⟩ := hR.hasSg hx
  obtain ⟨s, hs⟩ := hR.hasSg hz
  have hrl := hr.le
  have hsl := hs.le
  have D1 := hR.nd_pos hrl
  have D2 := hR.nd_pos hsl
  rw [atF_eq hR, atF_eq hR, cv_sg hR hr, cv_sg hR hs]
  show (nn l s z / nd l s - nn l r x / nd l r - 1) * d < (z - x) * n
  have f1 : nn l r x < (nn l r x / nd l r + 1) * nd l r := Int.lt_ediv_add_one_mul_self _ D1
  have f2 : nn l s z / nd l s * nd l s ≤ nn l s z := Int.ediv_mul_le _ (by omega)
  generalize nn l r x / nd l r = fx at *
  generalize nn l s z / nd l s = fz at *
  by_cases e : r = s
  · subst e
    refine cancel_lt (D := nd l r) (dy := ey l (r + 1) - ey l r) ?_ (h.piece hrl) D1 (by omega) hd
    have e1 : (fz - fx - 1) * nd l r = fz * nd l r - (fx + 1) * nd l r := by grind
    have e2 : nn l r z - nn l r x = (z - x) * (ey l (r + 1) - ey l r) := by unfold nn; grind
    omega
  · have hlt : r < s := by
      rcases Nat.lt_or_ge r s with h' | h'
      · exact h'
      · have := hR.ex_mono r (s + 1) (by omega) (by omega)
        have := hr.lo
        have := hs.hi
        omega
    have g1 : (fz - ey l s) * d ≤ (z - ex l s) * n := by
      refine cancel_le (D := nd l s) (dy := ey l (s + 1) - ey l s) ?_ (h.piece hsl) D2 (by have := hs.lo; omega) hd
      have e1 : (fz - ey l s) * nd l s = fz * nd l s - ey l s * nd l s := by grind
      have e2 : nn l s z = ey l s * nd l s + (z - ex l s) * (ey l (s + 1) - ey l s) := rfl
      omega
    have g2 : (ey l (r + 1) - fx - 1) * d < (ex l (r + 1) - x) * n := by
      refine cancel_lt (D := nd l r) (dy := ey l (r + 1) - ey l r) ?_ (h.piece hrl) D1 (by have := hr.hi; omega) hd
      have e1 : (ey l (r + 1) - fx - 1) * nd l r = ey l (r + 1) * nd l r - (fx + 1) * nd l r := by grind
      have e2 : ey l (r + 1) * nd l r - nn l r x = (ex l (r + 1) - x) * (ey l (r + 1) - ey l r) := by rw [← nn_hi]; unfold nn; grind
      omega
    have g3 := h.chain s (r + 1) (by omega) (by omega)
    have e1 : (fz - fx - 1) * d = (fz - ey l s) * d + (ey l (r + 1) - fx - 1) * d + (ey l s - ey l (r + 1)) * d := by grind
    have e2 : (z - x) * n = (z - ex l s) * n + (ex l (r + 1) - x) * n + (ex l s - ex l (r + 1)) * n := by grind
    omega
theorem slope_ceil {k p d c : Int} (hd : 0 < d) (h : (k - 1) * d < p) (hc : c = p / d + (if 0 < p % d then 1 else 0)) : k ≤ c := by
  have h1 := Int.mul_ediv_add_emod p d
  have h2 := Int.emod_nonneg p (show d ≠ 0 by omega)
  have h3 := Int.emod_lt_of_pos p hd
  rw [Int.mul_comm] at h1
  have h4 : p ≤ c * d := by
    subst hc
    split
    · rw [Int.add_mul]; omega
    · rw [Int.add_zero]; omega
  have h5 : (k - 1) * d < c * d := by omega
  have := Int.lt_of_mul_lt_mul_right h5 (by omega)
  omega
theorem SlopeP.num {l : List (Int × Int)} {n d : Int} (h : SlopeP l n d) (hn : n < 1125899906842624) : SlopeP l (n + 1) d :=
  ⟨h.right, by have := h.n0; omega, by omega, h.d0, h.d1, fun k h1 h2 => by
    have h3 := h.ok k h1 h2
    have h4 := ((h.right.ok k h2).2.2.2.2 (by omega)).1
    unfold SlopeOk at *
    rw [Int.mul_add]
    omega⟩
theorem SlopeP.den {l : List (Int × Int)} {n d : Int} (h : SlopeP l n d) (hd : 1 < d) : SlopeP l n (d - 1) :=
  ⟨h.right, h.n0, h.n1, by omega, by have := h.d1; omega, fun k h1 h2 => by
    have h3 := h.ok k h1 h2
    have h4 := ((h.right.ok k h2).2.2.2.2 (by omega)).2
    unfold SlopeOk at *
    rw [Int.mul_sub]
    omega⟩
def two (l : List (Int × Int)) (k : Nat) : List (Int × Int) := [(px l (k - 1), py l (k - 1)), (px l k, py l k)]
theorem SlopeP.two {l : List (Int × Int)} {n d : Int} (h : SlopeP l n d) {k : Nat} (h1 : 1 ≤ k) (h2 : k < l.length) : SlopeP (two l k) n d := by
  have o := h.right.ok k h2
  have o' := h.right.ok (k - 1) (by omega)
  obtain ⟨a1, a2, a3, a4, a5⟩ := o
  obtain ⟨b1, b2, b3, b4, _⟩ := o'
  refine ⟨⟨by show 1 ≤ 2; decide, by show 2 ≤ 32; decide, fun t ht => ?_⟩, h.n0, h.n1, h.d0, h.d1, fun t t1 t2 => ?_⟩
  · have ht' : t < 2 := ht
    rcases t with _ | t
    · exact ⟨b1, b2, b3, b4, fun h => absurd h (by omega)⟩
    · obtain rfl : t = 0 := by omega
      exact ⟨a1, a2, a3, a4, fun _ => a5 (by omega)⟩
  · have ht' : t < 2 := t2
    obtain rfl : t = 1 := by omega
    exact h.ok k h1 h2
theorem Rd.two {A : Option Addr} {l : List (Int × Int)} {w : World} (h : Rd w A (ptCells l)) {k : Nat} (h1 : 1 ≤ k) (h2 : k < l.length) : ∃ ad, A = some ad ∧ ad.block < w.heap.size ∧ Rd w (some (ad.add ((k - 1) * 2))) (ptCells (two l k)) := by
  obtain ⟨ad, e, hb, q1, q2⟩ := h.pt (k := k - 1) (by omega)
  obtain ⟨ad', e', _, r1, r2⟩ := h.pt h2
  rw [e] at e'
  cases e'
  refine ⟨ad, e, hb, fun _ => ⟨_, rfl, by rw [add_block]; exact hb, fun j u hj => ?_⟩⟩
  have hadd : ∀ (a : Addr) (m j : Nat), (a.add m).add j = a.add (m + j) := by
    intro a m j
    unfold Addr.add
    by_cases hm : m = 0
    · subst hm; simp
    · by_cases hj : j = 0
      · subst hj; simp
      · simp [hm, hj, Nat.add_assoc]
  have hoff : ∀ (a : Addr) (m : Nat) (hm : 0 < m), (⟨(a.add m).block, (a.add m).off + 1, none⟩ : Addr) = a.add (m + 1) := by
    intro a m hm
    unfold Addr.add
    simp [show m ≠ 0 by omega, Nat.add_assoc]
  have hoff' : ∀ (a : Addr), (⟨(a.add 0).block, (a.add 0).off + 1, none⟩ : Addr) = a.add 1 := by
    intro a
    unfold Addr.add
    simp
  have hoffs : ∀ (a : Addr) (m : Nat), (⟨(a.add m).block, (a.add m).off + 1, none⟩ : Addr) = a.add (m + 1) := by
    intro a m
    by_cases hm : m = 0
    · subst hm; exact hoff' a
    · exact hoff a m (by omega)
  rw [hoffs] at q2 r2
  rw [hadd]
  have hlt : j < 4 := (List.getElem?_eq_some_iff.1 hj).1
  match j, hlt, hj with
  | 0, _, hj => exact q1.trans hj
  | 1, _, hj => exact q2.trans hj
  | 2, _, hj => rw [show (k - 1) * 2 + 2 = k * 2 by omega]; exact r1.trans hj
  | 3, _, hj => rw [show (k - 1) * 2 + 3 = k * 2 + 1 by omega]; exact r2.trans hj

end Go.Proofs.Ytonemgmmhjankaa
