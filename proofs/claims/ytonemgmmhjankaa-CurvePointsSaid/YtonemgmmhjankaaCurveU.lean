/- Under: at most everywhere. -/
import Derived.Test.YtonemgmmhjankaaCurveN
namespace Go.Proofs.Ytonemgmmhjankaa
open Go.RowKit
set_option linter.unusedVariables false
set_option linter.unusedSimpArgs false

theorem aff_nonneg {p q u v x : Int} (h1 : 0 ≤ p + q * u) (h2 : 0 ≤ p + q * v) (hu : u ≤ x) (hv : x ≤ v) : 0 ≤ p + q * x := by
  by_cases hq : 0 ≤ q
  · have := Int.mul_le_mul_of_nonneg_left hu hq
    omega
  · have := Int.mul_le_mul_of_nonneg_left (a := x) (b := v) (c := -q) hv (by omega)
    rw [Int.neg_mul, Int.neg_mul] at this
    omega
/-- the difference of two pieces -/
def gg (a b : List (Int × Int)) (r s : Nat) (x : Int) : Int := nn b s x * nd a r - nn a r x * nd b s
theorem gg_aff (a b : List (Int × Int)) (r s : Nat) : ∃ p q : Int, ∀ x, gg a b r s x = p + q * x :=
  ⟨(ey b s * nd b s - ex b s * (ey b (s + 1) - ey b s)) * nd a r - (ey a r * nd a r - ex a r * (ey a (r + 1) - ey a r)) * nd b s, (ey b (s + 1) - ey b s) * nd a r - (ey a (r + 1) - ey a r) * nd b s, fun x => by unfold gg nn; grind⟩
theorem gg_nonneg {a b : List (Int × Int)} {r s : Nat} {u v x : Int} (h1 : 0 ≤ gg a b r s u) (h2 : 0 ≤ gg a b r s v) (hu : u ≤ x) (hv : x ≤ v) : 0 ≤ gg a b r s x := by
  obtain ⟨p, q, h⟩ := gg_aff a b r s
  rw [h] at *
  exact aff_nonneg h1 h2 hu hv
/-- a's value is at most b's at x -/
def Vle (a b : List (Int × Int)) (x : Int) : Prop := ∀ r s, Sg a x r → Sg b x s → 0 ≤ gg a b r s x
theorem floor_le {y n d : Int} (hd : 0 < d) : y ≤ n / d ↔ y * d ≤ n := Int.le_ediv_iff_mul_le hd
theorem le_floor {y n d : Int} (hd : 0 < d) : (n / d ≤ y ∧ ¬ (n / d = y ∧ decide (0 < n % d) = true)) ↔ n ≤ y * d := by
  have h1 := Int.mul_ediv_add_emod n d
  have h2 := Int.emod_nonneg n (show d ≠ 0 by omega)
  have h3 := Int.emod_lt_of_pos n hd
  rw [Int.mul_comm] at h1
  constructor
  · rintro ⟨h, h'⟩
    by_cases e : n / d = y
    · have : ¬ 0 < n % d := fun h => h' ⟨e, decide_eq_true h⟩
      rw [e] at h1
      omega
    · have : n / d + 1 ≤ y := by omega
      have := Int.mul_le_mul_of_nonneg_right this (show 0 ≤ d by omega)
      rw [Int.add_mul] at this
      omega
  · intro h
    have h4 : n / d ≤ y := by
      have := Int.ediv_le_ediv hd h
      rwa [Int.mul_ediv_cancel _ (by omega)] at this
    refine ⟨h4, fun ⟨e, h5⟩ => ?_⟩
    rw [e] at h1
    have := of_decide_eq_true h5
    omega
theorem unA_iff {a b : List (Int × Int)} (hb : RightP b) {k s : Nat} (hs : Sg b (px a k) s) : UnA a b k ↔ py a k * nd b s ≤ nn b s (px a k) := by
  unfold UnA
  rw [cv_sg hb hs]
  exact floor_le (hb.nd_pos hs.le)
theorem unB_iff {a b : List (Int × Int)} (ha : RightP a) {k r : Nat} (hr : Sg a (px b k) r) : UnB a b k ↔ nn a r (px b k) ≤ py b k * nd a r := by
  unfold UnB
  rw [cv_sg ha hr]
  exact le_floor (ha.nd_pos hr.le)
theorem RightP.far {l : List (Int × Int)} (h : RightP l) {k : Nat} (hk : k < l.length) : Far (px l k) := by
  obtain ⟨o1, o2, _⟩ := h.ok k hk
  constructor <;> omega
/-- the point k lies in piece k + 1 -/
theorem RightP.sgPoint {l : List (Int × Int)} (h : RightP l) {k : Nat} (hk : k < l.length) : Sg l (px l k) (k + 1) := by
  refine ⟨hk, by rw [ex_mid hk]; exact Int.le_refl _, ?_⟩
  have := h.ex_lt (t := k + 1) hk
  rwa [ex_mid hk] at this
theorem Sg.unique {l : List (Int × Int)} (hR : RightP l) {x : Int} {r r' : Nat} (h : Sg l x r) (h' : Sg l x r') : r = r' := (h.idx hR).unique (h'.idx hR)
theorem under_first {a b : List (Int × Int)} (h : UnderP a b) : py a 0 ≤ py b 0 := by
  have hpa := h.ra.pos
  have hpb := h.rb.pos
  by_cases e : px a 0 ≤ px b 0
  · have := h.ua 0 hpa
    unfold UnA at this
    rwa [cv_left h.rb e] at this
  · have := (h.ub 0 hpb).1
    rwa [cv_left h.ra (by omega)] at this
theorem under_last {a b : List (Int × Int)} (h : UnderP a b) : py a (a.length - 1) ≤ py b (b.length - 1) := by
  have hpa := h.ra.pos
  have hpb := h.rb.pos
  by_cases e : px b (b.length - 1) ≤ px a (a.length - 1)
  · have := h.ua (a.length - 1) (by omega)
    unfold UnA at this
    rwa [cv_right h.rb e] at this
  · have := (h.ub (b.length - 1) (by omega)).1
    rwa [cv_right h.ra (by omega)] at this
theorem gg_at {a b : List (Int × Int)} {r s : Nat} {x y : Int} (h1 : nn a r x ≤ y * nd a r) (h2 : y * nd b s ≤ nn b s x) (ha : 0 < nd a r) (hb : 0 < nd b s) : 0 ≤ gg a b r s x := by
  unfold gg
  have h3 := Int.mul_le_mul_of_nonneg_right h1 (show 0 ≤ nd b s by omega)
  have h4 := Int.mul_le_mul_of_nonneg_right h2 (show 0 ≤ nd a r by omega)
  have h5 : y * nd a r * nd b s = y * nd b s * nd a r := by grind
  omega
theorem under_vle {a b : List (Int × Int)} (h : UnderP a b) {x : Int} (hx : Far x) : Vle a b x := by
  intro r s hr hs
  have ha := h.ra
  have hb := h.rb
  have hda := ha.nd_pos hr.le
  have hdb := hb.nd_pos hs.le
  have hrl := hr.le
  have hsl := hs.le
  -- the left end
  have hu : ∃ u, u ≤ x ∧ 0 ≤ gg a b r s u := by
    by_cases e : ex b s ≤ ex a r
    · refine ⟨ex a r, hr.lo, gg_at (y := ey a r) (by rw [nn_lo]; exact Int.le_refl _) ?_ hda hdb⟩
      rcases r with _ | k
      · have hs0 : s = 0 := by
          rcases s with _ | j
          · rfl
          · rw [ex_mid (t := j) (by omega), ex_zero] at e
            have := (hb.ok j (by omega)).1
            omega
        subst hs0
        have hf := under_first h
        rw [ex_zero, ← ex_zero b, nn_lo, ey_zero, ey_zero]
        exact Int.mul_le_mul_of_nonneg_right hf (by omega)
      · rw [ex_mid (t := k) (by omega)] at *
        have hsg : Sg b (px a k) s := ⟨hsl, e, by have := hr.lo; have := hs.hi; rw [ex_mid (t := k) (by omega)] at *; omega⟩
        rw [ey_mid (t := k) (by omega)]
        exact (unA_iff hb hsg).1 (h.ua k (by omega))
    · rcases s with _ | j
      · exfalso
        rw [ex_zero] at e
        have := ha.ex_mono r 0 (by omega) (by omega)
        rw [ex_zero] at this
        omega
      · refine ⟨ex b (j + 1), hs.lo, gg_at (y := ey b (j + 1)) ?_ (by rw [nn_lo]; exact Int.le_refl _) hda hdb⟩
        have hlo := hs.lo
        rw [ex_mid (t := j) (by omega)] at *
        rw [ey_mid (t := j) (by omega)]
        exact (unB_iff ha ⟨hrl, by omega, by have := hr.hi; omega⟩).1 (h.ub j (by omega))
  -- the right end
  have hv : ∃ v, x ≤ v ∧ 0 ≤ gg a b r s v := by
    have hxa := hr.hi
    have hxb := hs.hi
    by_cases e : ex a (r + 1) ≤ ex b (s + 1)
    · refine ⟨ex a (r + 1), by omega, gg_at (y := ey a (r + 1)) (by rw [nn_hi]; exact Int.le_refl _) ?_ hda hdb⟩
      by_cases hre : r = a.length
      · have hse : s = b.length := by
          by_cases hs' : s = b.length
          · exact hs'
          · exfalso
            rw [ex_end hre, ex_mid (t := s) (by omega)] at e
            have := (hb.ok s (by omega)).2.1
            omega
        rw [ex_end hre, ← ex_end hse, nn_hi, ey_end hre, ey_end hse]
        exact Int.mul_le_mul_of_nonneg_right (under_last h) (by omega)
      · rw [ey_mid (t := r) (by omega)]
        by_cases e2 : ex a (r + 1) = ex b (s + 1)
        · rw [e2, nn_hi]
          refine Int.mul_le_mul_of_nonneg_right ?_ (by omega)
          have hsl' : s < b.length := by
            by_cases hs' : s = b.length
            · exfalso
              rw [ex_end hs', ex_mid (t := r) (by omega)] at e2
              have := (ha.ok r (by omega)).2.1
              omega
            · omega
          have := h.ua r (by omega)
          unfold UnA at this
          rw [ex_mid (t := r) (by omega), ex_mid hsl'] at e2
          rw [e2, cv_point hb hsl'] at this
          rwa [ey_mid hsl']
        · rw [ex_mid (t := r) (by omega)] at *
          exact (unA_iff hb ⟨hsl, by have := hs.lo; omega, by omega⟩).1 (h.ua r (by omega))
    · refine ⟨ex b (s + 1), by omega, gg_at (y := ey b (s + 1)) ?_ (by rw [nn_hi]; exact Int.le_refl _) hda hdb⟩
      have hsl' : s < b.length := by
        by_cases hs' : s = b.length
        · exfalso
          rw [ex_end hs'] at e
          have := ha.ex_mono (a.length + 1) (r + 1) (by omega) (by omega)
          rw [ex_end rfl] at this
          omega
        · omega
      rw [ex_mid hsl'] at *
      rw [ey_mid hsl']
      exact (unB_iff ha ⟨hrl, by have := hr.lo; omega, by omega⟩).1 (h.ub s hsl')
  obtain ⟨u, hu1, hu2⟩ := hu
  obtain ⟨v, hv1, hv2⟩ := hv
  exact gg_nonneg hu2 hv2 hu1 hv1
theorem under_of_vle {a b : List (Int × Int)} (ha : RightP a) (hb : RightP b) (h : ∀ x, Far x → Vle a b x) : UnderP a b := by
  refine ⟨ha, hb, fun k hk => ?_, fun k hk => ?_⟩
  · obtain ⟨s, hs⟩ := hb.hasSg (ha.far hk)
    rw [unA_iff hb hs]
    have hg := h _ (ha.far hk) _ _ (ha.sgPoint hk) hs
    have hd := ha.nd_pos (r := k + 1) hk
    unfold gg at hg
    rw [← ex_mid hk, nn_lo, ey_mid hk, ex_mid hk] at hg
    have h5 : py a k * nd a (k + 1) * nd b s = py a k * nd b s * nd a (k + 1) := by grind
    exact Int.le_of_mul_le_mul_right (a := nd a (k + 1)) (by omega) hd
  · obtain ⟨r, hr⟩ := ha.hasSg (hb.far hk)
    rw [unB_iff ha hr]
    have hg := h _ (hb.far hk) _ _ hr (hb.sgPoint hk)
    have hd := hb.nd_pos (r := k + 1) hk
    unfold gg at hg
    rw [← ex_mid hk, nn_lo, ey_mid hk, ex_mid hk] at hg
    have h5 : py b k * nd b (k + 1) * nd a r = py b k * nd a r * nd b (k + 1) := by grind
    exact Int.le_of_mul_le_mul_right (a := nd b (k + 1)) (by omega) hd
theorem under_iff {a b : List (Int × Int)} (ha : RightP a) (hb : RightP b) : UnderP a b ↔ ∀ x, Far x → Vle a b x := ⟨fun h _ hx => under_vle h hx, under_of_vle ha hb⟩
theorem under_trans {a b c : List (Int × Int)} (h1 : UnderP a b) (h2 : UnderP b c) : UnderP a c := by
  refine under_of_vle h1.ra h2.rb fun x hx r t hr ht => ?_
  obtain ⟨s, hs⟩ := h1.rb.hasSg hx
  have g1 := under_vle h1 hx r s hr hs
  have g2 := under_vle h2 hx s t hs ht
  have d1 := h1.ra.nd_pos hr.le
  have d2 := h1.rb.nd_pos hs.le
  have d3 := h2.rb.nd_pos ht.le
  unfold gg at *
  have e1 := Int.mul_nonneg g1 (show 0 ≤ nd c t by omega)
  have e2 := Int.mul_nonneg g2 (show 0 ≤ nd a r by omega)
  have e3 : (nn b s x * nd a r - nn a r x * nd b s) * nd c t + (nn c t x * nd b s - nn b s x * nd c t) * nd a r = (nn c t x * nd a r - nn a r x * nd c t) * nd b s := by grind
  by_cases h : 0 ≤ nn c t x * nd a r - nn a r x * nd c t
  · exact h
  · have := Int.mul_neg_of_neg_of_pos (a := nn c t x * nd a r - nn a r x * nd c t) (b := nd b s) (by omega) d2
    omega
theorem div_le_div {n d n' d' : Int} (h1 : 0 < d) (h2 : 0 < d') (h : 0 ≤ n' * d - n * d') : n / d ≤ n' / d' := by
  rw [Int.le_ediv_iff_mul_le h2]
  have h3 : n / d * d ≤ n := Int.ediv_mul_le n (by omega)
  have h4 := Int.mul_le_mul_of_nonneg_right h3 (show 0 ≤ d' by omega)
  have h5 : n / d * d * d' = n / d * d' * d := by grind
  exact Int.le_of_mul_le_mul_right (a := d) (by omega) h1
theorem under_at {a b : List (Int × Int)} (h : UnderP a b) {x : Int} (hx : Far x) : atF a x ≤ atF b x := by
  obtain ⟨r, hr⟩ := h.ra.hasSg hx
  obtain ⟨s, hs⟩ := h.rb.hasSg hx
  rw [atF_eq h.ra, atF_eq h.rb, cv_sg h.ra hr, cv_sg h.rb hs]
  exact div_le_div (h.ra.nd_pos hr.le) (h.rb.nd_pos hs.le) (under_vle h hx r s hr hs)
theorem under_least {a b : List (Int × Int)} (h : UnderP a b) {y : Int} (hy : (leastF a y).2 = true) : (leastF b y).2 = true ∧ (leastF b y).1 ≤ (leastF a y).1 := by
  by_cases hya : y ≤ py a (a.length - 1)
  case neg => rw [least_no hya] at hy; cases hy
  have hyb : y ≤ py b (b.length - 1) := Int.le_trans hya (under_last h)
  obtain ⟨v, e1, e2, e3, e4, e5⟩ := least_spec h.ra hya
  obtain ⟨v', e1', e2', e3', e4', e5'⟩ := least_spec h.rb hyb
  rw [e1, e1']
  refine ⟨rfl, ?_⟩
  show v' ≤ v
  by_cases hlt : v' ≤ v
  · exact hlt
  · have h1 := e5' (by omega)
    have h2 := under_at h (x := v) (by constructor <;> omega)
    have h3 := atF_mono h.rb (x := v) (z := v' - 1) (by constructor <;> omega) (by constructor <;> omega) (by omega)
    omega

end Go.Proofs.Ytonemgmmhjankaa
