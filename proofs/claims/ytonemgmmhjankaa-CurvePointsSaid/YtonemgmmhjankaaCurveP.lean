/- Raised curves, curves with one more point: plain arithmetic. -/
import Derived.Test.YtonemgmmhjankaaCurveU
namespace Go.Proofs.Ytonemgmmhjankaa
open Go.RowKit
set_option linter.unusedVariables false
set_option linter.unusedSimpArgs false

/-! raised -/
def high (l : List (Int × Int)) (u : Int) : List (Int × Int) := l.map fun p => (p.1, p.2 + u)
theorem high_length (l : List (Int × Int)) (u : Int) : (high l u).length = l.length := List.length_map _
theorem high_px {l : List (Int × Int)} {u : Int} {k : Nat} (h : k < l.length) : px (high l u) k = px l k := by
  unfold px high; simp [List.getD, h]
theorem high_py {l : List (Int × Int)} {u : Int} {k : Nat} (h : k < l.length) : py (high l u) k = py l k + u := by
  unfold py high; simp [List.getD, h]
theorem RightP.high {l : List (Int × Int)} (h : RightP l) {u : Int} (hu : 0 ≤ u) (hl : py l (l.length - 1) + u ≤ 1125899906842624) : RightP (high l u) := by
  refine ⟨by rw [high_length]; exact h.pos, by rw [high_length]; exact h.le, fun k hk => ?_⟩
  rw [high_length] at hk
  obtain ⟨o1, o2, o3, o4, o5⟩ := h.ok k hk
  have := h.mono_y (l.length - 1) k (by omega) (by omega)
  refine ⟨by rw [high_px hk]; exact o1, by rw [high_px hk]; exact o2, by rw [high_py hk]; omega, by rw [high_py hk]; omega, fun hk0 => ?_⟩
  obtain ⟨a, b⟩ := o5 hk0
  rw [high_px hk, high_px (by omega), high_py hk, high_py (by omega)]
  exact ⟨a, by omega⟩
theorem cv_high {l : List (Int × Int)} (h : RightP l) (u : Int) (x : Int) : cv (high l u) x = ((cv l x).1 + u, (cv l x).2) := by
  obtain ⟨r, hr⟩ := h.hasIdx x
  have hr' : IsIdx (high l u) x r := by
    obtain ⟨h1, h2, h3⟩ := hr
    refine ⟨by rw [high_length]; exact h1, fun t ht => by rw [high_px (by omega)]; exact h2 t ht, fun t a b => ?_⟩
    rw [high_length] at b
    rw [high_px b]; exact h3 t a b
  rw [cv_at hr, cv_at hr']
  have hle := hr.1
  have hp := h.pos
  unfold cval
  rw [high_length]
  by_cases h0 : r = 0
  · subst h0; rw [if_pos rfl, if_pos rfl, high_py hp]
  · rw [if_neg h0, if_neg h0]
    by_cases h1 : r = l.length
    · rw [if_pos h1, if_pos h1, high_py (by omega)]
    · rw [if_neg h1, if_neg h1, high_py (k := r - 1) (by omega), high_py (k := r) (by omega), high_px (k := r - 1) (by omega), high_px (k := r) (by omega)]
      rw [show py l r + u - (py l (r - 1) + u) = py l r - py l (r - 1) by omega, Int.add_right_comm]
theorem at_high {l : List (Int × Int)} (h : RightP l) {u : Int} (hh : RightP (high l u)) (x : Int) : atF (high l u) x = atF l x + u := by
  rw [atF_eq h, atF_eq hh, cv_high h]
theorem under_high {l : List (Int × Int)} (h : RightP l) {u : Int} (hu : 0 ≤ u) (hh : RightP (high l u)) : UnderP l (high l u) := by
  refine ⟨h, hh, fun k hk => ?_, fun k hk => ?_⟩
  · unfold UnA
    rw [cv_high h, cv_point h hk]
    show _ ≤ py l k + u
    omega
  · rw [high_length] at hk
    unfold UnB
    rw [high_px hk, high_py hk, cv_point h hk]
    exact ⟨by show py l k ≤ _; omega, fun hc => absurd hc.2 Bool.false_ne_true⟩
theorem not_under_high {l : List (Int × Int)} (h : RightP l) {u : Int} (hu : 0 < u) : ¬ UnderP (high l u) l := fun hc => by
  have hp := h.pos
  have := hc.ua 0 (by rw [high_length]; exact hp)
  unfold UnA at this
  rw [high_px hp, high_py hp, cv_point h hp] at this
  have h' : py l 0 + u ≤ py l 0 := this
  omega

/-! one more point -/
def more (l : List (Int × Int)) (m : Nat) : List (Int × Int) := l.take (m + 1) ++ (px l m + 1, py l m) :: l.drop (m + 1)
theorem more_length {l : List (Int × Int)} {m : Nat} (h : m + 1 < l.length) : (more l m).length = l.length + 1 := by
  unfold more; simp; omega
theorem more_lo {l : List (Int × Int)} {m k : Nat} (h : m + 1 < l.length) (hk : k ≤ m) : (more l m).getD k (0, 0) = l.getD k (0, 0) := by
  unfold more
  rw [List.getD, List.getD, List.getElem?_append_left (by simp; omega), List.getElem?_take_of_lt (by omega)]
theorem more_at {l : List (Int × Int)} {m : Nat} (h : m + 1 < l.length) : (more l m).getD (m + 1) (0, 0) = (px l m + 1, py l m) := by
  unfold more
  have e : (l.take (m + 1)).length = m + 1 := by simp; omega
  rw [List.getD, List.getElem?_append_right (by omega), e, Nat.sub_self]; rfl
theorem more_hi {l : List (Int × Int)} {m k : Nat} (h : m + 1 < l.length) (hk : m + 1 ≤ k) : (more l m).getD (k + 1) (0, 0) = l.getD k (0, 0) := by
  unfold more
  have e : (l.take (m + 1)).length = m + 1 := by simp; omega
  rw [List.getD, List.getD, List.getElem?_append_right (by omega), e, show k + 1 - (m + 1) = (k - (m + 1)) + 1 by omega, List.getElem?_cons_succ, List.getElem?_drop, show m + 1 + (k - (m + 1)) = k by omega]
structure Flat (l : List (Int × Int)) (m : Nat) : Prop where
  lt : m + 1 < l.length
  flat : py l (m + 1) = py l m
  gap : 2 ≤ px l (m + 1) - px l m
theorem cv_new {l : List (Int × Int)} (h : RightP l) {m : Nat} (f : Flat l m) : cv l (px l m + 1) = (py l m, false) := by
  have hI : IsIdx l (px l m + 1) (m + 1) := ⟨by have := f.lt; omega, fun t ht => by
    by_cases e : t = m
    · subst e; omega
    · have := h.mono m t (by omega) (by have := f.lt; omega); omega, fun t a b => by
    by_cases e : t = m + 1
    · subst e; have := f.gap; omega
    · have := h.mono t (m + 1) (by omega) b
      have := f.gap
      omega⟩
  rw [cv_at hI]
  unfold cval
  rw [if_neg (by omega), if_neg (by have := f.lt; omega), Nat.add_sub_cancel, f.flat, Int.sub_self, Int.mul_zero, Int.zero_ediv, Int.zero_emod, Int.add_zero]; rfl
theorem RightP.more {l : List (Int × Int)} (h : RightP l) (hl : l.length ≤ 31) {m : Nat} (f : Flat l m) : RightP (more l m) := by
  have hm := f.lt
  have hg := f.gap
  have hf := f.flat
  refine ⟨by rw [more_length hm]; omega, by rw [more_length hm]; omega, fun k hk => ?_⟩
  rw [more_length hm] at hk
  obtain ⟨a1, a2, a3, a4, _⟩ := h.ok m (by omega)
  obtain ⟨c1, c2, c3, c4, _⟩ := h.ok (m + 1) hm
  unfold PtOk
  by_cases e1 : k ≤ m
  · have ex : px (Go.Proofs.Ytonemgmmhjankaa.more l m) k = px l k := by unfold px; rw [more_lo hm e1]
    have ey : py (Go.Proofs.Ytonemgmmhjankaa.more l m) k = py l k := by unfold py; rw [more_lo hm e1]
    have ex' : px (Go.Proofs.Ytonemgmmhjankaa.more l m) (k - 1) = px l (k - 1) := by unfold px; rw [more_lo hm (by omega)]
    have ey' : py (Go.Proofs.Ytonemgmmhjankaa.more l m) (k - 1) = py l (k - 1) := by unfold py; rw [more_lo hm (by omega)]
    rw [ex, ey, ex', ey']
    exact h.ok k (by omega)
  · have xN : px (Go.Proofs.Ytonemgmmhjankaa.more l m) (m + 1) = px l m + 1 := by unfold px; rw [more_at hm]; rfl
    have yN : py (Go.Proofs.Ytonemgmmhjankaa.more l m) (m + 1) = py l m := by unfold py; rw [more_at hm]; rfl
    by_cases e2 : k = m + 1
    · subst e2
      have ex' : px (Go.Proofs.Ytonemgmmhjankaa.more l m) m = px l m := by unfold px; rw [more_lo hm (Nat.le_refl _)]
      have ey' : py (Go.Proofs.Ytonemgmmhjankaa.more l m) m = py l m := by unfold py; rw [more_lo hm (Nat.le_refl _)]
      rw [xN, yN, Nat.add_sub_cancel, ex', ey']
      exact ⟨by omega, by omega, a3, a4, fun _ => ⟨by omega, Int.le_refl _⟩⟩
    · obtain ⟨j, rfl⟩ : ∃ j, k = j + 1 := ⟨k - 1, by omega⟩
      have ex : px (Go.Proofs.Ytonemgmmhjankaa.more l m) (j + 1) = px l j := by unfold px; rw [more_hi hm (by omega)]
      have ey : py (Go.Proofs.Ytonemgmmhjankaa.more l m) (j + 1) = py l j := by unfold py; rw [more_hi hm (by omega)]
      rw [ex, ey, Nat.add_sub_cancel]
      obtain ⟨o1, o2, o3, o4, o5⟩ := h.ok j (by omega)
      refine ⟨o1, o2, o3, o4, fun _ => ?_⟩
      by_cases e3 : j = m + 1
      · subst e3
        rw [xN, yN]
        exact ⟨by omega, by omega⟩
      · obtain ⟨i, rfl⟩ : ∃ i, j = i + 1 := ⟨j - 1, by omega⟩
        have ex' : px (Go.Proofs.Ytonemgmmhjankaa.more l m) (i + 1) = px l i := by unfold px; rw [more_hi hm (by omega)]
        have ey' : py (Go.Proofs.Ytonemgmmhjankaa.more l m) (i + 1) = py l i := by unfold py; rw [more_hi hm (by omega)]
        rw [ex', ey']
        have := o5 (by omega)
        rwa [Nat.add_sub_cancel] at this
theorem more_pt {l : List (Int × Int)} (h : RightP l) {m : Nat} (f : Flat l m) {k : Nat} (hk : k < (more l m).length) : cv l (px (more l m) k) = (py (more l m) k, false) := by
  have hm := f.lt
  rw [more_length hm] at hk
  by_cases e1 : k ≤ m
  · have ex : px (more l m) k = px l k := by unfold px; rw [more_lo hm e1]
    have ey : py (more l m) k = py l k := by unfold py; rw [more_lo hm e1]
    rw [ex, ey, cv_point h (by omega)]
  · by_cases e2 : k = m + 1
    · subst e2
      have ex : px (more l m) (m + 1) = px l m + 1 := by unfold px; rw [more_at hm]; rfl
      have ey : py (more l m) (m + 1) = py l m := by unfold py; rw [more_at hm]; rfl
      rw [ex, ey, cv_new h f]
    · obtain ⟨j, rfl⟩ : ∃ j, k = j + 1 := ⟨k - 1, by omega⟩
      have ex : px (more l m) (j + 1) = px l j := by unfold px; rw [more_hi hm (by omega)]
      have ey : py (more l m) (j + 1) = py l j := by unfold py; rw [more_hi hm (by omega)]
      rw [ex, ey, cv_point h (by omega)]
theorem pt_more {l : List (Int × Int)} (hl : l.length ≤ 31) (h : RightP l) {m : Nat} (f : Flat l m) {k : Nat} (hk : k < l.length) : cv (more l m) (px l k) = (py l k, false) := by
  have hm := f.lt
  have hR := h.more hl f
  have hL := more_length hm
  by_cases e1 : k ≤ m
  · have ex : px (more l m) k = px l k := by unfold px; rw [more_lo hm e1]
    have ey : py (more l m) k = py l k := by unfold py; rw [more_lo hm e1]
    rw [← ex, ← ey, cv_point hR (by omega)]
  · have ex : px (more l m) (k + 1) = px l k := by unfold px; rw [more_hi hm (by omega)]
    have ey : py (more l m) (k + 1) = py l k := by unfold py; rw [more_hi hm (by omega)]
    rw [← ex, ← ey, cv_point hR (by omega)]
theorem more_under {l : List (Int × Int)} (hl : l.length ≤ 31) (h : RightP l) {m : Nat} (f : Flat l m) : UnderP (more l m) l ∧ UnderP l (more l m) := by
  have hR := h.more hl f
  refine ⟨⟨hR, h, fun k hk => ?_, fun k hk => ?_⟩, ⟨h, hR, fun k hk => ?_, fun k hk => ?_⟩⟩
  · unfold UnA; rw [more_pt h f hk]; exact Int.le_refl _
  · unfold UnB; rw [pt_more hl h f hk]; exact ⟨Int.le_refl _, fun hc => absurd hc.2 Bool.false_ne_true⟩
  · unfold UnA; rw [pt_more hl h f hk]; exact Int.le_refl _
  · unfold UnB; rw [more_pt h f hk]; exact ⟨Int.le_refl _, fun hc => absurd hc.2 Bool.false_ne_true⟩
theorem more_at_eq {l : List (Int × Int)} (hl : l.length ≤ 31) (h : RightP l) {m : Nat} (f : Flat l m) {x : Int} (hx : Far x) : atF (more l m) x = atF l x := by
  obtain ⟨h1, h2⟩ := more_under hl h f
  exact Int.le_antisymm (under_at h1 hx) (under_at h2 hx)
theorem more_under_r {l d : List (Int × Int)} (hl : l.length ≤ 31) (h : RightP l) {m : Nat} (f : Flat l m) : UnderP (more l m) d ↔ UnderP l d := by
  obtain ⟨h1, h2⟩ := more_under hl h f
  exact ⟨fun h => under_trans h2 h, fun h => under_trans h1 h⟩
theorem more_under_l {l d : List (Int × Int)} (hl : l.length ≤ 31) (h : RightP l) {m : Nat} (f : Flat l m) : UnderP d (more l m) ↔ UnderP d l := by
  obtain ⟨h1, h2⟩ := more_under hl h f
  exact ⟨fun h => under_trans h h1, fun h => under_trans h h2⟩

end Go.Proofs.Ytonemgmmhjankaa
