/- SpanEncloses: sums, differences and scaled numbers of two spans lie in the spans' sums, differences and scaled spans. -/
import Derived.Test.YtbmjenmfcndnfaaSmallS
namespace Go.Proofs.Ytbmjenmfcndnfaa
open Go.RowKit

namespace Xa
theorem add_mono {a b c d : Int} (h : a ≤ c) (k : b ≤ d) : add a b ≤ add c d := by
  unfold add
  split <;> split <;> (try split) <;> (try split) <;> omega
theorem sub_mono {a b c d : Int} (h : a ≤ c) (k : d ≤ b) : sub a b ≤ sub c d := by
  unfold sub
  split <;> split <;> (try split) <;> (try split) <;> omega
theorem sscale_some {a b num den lo hi : Int} (h : sscale a b num den = some (lo, hi)) : a ≤ b ∧ fits a num den = true ∧ fits b num den = true ∧ lo = a * num / den ∧ hi = b * num / den + (if b * num % den = 0 then 0 else 1) := by
  unfold sscale at h
  by_cases hc : a ≤ b ∧ fits a num den = true ∧ fits b num den = true ∧ b * num / den + (if b * num % den = 0 then 0 else 1) ≤ 1125899906842624
  · rw [if_pos hc] at h
    injection h with h
    injection h with h1 h2
    exact ⟨hc.1, hc.2.1, hc.2.2.1, h1.symm, h2.symm⟩
  · rw [if_neg hc] at h
    cases h
theorem fits_between {a n b num den : Int} (h1 : a ≤ n) (h2 : n ≤ b) (ha : fits a num den = true) (hb : fits b num den = true) : fits n num den = true := by
  unfold fits at *
  have ha := of_decide_eq_true ha
  have hb := of_decide_eq_true hb
  have hm : n * num / den ≤ b * num / den := Int.ediv_le_ediv (by omega) (Int.mul_le_mul_of_nonneg_right h2 ha.2.2.1)
  exact decide_eq_true ⟨by omega, by omega, ha.2.2.1, ha.2.2.2.1, by omega, by omega, by omega⟩
theorem ends {a n b num den : Int} (h1 : a ≤ n) (h2 : n ≤ b) (ha : fits a num den = true) :
    a * num / den ≤ n * num / den ∧ n * num / den ≤ b * num / den + (if b * num % den = 0 then 0 else 1) ∧ n * num / den + (if n * num % den = 0 then 0 else 1) ≤ b * num / den + (if b * num % den = 0 then 0 else 1) := by
  unfold fits at ha
  have ha := of_decide_eq_true ha
  have m1 : a * num / den ≤ n * num / den := Int.ediv_le_ediv (by omega) (Int.mul_le_mul_of_nonneg_right h1 ha.2.2.1)
  have m2 : n * num / den ≤ b * num / den := Int.ediv_le_ediv (by omega) (Int.mul_le_mul_of_nonneg_right h2 ha.2.2.1)
  have m3 := Int.mul_le_mul_of_nonneg_right h2 ha.2.2.1
  have d1 := Int.mul_ediv_add_emod (n * num) den
  have d2 := Int.mul_ediv_add_emod (b * num) den
  have r1 := Int.emod_nonneg (n * num) (show den ≠ 0 by omega)
  have r2 := Int.emod_nonneg (b * num) (show den ≠ 0 by omega)
  refine ⟨m1, ?_, ?_⟩
  · split <;> omega
  · by_cases hq : n * num / den = b * num / den
    · rw [hq] at d1 ⊢
      split <;> split <;> omega
    · split <;> split <;> omega
end Xa

set_option maxHeartbeats 4000000 in
set_option maxRecDepth 100000 in
theorem encloses_walk (a b c d n m num den : Int) (a_1 : -9223372036854775808 ≤ a) (a_2 : a ≤ 9223372036854775807) (b_1 : -9223372036854775808 ≤ b) (b_2 : b ≤ 9223372036854775807) (c_1 : -9223372036854775808 ≤ c) (c_2 : c ≤ 9223372036854775807) (d_1 : -9223372036854775808 ≤ d) (d_2 : d ≤ 9223372036854775807) (n_1 : -9223372036854775808 ≤ n) (n_2 : n ≤ 9223372036854775807) (m_1 : -9223372036854775808 ≤ m) (m_2 : m ≤ 9223372036854775807) (w : World) :
    Calls Try.prog 3 #[.agg #[.int .i64 a, .int .i64 b], .agg #[.int .i64 c, .int .i64 d], .int .i64 n, .int .i64 m, .int .i64 num, .int .i64 den] w fun e w' => e = .returned (.bool true) ∧ Below w.heap.size w w' := by
  by_cases hn1 : a ≤ n
  case neg =>
    have t1 : decide (a ≤ n) = false := decide_eq_false hn1
    go_enter Try.func3, Try.ntmps3
    go_wp2_with fail
    refine rebase _ (fun V1 hV x1 => ?_)
    have HB1 := Lib.hid (bel_at hV (bel_alloc (bel_alloc (Below.refl w.heap.size w) _) _))
    have HC1 := Lib.hid (Cs.at hV (((Cs.nil w).alloc _ _).alloc _ _))
    have hu1 := HC1.out.bx
    simp only [Bx, newCells, join, World.size_alloc] at hu1
    clear hV
    go_wp2_with (first | (go_at_call 8; refine (bel_of (small_any _)).mono ?_; rintro e w' ⟨rfl, y, rfl⟩) | (go_at_call 9; refine (bel_of (has_any _ _ _ _)).mono ?_; rintro e w' ⟨rfl, y, rfl⟩) | (go_at_call 12; refine (bel_of (right_any _ _ _)).mono ?_; rintro e w' ⟨rfl, y, rfl⟩) | (go_at_call 18; refine (bel_of (join_any _ _ _ _ _)).mono ?_; rintro e w' ⟨rfl, y, rfl⟩) | (go_at_call 17; refine (bel_of (meet_any _ _ _ _ _)).mono ?_; rintro e w' ⟨rfl, y, rfl⟩) | (go_at_call 19; refine (bel_of (within_any _ _ _ _ _)).mono ?_; rintro e w' ⟨rfl, y, rfl⟩) | (go_at_call 24; refine (bel_of (of_any _ _)).mono ?_; rintro e w' ⟨rfl, y, rfl⟩) | (go_at_call 15; refine (bel_of (sscale_any _ _ _ _ _)).mono ?_; rintro e w' ⟨rfl, y, rfl⟩) | (go_at_call 10; refine (bel_of (sadd_any _ _ _ _ (by assumption) (by assumption) (by assumption) (by assumption) (by assumption) (by assumption) (by assumption) (by assumption) _)).mono ?_; rintro e w' ⟨rfl, y, rfl⟩) | (go_at_call 11; refine (bel_of (ssub_any _ _ _ _ (by assumption) (by assumption) (by assumption) (by assumption) (by assumption) (by assumption) (by assumption) (by assumption) _)).mono ?_; rintro e w' ⟨rfl, y, rfl⟩) | (go_at_call 20; refine (bel_of (width_any _ _ (by assumption) (by assumption) (by assumption) (by assumption) _)).mono ?_; rintro e w' ⟨rfl, y, rfl⟩) | (go_at_call 13; refine (bel_of_same (add_any _ _ (by assumption) (by assumption) (by assumption) (by assumption) _)).mono ?_; rintro e w' ⟨rfl, y, rfl⟩) | (go_at_call 14; refine (bel_of_same (sub_any _ _ (by assumption) (by assumption) (by assumption) (by assumption) _)).mono ?_; rintro e w' ⟨rfl, y, rfl⟩) | (go_at_call 16; refine (bel_of_drew (scale_any _ _ _ _)).mono ?_; rintro e w' ⟨rfl, y, rfl⟩))
    go_ret
    exact ⟨rfl, below_next HB1.out y.2⟩
  by_cases hn2 : n ≤ b
  case neg =>
    have t1 : decide (n ≤ b) = false := decide_eq_false hn2
    go_enter Try.func3, Try.ntmps3
    go_wp2_with fail
    refine rebase _ (fun V1 hV x1 => ?_)
    have HB1 := Lib.hid (bel_at hV (bel_alloc (bel_alloc (Below.refl w.heap.size w) _) _))
    have HC1 := Lib.hid (Cs.at hV (((Cs.nil w).alloc _ _).alloc _ _))
    have hu1 := HC1.out.bx
    simp only [Bx, newCells, join, World.size_alloc] at hu1
    clear hV
    go_wp2_with (first | (go_at_call 8; refine (bel_of (small_any _)).mono ?_; rintro e w' ⟨rfl, y, rfl⟩) | (go_at_call 9; refine (bel_of (has_any _ _ _ _)).mono ?_; rintro e w' ⟨rfl, y, rfl⟩) | (go_at_call 12; refine (bel_of (right_any _ _ _)).mono ?_; rintro e w' ⟨rfl, y, rfl⟩) | (go_at_call 18; refine (bel_of (join_any _ _ _ _ _)).mono ?_; rintro e w' ⟨rfl, y, rfl⟩) | (go_at_call 17; refine (bel_of (meet_any _ _ _ _ _)).mono ?_; rintro e w' ⟨rfl, y, rfl⟩) | (go_at_call 19; refine (bel_of (within_any _ _ _ _ _)).mono ?_; rintro e w' ⟨rfl, y, rfl⟩) | (go_at_call 24; refine (bel_of (of_any _ _)).mono ?_; rintro e w' ⟨rfl, y, rfl⟩) | (go_at_call 15; refine (bel_of (sscale_any _ _ _ _ _)).mono ?_; rintro e w' ⟨rfl, y, rfl⟩) | (go_at_call 10; refine (bel_of (sadd_any _ _ _ _ (by assumption) (by assumption) (by assumption) (by assumption) (by assumption) (by assumption) (by assumption) (by assumption) _)).mono ?_; rintro e w' ⟨rfl, y, rfl⟩) | (go_at_call 11; refine (bel_of (ssub_any _ _ _ _ (by assumption) (by assumption) (by assumption) (by assumption) (by assumption) (by assumption) (by assumption) (by assumption) _)).mono ?_; rintro e w' ⟨rfl, y, rfl⟩) | (go_at_call 20; refine (bel_of (width_any _ _ (by assumption) (by assumption) (by assumption) (by assumption) _)).mono ?_; rintro e w' ⟨rfl, y, rfl⟩) | (go_at_call 13; refine (bel_of_same (add_any _ _ (by assumption) (by assumption) (by assumption) (by assumption) _)).mono ?_; rintro e w' ⟨rfl, y, rfl⟩) | (go_at_call 14; refine (bel_of_same (sub_any _ _ (by assumption) (by assumption) (by assumption) (by assumption) _)).mono ?_; rintro e w' ⟨rfl, y, rfl⟩) | (go_at_call 16; refine (bel_of_drew (scale_any _ _ _ _)).mono ?_; rintro e w' ⟨rfl, y, rfl⟩))
    go_ret
    exact ⟨rfl, below_next HB1.out y.2⟩
  by_cases hm1 : c ≤ m
  case neg =>
    have t1 : decide (c ≤ m) = false := decide_eq_false hm1
    have t2 : decide (a ≤ n) = true := decide_eq_true hn1
    have t3 : decide (n ≤ b) = true := decide_eq_true hn2
    go_enter Try.func3, Try.ntmps3
    go_wp2_with fail
    refine rebase _ (fun V1 hV x1 => ?_)
    have HB1 := Lib.hid (bel_at hV (bel_alloc (bel_alloc (Below.refl w.heap.size w) _) _))
    have HC1 := Lib.hid (Cs.at hV (((Cs.nil w).alloc _ _).alloc _ _))
    have hu1 := HC1.out.bx
    simp only [Bx, newCells, join, World.size_alloc] at hu1
    clear hV
    go_wp2_with (first | (go_at_call 8; refine (bel_of (small_any _)).mono ?_; rintro e w' ⟨rfl, y, rfl⟩) | (go_at_call 9; refine (bel_of (has_any _ _ _ _)).mono ?_; rintro e w' ⟨rfl, y, rfl⟩) | (go_at_call 12; refine (bel_of (right_any _ _ _)).mono ?_; rintro e w' ⟨rfl, y, rfl⟩) | (go_at_call 18; refine (bel_of (join_any _ _ _ _ _)).mono ?_; rintro e w' ⟨rfl, y, rfl⟩) | (go_at_call 17; refine (bel_of (meet_any _ _ _ _ _)).mono ?_; rintro e w' ⟨rfl, y, rfl⟩) | (go_at_call 19; refine (bel_of (within_any _ _ _ _ _)).mono ?_; rintro e w' ⟨rfl, y, rfl⟩) | (go_at_call 24; refine (bel_of (of_any _ _)).mono ?_; rintro e w' ⟨rfl, y, rfl⟩) | (go_at_call 15; refine (bel_of (sscale_any _ _ _ _ _)).mono ?_; rintro e w' ⟨rfl, y, rfl⟩) | (go_at_call 10; refine (bel_of (sadd_any _ _ _ _ (by assumption) (by assumption) (by assumption) (by assumption) (by assumption) (by assumption) (by assumption) (by assumption) _)).mono ?_; rintro e w' ⟨rfl, y, rfl⟩) | (go_at_call 11; refine (bel_of (ssub_any _ _ _ _ (by assumption) (by assumption) (by assumption) (by assumption) (by assumption) (by assumption) (by assumption) (by assumption) _)).mono ?_; rintro e w' ⟨rfl, y, rfl⟩) | (go_at_call 20; refine (bel_of (width_any _ _ (by assumption) (by assumption) (by assumption) (by assumption) _)).mono ?_; rintro e w' ⟨rfl, y, rfl⟩) | (go_at_call 13; refine (bel_of_same (add_any _ _ (by assumption) (by assumption) (by assumption) (by assumption) _)).mono ?_; rintro e w' ⟨rfl, y, rfl⟩) | (go_at_call 14; refine (bel_of_same (sub_any _ _ (by assumption) (by assumption) (by assumption) (by assumption) _)).mono ?_; rintro e w' ⟨rfl, y, rfl⟩) | (go_at_call 16; refine (bel_of_drew (scale_any _ _ _ _)).mono ?_; rintro e w' ⟨rfl, y, rfl⟩))
    go_ret
    exact ⟨rfl, below_next HB1.out y.2⟩
  by_cases hm2 : m ≤ d
  case neg =>
    have t1 : decide (m ≤ d) = false := decide_eq_false hm2
    have t2 : decide (a ≤ n) = true := decide_eq_true hn1
    have t3 : decide (n ≤ b) = true := decide_eq_true hn2
    go_enter Try.func3, Try.ntmps3
    go_wp2_with fail
    refine rebase _ (fun V1 hV x1 => ?_)
    have HB1 := Lib.hid (bel_at hV (bel_alloc (bel_alloc (Below.refl w.heap.size w) _) _))
    have HC1 := Lib.hid (Cs.at hV (((Cs.nil w).alloc _ _).alloc _ _))
    have hu1 := HC1.out.bx
    simp only [Bx, newCells, join, World.size_alloc] at hu1
    clear hV
    go_wp2_with (first | (go_at_call 8; refine (bel_of (small_any _)).mono ?_; rintro e w' ⟨rfl, y, rfl⟩) | (go_at_call 9; refine (bel_of (has_any _ _ _ _)).mono ?_; rintro e w' ⟨rfl, y, rfl⟩) | (go_at_call 12; refine (bel_of (right_any _ _ _)).mono ?_; rintro e w' ⟨rfl, y, rfl⟩) | (go_at_call 18; refine (bel_of (join_any _ _ _ _ _)).mono ?_; rintro e w' ⟨rfl, y, rfl⟩) | (go_at_call 17; refine (bel_of (meet_any _ _ _ _ _)).mono ?_; rintro e w' ⟨rfl, y, rfl⟩) | (go_at_call 19; refine (bel_of (within_any _ _ _ _ _)).mono ?_; rintro e w' ⟨rfl, y, rfl⟩) | (go_at_call 24; refine (bel_of (of_any _ _)).mono ?_; rintro e w' ⟨rfl, y, rfl⟩) | (go_at_call 15; refine (bel_of (sscale_any _ _ _ _ _)).mono ?_; rintro e w' ⟨rfl, y, rfl⟩) | (go_at_call 10; refine (bel_of (sadd_any _ _ _ _ (by assumption) (by assumption) (by assumption) (by assumption) (by assumption) (by assumption) (by assumption) (by assumption) _)).mono ?_; rintro e w' ⟨rfl, y, rfl⟩) | (go_at_call 11; refine (bel_of (ssub_any _ _ _ _ (by assumption) (by assumption) (by assumption) (by assumption) (by assumption) (by assumption) (by assumption) (by assumption) _)).mono ?_; rintro e w' ⟨rfl, y, rfl⟩) | (go_at_call 20; refine (bel_of (width_any _ _ (by assumption) (by assumption) (by assumption) (by assumption) _)).mono ?_; rintro e w' ⟨rfl, y, rfl⟩) | (go_at_call 13; refine (bel_of_same (add_any _ _ (by assumption) (by assumption) (by assumption) (by assumption) _)).mono ?_; rintro e w' ⟨rfl, y, rfl⟩) | (go_at_call 14; refine (bel_of_same (sub_any _ _ (by assumption) (by assumption) (by assumption) (by assumption) _)).mono ?_; rintro e w' ⟨rfl, y, rfl⟩) | (go_at_call 16; refine (bel_of_drew (scale_any _ _ _ _)).mono ?_; rintro e w' ⟨rfl, y, rfl⟩))
    go_ret
    exact ⟨rfl, below_next HB1.out y.2⟩
  have t1 : decide (a ≤ n) = true := decide_eq_true hn1
  have t2 : decide (n ≤ b) = true := decide_eq_true hn2
  have t3 : decide (c ≤ m) = true := decide_eq_true hm1
  have t4 : decide (m ≤ d) = true := decide_eq_true hm2
  have u1 : decide (Xa.add a c ≤ Xa.add b d) = true := decide_eq_true (Xa.add_mono (by omega) (by omega))
  have u2 : decide (Xa.sub a d ≤ Xa.sub b c) = true := decide_eq_true (Xa.sub_mono (by omega) (by omega))
  have u3 : decide (Xa.add a c ≤ Xa.add n m) = true := decide_eq_true (Xa.add_mono hn1 hm1)
  have u4 : decide (Xa.add n m ≤ Xa.add b d) = true := decide_eq_true (Xa.add_mono hn2 hm2)
  have u5 : decide (Xa.sub a d ≤ Xa.sub n m) = true := decide_eq_true (Xa.sub_mono hn1 hm2)
  have u6 : decide (Xa.sub n m ≤ Xa.sub b c) = true := decide_eq_true (Xa.sub_mono hn2 hm1)
  rcases hs : Xa.sscale a b num den with _ | ⟨lo, hi⟩
  · have hs1 : spanRes (Xa.sscale a b num den) = #[.agg #[.int .i64 0, .int .i64 0], .bool false] := by rw [hs]; rfl
    clear hs
    go_enter Try.func3, Try.ntmps3
    go_wp2_with fail
    refine rebase _ (fun V1 hV x1 => ?_)
    have HB1 := Lib.hid (bel_at hV (bel_alloc (bel_alloc (Below.refl w.heap.size w) _) _))
    have HC1 := Lib.hid (Cs.at hV (((Cs.nil w).alloc _ _).alloc _ _))
    have hu1 := HC1.out.bx
    simp only [Bx, newCells, join, World.size_alloc] at hu1
    clear hV
    refine (bel_of (small_any _)).mono ?_
    rintro e w' ⟨rfl, y, rfl⟩
    go_wp2_with fail
    refine (bel_of (has_any _ _ _ _)).mono ?_
    rintro e w' ⟨rfl, y, rfl⟩
    go_wp2_with fail
    refine (bel_of (has_any _ _ _ _)).mono ?_
    rintro e w' ⟨rfl, y, rfl⟩
    go_wp2_with fail
    refine (bel_of (sadd_any _ _ _ _ (by assumption) (by assumption) (by assumption) (by assumption) (by assumption) (by assumption) (by assumption) (by assumption) _)).mono ?_
    rintro e w' ⟨rfl, y1, rfl⟩
    go_upto_region 5 with fail
    refine wp_rebase _ (fun V2 hV x2 => ?_)
    have HB2 := Lib.hid (bel_at hV (bel_alloc (below_next HB1.out y1.2) _))
    have HC2 := Lib.hid (Cs.at hV ((HC1.out.below y1).alloc _ _))
    have hu2 := HC2.out.bx
    simp only [Bx, newCells, join, World.size_alloc] at hu2
    clear hV hu1
    go_wp2_with fail
    refine (bel_of (ssub_any _ _ _ _ (by assumption) (by assumption) (by assumption) (by assumption) (by assumption) (by assumption) (by assumption) (by assumption) _)).mono ?_
    rintro e w' ⟨rfl, y2, rfl⟩
    go_upto_region 6 with fail
    refine wp_rebase _ (fun V3 hV x3 => ?_)
    have HB3 := Lib.hid (bel_at hV (bel_alloc (below_next HB2.out y2.2) _))
    have HC3 := Lib.hid (Cs.at hV ((HC2.out.below y2).alloc _ _))
    have hu3 := HC3.out.bx
    simp only [Bx, newCells, join, World.size_alloc] at hu3
    clear hV hu2
    refine wp_region_belx (by kernel_rfl) (by kernel_rfl) ?_
    repeat (go_big_quiet_step ((first | (go_at_call 9; exact bel_of (has_any _ _ _ _)) | (go_at_call 12; exact bel_of (right_any _ _ _)) | (go_at_call 18; exact bel_of (join_any _ _ _ _ _)) | (go_at_call 19; exact bel_of (within_any _ _ _ _ _)) | (go_at_call 24; exact bel_of (of_any _ _)) | (go_at_call 10; exact bel_of (sadd_any _ _ _ _ (by assumption) (by assumption) (by assumption) (by assumption) (by assumption) (by assumption) (by assumption) (by assumption) _)) | (go_at_call 11; exact bel_of (ssub_any _ _ _ _ (by assumption) (by assumption) (by assumption) (by assumption) (by assumption) (by assumption) (by assumption) (by assumption) _)) | (go_at_call 20; exact bel_of (width_any _ _ (by assumption) (by assumption) (by assumption) (by assumption) _)) | (go_at_call 13; exact bel_of_same (add_any _ _ (by assumption) (by assumption) (by assumption) (by assumption) _)) | (go_at_call 14; exact bel_of_same (sub_any _ _ (by assumption) (by assumption) (by assumption) (by assumption) _)))))
    refine wpQuiet_nil ?_
    intro y3
    go_wp2_with fail
    refine (bel_of (sscale_any _ _ _ _ _)).mono ?_
    rintro e w' ⟨rfl, y4, rfl⟩
    rw [hs1]
    go_wp2_with fail
    go_ret
    exact ⟨rfl, bel_alloc (below_next HB3.out y4.2) _⟩
  · obtain ⟨hx1, hx2, hx3, hx4, hx5⟩ := Xa.sscale_some hs
    have hf := Xa.fits_between hn1 hn2 hx2 hx3
    obtain ⟨e1, e2, e3⟩ := Xa.ends hn1 hn2 hx2
    have hsc := Xa.scale_of_fits hf
    obtain ⟨q1, q2, q3, q4, q5⟩ := Xa.fits_q hf
    have hs1 : spanRes (Xa.sscale a b num den) = #[.agg #[.int .i64 lo, .int .i64 hi], .bool true] := by rw [hs]; rfl
    rw [← hx4] at e1
    rw [← hx5] at e2 e3
    clear q5 hs hx1 hx2 hx3 hx4 hx5 hf
    generalize n * num / den = q at *
    generalize n * num % den = r at *
    have v0 : decide (lo ≤ hi) = true := decide_eq_true (by omega)
    have v1 : decide (lo ≤ q) = true := decide_eq_true (by omega)
    have v2 : decide (q ≤ hi) = true := decide_eq_true (by omega)
    by_cases hr : r = 0
    · rw [if_pos hr] at e3
      have v3 : decide (0 < r) = false := decide_eq_false (by omega)
      clear hr e1 e2 e3 q3 q4
      go_enter Try.func3, Try.ntmps3
      go_wp2_with fail
      refine rebase _ (fun V1 hV x1 => ?_)
      have HB1 := Lib.hid (bel_at hV (bel_alloc (bel_alloc (Below.refl w.heap.size w) _) _))
      have HC1 := Lib.hid (Cs.at hV (((Cs.nil w).alloc _ _).alloc _ _))
      have hu1 := HC1.out.bx
      simp only [Bx, newCells, join, World.size_alloc] at hu1
      clear hV
      refine (bel_of (small_any _)).mono ?_
      rintro e w' ⟨rfl, y, rfl⟩
      go_wp2_with fail
      refine (bel_of (has_any _ _ _ _)).mono ?_
      rintro e w' ⟨rfl, y, rfl⟩
      go_wp2_with fail
      refine (bel_of (has_any _ _ _ _)).mono ?_
      rintro e w' ⟨rfl, y, rfl⟩
      go_wp2_with fail
      refine (bel_of (sadd_any _ _ _ _ (by assumption) (by assumption) (by assumption) (by assumption) (by assumption) (by assumption) (by assumption) (by assumption) _)).mono ?_
      rintro e w' ⟨rfl, y1, rfl⟩
      go_upto_region 5 with fail
      refine wp_rebase _ (fun V2 hV x2 => ?_)
      have HB2 := Lib.hid (bel_at hV (bel_alloc (below_next HB1.out y1.2) _))
      have HC2 := Lib.hid (Cs.at hV ((HC1.out.below y1).alloc _ _))
      have hu2 := HC2.out.bx
      simp only [Bx, newCells, join, World.size_alloc] at hu2
      clear hV hu1
      go_wp2_with fail
      refine (bel_of (ssub_any _ _ _ _ (by assumption) (by assumption) (by assumption) (by assumption) (by assumption) (by assumption) (by assumption) (by assumption) _)).mono ?_
      rintro e w' ⟨rfl, y2, rfl⟩
      go_upto_region 6 with fail
      refine wp_rebase _ (fun V3 hV x3 => ?_)
      have HB3 := Lib.hid (bel_at hV (bel_alloc (below_next HB2.out y2.2) _))
      have HC3 := Lib.hid (Cs.at hV ((HC2.out.below y2).alloc _ _))
      have hu3 := HC3.out.bx
      simp only [Bx, newCells, join, World.size_alloc] at hu3
      clear hV hu2
      refine wp_region_belx (by kernel_rfl) (by kernel_rfl) ?_
      repeat (go_big_quiet_step ((first | (go_at_call 9; exact bel_of (has_any _ _ _ _)) | (go_at_call 12; exact bel_of (right_any _ _ _)) | (go_at_call 18; exact bel_of (join_any _ _ _ _ _)) | (go_at_call 19; exact bel_of (within_any _ _ _ _ _)) | (go_at_call 24; exact bel_of (of_any _ _)) | (go_at_call 10; exact bel_of (sadd_any _ _ _ _ (by assumption) (by assumption) (by assumption) (by assumption) (by assumption) (by assumption) (by assumption) (by assumption) _)) | (go_at_call 11; exact bel_of (ssub_any _ _ _ _ (by assumption) (by assumption) (by assumption) (by assumption) (by assumption) (by assumption) (by assumption) (by assumption) _)) | (go_at_call 20; exact bel_of (width_any _ _ (by assumption) (by assumption) (by assumption) (by assumption) _)) | (go_at_call 13; exact bel_of_same (add_any _ _ (by assumption) (by assumption) (by assumption) (by assumption) _)) | (go_at_call 14; exact bel_of_same (sub_any _ _ (by assumption) (by assumption) (by assumption) (by assumption) _)))))
      refine wpQuiet_nil ?_
      intro y3
      go_wp2_with fail
      refine (bel_of (sscale_any _ _ _ _ _)).mono ?_
      rintro e w' ⟨rfl, y4, rfl⟩
      rw [hs1]
      go_upto_region 9 with fail
      refine wp_rebase _ (fun V4 hV x4 => ?_)
      have HB4 := Lib.hid (bel_at hV (bel_alloc (below_next HB3.out y4.2) _))
      have HC4 := Lib.hid (Cs.at hV ((HC3.out.below y4).alloc _ _))
      have hu4 := HC4.out.bx
      simp only [Bx, newCells, join, World.size_alloc] at hu4
      clear hV hu3
      go_wp2_with (first | (go_at_call 8; refine (bel_of (small_any _)).mono ?_; rintro e w' ⟨rfl, z, rfl⟩) | (go_at_call 9; refine (bel_of (has_any _ _ _ _)).mono ?_; rintro e w' ⟨rfl, z, rfl⟩) | (go_at_call 12; refine (bel_of (right_any _ _ _)).mono ?_; rintro e w' ⟨rfl, z, rfl⟩) | (go_at_call 18; refine (bel_of (join_any _ _ _ _ _)).mono ?_; rintro e w' ⟨rfl, z, rfl⟩) | (go_at_call 17; refine (bel_of (meet_any _ _ _ _ _)).mono ?_; rintro e w' ⟨rfl, z, rfl⟩) | (go_at_call 19; refine (bel_of (within_any _ _ _ _ _)).mono ?_; rintro e w' ⟨rfl, z, rfl⟩) | (go_at_call 24; refine (bel_of (of_any _ _)).mono ?_; rintro e w' ⟨rfl, z, rfl⟩) | (go_at_call 15; refine (bel_of (sscale_any _ _ _ _ _)).mono ?_; rintro e w' ⟨rfl, z, rfl⟩) | (go_at_call 10; refine (bel_of (sadd_any _ _ _ _ (by assumption) (by assumption) (by assumption) (by assumption) (by assumption) (by assumption) (by assumption) (by assumption) _)).mono ?_; rintro e w' ⟨rfl, z, rfl⟩) | (go_at_call 11; refine (bel_of (ssub_any _ _ _ _ (by assumption) (by assumption) (by assumption) (by assumption) (by assumption) (by assumption) (by assumption) (by assumption) _)).mono ?_; rintro e w' ⟨rfl, z, rfl⟩) | (go_at_call 20; refine (bel_of (width_any _ _ (by assumption) (by assumption) (by assumption) (by assumption) _)).mono ?_; rintro e w' ⟨rfl, z, rfl⟩) | (go_at_call 13; refine (bel_of_same (add_any _ _ (by assumption) (by assumption) (by assumption) (by assumption) _)).mono ?_; rintro e w' ⟨rfl, z, rfl⟩) | (go_at_call 14; refine (bel_of_same (sub_any _ _ (by assumption) (by assumption) (by assumption) (by assumption) _)).mono ?_; rintro e w' ⟨rfl, z, rfl⟩) | (go_at_call 16; refine (bel_of_drew (scale_any _ _ _ _)).mono ?_; rintro e w' ⟨rfl, z, rfl⟩))
      go_ret
      exact ⟨rfl, below_next HB4.out z.2⟩
    · rw [if_neg hr] at e3
      have v3 : decide (0 < r) = true := decide_eq_true (by omega)
      have v4 : decide (lo ≤ q + 1) = true := decide_eq_true (by omega)
      have v5 : decide (q + 1 ≤ hi) = true := decide_eq_true (by omega)
      clear hr e1 e2 e3 q3 q4
      go_enter Try.func3, Try.ntmps3
      go_wp2_with fail
      refine rebase _ (fun V1 hV x1 => ?_)
      have HB1 := Lib.hid (bel_at hV (bel_alloc (bel_alloc (Below.refl w.heap.size w) _) _))
      have HC1 := Lib.hid (Cs.at hV (((Cs.nil w).alloc _ _).alloc _ _))
      have hu1 := HC1.out.bx
      simp only [Bx, newCells, join, World.size_alloc] at hu1
      clear hV
      refine (bel_of (small_any _)).mono ?_
      rintro e w' ⟨rfl, y, rfl⟩
      go_wp2_with fail
      refine (bel_of (has_any _ _ _ _)).mono ?_
      rintro e w' ⟨rfl, y, rfl⟩
      go_wp2_with fail
      refine (bel_of (has_any _ _ _ _)).mono ?_
      rintro e w' ⟨rfl, y, rfl⟩
      go_wp2_with fail
      refine (bel_of (sadd_any _ _ _ _ (by assumption) (by assumption) (by assumption) (by assumption) (by assumption) (by assumption) (by assumption) (by assumption) _)).mono ?_
      rintro e w' ⟨rfl, y1, rfl⟩
      go_upto_region 5 with fail
      refine wp_rebase _ (fun V2 hV x2 => ?_)
      have HB2 := Lib.hid (bel_at hV (bel_alloc (below_next HB1.out y1.2) _))
      have HC2 := Lib.hid (Cs.at hV ((HC1.out.below y1).alloc _ _))
      have hu2 := HC2.out.bx
      simp only [Bx, newCells, join, World.size_alloc] at hu2
      clear hV hu1
      go_wp2_with fail
      refine (bel_of (ssub_any _ _ _ _ (by assumption) (by assumption) (by assumption) (by assumption) (by assumption) (by assumption) (by assumption) (by assumption) _)).mono ?_
      rintro e w' ⟨rfl, y2, rfl⟩
      go_upto_region 6 with fail
      refine wp_rebase _ (fun V3 hV x3 => ?_)
      have HB3 := Lib.hid (bel_at hV (bel_alloc (below_next HB2.out y2.2) _))
      have HC3 := Lib.hid (Cs.at hV ((HC2.out.below y2).alloc _ _))
      have hu3 := HC3.out.bx
      simp only [Bx, newCells, join, World.size_alloc] at hu3
      clear hV hu2
      refine wp_region_belx (by kernel_rfl) (by kernel_rfl) ?_
      repeat (go_big_quiet_step ((first | (go_at_call 9; exact bel_of (has_any _ _ _ _)) | (go_at_call 12; exact bel_of (right_any _ _ _)) | (go_at_call 18; exact bel_of (join_any _ _ _ _ _)) | (go_at_call 19; exact bel_of (within_any _ _ _ _ _)) | (go_at_call 24; exact bel_of (of_any _ _)) | (go_at_call 10; exact bel_of (sadd_any _ _ _ _ (by assumption) (by assumption) (by assumption) (by assumption) (by assumption) (by assumption) (by assumption) (by assumption) _)) | (go_at_call 11; exact bel_of (ssub_any _ _ _ _ (by assumption) (by assumption) (by assumption) (by assumption) (by assumption) (by assumption) (by assumption) (by assumption) _)) | (go_at_call 20; exact bel_of (width_any _ _ (by assumption) (by assumption) (by assumption) (by assumption) _)) | (go_at_call 13; exact bel_of_same (add_any _ _ (by assumption) (by assumption) (by assumption) (by assumption) _)) | (go_at_call 14; exact bel_of_same (sub_any _ _ (by assumption) (by assumption) (by assumption) (by assumption) _)))))
      refine wpQuiet_nil ?_
      intro y3
      go_wp2_with fail
      refine (bel_of (sscale_any _ _ _ _ _)).mono ?_
      rintro e w' ⟨rfl, y4, rfl⟩
      rw [hs1]
      go_upto_region 9 with fail
      refine wp_rebase _ (fun V4 hV x4 => ?_)
      have HB4 := Lib.hid (bel_at hV (bel_alloc (below_next HB3.out y4.2) _))
      have HC4 := Lib.hid (Cs.at hV ((HC3.out.below y4).alloc _ _))
      have hu4 := HC4.out.bx
      simp only [Bx, newCells, join, World.size_alloc] at hu4
      clear hV hu3
      go_wp2_with (first | (go_at_call 8; refine (bel_of (small_any _)).mono ?_; rintro e w' ⟨rfl, z, rfl⟩) | (go_at_call 9; refine (bel_of (has_any _ _ _ _)).mono ?_; rintro e w' ⟨rfl, z, rfl⟩) | (go_at_call 12; refine (bel_of (right_any _ _ _)).mono ?_; rintro e w' ⟨rfl, z, rfl⟩) | (go_at_call 18; refine (bel_of (join_any _ _ _ _ _)).mono ?_; rintro e w' ⟨rfl, z, rfl⟩) | (go_at_call 17; refine (bel_of (meet_any _ _ _ _ _)).mono ?_; rintro e w' ⟨rfl, z, rfl⟩) | (go_at_call 19; refine (bel_of (within_any _ _ _ _ _)).mono ?_; rintro e w' ⟨rfl, z, rfl⟩) | (go_at_call 24; refine (bel_of (of_any _ _)).mono ?_; rintro e w' ⟨rfl, z, rfl⟩) | (go_at_call 15; refine (bel_of (sscale_any _ _ _ _ _)).mono ?_; rintro e w' ⟨rfl, z, rfl⟩) | (go_at_call 10; refine (bel_of (sadd_any _ _ _ _ (by assumption) (by assumption) (by assumption) (by assumption) (by assumption) (by assumption) (by assumption) (by assumption) _)).mono ?_; rintro e w' ⟨rfl, z, rfl⟩) | (go_at_call 11; refine (bel_of (ssub_any _ _ _ _ (by assumption) (by assumption) (by assumption) (by assumption) (by assumption) (by assumption) (by assumption) (by assumption) _)).mono ?_; rintro e w' ⟨rfl, z, rfl⟩) | (go_at_call 20; refine (bel_of (width_any _ _ (by assumption) (by assumption) (by assumption) (by assumption) _)).mono ?_; rintro e w' ⟨rfl, z, rfl⟩) | (go_at_call 13; refine (bel_of_same (add_any _ _ (by assumption) (by assumption) (by assumption) (by assumption) _)).mono ?_; rintro e w' ⟨rfl, z, rfl⟩) | (go_at_call 14; refine (bel_of_same (sub_any _ _ (by assumption) (by assumption) (by assumption) (by assumption) _)).mono ?_; rintro e w' ⟨rfl, z, rfl⟩) | (go_at_call 16; refine (bel_of_drew (scale_any _ _ _ _)).mono ?_; rintro e w' ⟨rfl, z, rfl⟩))
      go_ret
      exact ⟨rfl, below_next HB4.out z.2⟩

end Go.Proofs.Ytbmjenmfcndnfaa
