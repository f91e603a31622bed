/- SpanGrows: what spans within others become lies within what those become. -/
import Derived.Test.YtbmjenmfcndnfaaEnc
namespace Go.Proofs.Ytbmjenmfcndnfaa
open Go.RowKit

theorem grows_meet {a b c d u v g h : Int} (h1 : u ≤ a) (h2 : b ≤ v) (h3 : g ≤ c) (h4 : d ≤ h) : ∃ (m1 m2 : Int) (p1 : Bool) (o1 o2 : Int) (p2 : Bool),
    (if max a c ≤ min b d then #[.agg #[.int .i64 (max a c), .int .i64 (min b d)], .bool true] else #[.agg #[.int .i64 0, .int .i64 0], .bool false] : Array Value) = #[.agg #[.int .i64 m1, .int .i64 m2], .bool p1] ∧
    (if max u g ≤ min v h then #[.agg #[.int .i64 (max u g), .int .i64 (min v h)], .bool true] else #[.agg #[.int .i64 0, .int .i64 0], .bool false] : Array Value) = #[.agg #[.int .i64 o1, .int .i64 o2], .bool p2] ∧
    (p1 = true → p2 = true ∧ (decide (o1 ≤ m1) && decide (m2 ≤ o2)) = true) := by
  by_cases k1 : max a c ≤ min b d
  · have k2 : max u g ≤ min v h := by omega
    refine ⟨max a c, min b d, true, max u g, min v h, true, if_pos k1, if_pos k2, fun _ => ⟨rfl, ?_⟩⟩
    simp only [Bool.and_eq_true, decide_eq_true_eq]
    omega
  · by_cases k2 : max u g ≤ min v h
    · exact ⟨0, 0, false, max u g, min v h, true, if_neg k1, if_pos k2, fun k => by cases k⟩
    · exact ⟨0, 0, false, 0, 0, false, if_neg k1, if_neg k2, fun k => by cases k⟩
theorem grows_scale {a b u v num den : Int} (h0 : a ≤ b) (h1 : u ≤ a) (h2 : b ≤ v) : ∃ (s1 s2 : Int) (p3 : Bool) (r1 r2 : Int) (p4 : Bool),
    spanRes (Xa.sscale a b num den) = #[.agg #[.int .i64 s1, .int .i64 s2], .bool p3] ∧ spanRes (Xa.sscale u v num den) = #[.agg #[.int .i64 r1, .int .i64 r2], .bool p4] ∧
    (p4 = true → p3 = true ∧ (decide (r1 ≤ s1) && decide (s2 ≤ r2)) = true) := by
  rcases hs : Xa.sscale u v num den with _ | ⟨r1, r2⟩
  · rcases hs2 : Xa.sscale a b num den with _ | ⟨s1, s2⟩
    · exact ⟨0, 0, false, 0, 0, false, rfl, rfl, fun k => by cases k⟩
    · exact ⟨s1, s2, true, 0, 0, false, rfl, rfl, fun k => by cases k⟩
  · have hm : r2 ≤ 1125899906842624 := by
      have hs' := hs
      unfold Xa.sscale at hs'
      by_cases hc : u ≤ v ∧ Xa.fits u num den = true ∧ Xa.fits v num den = true ∧ v * num / den + (if v * num % den = 0 then 0 else 1) ≤ 1125899906842624
      · rw [if_pos hc] at hs'
        injection hs' with hs'
        injection hs' with q1 q2
        rw [← q2]
        exact hc.2.2.2
      · rw [if_neg hc] at hs'
        cases hs'
    obtain ⟨hx1, hx2, hx3, hx4, hx5⟩ := Xa.sscale_some hs
    have fa := Xa.fits_between h1 (show a ≤ v by omega) hx2 hx3
    have fb := Xa.fits_between (show u ≤ b by omega) h2 hx2 hx3
    have ea := (Xa.ends h1 (show a ≤ v by omega) hx2).1
    have eb := (Xa.ends (show u ≤ b by omega) h2 hx2).2.2
    rw [← hx4] at ea
    rw [← hx5] at eb
    have hs2 : Xa.sscale a b num den = some (a * num / den, b * num / den + (if b * num % den = 0 then 0 else 1)) := by
      unfold Xa.sscale
      rw [if_pos ⟨h0, fa, fb, Int.le_trans eb hm⟩]
    rw [hs2]
    refine ⟨_, _, true, r1, r2, true, rfl, rfl, fun _ => ⟨rfl, ?_⟩⟩
    rw [decide_eq_true ea, decide_eq_true eb]
    rfl

set_option maxHeartbeats 8000000 in
set_option maxRecDepth 100000 in
theorem grows_in (a b c d u v g h num den : Int) (a_1 : -9223372036854775808 ≤ a) (a_2 : a ≤ 9223372036854775807) (b_1 : -9223372036854775808 ≤ b) (b_2 : b ≤ 9223372036854775807) (c_1 : -9223372036854775808 ≤ c) (c_2 : c ≤ 9223372036854775807) (d_1 : -9223372036854775808 ≤ d) (d_2 : d ≤ 9223372036854775807) (u_1 : -9223372036854775808 ≤ u) (u_2 : u ≤ 9223372036854775807) (v_1 : -9223372036854775808 ≤ v) (v_2 : v ≤ 9223372036854775807) (g_1 : -9223372036854775808 ≤ g) (g_2 : g ≤ 9223372036854775807) (h_1 : -9223372036854775808 ≤ h) (h_2 : h ≤ 9223372036854775807) (h1 : a ≤ b) (h2 : c ≤ d) (h3 : u ≤ a) (h4 : b ≤ v) (h5 : g ≤ c) (h6 : d ≤ h) (w : World) :
    Calls Try.prog 5 #[.agg #[.int .i64 a, .int .i64 b], .agg #[.int .i64 c, .int .i64 d], .agg #[.int .i64 u, .int .i64 v], .agg #[.int .i64 g, .int .i64 h], .int .i64 num, .int .i64 den] w fun e w' => e = .returned (.bool true) ∧ Below w.heap.size w w' := by
  have t1 : decide (a ≤ b) = true := decide_eq_true h1
  have t2 : decide (c ≤ d) = true := decide_eq_true h2
  have t3 : decide (u ≤ a) = true := decide_eq_true h3
  have t4 : decide (b ≤ v) = true := decide_eq_true h4
  have t5 : decide (g ≤ c) = true := decide_eq_true h5
  have t6 : decide (d ≤ h) = true := decide_eq_true h6
  have u1 : decide (Xa.add u g ≤ Xa.add a c) = true := decide_eq_true (Xa.add_mono h3 h5)
  have u2 : decide (Xa.add b d ≤ Xa.add v h) = true := decide_eq_true (Xa.add_mono h4 h6)
  have u3 : decide (Xa.sub u h ≤ Xa.sub a d) = true := decide_eq_true (Xa.sub_mono h3 h6)
  have u4 : decide (Xa.sub b c ≤ Xa.sub v g) = true := decide_eq_true (Xa.sub_mono h4 h5)
  have u5 : decide (Xa.sub v u < Xa.sub b a) = false := decide_eq_false (by have := Xa.sub_mono h4 h3; omega)
  have u6 : decide (min u g ≤ min a c) = true := decide_eq_true (by omega)
  have u7 : decide (max b d ≤ max v h) = true := decide_eq_true (by omega)
  obtain ⟨m1, m2, p1, o1, o2, p2, hm1, hm2, hm3⟩ := grows_meet h3 h4 h5 h6
  obtain ⟨s1, s2, p3, r1, r2, p4, hs1, hs2, hs3⟩ := grows_scale (num := num) (den := den) h1 h3 h4
  have MA := Lib.hid (meet_any a b c d)
  have MB := Lib.hid (meet_any u v g h)
  rw [hm1] at MA
  rw [hm2] at MB
  have SA := Lib.hid (sscale_any a b num den)
  have SB := Lib.hid (sscale_any u v num den)
  rw [hs1] at SA
  rw [hs2] at SB
  clear hm1 hm2 hs1 hs2 h1 h2 h3 h4 h5 h6
  have hm3 := Lib.hid hm3
  have hs3 := Lib.hid hs3
  go_enter Try.func5, Try.ntmps5
  go_wp2_with fail
  refine rebase _ (fun V1 hV x1 => ?_)
  have HB1 := Lib.hid (bel_at hV (bel_alloc (bel_alloc (bel_alloc (bel_alloc (Below.refl w.heap.size w) _) _) _) _))
  have HC1 := Lib.hid (Cs.at hV (((((Cs.nil w).alloc _ _).alloc _ _).alloc _ _).alloc _ _))
  have hu1 := HC1.out.bx
  simp only [Bx, newCells, join, World.size_alloc] at hu1
  clear hV
  refine (bel_of (small_any _)).mono ?_
  rintro e w' ⟨rfl, y, rfl⟩
  go_wp2_with fail
  refine (bel_of (right_any _ _ _)).mono ?_
  rintro e w' ⟨rfl, y, rfl⟩
  go_wp2_with fail
  refine (bel_of (right_any _ _ _)).mono ?_
  rintro e w' ⟨rfl, y, rfl⟩
  go_wp2_with fail
  refine (bel_of (within_any _ _ _ _ _)).mono ?_
  rintro e w' ⟨rfl, y, rfl⟩
  go_wp2_with fail
  refine (bel_of (within_any _ _ _ _ _)).mono ?_
  rintro e w' ⟨rfl, y, rfl⟩
  go_upto_region 4 with fail
  refine wp_region_belx (by kernel_rfl) (by kernel_rfl) ?_
  repeat (go_big_quiet_step ((first | (go_at_call 9; exact bel_of (has_any _ _ _ _)) | (go_at_call 12; exact bel_of (right_any _ _ _)) | (go_at_call 18; exact bel_of (join_any _ _ _ _ _)) | (go_at_call 19; exact bel_of (within_any _ _ _ _ _)) | (go_at_call 24; exact bel_of (of_any _ _)) | (go_at_call 10; exact bel_of (sadd_any _ _ _ _ (by assumption) (by assumption) (by assumption) (by assumption) (by assumption) (by assumption) (by assumption) (by assumption) _)) | (go_at_call 11; exact bel_of (ssub_any _ _ _ _ (by assumption) (by assumption) (by assumption) (by assumption) (by assumption) (by assumption) (by assumption) (by assumption) _)) | (go_at_call 20; exact bel_of (width_any _ _ (by assumption) (by assumption) (by assumption) (by assumption) _)) | (go_at_call 13; exact bel_of_same (add_any _ _ (by assumption) (by assumption) (by assumption) (by assumption) _)) | (go_at_call 14; exact bel_of_same (sub_any _ _ (by assumption) (by assumption) (by assumption) (by assumption) _)))))
  refine wpQuiet_nil ?_
  intro y1
  go_wp2_with fail
  refine (bel_of (MA.out _)).mono ?_
  rintro e w' ⟨rfl, y2, rfl⟩
  go_upto_region 7 with fail
  refine wp_rebase _ (fun V2 hV x2 => ?_)
  have HB2 := Lib.hid (bel_at hV (bel_alloc (below_next HB1.out y2.2) _))
  have HC2 := Lib.hid (Cs.at hV ((HC1.out.below y2).alloc _ _))
  have hu2 := HC2.out.bx
  simp only [Bx, newCells, join, World.size_alloc] at hu2
  clear hV hu1
  go_wp2_with fail
  refine (bel_of (MB.out _)).mono ?_
  rintro e w' ⟨rfl, y3, rfl⟩
  go_upto_region 8 with fail
  refine wp_rebase _ (fun V3 hV x3 => ?_)
  have HB3 := Lib.hid (bel_at hV (bel_alloc (below_next HB2.out y3.2) _))
  have HC3 := Lib.hid (Cs.at hV ((HC2.out.below y3).alloc _ _))
  have hu3 := HC3.out.bx
  simp only [Bx, newCells, join, World.size_alloc] at hu3
  clear hV hu2
  go_wp2_with fail
  refine (bel_of (SA.out _)).mono ?_
  rintro e w' ⟨rfl, y4, rfl⟩
  go_upto_region 9 with fail
  refine wp_rebase _ (fun V4 hV x4 => ?_)
  have HB4 := Lib.hid (bel_at hV (bel_alloc (below_next HB3.out y4.2) _))
  have HC4 := Lib.hid (Cs.at hV ((HC3.out.below y4).alloc _ _))
  have hu4 := HC4.out.bx
  simp only [Bx, newCells, join, World.size_alloc] at hu4
  clear hV hu3
  go_wp2_with fail
  refine (bel_of (SB.out _)).mono ?_
  rintro e w' ⟨rfl, y5, rfl⟩
  go_upto_region 10 with fail
  refine wp_rebase _ (fun V5 hV x5 => ?_)
  have HB5 := Lib.hid (bel_at hV (bel_alloc (below_next HB4.out y5.2) _))
  have HC5 := Lib.hid (Cs.at hV ((HC4.out.below y5).alloc _ _))
  have hu5 := HC5.out.bx
  simp only [Bx, newCells, join, World.size_alloc] at hu5
  clear hV hu4
  cases p1
  · cases p4
    · clear hm3 hs3
      go_upto_region 12 with (go_at_call 19; refine (bel_of (within_any _ _ _ _ _)).mono ?_; rintro e w' ⟨rfl, y, rfl⟩)
      refine wp_region_belx (by kernel_rfl) (by kernel_rfl) ?_
      repeat (go_big_quiet_step ((first | (go_at_call 9; exact bel_of (has_any _ _ _ _)) | (go_at_call 12; exact bel_of (right_any _ _ _)) | (go_at_call 18; exact bel_of (join_any _ _ _ _ _)) | (go_at_call 19; exact bel_of (within_any _ _ _ _ _)) | (go_at_call 24; exact bel_of (of_any _ _)) | (go_at_call 10; exact bel_of (sadd_any _ _ _ _ (by assumption) (by assumption) (by assumption) (by assumption) (by assumption) (by assumption) (by assumption) (by assumption) _)) | (go_at_call 11; exact bel_of (ssub_any _ _ _ _ (by assumption) (by assumption) (by assumption) (by assumption) (by assumption) (by assumption) (by assumption) (by assumption) _)) | (go_at_call 20; exact bel_of (width_any _ _ (by assumption) (by assumption) (by assumption) (by assumption) _)) | (go_at_call 13; exact bel_of_same (add_any _ _ (by assumption) (by assumption) (by assumption) (by assumption) _)) | (go_at_call 14; exact bel_of_same (sub_any _ _ (by assumption) (by assumption) (by assumption) (by assumption) _)))))
      refine wpQuiet_nil ?_
      intro y6
      go_wp2_with fail
      go_ret
      exact ⟨rfl, below_next HB5.out y6.2⟩
    · obtain ⟨rfl, k2⟩ := hs3.out rfl
      clear hm3 hs3
      go_upto_region 12 with (go_at_call 19; refine (bel_of (within_any _ _ _ _ _)).mono ?_; rintro e w' ⟨rfl, y, rfl⟩)
      refine wp_region_belx (by kernel_rfl) (by kernel_rfl) ?_
      repeat (go_big_quiet_step ((first | (go_at_call 9; exact bel_of (has_any _ _ _ _)) | (go_at_call 12; exact bel_of (right_any _ _ _)) | (go_at_call 18; exact bel_of (join_any _ _ _ _ _)) | (go_at_call 19; exact bel_of (within_any _ _ _ _ _)) | (go_at_call 24; exact bel_of (of_any _ _)) | (go_at_call 10; exact bel_of (sadd_any _ _ _ _ (by assumption) (by assumption) (by assumption) (by assumption) (by assumption) (by assumption) (by assumption) (by assumption) _)) | (go_at_call 11; exact bel_of (ssub_any _ _ _ _ (by assumption) (by assumption) (by assumption) (by assumption) (by assumption) (by assumption) (by assumption) (by assumption) _)) | (go_at_call 20; exact bel_of (width_any _ _ (by assumption) (by assumption) (by assumption) (by assumption) _)) | (go_at_call 13; exact bel_of_same (add_any _ _ (by assumption) (by assumption) (by assumption) (by assumption) _)) | (go_at_call 14; exact bel_of_same (sub_any _ _ (by assumption) (by assumption) (by assumption) (by assumption) _)))))
      refine wpQuiet_nil ?_
      intro y6
      go_wp2_with fail
      go_ret
      exact ⟨rfl, below_next HB5.out y6.2⟩
  · cases p4
    · obtain ⟨rfl, k1⟩ := hm3.out rfl
      clear hm3 hs3
      go_upto_region 12 with (go_at_call 19; refine (bel_of (within_any _ _ _ _ _)).mono ?_; rintro e w' ⟨rfl, y, rfl⟩)
      refine wp_region_belx (by kernel_rfl) (by kernel_rfl) ?_
      repeat (go_big_quiet_step ((first | (go_at_call 9; exact bel_of (has_any _ _ _ _)) | (go_at_call 12; exact bel_of (right_any _ _ _)) | (go_at_call 18; exact bel_of (join_any _ _ _ _ _)) | (go_at_call 19; exact bel_of (within_any _ _ _ _ _)) | (go_at_call 24; exact bel_of (of_any _ _)) | (go_at_call 10; exact bel_of (sadd_any _ _ _ _ (by assumption) (by assumption) (by assumption) (by assumption) (by assumption) (by assumption) (by assumption) (by assumption) _)) | (go_at_call 11; exact bel_of (ssub_any _ _ _ _ (by assumption) (by assumption) (by assumption) (by assumption) (by assumption) (by assumption) (by assumption) (by assumption) _)) | (go_at_call 20; exact bel_of (width_any _ _ (by assumption) (by assumption) (by assumption) (by assumption) _)) | (go_at_call 13; exact bel_of_same (add_any _ _ (by assumption) (by assumption) (by assumption) (by assumption) _)) | (go_at_call 14; exact bel_of_same (sub_any _ _ (by assumption) (by assumption) (by assumption) (by assumption) _)))))
      refine wpQuiet_nil ?_
      intro y6
      go_wp2_with fail
      go_ret
      exact ⟨rfl, below_next HB5.out y6.2⟩
    · obtain ⟨rfl, k1⟩ := hm3.out rfl
      obtain ⟨rfl, k2⟩ := hs3.out rfl
      clear hm3 hs3
      go_upto_region 12 with (go_at_call 19; refine (bel_of (within_any _ _ _ _ _)).mono ?_; rintro e w' ⟨rfl, y, rfl⟩)
      refine wp_region_belx (by kernel_rfl) (by kernel_rfl) ?_
      repeat (go_big_quiet_step ((first | (go_at_call 9; exact bel_of (has_any _ _ _ _)) | (go_at_call 12; exact bel_of (right_any _ _ _)) | (go_at_call 18; exact bel_of (join_any _ _ _ _ _)) | (go_at_call 19; exact bel_of (within_any _ _ _ _ _)) | (go_at_call 24; exact bel_of (of_any _ _)) | (go_at_call 10; exact bel_of (sadd_any _ _ _ _ (by assumption) (by assumption) (by assumption) (by assumption) (by assumption) (by assumption) (by assumption) (by assumption) _)) | (go_at_call 11; exact bel_of (ssub_any _ _ _ _ (by assumption) (by assumption) (by assumption) (by assumption) (by assumption) (by assumption) (by assumption) (by assumption) _)) | (go_at_call 20; exact bel_of (width_any _ _ (by assumption) (by assumption) (by assumption) (by assumption) _)) | (go_at_call 13; exact bel_of_same (add_any _ _ (by assumption) (by assumption) (by assumption) (by assumption) _)) | (go_at_call 14; exact bel_of_same (sub_any _ _ (by assumption) (by assumption) (by assumption) (by assumption) _)))))
      refine wpQuiet_nil ?_
      intro y6
      go_wp2_with fail
      go_ret
      exact ⟨rfl, below_next HB5.out y6.2⟩

set_option maxHeartbeats 8000000 in
set_option maxRecDepth 100000 in
theorem grows_walk (a b c d u v g h num den : Int) (a_1 : -9223372036854775808 ≤ a) (a_2 : a ≤ 9223372036854775807) (b_1 : -9223372036854775808 ≤ b) (b_2 : b ≤ 9223372036854775807) (c_1 : -9223372036854775808 ≤ c) (c_2 : c ≤ 9223372036854775807) (d_1 : -9223372036854775808 ≤ d) (d_2 : d ≤ 9223372036854775807) (u_1 : -9223372036854775808 ≤ u) (u_2 : u ≤ 9223372036854775807) (v_1 : -9223372036854775808 ≤ v) (v_2 : v ≤ 9223372036854775807) (g_1 : -9223372036854775808 ≤ g) (g_2 : g ≤ 9223372036854775807) (h_1 : -9223372036854775808 ≤ h) (h_2 : h ≤ 9223372036854775807) (w : World) :
    Calls Try.prog 5 #[.agg #[.int .i64 a, .int .i64 b], .agg #[.int .i64 c, .int .i64 d], .agg #[.int .i64 u, .int .i64 v], .agg #[.int .i64 g, .int .i64 h], .int .i64 num, .int .i64 den] w fun e w' => e = .returned (.bool true) ∧ Below w.heap.size w w' := by
  by_cases h1 : a ≤ b
  case neg =>
    have t1 : decide (a ≤ b) = false := decide_eq_false h1
    go_enter Try.func5, Try.ntmps5
    go_wp2_with fail
    refine rebase _ (fun V1 hV x1 => ?_)
    have HB1 := Lib.hid (bel_at hV (bel_alloc (bel_alloc (bel_alloc (bel_alloc (Below.refl w.heap.size w) _) _) _) _))
    have HC1 := Lib.hid (Cs.at hV (((((Cs.nil w).alloc _ _).alloc _ _).alloc _ _).alloc _ _))
    have hu1 := HC1.out.bx
    simp only [Bx, newCells, join, World.size_alloc] at hu1
    clear hV
    go_wp2_with (first | (go_at_call 8; refine (bel_of (small_any _)).mono ?_; rintro e w' ⟨rfl, y, rfl⟩) | (go_at_call 9; refine (bel_of (has_any _ _ _ _)).mono ?_; rintro e w' ⟨rfl, y, rfl⟩) | (go_at_call 12; refine (bel_of (right_any _ _ _)).mono ?_; rintro e w' ⟨rfl, y, rfl⟩) | (go_at_call 18; refine (bel_of (join_any _ _ _ _ _)).mono ?_; rintro e w' ⟨rfl, y, rfl⟩) | (go_at_call 17; refine (bel_of (meet_any _ _ _ _ _)).mono ?_; rintro e w' ⟨rfl, y, rfl⟩) | (go_at_call 19; refine (bel_of (within_any _ _ _ _ _)).mono ?_; rintro e w' ⟨rfl, y, rfl⟩) | (go_at_call 24; refine (bel_of (of_any _ _)).mono ?_; rintro e w' ⟨rfl, y, rfl⟩) | (go_at_call 15; refine (bel_of (sscale_any _ _ _ _ _)).mono ?_; rintro e w' ⟨rfl, y, rfl⟩) | (go_at_call 10; refine (bel_of (sadd_any _ _ _ _ (by assumption) (by assumption) (by assumption) (by assumption) (by assumption) (by assumption) (by assumption) (by assumption) _)).mono ?_; rintro e w' ⟨rfl, y, rfl⟩) | (go_at_call 11; refine (bel_of (ssub_any _ _ _ _ (by assumption) (by assumption) (by assumption) (by assumption) (by assumption) (by assumption) (by assumption) (by assumption) _)).mono ?_; rintro e w' ⟨rfl, y, rfl⟩) | (go_at_call 20; refine (bel_of (width_any _ _ (by assumption) (by assumption) (by assumption) (by assumption) _)).mono ?_; rintro e w' ⟨rfl, y, rfl⟩) | (go_at_call 13; refine (bel_of_same (add_any _ _ (by assumption) (by assumption) (by assumption) (by assumption) _)).mono ?_; rintro e w' ⟨rfl, y, rfl⟩) | (go_at_call 14; refine (bel_of_same (sub_any _ _ (by assumption) (by assumption) (by assumption) (by assumption) _)).mono ?_; rintro e w' ⟨rfl, y, rfl⟩) | (go_at_call 16; refine (bel_of_drew (scale_any _ _ _ _)).mono ?_; rintro e w' ⟨rfl, y, rfl⟩))
    go_ret
    exact ⟨rfl, below_next HB1.out y.2⟩
  by_cases h2 : c ≤ d
  case neg =>
    have t1 : decide (a ≤ b) = true := decide_eq_true h1
    have t2 : decide (c ≤ d) = false := decide_eq_false h2
    go_enter Try.func5, Try.ntmps5
    go_wp2_with fail
    refine rebase _ (fun V1 hV x1 => ?_)
    have HB1 := Lib.hid (bel_at hV (bel_alloc (bel_alloc (bel_alloc (bel_alloc (Below.refl w.heap.size w) _) _) _) _))
    have HC1 := Lib.hid (Cs.at hV (((((Cs.nil w).alloc _ _).alloc _ _).alloc _ _).alloc _ _))
    have hu1 := HC1.out.bx
    simp only [Bx, newCells, join, World.size_alloc] at hu1
    clear hV
    go_wp2_with (first | (go_at_call 8; refine (bel_of (small_any _)).mono ?_; rintro e w' ⟨rfl, y, rfl⟩) | (go_at_call 9; refine (bel_of (has_any _ _ _ _)).mono ?_; rintro e w' ⟨rfl, y, rfl⟩) | (go_at_call 12; refine (bel_of (right_any _ _ _)).mono ?_; rintro e w' ⟨rfl, y, rfl⟩) | (go_at_call 18; refine (bel_of (join_any _ _ _ _ _)).mono ?_; rintro e w' ⟨rfl, y, rfl⟩) | (go_at_call 17; refine (bel_of (meet_any _ _ _ _ _)).mono ?_; rintro e w' ⟨rfl, y, rfl⟩) | (go_at_call 19; refine (bel_of (within_any _ _ _ _ _)).mono ?_; rintro e w' ⟨rfl, y, rfl⟩) | (go_at_call 24; refine (bel_of (of_any _ _)).mono ?_; rintro e w' ⟨rfl, y, rfl⟩) | (go_at_call 15; refine (bel_of (sscale_any _ _ _ _ _)).mono ?_; rintro e w' ⟨rfl, y, rfl⟩) | (go_at_call 10; refine (bel_of (sadd_any _ _ _ _ (by assumption) (by assumption) (by assumption) (by assumption) (by assumption) (by assumption) (by assumption) (by assumption) _)).mono ?_; rintro e w' ⟨rfl, y, rfl⟩) | (go_at_call 11; refine (bel_of (ssub_any _ _ _ _ (by assumption) (by assumption) (by assumption) (by assumption) (by assumption) (by assumption) (by assumption) (by assumption) _)).mono ?_; rintro e w' ⟨rfl, y, rfl⟩) | (go_at_call 20; refine (bel_of (width_any _ _ (by assumption) (by assumption) (by assumption) (by assumption) _)).mono ?_; rintro e w' ⟨rfl, y, rfl⟩) | (go_at_call 13; refine (bel_of_same (add_any _ _ (by assumption) (by assumption) (by assumption) (by assumption) _)).mono ?_; rintro e w' ⟨rfl, y, rfl⟩) | (go_at_call 14; refine (bel_of_same (sub_any _ _ (by assumption) (by assumption) (by assumption) (by assumption) _)).mono ?_; rintro e w' ⟨rfl, y, rfl⟩) | (go_at_call 16; refine (bel_of_drew (scale_any _ _ _ _)).mono ?_; rintro e w' ⟨rfl, y, rfl⟩))
    go_ret
    exact ⟨rfl, below_next HB1.out y.2⟩
  by_cases h3 : (decide (u ≤ a) && decide (b ≤ v)) = true
  case neg =>
    have t1 : decide (a ≤ b) = true := decide_eq_true h1
    have t2 : decide (c ≤ d) = true := decide_eq_true h2
    have t3 : (decide (u ≤ a) && decide (b ≤ v)) = false := eq_false_of_ne_true h3
    clear h3
    go_enter Try.func5, Try.ntmps5
    go_wp2_with fail
    refine rebase _ (fun V1 hV x1 => ?_)
    have HB1 := Lib.hid (bel_at hV (bel_alloc (bel_alloc (bel_alloc (bel_alloc (Below.refl w.heap.size w) _) _) _) _))
    have HC1 := Lib.hid (Cs.at hV (((((Cs.nil w).alloc _ _).alloc _ _).alloc _ _).alloc _ _))
    have hu1 := HC1.out.bx
    simp only [Bx, newCells, join, World.size_alloc] at hu1
    clear hV
    go_wp2_with (first | (go_at_call 8; refine (bel_of (small_any _)).mono ?_; rintro e w' ⟨rfl, y, rfl⟩) | (go_at_call 9; refine (bel_of (has_any _ _ _ _)).mono ?_; rintro e w' ⟨rfl, y, rfl⟩) | (go_at_call 12; refine (bel_of (right_any _ _ _)).mono ?_; rintro e w' ⟨rfl, y, rfl⟩) | (go_at_call 18; refine (bel_of (join_any _ _ _ _ _)).mono ?_; rintro e w' ⟨rfl, y, rfl⟩) | (go_at_call 17; refine (bel_of (meet_any _ _ _ _ _)).mono ?_; rintro e w' ⟨rfl, y, rfl⟩) | (go_at_call 19; refine (bel_of (within_any _ _ _ _ _)).mono ?_; rintro e w' ⟨rfl, y, rfl⟩) | (go_at_call 24; refine (bel_of (of_any _ _)).mono ?_; rintro e w' ⟨rfl, y, rfl⟩) | (go_at_call 15; refine (bel_of (sscale_any _ _ _ _ _)).mono ?_; rintro e w' ⟨rfl, y, rfl⟩) | (go_at_call 10; refine (bel_of (sadd_any _ _ _ _ (by assumption) (by assumption) (by assumption) (by assumption) (by assumption) (by assumption) (by assumption) (by assumption) _)).mono ?_; rintro e w' ⟨rfl, y, rfl⟩) | (go_at_call 11; refine (bel_of (ssub_any _ _ _ _ (by assumption) (by assumption) (by assumption) (by assumption) (by assumption) (by assumption) (by assumption) (by assumption) _)).mono ?_; rintro e w' ⟨rfl, y, rfl⟩) | (go_at_call 20; refine (bel_of (width_any _ _ (by assumption) (by assumption) (by assumption) (by assumption) _)).mono ?_; rintro e w' ⟨rfl, y, rfl⟩) | (go_at_call 13; refine (bel_of_same (add_any _ _ (by assumption) (by assumption) (by assumption) (by assumption) _)).mono ?_; rintro e w' ⟨rfl, y, rfl⟩) | (go_at_call 14; refine (bel_of_same (sub_any _ _ (by assumption) (by assumption) (by assumption) (by assumption) _)).mono ?_; rintro e w' ⟨rfl, y, rfl⟩) | (go_at_call 16; refine (bel_of_drew (scale_any _ _ _ _)).mono ?_; rintro e w' ⟨rfl, y, rfl⟩))
    go_ret
    exact ⟨rfl, below_next HB1.out y.2⟩
  by_cases h5 : (decide (g ≤ c) && decide (d ≤ h)) = true
  case neg =>
    have t1 : decide (a ≤ b) = true := decide_eq_true h1
    have t2 : decide (c ≤ d) = true := decide_eq_true h2
    have t4 : (decide (g ≤ c) && decide (d ≤ h)) = false := eq_false_of_ne_true h5
    clear h5
    go_enter Try.func5, Try.ntmps5
    go_wp2_with fail
    refine rebase _ (fun V1 hV x1 => ?_)
    have HB1 := Lib.hid (bel_at hV (bel_alloc (bel_alloc (bel_alloc (bel_alloc (Below.refl w.heap.size w) _) _) _) _))
    have HC1 := Lib.hid (Cs.at hV (((((Cs.nil w).alloc _ _).alloc _ _).alloc _ _).alloc _ _))
    have hu1 := HC1.out.bx
    simp only [Bx, newCells, join, World.size_alloc] at hu1
    clear hV
    go_wp2_with (first | (go_at_call 8; refine (bel_of (small_any _)).mono ?_; rintro e w' ⟨rfl, y, rfl⟩) | (go_at_call 9; refine (bel_of (has_any _ _ _ _)).mono ?_; rintro e w' ⟨rfl, y, rfl⟩) | (go_at_call 12; refine (bel_of (right_any _ _ _)).mono ?_; rintro e w' ⟨rfl, y, rfl⟩) | (go_at_call 18; refine (bel_of (join_any _ _ _ _ _)).mono ?_; rintro e w' ⟨rfl, y, rfl⟩) | (go_at_call 17; refine (bel_of (meet_any _ _ _ _ _)).mono ?_; rintro e w' ⟨rfl, y, rfl⟩) | (go_at_call 19; refine (bel_of (within_any _ _ _ _ _)).mono ?_; rintro e w' ⟨rfl, y, rfl⟩) | (go_at_call 24; refine (bel_of (of_any _ _)).mono ?_; rintro e w' ⟨rfl, y, rfl⟩) | (go_at_call 15; refine (bel_of (sscale_any _ _ _ _ _)).mono ?_; rintro e w' ⟨rfl, y, rfl⟩) | (go_at_call 10; refine (bel_of (sadd_any _ _ _ _ (by assumption) (by assumption) (by assumption) (by assumption) (by assumption) (by assumption) (by assumption) (by assumption) _)).mono ?_; rintro e w' ⟨rfl, y, rfl⟩) | (go_at_call 11; refine (bel_of (ssub_any _ _ _ _ (by assumption) (by assumption) (by assumption) (by assumption) (by assumption) (by assumption) (by assumption) (by assumption) _)).mono ?_; rintro e w' ⟨rfl, y, rfl⟩) | (go_at_call 20; refine (bel_of (width_any _ _ (by assumption) (by assumption) (by assumption) (by assumption) _)).mono ?_; rintro e w' ⟨rfl, y, rfl⟩) | (go_at_call 13; refine (bel_of_same (add_any _ _ (by assumption) (by assumption) (by assumption) (by assumption) _)).mono ?_; rintro e w' ⟨rfl, y, rfl⟩) | (go_at_call 14; refine (bel_of_same (sub_any _ _ (by assumption) (by assumption) (by assumption) (by assumption) _)).mono ?_; rintro e w' ⟨rfl, y, rfl⟩) | (go_at_call 16; refine (bel_of_drew (scale_any _ _ _ _)).mono ?_; rintro e w' ⟨rfl, y, rfl⟩))
    go_ret
    exact ⟨rfl, below_next HB1.out y.2⟩
  have h3' := h3
  have h5' := h5
  rw [Bool.and_eq_true, decide_eq_true_eq, decide_eq_true_eq] at h3' h5'
  exact grows_in a b c d u v g h num den a_1 a_2 b_1 b_2 c_1 c_2 d_1 d_2 u_1 u_2 v_1 v_2 g_1 g_2 h_1 h_2 h1 h2 h3'.1 h3'.2 h5'.1 h5'.2 w

end Go.Proofs.Ytbmjenmfcndnfaa
