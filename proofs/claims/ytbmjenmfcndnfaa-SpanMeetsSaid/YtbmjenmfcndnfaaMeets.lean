/- SpanMeets: the meeting and the joining of two right spans. -/
import Derived.Test.YtbmjenmfcndnfaaSmallS
namespace Go.Proofs.Ytbmjenmfcndnfaa
open Go.RowKit

theorem has_meet {a b c d n : Int} {p q : Bool} (hp : (decide (a ≤ n) && decide (n ≤ b)) = p) (hq : (decide (c ≤ n) && decide (n ≤ d)) = q) : (decide (max a c ≤ n) && decide (n ≤ min b d)) = (p && q) := by
  subst hp hq
  rw [Bool.eq_iff_iff]
  simp only [Bool.and_eq_true, decide_eq_true_eq]
  omega
theorem has_join {a b c d n : Int} {p q : Bool} (_h1 : a ≤ b) (_h2 : c ≤ d) (hp : (decide (a ≤ n) && decide (n ≤ b)) = p) (hq : (decide (c ≤ n) && decide (n ≤ d)) = q) (hr : (p || q) = true) : (decide (min a c ≤ n) && decide (n ≤ max b d)) = true := by
  subst hp hq
  revert hr
  simp only [Bool.and_eq_true, Bool.or_eq_true, decide_eq_true_eq]
  omega

set_option maxHeartbeats 4000000 in
set_option maxRecDepth 100000 in
theorem meets_ok_true_true (a b c d n : Int) (w : World) (h1 : a ≤ b) (h2 : c ≤ d) (hM : max a c ≤ min b d) (hp : (decide (a ≤ n) && decide (n ≤ b)) = true) (hq : (decide (c ≤ n) && decide (n ≤ d)) = true) :
    Calls Try.prog 4 #[.agg #[.int .i64 a, .int .i64 b], .agg #[.int .i64 c, .int .i64 d], .int .i64 n] w fun e w' => e = .returned (.bool true) ∧ Below w.heap.size w w' := by
  have t1 : decide (a ≤ b) = true := decide_eq_true h1
  have t2 : decide (c ≤ d) = true := decide_eq_true h2
  have hm : (decide (max a c ≤ n) && decide (n ≤ min b d)) = true := has_meet hp hq
  have hj : (decide (min a c ≤ n) && decide (n ≤ max b d)) = true := has_join h1 h2 hp hq rfl
  have r1 : decide (max a c ≤ min b d) = true := decide_eq_true hM
  have w1 : decide (a ≤ max a c) = true := decide_eq_true (by omega)
  have w2 : decide (min b d ≤ b) = true := decide_eq_true (by omega)
  have w3 : decide (c ≤ max a c) = true := decide_eq_true (by omega)
  have w4 : decide (min b d ≤ d) = true := decide_eq_true (by omega)
  have w5 : decide (min a c ≤ a) = true := decide_eq_true (by omega)
  have w6 : decide (b ≤ max b d) = true := decide_eq_true (by omega)
  have w7 : decide (min a c ≤ c) = true := decide_eq_true (by omega)
  have w8 : decide (d ≤ max b d) = true := decide_eq_true (by omega)
  have MA := Lib.hid (meet_any a b c d)
  go_enter Try.func4, Try.ntmps4
  go_wp2_with fail
  refine rebase _ (fun V1 hV x1 => ?_)
  have HB1 := Lib.hid (bel_at hV (bel_alloc (bel_alloc (Below.refl w.heap.size w) _) _))
  have HC1 := Lib.hid (Cs.at hV (((Cs.nil w).alloc _ _).alloc _ _))
  have hu1 := HC1.out.bx
  simp only [Bx, newCells, join, World.size_alloc] at hu1
  clear hV
  refine (bel_of (small_any _)).mono ?_
  rintro e w' ⟨rfl, y, rfl⟩
  go_wp2_with fail
  refine (bel_of (right_any _ _ _)).mono ?_
  rintro e w' ⟨rfl, y, rfl⟩
  go_wp2_with fail
  refine (bel_of (right_any _ _ _)).mono ?_
  rintro e w' ⟨rfl, y, rfl⟩
  go_wp2_with fail
  refine (bel_of (MA.out _)).mono ?_
  rintro e w' ⟨rfl, y1, rfl⟩
  rw [if_pos (by omega)]
  go_upto_region 5 with fail
  refine wp_rebase _ (fun V2 hV x2 => ?_)
  have HB2 := Lib.hid (bel_at hV (bel_alloc (below_next HB1.out y1.2) _))
  have HC2 := Lib.hid (Cs.at hV ((HC1.out.below y1).alloc _ _))
  have hu2 := HC2.out.bx
  simp only [Bx, newCells, join, World.size_alloc] at hu2
  clear hV hu1
  go_wp2_with fail
  refine (bel_of (join_any _ _ _ _ _)).mono ?_
  rintro e w' ⟨rfl, y2, rfl⟩
  go_upto_region 6 with fail
  refine wp_rebase _ (fun V3 hV x3 => ?_)
  have HB3 := Lib.hid (bel_at hV (bel_alloc (below_next HB2.out y2.2) _))
  have HC3 := Lib.hid (Cs.at hV ((HC2.out.below y2).alloc _ _))
  have hu3 := HC3.out.bx
  simp only [Bx, newCells, join, World.size_alloc] at hu3
  clear hV hu2
  go_upto_region 11 with (first | (go_at_call 8; refine (bel_of (small_any _)).mono ?_; rintro e w' ⟨rfl, z, rfl⟩) | (go_at_call 9; refine (bel_of (has_any _ _ _ _)).mono ?_; rintro e w' ⟨rfl, z, rfl⟩) | (go_at_call 12; refine (bel_of (right_any _ _ _)).mono ?_; rintro e w' ⟨rfl, z, rfl⟩) | (go_at_call 18; refine (bel_of (join_any _ _ _ _ _)).mono ?_; rintro e w' ⟨rfl, z, rfl⟩) | (go_at_call 17; refine (bel_of (meet_any _ _ _ _ _)).mono ?_; rintro e w' ⟨rfl, z, rfl⟩) | (go_at_call 19; refine (bel_of (within_any _ _ _ _ _)).mono ?_; rintro e w' ⟨rfl, z, rfl⟩) | (go_at_call 24; refine (bel_of (of_any _ _)).mono ?_; rintro e w' ⟨rfl, z, rfl⟩) | (go_at_call 15; refine (bel_of (sscale_any _ _ _ _ _)).mono ?_; rintro e w' ⟨rfl, z, rfl⟩) | (go_at_call 10; refine (bel_of (sadd_any _ _ _ _ (by assumption) (by assumption) (by assumption) (by assumption) (by assumption) (by assumption) (by assumption) (by assumption) _)).mono ?_; rintro e w' ⟨rfl, z, rfl⟩) | (go_at_call 11; refine (bel_of (ssub_any _ _ _ _ (by assumption) (by assumption) (by assumption) (by assumption) (by assumption) (by assumption) (by assumption) (by assumption) _)).mono ?_; rintro e w' ⟨rfl, z, rfl⟩) | (go_at_call 20; refine (bel_of (width_any _ _ (by assumption) (by assumption) (by assumption) (by assumption) _)).mono ?_; rintro e w' ⟨rfl, z, rfl⟩) | (go_at_call 13; refine (bel_of_same (add_any _ _ (by assumption) (by assumption) (by assumption) (by assumption) _)).mono ?_; rintro e w' ⟨rfl, z, rfl⟩) | (go_at_call 14; refine (bel_of_same (sub_any _ _ (by assumption) (by assumption) (by assumption) (by assumption) _)).mono ?_; rintro e w' ⟨rfl, z, rfl⟩) | (go_at_call 16; refine (bel_of_drew (scale_any _ _ _ _)).mono ?_; rintro e w' ⟨rfl, z, rfl⟩))
  by_cases k1 : a ≤ c
  · have g1 : min a c = a := by omega
    by_cases k2 : d ≤ b
    · have g3 : max b d = b := by omega
      go_wp2_with fail
      go_ret
      exact ⟨rfl, below_next HB3.out z.2⟩
    · have g3 : max b d = d := by omega
      have g4 : (d == b) = false := beq_eq_false_iff_ne.2 (by omega)
      go_wp2_with fail
      go_ret
      exact ⟨rfl, below_next HB3.out z.2⟩
  · have g1 : min a c = c := by omega
    have g2 : (c == a) = false := beq_eq_false_iff_ne.2 (by omega)
    by_cases k2 : d ≤ b
    · have g3 : max b d = b := by omega
      go_wp2_with fail
      go_ret
      exact ⟨rfl, below_next HB3.out z.2⟩
    · have g3 : max b d = d := by omega
      have g4 : (d == b) = false := beq_eq_false_iff_ne.2 (by omega)
      go_wp2_with fail
      go_ret
      exact ⟨rfl, below_next HB3.out z.2⟩

set_option maxHeartbeats 4000000 in
set_option maxRecDepth 100000 in
theorem meets_ok_true_false (a b c d n : Int) (w : World) (h1 : a ≤ b) (h2 : c ≤ d) (hM : max a c ≤ min b d) (hp : (decide (a ≤ n) && decide (n ≤ b)) = true) (hq : (decide (c ≤ n) && decide (n ≤ d)) = false) :
    Calls Try.prog 4 #[.agg #[.int .i64 a, .int .i64 b], .agg #[.int .i64 c, .int .i64 d], .int .i64 n] w fun e w' => e = .returned (.bool true) ∧ Below w.heap.size w w' := by
  have t1 : decide (a ≤ b) = true := decide_eq_true h1
  have t2 : decide (c ≤ d) = true := decide_eq_true h2
  have hm : (decide (max a c ≤ n) && decide (n ≤ min b d)) = false := has_meet hp hq
  have hj : (decide (min a c ≤ n) && decide (n ≤ max b d)) = true := has_join h1 h2 hp hq rfl
  have r1 : decide (max a c ≤ min b d) = true := decide_eq_true hM
  have w1 : decide (a ≤ max a c) = true := decide_eq_true (by omega)
  have w2 : decide (min b d ≤ b) = true := decide_eq_true (by omega)
  have w3 : decide (c ≤ max a c) = true := decide_eq_true (by omega)
  have w4 : decide (min b d ≤ d) = true := decide_eq_true (by omega)
  have w5 : decide (min a c ≤ a) = true := decide_eq_true (by omega)
  have w6 : decide (b ≤ max b d) = true := decide_eq_true (by omega)
  have w7 : decide (min a c ≤ c) = true := decide_eq_true (by omega)
  have w8 : decide (d ≤ max b d) = true := decide_eq_true (by omega)
  have MA := Lib.hid (meet_any a b c d)
  go_enter Try.func4, Try.ntmps4
  go_wp2_with fail
  refine rebase _ (fun V1 hV x1 => ?_)
  have HB1 := Lib.hid (bel_at hV (bel_alloc (bel_alloc (Below.refl w.heap.size w) _) _))
  have HC1 := Lib.hid (Cs.at hV (((Cs.nil w).alloc _ _).alloc _ _))
  have hu1 := HC1.out.bx
  simp only [Bx, newCells, join, World.size_alloc] at hu1
  clear hV
  refine (bel_of (small_any _)).mono ?_
  rintro e w' ⟨rfl, y, rfl⟩
  go_wp2_with fail
  refine (bel_of (right_any _ _ _)).mono ?_
  rintro e w' ⟨rfl, y, rfl⟩
  go_wp2_with fail
  refine (bel_of (right_any _ _ _)).mono ?_
  rintro e w' ⟨rfl, y, rfl⟩
  go_wp2_with fail
  refine (bel_of (MA.out _)).mono ?_
  rintro e w' ⟨rfl, y1, rfl⟩
  rw [if_pos (by omega)]
  go_upto_region 5 with fail
  refine wp_rebase _ (fun V2 hV x2 => ?_)
  have HB2 := Lib.hid (bel_at hV (bel_alloc (below_next HB1.out y1.2) _))
  have HC2 := Lib.hid (Cs.at hV ((HC1.out.below y1).alloc _ _))
  have hu2 := HC2.out.bx
  simp only [Bx, newCells, join, World.size_alloc] at hu2
  clear hV hu1
  go_wp2_with fail
  refine (bel_of (join_any _ _ _ _ _)).mono ?_
  rintro e w' ⟨rfl, y2, rfl⟩
  go_upto_region 6 with fail
  refine wp_rebase _ (fun V3 hV x3 => ?_)
  have HB3 := Lib.hid (bel_at hV (bel_alloc (below_next HB2.out y2.2) _))
  have HC3 := Lib.hid (Cs.at hV ((HC2.out.below y2).alloc _ _))
  have hu3 := HC3.out.bx
  simp only [Bx, newCells, join, World.size_alloc] at hu3
  clear hV hu2
  go_upto_region 11 with (first | (go_at_call 8; refine (bel_of (small_any _)).mono ?_; rintro e w' ⟨rfl, z, rfl⟩) | (go_at_call 9; refine (bel_of (has_any _ _ _ _)).mono ?_; rintro e w' ⟨rfl, z, rfl⟩) | (go_at_call 12; refine (bel_of (right_any _ _ _)).mono ?_; rintro e w' ⟨rfl, z, rfl⟩) | (go_at_call 18; refine (bel_of (join_any _ _ _ _ _)).mono ?_; rintro e w' ⟨rfl, z, rfl⟩) | (go_at_call 17; refine (bel_of (meet_any _ _ _ _ _)).mono ?_; rintro e w' ⟨rfl, z, rfl⟩) | (go_at_call 19; refine (bel_of (within_any _ _ _ _ _)).mono ?_; rintro e w' ⟨rfl, z, rfl⟩) | (go_at_call 24; refine (bel_of (of_any _ _)).mono ?_; rintro e w' ⟨rfl, z, rfl⟩) | (go_at_call 15; refine (bel_of (sscale_any _ _ _ _ _)).mono ?_; rintro e w' ⟨rfl, z, rfl⟩) | (go_at_call 10; refine (bel_of (sadd_any _ _ _ _ (by assumption) (by assumption) (by assumption) (by assumption) (by assumption) (by assumption) (by assumption) (by assumption) _)).mono ?_; rintro e w' ⟨rfl, z, rfl⟩) | (go_at_call 11; refine (bel_of (ssub_any _ _ _ _ (by assumption) (by assumption) (by assumption) (by assumption) (by assumption) (by assumption) (by assumption) (by assumption) _)).mono ?_; rintro e w' ⟨rfl, z, rfl⟩) | (go_at_call 20; refine (bel_of (width_any _ _ (by assumption) (by assumption) (by assumption) (by assumption) _)).mono ?_; rintro e w' ⟨rfl, z, rfl⟩) | (go_at_call 13; refine (bel_of_same (add_any _ _ (by assumption) (by assumption) (by assumption) (by assumption) _)).mono ?_; rintro e w' ⟨rfl, z, rfl⟩) | (go_at_call 14; refine (bel_of_same (sub_any _ _ (by assumption) (by assumption) (by assumption) (by assumption) _)).mono ?_; rintro e w' ⟨rfl, z, rfl⟩) | (go_at_call 16; refine (bel_of_drew (scale_any _ _ _ _)).mono ?_; rintro e w' ⟨rfl, z, rfl⟩))
  by_cases k1 : a ≤ c
  · have g1 : min a c = a := by omega
    by_cases k2 : d ≤ b
    · have g3 : max b d = b := by omega
      go_wp2_with fail
      go_ret
      exact ⟨rfl, below_next HB3.out z.2⟩
    · have g3 : max b d = d := by omega
      have g4 : (d == b) = false := beq_eq_false_iff_ne.2 (by omega)
      go_wp2_with fail
      go_ret
      exact ⟨rfl, below_next HB3.out z.2⟩
  · have g1 : min a c = c := by omega
    have g2 : (c == a) = false := beq_eq_false_iff_ne.2 (by omega)
    by_cases k2 : d ≤ b
    · have g3 : max b d = b := by omega
      go_wp2_with fail
      go_ret
      exact ⟨rfl, below_next HB3.out z.2⟩
    · have g3 : max b d = d := by omega
      have g4 : (d == b) = false := beq_eq_false_iff_ne.2 (by omega)
      go_wp2_with fail
      go_ret
      exact ⟨rfl, below_next HB3.out z.2⟩

set_option maxHeartbeats 4000000 in
set_option maxRecDepth 100000 in
theorem meets_ok_false_true (a b c d n : Int) (w : World) (h1 : a ≤ b) (h2 : c ≤ d) (hM : max a c ≤ min b d) (hp : (decide (a ≤ n) && decide (n ≤ b)) = false) (hq : (decide (c ≤ n) && decide (n ≤ d)) = true) :
    Calls Try.prog 4 #[.agg #[.int .i64 a, .int .i64 b], .agg #[.int .i64 c, .int .i64 d], .int .i64 n] w fun e w' => e = .returned (.bool true) ∧ Below w.heap.size w w' := by
  have t1 : decide (a ≤ b) = true := decide_eq_true h1
  have t2 : decide (c ≤ d) = true := decide_eq_true h2
  have hm : (decide (max a c ≤ n) && decide (n ≤ min b d)) = false := has_meet hp hq
  have hj : (decide (min a c ≤ n) && decide (n ≤ max b d)) = true := has_join h1 h2 hp hq rfl
  have r1 : decide (max a c ≤ min b d) = true := decide_eq_true hM
  have w1 : decide (a ≤ max a c) = true := decide_eq_true (by omega)
  have w2 : decide (min b d ≤ b) = true := decide_eq_true (by omega)
  have w3 : decide (c ≤ max a c) = true := decide_eq_true (by omega)
  have w4 : decide (min b d ≤ d) = true := decide_eq_true (by omega)
  have w5 : decide (min a c ≤ a) = true := decide_eq_true (by omega)
  have w6 : decide (b ≤ max b d) = true := decide_eq_true (by omega)
  have w7 : decide (min a c ≤ c) = true := decide_eq_true (by omega)
  have w8 : decide (d ≤ max b d) = true := decide_eq_true (by omega)
  have MA := Lib.hid (meet_any a b c d)
  go_enter Try.func4, Try.ntmps4
  go_wp2_with fail
  refine rebase _ (fun V1 hV x1 => ?_)
  have HB1 := Lib.hid (bel_at hV (bel_alloc (bel_alloc (Below.refl w.heap.size w) _) _))
  have HC1 := Lib.hid (Cs.at hV (((Cs.nil w).alloc _ _).alloc _ _))
  have hu1 := HC1.out.bx
  simp only [Bx, newCells, join, World.size_alloc] at hu1
  clear hV
  refine (bel_of (small_any _)).mono ?_
  rintro e w' ⟨rfl, y, rfl⟩
  go_wp2_with fail
  refine (bel_of (right_any _ _ _)).mono ?_
  rintro e w' ⟨rfl, y, rfl⟩
  go_wp2_with fail
  refine (bel_of (right_any _ _ _)).mono ?_
  rintro e w' ⟨rfl, y, rfl⟩
  go_wp2_with fail
  refine (bel_of (MA.out _)).mono ?_
  rintro e w' ⟨rfl, y1, rfl⟩
  rw [if_pos (by omega)]
  go_upto_region 5 with fail
  refine wp_rebase _ (fun V2 hV x2 => ?_)
  have HB2 := Lib.hid (bel_at hV (bel_alloc (below_next HB1.out y1.2) _))
  have HC2 := Lib.hid (Cs.at hV ((HC1.out.below y1).alloc _ _))
  have hu2 := HC2.out.bx
  simp only [Bx, newCells, join, World.size_alloc] at hu2
  clear hV hu1
  go_wp2_with fail
  refine (bel_of (join_any _ _ _ _ _)).mono ?_
  rintro e w' ⟨rfl, y2, rfl⟩
  go_upto_region 6 with fail
  refine wp_rebase _ (fun V3 hV x3 => ?_)
  have HB3 := Lib.hid (bel_at hV (bel_alloc (below_next HB2.out y2.2) _))
  have HC3 := Lib.hid (Cs.at hV ((HC2.out.below y2).alloc _ _))
  have hu3 := HC3.out.bx
  simp only [Bx, newCells, join, World.size_alloc] at hu3
  clear hV hu2
  go_upto_region 11 with (first | (go_at_call 8; refine (bel_of (small_any _)).mono ?_; rintro e w' ⟨rfl, z, rfl⟩) | (go_at_call 9; refine (bel_of (has_any _ _ _ _)).mono ?_; rintro e w' ⟨rfl, z, rfl⟩) | (go_at_call 12; refine (bel_of (right_any _ _ _)).mono ?_; rintro e w' ⟨rfl, z, rfl⟩) | (go_at_call 18; refine (bel_of (join_any _ _ _ _ _)).mono ?_; rintro e w' ⟨rfl, z, rfl⟩) | (go_at_call 17; refine (bel_of (meet_any _ _ _ _ _)).mono ?_; rintro e w' ⟨rfl, z, rfl⟩) | (go_at_call 19; refine (bel_of (within_any _ _ _ _ _)).mono ?_; rintro e w' ⟨rfl, z, rfl⟩) | (go_at_call 24; refine (bel_of (of_any _ _)).mono ?_; rintro e w' ⟨rfl, z, rfl⟩) | (go_at_call 15; refine (bel_of (sscale_any _ _ _ _ _)).mono ?_; rintro e w' ⟨rfl, z, rfl⟩) | (go_at_call 10; refine (bel_of (sadd_any _ _ _ _ (by assumption) (by assumption) (by assumption) (by assumption) (by assumption) (by assumption) (by assumption) (by assumption) _)).mono ?_; rintro e w' ⟨rfl, z, rfl⟩) | (go_at_call 11; refine (bel_of (ssub_any _ _ _ _ (by assumption) (by assumption) (by assumption) (by assumption) (by assumption) (by assumption) (by assumption) (by assumption) _)).mono ?_; rintro e w' ⟨rfl, z, rfl⟩) | (go_at_call 20; refine (bel_of (width_any _ _ (by assumption) (by assumption) (by assumption) (by assumption) _)).mono ?_; rintro e w' ⟨rfl, z, rfl⟩) | (go_at_call 13; refine (bel_of_same (add_any _ _ (by assumption) (by assumption) (by assumption) (by assumption) _)).mono ?_; rintro e w' ⟨rfl, z, rfl⟩) | (go_at_call 14; refine (bel_of_same (sub_any _ _ (by assumption) (by assumption) (by assumption) (by assumption) _)).mono ?_; rintro e w' ⟨rfl, z, rfl⟩) | (go_at_call 16; refine (bel_of_drew (scale_any _ _ _ _)).mono ?_; rintro e w' ⟨rfl, z, rfl⟩))
  by_cases k1 : a ≤ c
  · have g1 : min a c = a := by omega
    by_cases k2 : d ≤ b
    · have g3 : max b d = b := by omega
      go_wp2_with fail
      go_ret
      exact ⟨rfl, below_next HB3.out z.2⟩
    · have g3 : max b d = d := by omega
      have g4 : (d == b) = false := beq_eq_false_iff_ne.2 (by omega)
      go_wp2_with fail
      go_ret
      exact ⟨rfl, below_next HB3.out z.2⟩
  · have g1 : min a c = c := by omega
    have g2 : (c == a) = false := beq_eq_false_iff_ne.2 (by omega)
    by_cases k2 : d ≤ b
    · have g3 : max b d = b := by omega
      go_wp2_with fail
      go_ret
      exact ⟨rfl, below_next HB3.out z.2⟩
    · have g3 : max b d = d := by omega
      have g4 : (d == b) = false := beq_eq_false_iff_ne.2 (by omega)
      go_wp2_with fail
      go_ret
      exact ⟨rfl, below_next HB3.out z.2⟩

set_option maxHeartbeats 4000000 in
set_option maxRecDepth 100000 in
theorem meets_ok_false_false (a b c d n : Int) (w : World) (h1 : a ≤ b) (h2 : c ≤ d) (hM : max a c ≤ min b d) (hp : (decide (a ≤ n) && decide (n ≤ b)) = false) (hq : (decide (c ≤ n) && decide (n ≤ d)) = false) :
    Calls Try.prog 4 #[.agg #[.int .i64 a, .int .i64 b], .agg #[.int .i64 c, .int .i64 d], .int .i64 n] w fun e w' => e = .returned (.bool true) ∧ Below w.heap.size w w' := by
  have t1 : decide (a ≤ b) = true := decide_eq_true h1
  have t2 : decide (c ≤ d) = true := decide_eq_true h2
  have hm : (decide (max a c ≤ n) && decide (n ≤ min b d)) = false := has_meet hp hq
  have r1 : decide (max a c ≤ min b d) = true := decide_eq_true hM
  have w1 : decide (a ≤ max a c) = true := decide_eq_true (by omega)
  have w2 : decide (min b d ≤ b) = true := decide_eq_true (by omega)
  have w3 : decide (c ≤ max a c) = true := decide_eq_true (by omega)
  have w4 : decide (min b d ≤ d) = true := decide_eq_true (by omega)
  have w5 : decide (min a c ≤ a) = true := decide_eq_true (by omega)
  have w6 : decide (b ≤ max b d) = true := decide_eq_true (by omega)
  have w7 : decide (min a c ≤ c) = true := decide_eq_true (by omega)
  have w8 : decide (d ≤ max b d) = true := decide_eq_true (by omega)
  have MA := Lib.hid (meet_any a b c d)
  go_enter Try.func4, Try.ntmps4
  go_wp2_with fail
  refine rebase _ (fun V1 hV x1 => ?_)
  have HB1 := Lib.hid (bel_at hV (bel_alloc (bel_alloc (Below.refl w.heap.size w) _) _))
  have HC1 := Lib.hid (Cs.at hV (((Cs.nil w).alloc _ _).alloc _ _))
  have hu1 := HC1.out.bx
  simp only [Bx, newCells, join, World.size_alloc] at hu1
  clear hV
  refine (bel_of (small_any _)).mono ?_
  rintro e w' ⟨rfl, y, rfl⟩
  go_wp2_with fail
  refine (bel_of (right_any _ _ _)).mono ?_
  rintro e w' ⟨rfl, y, rfl⟩
  go_wp2_with fail
  refine (bel_of (right_any _ _ _)).mono ?_
  rintro e w' ⟨rfl, y, rfl⟩
  go_wp2_with fail
  refine (bel_of (MA.out _)).mono ?_
  rintro e w' ⟨rfl, y1, rfl⟩
  rw [if_pos (by omega)]
  go_upto_region 5 with fail
  refine wp_rebase _ (fun V2 hV x2 => ?_)
  have HB2 := Lib.hid (bel_at hV (bel_alloc (below_next HB1.out y1.2) _))
  have HC2 := Lib.hid (Cs.at hV ((HC1.out.below y1).alloc _ _))
  have hu2 := HC2.out.bx
  simp only [Bx, newCells, join, World.size_alloc] at hu2
  clear hV hu1
  go_wp2_with fail
  refine (bel_of (join_any _ _ _ _ _)).mono ?_
  rintro e w' ⟨rfl, y2, rfl⟩
  go_upto_region 6 with fail
  refine wp_rebase _ (fun V3 hV x3 => ?_)
  have HB3 := Lib.hid (bel_at hV (bel_alloc (below_next HB2.out y2.2) _))
  have HC3 := Lib.hid (Cs.at hV ((HC2.out.below y2).alloc _ _))
  have hu3 := HC3.out.bx
  simp only [Bx, newCells, join, World.size_alloc] at hu3
  clear hV hu2
  go_upto_region 11 with (first | (go_at_call 8; refine (bel_of (small_any _)).mono ?_; rintro e w' ⟨rfl, z, rfl⟩) | (go_at_call 9; refine (bel_of (has_any _ _ _ _)).mono ?_; rintro e w' ⟨rfl, z, rfl⟩) | (go_at_call 12; refine (bel_of (right_any _ _ _)).mono ?_; rintro e w' ⟨rfl, z, rfl⟩) | (go_at_call 18; refine (bel_of (join_any _ _ _ _ _)).mono ?_; rintro e w' ⟨rfl, z, rfl⟩) | (go_at_call 17; refine (bel_of (meet_any _ _ _ _ _)).mono ?_; rintro e w' ⟨rfl, z, rfl⟩) | (go_at_call 19; refine (bel_of (within_any _ _ _ _ _)).mono ?_; rintro e w' ⟨rfl, z, rfl⟩) | (go_at_call 24; refine (bel_of (of_any _ _)).mono ?_; rintro e w' ⟨rfl, z, rfl⟩) | (go_at_call 15; refine (bel_of (sscale_any _ _ _ _ _)).mono ?_; rintro e w' ⟨rfl, z, rfl⟩) | (go_at_call 10; refine (bel_of (sadd_any _ _ _ _ (by assumption) (by assumption) (by assumption) (by assumption) (by assumption) (by assumption) (by assumption) (by assumption) _)).mono ?_; rintro e w' ⟨rfl, z, rfl⟩) | (go_at_call 11; refine (bel_of (ssub_any _ _ _ _ (by assumption) (by assumption) (by assumption) (by assumption) (by assumption) (by assumption) (by assumption) (by assumption) _)).mono ?_; rintro e w' ⟨rfl, z, rfl⟩) | (go_at_call 20; refine (bel_of (width_any _ _ (by assumption) (by assumption) (by assumption) (by assumption) _)).mono ?_; rintro e w' ⟨rfl, z, rfl⟩) | (go_at_call 13; refine (bel_of_same (add_any _ _ (by assumption) (by assumption) (by assumption) (by assumption) _)).mono ?_; rintro e w' ⟨rfl, z, rfl⟩) | (go_at_call 14; refine (bel_of_same (sub_any _ _ (by assumption) (by assumption) (by assumption) (by assumption) _)).mono ?_; rintro e w' ⟨rfl, z, rfl⟩) | (go_at_call 16; refine (bel_of_drew (scale_any _ _ _ _)).mono ?_; rintro e w' ⟨rfl, z, rfl⟩))
  by_cases k1 : a ≤ c
  · have g1 : min a c = a := by omega
    by_cases k2 : d ≤ b
    · have g3 : max b d = b := by omega
      go_wp2_with fail
      go_ret
      exact ⟨rfl, below_next HB3.out z.2⟩
    · have g3 : max b d = d := by omega
      have g4 : (d == b) = false := beq_eq_false_iff_ne.2 (by omega)
      go_wp2_with fail
      go_ret
      exact ⟨rfl, below_next HB3.out z.2⟩
  · have g1 : min a c = c := by omega
    have g2 : (c == a) = false := beq_eq_false_iff_ne.2 (by omega)
    by_cases k2 : d ≤ b
    · have g3 : max b d = b := by omega
      go_wp2_with fail
      go_ret
      exact ⟨rfl, below_next HB3.out z.2⟩
    · have g3 : max b d = d := by omega
      have g4 : (d == b) = false := beq_eq_false_iff_ne.2 (by omega)
      go_wp2_with fail
      go_ret
      exact ⟨rfl, below_next HB3.out z.2⟩

set_option maxHeartbeats 4000000 in
set_option maxRecDepth 100000 in
theorem meets_no_true_false (a b c d n : Int) (w : World) (h1 : a ≤ b) (h2 : c ≤ d) (hM : ¬ max a c ≤ min b d) (hp : (decide (a ≤ n) && decide (n ≤ b)) = true) (hq : (decide (c ≤ n) && decide (n ≤ d)) = false) :
    Calls Try.prog 4 #[.agg #[.int .i64 a, .int .i64 b], .agg #[.int .i64 c, .int .i64 d], .int .i64 n] w fun e w' => e = .returned (.bool true) ∧ Below w.heap.size w w' := by
  have t1 : decide (a ≤ b) = true := decide_eq_true h1
  have t2 : decide (c ≤ d) = true := decide_eq_true h2
  have hm : (decide (max a c ≤ n) && decide (n ≤ min b d)) = false := has_meet hp hq
  have hj : (decide (min a c ≤ n) && decide (n ≤ max b d)) = true := has_join h1 h2 hp hq rfl
  have r1 : decide (max a c ≤ min b d) = false := decide_eq_false hM
  have w1 : decide (a ≤ max a c) = true := decide_eq_true (by omega)
  have w2 : decide (min b d ≤ b) = true := decide_eq_true (by omega)
  have w3 : decide (c ≤ max a c) = true := decide_eq_true (by omega)
  have w4 : decide (min b d ≤ d) = true := decide_eq_true (by omega)
  have w5 : decide (min a c ≤ a) = true := decide_eq_true (by omega)
  have w6 : decide (b ≤ max b d) = true := decide_eq_true (by omega)
  have w7 : decide (min a c ≤ c) = true := decide_eq_true (by omega)
  have w8 : decide (d ≤ max b d) = true := decide_eq_true (by omega)
  have MA := Lib.hid (meet_any a b c d)
  go_enter Try.func4, Try.ntmps4
  go_wp2_with fail
  refine rebase _ (fun V1 hV x1 => ?_)
  have HB1 := Lib.hid (bel_at hV (bel_alloc (bel_alloc (Below.refl w.heap.size w) _) _))
  have HC1 := Lib.hid (Cs.at hV (((Cs.nil w).alloc _ _).alloc _ _))
  have hu1 := HC1.out.bx
  simp only [Bx, newCells, join, World.size_alloc] at hu1
  clear hV
  refine (bel_of (small_any _)).mono ?_
  rintro e w' ⟨rfl, y, rfl⟩
  go_wp2_with fail
  refine (bel_of (right_any _ _ _)).mono ?_
  rintro e w' ⟨rfl, y, rfl⟩
  go_wp2_with fail
  refine (bel_of (right_any _ _ _)).mono ?_
  rintro e w' ⟨rfl, y, rfl⟩
  go_wp2_with fail
  refine (bel_of (MA.out _)).mono ?_
  rintro e w' ⟨rfl, y1, rfl⟩
  rw [if_neg (by omega)]
  go_upto_region 5 with fail
  refine wp_rebase _ (fun V2 hV x2 => ?_)
  have HB2 := Lib.hid (bel_at hV (bel_alloc (below_next HB1.out y1.2) _))
  have HC2 := Lib.hid (Cs.at hV ((HC1.out.below y1).alloc _ _))
  have hu2 := HC2.out.bx
  simp only [Bx, newCells, join, World.size_alloc] at hu2
  clear hV hu1
  go_wp2_with fail
  refine (bel_of (join_any _ _ _ _ _)).mono ?_
  rintro e w' ⟨rfl, y2, rfl⟩
  go_upto_region 6 with fail
  refine wp_rebase _ (fun V3 hV x3 => ?_)
  have HB3 := Lib.hid (bel_at hV (bel_alloc (below_next HB2.out y2.2) _))
  have HC3 := Lib.hid (Cs.at hV ((HC2.out.below y2).alloc _ _))
  have hu3 := HC3.out.bx
  simp only [Bx, newCells, join, World.size_alloc] at hu3
  clear hV hu2
  go_upto_region 11 with (first | (go_at_call 8; refine (bel_of (small_any _)).mono ?_; rintro e w' ⟨rfl, z, rfl⟩) | (go_at_call 9; refine (bel_of (has_any _ _ _ _)).mono ?_; rintro e w' ⟨rfl, z, rfl⟩) | (go_at_call 12; refine (bel_of (right_any _ _ _)).mono ?_; rintro e w' ⟨rfl, z, rfl⟩) | (go_at_call 18; refine (bel_of (join_any _ _ _ _ _)).mono ?_; rintro e w' ⟨rfl, z, rfl⟩) | (go_at_call 17; refine (bel_of (meet_any _ _ _ _ _)).mono ?_; rintro e w' ⟨rfl, z, rfl⟩) | (go_at_call 19; refine (bel_of (within_any _ _ _ _ _)).mono ?_; rintro e w' ⟨rfl, z, rfl⟩) | (go_at_call 24; refine (bel_of (of_any _ _)).mono ?_; rintro e w' ⟨rfl, z, rfl⟩) | (go_at_call 15; refine (bel_of (sscale_any _ _ _ _ _)).mono ?_; rintro e w' ⟨rfl, z, rfl⟩) | (go_at_call 10; refine (bel_of (sadd_any _ _ _ _ (by assumption) (by assumption) (by assumption) (by assumption) (by assumption) (by assumption) (by assumption) (by assumption) _)).mono ?_; rintro e w' ⟨rfl, z, rfl⟩) | (go_at_call 11; refine (bel_of (ssub_any _ _ _ _ (by assumption) (by assumption) (by assumption) (by assumption) (by assumption) (by assumption) (by assumption) (by assumption) _)).mono ?_; rintro e w' ⟨rfl, z, rfl⟩) | (go_at_call 20; refine (bel_of (width_any _ _ (by assumption) (by assumption) (by assumption) (by assumption) _)).mono ?_; rintro e w' ⟨rfl, z, rfl⟩) | (go_at_call 13; refine (bel_of_same (add_any _ _ (by assumption) (by assumption) (by assumption) (by assumption) _)).mono ?_; rintro e w' ⟨rfl, z, rfl⟩) | (go_at_call 14; refine (bel_of_same (sub_any _ _ (by assumption) (by assumption) (by assumption) (by assumption) _)).mono ?_; rintro e w' ⟨rfl, z, rfl⟩) | (go_at_call 16; refine (bel_of_drew (scale_any _ _ _ _)).mono ?_; rintro e w' ⟨rfl, z, rfl⟩))
  by_cases k1 : a ≤ c
  · have g1 : min a c = a := by omega
    by_cases k2 : d ≤ b
    · omega
    · have g3 : max b d = d := by omega
      have g4 : (d == b) = false := beq_eq_false_iff_ne.2 (by omega)
      go_wp2_with fail
      go_ret
      exact ⟨rfl, below_next HB3.out z.2⟩
  · have g1 : min a c = c := by omega
    have g2 : (c == a) = false := beq_eq_false_iff_ne.2 (by omega)
    by_cases k2 : d ≤ b
    · have g3 : max b d = b := by omega
      go_wp2_with fail
      go_ret
      exact ⟨rfl, below_next HB3.out z.2⟩
    · omega

set_option maxHeartbeats 4000000 in
set_option maxRecDepth 100000 in
theorem meets_no_false_true (a b c d n : Int) (w : World) (h1 : a ≤ b) (h2 : c ≤ d) (hM : ¬ max a c ≤ min b d) (hp : (decide (a ≤ n) && decide (n ≤ b)) = false) (hq : (decide (c ≤ n) && decide (n ≤ d)) = true) :
    Calls Try.prog 4 #[.agg #[.int .i64 a, .int .i64 b], .agg #[.int .i64 c, .int .i64 d], .int .i64 n] w fun e w' => e = .returned (.bool true) ∧ Below w.heap.size w w' := by
  have t1 : decide (a ≤ b) = true := decide_eq_true h1
  have t2 : decide (c ≤ d) = true := decide_eq_true h2
  have hm : (decide (max a c ≤ n) && decide (n ≤ min b d)) = false := has_meet hp hq
  have hj : (decide (min a c ≤ n) && decide (n ≤ max b d)) = true := has_join h1 h2 hp hq rfl
  have r1 : decide (max a c ≤ min b d) = false := decide_eq_false hM
  have w1 : decide (a ≤ max a c) = true := decide_eq_true (by omega)
  have w2 : decide (min b d ≤ b) = true := decide_eq_true (by omega)
  have w3 : decide (c ≤ max a c) = true := decide_eq_true (by omega)
  have w4 : decide (min b d ≤ d) = true := decide_eq_true (by omega)
  have w5 : decide (min a c ≤ a) = true := decide_eq_true (by omega)
  have w6 : decide (b ≤ max b d) = true := decide_eq_true (by omega)
  have w7 : decide (min a c ≤ c) = true := decide_eq_true (by omega)
  have w8 : decide (d ≤ max b d) = true := decide_eq_true (by omega)
  have MA := Lib.hid (meet_any a b c d)
  go_enter Try.func4, Try.ntmps4
  go_wp2_with fail
  refine rebase _ (fun V1 hV x1 => ?_)
  have HB1 := Lib.hid (bel_at hV (bel_alloc (bel_alloc (Below.refl w.heap.size w) _) _))
  have HC1 := Lib.hid (Cs.at hV (((Cs.nil w).alloc _ _).alloc _ _))
  have hu1 := HC1.out.bx
  simp only [Bx, newCells, join, World.size_alloc] at hu1
  clear hV
  refine (bel_of (small_any _)).mono ?_
  rintro e w' ⟨rfl, y, rfl⟩
  go_wp2_with fail
  refine (bel_of (right_any _ _ _)).mono ?_
  rintro e w' ⟨rfl, y, rfl⟩
  go_wp2_with fail
  refine (bel_of (right_any _ _ _)).mono ?_
  rintro e w' ⟨rfl, y, rfl⟩
  go_wp2_with fail
  refine (bel_of (MA.out _)).mono ?_
  rintro e w' ⟨rfl, y1, rfl⟩
  rw [if_neg (by omega)]
  go_upto_region 5 with fail
  refine wp_rebase _ (fun V2 hV x2 => ?_)
  have HB2 := Lib.hid (bel_at hV (bel_alloc (below_next HB1.out y1.2) _))
  have HC2 := Lib.hid (Cs.at hV ((HC1.out.below y1).alloc _ _))
  have hu2 := HC2.out.bx
  simp only [Bx, newCells, join, World.size_alloc] at hu2
  clear hV hu1
  go_wp2_with fail
  refine (bel_of (join_any _ _ _ _ _)).mono ?_
  rintro e w' ⟨rfl, y2, rfl⟩
  go_upto_region 6 with fail
  refine wp_rebase _ (fun V3 hV x3 => ?_)
  have HB3 := Lib.hid (bel_at hV (bel_alloc (below_next HB2.out y2.2) _))
  have HC3 := Lib.hid (Cs.at hV ((HC2.out.below y2).alloc _ _))
  have hu3 := HC3.out.bx
  simp only [Bx, newCells, join, World.size_alloc] at hu3
  clear hV hu2
  go_upto_region 11 with (first | (go_at_call 8; refine (bel_of (small_any _)).mono ?_; rintro e w' ⟨rfl, z, rfl⟩) | (go_at_call 9; refine (bel_of (has_any _ _ _ _)).mono ?_; rintro e w' ⟨rfl, z, rfl⟩) | (go_at_call 12; refine (bel_of (right_any _ _ _)).mono ?_; rintro e w' ⟨rfl, z, rfl⟩) | (go_at_call 18; refine (bel_of (join_any _ _ _ _ _)).mono ?_; rintro e w' ⟨rfl, z, rfl⟩) | (go_at_call 17; refine (bel_of (meet_any _ _ _ _ _)).mono ?_; rintro e w' ⟨rfl, z, rfl⟩) | (go_at_call 19; refine (bel_of (within_any _ _ _ _ _)).mono ?_; rintro e w' ⟨rfl, z, rfl⟩) | (go_at_call 24; refine (bel_of (of_any _ _)).mono ?_; rintro e w' ⟨rfl, z, rfl⟩) | (go_at_call 15; refine (bel_of (sscale_any _ _ _ _ _)).mono ?_; rintro e w' ⟨rfl, z, rfl⟩) | (go_at_call 10; refine (bel_of (sadd_any _ _ _ _ (by assumption) (by assumption) (by assumption) (by assumption) (by assumption) (by assumption) (by assumption) (by assumption) _)).mono ?_; rintro e w' ⟨rfl, z, rfl⟩) | (go_at_call 11; refine (bel_of (ssub_any _ _ _ _ (by assumption) (by assumption) (by assumption) (by assumption) (by assumption) (by assumption) (by assumption) (by assumption) _)).mono ?_; rintro e w' ⟨rfl, z, rfl⟩) | (go_at_call 20; refine (bel_of (width_any _ _ (by assumption) (by assumption) (by assumption) (by assumption) _)).mono ?_; rintro e w' ⟨rfl, z, rfl⟩) | (go_at_call 13; refine (bel_of_same (add_any _ _ (by assumption) (by assumption) (by assumption) (by assumption) _)).mono ?_; rintro e w' ⟨rfl, z, rfl⟩) | (go_at_call 14; refine (bel_of_same (sub_any _ _ (by assumption) (by assumption) (by assumption) (by assumption) _)).mono ?_; rintro e w' ⟨rfl, z, rfl⟩) | (go_at_call 16; refine (bel_of_drew (scale_any _ _ _ _)).mono ?_; rintro e w' ⟨rfl, z, rfl⟩))
  by_cases k1 : a ≤ c
  · have g1 : min a c = a := by omega
    by_cases k2 : d ≤ b
    · omega
    · have g3 : max b d = d := by omega
      have g4 : (d == b) = false := beq_eq_false_iff_ne.2 (by omega)
      go_wp2_with fail
      go_ret
      exact ⟨rfl, below_next HB3.out z.2⟩
  · have g1 : min a c = c := by omega
    have g2 : (c == a) = false := beq_eq_false_iff_ne.2 (by omega)
    by_cases k2 : d ≤ b
    · have g3 : max b d = b := by omega
      go_wp2_with fail
      go_ret
      exact ⟨rfl, below_next HB3.out z.2⟩
    · omega

set_option maxHeartbeats 4000000 in
set_option maxRecDepth 100000 in
theorem meets_no_false_false (a b c d n : Int) (w : World) (h1 : a ≤ b) (h2 : c ≤ d) (hM : ¬ max a c ≤ min b d) (hp : (decide (a ≤ n) && decide (n ≤ b)) = false) (hq : (decide (c ≤ n) && decide (n ≤ d)) = false) :
    Calls Try.prog 4 #[.agg #[.int .i64 a, .int .i64 b], .agg #[.int .i64 c, .int .i64 d], .int .i64 n] w fun e w' => e = .returned (.bool true) ∧ Below w.heap.size w w' := by
  have t1 : decide (a ≤ b) = true := decide_eq_true h1
  have t2 : decide (c ≤ d) = true := decide_eq_true h2
  have hm : (decide (max a c ≤ n) && decide (n ≤ min b d)) = false := has_meet hp hq
  have r1 : decide (max a c ≤ min b d) = false := decide_eq_false hM
  have w1 : decide (a ≤ max a c) = true := decide_eq_true (by omega)
  have w2 : decide (min b d ≤ b) = true := decide_eq_true (by omega)
  have w3 : decide (c ≤ max a c) = true := decide_eq_true (by omega)
  have w4 : decide (min b d ≤ d) = true := decide_eq_true (by omega)
  have w5 : decide (min a c ≤ a) = true := decide_eq_true (by omega)
  have w6 : decide (b ≤ max b d) = true := decide_eq_true (by omega)
  have w7 : decide (min a c ≤ c) = true := decide_eq_true (by omega)
  have w8 : decide (d ≤ max b d) = true := decide_eq_true (by omega)
  have MA := Lib.hid (meet_any a b c d)
  go_enter Try.func4, Try.ntmps4
  go_wp2_with fail
  refine rebase _ (fun V1 hV x1 => ?_)
  have HB1 := Lib.hid (bel_at hV (bel_alloc (bel_alloc (Below.refl w.heap.size w) _) _))
  have HC1 := Lib.hid (Cs.at hV (((Cs.nil w).alloc _ _).alloc _ _))
  have hu1 := HC1.out.bx
  simp only [Bx, newCells, join, World.size_alloc] at hu1
  clear hV
  refine (bel_of (small_any _)).mono ?_
  rintro e w' ⟨rfl, y, rfl⟩
  go_wp2_with fail
  refine (bel_of (right_any _ _ _)).mono ?_
  rintro e w' ⟨rfl, y, rfl⟩
  go_wp2_with fail
  refine (bel_of (right_any _ _ _)).mono ?_
  rintro e w' ⟨rfl, y, rfl⟩
  go_wp2_with fail
  refine (bel_of (MA.out _)).mono ?_
  rintro e w' ⟨rfl, y1, rfl⟩
  rw [if_neg (by omega)]
  go_upto_region 5 with fail
  refine wp_rebase _ (fun V2 hV x2 => ?_)
  have HB2 := Lib.hid (bel_at hV (bel_alloc (below_next HB1.out y1.2) _))
  have HC2 := Lib.hid (Cs.at hV ((HC1.out.below y1).alloc _ _))
  have hu2 := HC2.out.bx
  simp only [Bx, newCells, join, World.size_alloc] at hu2
  clear hV hu1
  go_wp2_with fail
  refine (bel_of (join_any _ _ _ _ _)).mono ?_
  rintro e w' ⟨rfl, y2, rfl⟩
  go_upto_region 6 with fail
  refine wp_rebase _ (fun V3 hV x3 => ?_)
  have HB3 := Lib.hid (bel_at hV (bel_alloc (below_next HB2.out y2.2) _))
  have HC3 := Lib.hid (Cs.at hV ((HC2.out.below y2).alloc _ _))
  have hu3 := HC3.out.bx
  simp only [Bx, newCells, join, World.size_alloc] at hu3
  clear hV hu2
  go_upto_region 11 with (first | (go_at_call 8; refine (bel_of (small_any _)).mono ?_; rintro e w' ⟨rfl, z, rfl⟩) | (go_at_call 9; refine (bel_of (has_any _ _ _ _)).mono ?_; rintro e w' ⟨rfl, z, rfl⟩) | (go_at_call 12; refine (bel_of (right_any _ _ _)).mono ?_; rintro e w' ⟨rfl, z, rfl⟩) | (go_at_call 18; refine (bel_of (join_any _ _ _ _ _)).mono ?_; rintro e w' ⟨rfl, z, rfl⟩) | (go_at_call 17; refine (bel_of (meet_any _ _ _ _ _)).mono ?_; rintro e w' ⟨rfl, z, rfl⟩) | (go_at_call 19; refine (bel_of (within_any _ _ _ _ _)).mono ?_; rintro e w' ⟨rfl, z, rfl⟩) | (go_at_call 24; refine (bel_of (of_any _ _)).mono ?_; rintro e w' ⟨rfl, z, rfl⟩) | (go_at_call 15; refine (bel_of (sscale_any _ _ _ _ _)).mono ?_; rintro e w' ⟨rfl, z, rfl⟩) | (go_at_call 10; refine (bel_of (sadd_any _ _ _ _ (by assumption) (by assumption) (by assumption) (by assumption) (by assumption) (by assumption) (by assumption) (by assumption) _)).mono ?_; rintro e w' ⟨rfl, z, rfl⟩) | (go_at_call 11; refine (bel_of (ssub_any _ _ _ _ (by assumption) (by assumption) (by assumption) (by assumption) (by assumption) (by assumption) (by assumption) (by assumption) _)).mono ?_; rintro e w' ⟨rfl, z, rfl⟩) | (go_at_call 20; refine (bel_of (width_any _ _ (by assumption) (by assumption) (by assumption) (by assumption) _)).mono ?_; rintro e w' ⟨rfl, z, rfl⟩) | (go_at_call 13; refine (bel_of_same (add_any _ _ (by assumption) (by assumption) (by assumption) (by assumption) _)).mono ?_; rintro e w' ⟨rfl, z, rfl⟩) | (go_at_call 14; refine (bel_of_same (sub_any _ _ (by assumption) (by assumption) (by assumption) (by assumption) _)).mono ?_; rintro e w' ⟨rfl, z, rfl⟩) | (go_at_call 16; refine (bel_of_drew (scale_any _ _ _ _)).mono ?_; rintro e w' ⟨rfl, z, rfl⟩))
  by_cases k1 : a ≤ c
  · have g1 : min a c = a := by omega
    by_cases k2 : d ≤ b
    · omega
    · have g3 : max b d = d := by omega
      have g4 : (d == b) = false := beq_eq_false_iff_ne.2 (by omega)
      go_wp2_with fail
      go_ret
      exact ⟨rfl, below_next HB3.out z.2⟩
  · have g1 : min a c = c := by omega
    have g2 : (c == a) = false := beq_eq_false_iff_ne.2 (by omega)
    by_cases k2 : d ≤ b
    · have g3 : max b d = b := by omega
      go_wp2_with fail
      go_ret
      exact ⟨rfl, below_next HB3.out z.2⟩
    · omega

set_option maxHeartbeats 8000000 in
set_option maxRecDepth 100000 in
theorem meets_walk (a b c d n : Int) (w : World) :
    Calls Try.prog 4 #[.agg #[.int .i64 a, .int .i64 b], .agg #[.int .i64 c, .int .i64 d], .int .i64 n] w fun e w' => e = .returned (.bool true) ∧ Below w.heap.size w w' := by
  by_cases h1 : a ≤ b
  case neg =>
    have t1 : decide (a ≤ b) = false := decide_eq_false h1
    go_enter Try.func4, Try.ntmps4
    go_wp2_with fail
    refine rebase _ (fun V1 hV x1 => ?_)
    have HB1 := Lib.hid (bel_at hV (bel_alloc (bel_alloc (Below.refl w.heap.size w) _) _))
    have HC1 := Lib.hid (Cs.at hV (((Cs.nil w).alloc _ _).alloc _ _))
    have hu1 := HC1.out.bx
    simp only [Bx, newCells, join, World.size_alloc] at hu1
    clear hV
    go_wp2_with (first | (go_at_call 8; refine (bel_of (small_any _)).mono ?_; rintro e w' ⟨rfl, y, rfl⟩) | (go_at_call 9; refine (bel_of (has_any _ _ _ _)).mono ?_; rintro e w' ⟨rfl, y, rfl⟩) | (go_at_call 12; refine (bel_of (right_any _ _ _)).mono ?_; rintro e w' ⟨rfl, y, rfl⟩) | (go_at_call 18; refine (bel_of (join_any _ _ _ _ _)).mono ?_; rintro e w' ⟨rfl, y, rfl⟩) | (go_at_call 17; refine (bel_of (meet_any _ _ _ _ _)).mono ?_; rintro e w' ⟨rfl, y, rfl⟩) | (go_at_call 19; refine (bel_of (within_any _ _ _ _ _)).mono ?_; rintro e w' ⟨rfl, y, rfl⟩) | (go_at_call 24; refine (bel_of (of_any _ _)).mono ?_; rintro e w' ⟨rfl, y, rfl⟩) | (go_at_call 15; refine (bel_of (sscale_any _ _ _ _ _)).mono ?_; rintro e w' ⟨rfl, y, rfl⟩) | (go_at_call 10; refine (bel_of (sadd_any _ _ _ _ (by assumption) (by assumption) (by assumption) (by assumption) (by assumption) (by assumption) (by assumption) (by assumption) _)).mono ?_; rintro e w' ⟨rfl, y, rfl⟩) | (go_at_call 11; refine (bel_of (ssub_any _ _ _ _ (by assumption) (by assumption) (by assumption) (by assumption) (by assumption) (by assumption) (by assumption) (by assumption) _)).mono ?_; rintro e w' ⟨rfl, y, rfl⟩) | (go_at_call 20; refine (bel_of (width_any _ _ (by assumption) (by assumption) (by assumption) (by assumption) _)).mono ?_; rintro e w' ⟨rfl, y, rfl⟩) | (go_at_call 13; refine (bel_of_same (add_any _ _ (by assumption) (by assumption) (by assumption) (by assumption) _)).mono ?_; rintro e w' ⟨rfl, y, rfl⟩) | (go_at_call 14; refine (bel_of_same (sub_any _ _ (by assumption) (by assumption) (by assumption) (by assumption) _)).mono ?_; rintro e w' ⟨rfl, y, rfl⟩) | (go_at_call 16; refine (bel_of_drew (scale_any _ _ _ _)).mono ?_; rintro e w' ⟨rfl, y, rfl⟩))
    go_ret
    exact ⟨rfl, below_next HB1.out y.2⟩
  by_cases h2 : c ≤ d
  case neg =>
    have t1 : decide (c ≤ d) = false := decide_eq_false h2
    have t2 : decide (a ≤ b) = true := decide_eq_true h1
    go_enter Try.func4, Try.ntmps4
    go_wp2_with fail
    refine rebase _ (fun V1 hV x1 => ?_)
    have HB1 := Lib.hid (bel_at hV (bel_alloc (bel_alloc (Below.refl w.heap.size w) _) _))
    have HC1 := Lib.hid (Cs.at hV (((Cs.nil w).alloc _ _).alloc _ _))
    have hu1 := HC1.out.bx
    simp only [Bx, newCells, join, World.size_alloc] at hu1
    clear hV
    go_wp2_with (first | (go_at_call 8; refine (bel_of (small_any _)).mono ?_; rintro e w' ⟨rfl, y, rfl⟩) | (go_at_call 9; refine (bel_of (has_any _ _ _ _)).mono ?_; rintro e w' ⟨rfl, y, rfl⟩) | (go_at_call 12; refine (bel_of (right_any _ _ _)).mono ?_; rintro e w' ⟨rfl, y, rfl⟩) | (go_at_call 18; refine (bel_of (join_any _ _ _ _ _)).mono ?_; rintro e w' ⟨rfl, y, rfl⟩) | (go_at_call 17; refine (bel_of (meet_any _ _ _ _ _)).mono ?_; rintro e w' ⟨rfl, y, rfl⟩) | (go_at_call 19; refine (bel_of (within_any _ _ _ _ _)).mono ?_; rintro e w' ⟨rfl, y, rfl⟩) | (go_at_call 24; refine (bel_of (of_any _ _)).mono ?_; rintro e w' ⟨rfl, y, rfl⟩) | (go_at_call 15; refine (bel_of (sscale_any _ _ _ _ _)).mono ?_; rintro e w' ⟨rfl, y, rfl⟩) | (go_at_call 10; refine (bel_of (sadd_any _ _ _ _ (by assumption) (by assumption) (by assumption) (by assumption) (by assumption) (by assumption) (by assumption) (by assumption) _)).mono ?_; rintro e w' ⟨rfl, y, rfl⟩) | (go_at_call 11; refine (bel_of (ssub_any _ _ _ _ (by assumption) (by assumption) (by assumption) (by assumption) (by assumption) (by assumption) (by assumption) (by assumption) _)).mono ?_; rintro e w' ⟨rfl, y, rfl⟩) | (go_at_call 20; refine (bel_of (width_any _ _ (by assumption) (by assumption) (by assumption) (by assumption) _)).mono ?_; rintro e w' ⟨rfl, y, rfl⟩) | (go_at_call 13; refine (bel_of_same (add_any _ _ (by assumption) (by assumption) (by assumption) (by assumption) _)).mono ?_; rintro e w' ⟨rfl, y, rfl⟩) | (go_at_call 14; refine (bel_of_same (sub_any _ _ (by assumption) (by assumption) (by assumption) (by assumption) _)).mono ?_; rintro e w' ⟨rfl, y, rfl⟩) | (go_at_call 16; refine (bel_of_drew (scale_any _ _ _ _)).mono ?_; rintro e w' ⟨rfl, y, rfl⟩))
    go_ret
    exact ⟨rfl, below_next HB1.out y.2⟩
  have t1 : decide (a ≤ b) = true := decide_eq_true h1
  have t2 : decide (c ≤ d) = true := decide_eq_true h2
  obtain ⟨p, hp⟩ : ∃ p, (decide (a ≤ n) && decide (n ≤ b)) = p := ⟨_, rfl⟩
  obtain ⟨q, hq⟩ : ∃ q, (decide (c ≤ n) && decide (n ≤ d)) = q := ⟨_, rfl⟩
  by_cases hM : max a c ≤ min b d
  · cases p <;> cases q
    · exact meets_ok_false_false a b c d n w h1 h2 hM hp hq
    · exact meets_ok_false_true a b c d n w h1 h2 hM hp hq
    · exact meets_ok_true_false a b c d n w h1 h2 hM hp hq
    · exact meets_ok_true_true a b c d n w h1 h2 hM hp hq
  · cases p <;> cases q
    · exact meets_no_false_false a b c d n w h1 h2 hM hp hq
    · exact meets_no_false_true a b c d n w h1 h2 hM hp hq
    · exact meets_no_true_false a b c d n w h1 h2 hM hp hq
    · simp only [Bool.and_eq_true, decide_eq_true_eq] at hp hq
      exact absurd (show max a c ≤ min b d by omega) hM

end Go.Proofs.Ytbmjenmfcndnfaa
