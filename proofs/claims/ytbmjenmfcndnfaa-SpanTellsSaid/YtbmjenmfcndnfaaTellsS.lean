/- SpanTells: package span answers as its reference does. -/
import Derived.Test.YtbmjenmfcndnfaaSmallS
import Derived.Test.YtbmjenmfcndnfaaRefSp
namespace Go.Proofs.Ytbmjenmfcndnfaa
open Go.RowKit

theorem spanRes_is (r : Option (Int × Int)) : ∃ (s1 s2 : Int) (p : Bool), spanRes r = #[.agg #[.int .i64 s1, .int .i64 s2], .bool p] := by
  cases r with
  | none => exact ⟨0, 0, false, rfl⟩
  | some x => exact ⟨x.1, x.2, true, rfl⟩
theorem meetRes_is (a b c d : Int) : ∃ (s1 s2 : Int) (p : Bool), (if a ≤ b then #[.agg #[.int .i64 c, .int .i64 d], .bool true] else #[.agg #[.int .i64 0, .int .i64 0], .bool false] : Array Value) = #[.agg #[.int .i64 s1, .int .i64 s2], .bool p] := by
  by_cases h : a ≤ b
  · exact ⟨c, d, true, if_pos h⟩
  · exact ⟨0, 0, false, if_neg h⟩
theorem right_tell {lo hi : Int} {p : Bool} (h : decide (lo ≤ hi) = p) (w : World) :
    Calls Try.prog 12 #[.agg #[.int .i64 lo, .int .i64 hi]] w fun e w' => e = .returned (.bool p) ∧ Below w.heap.size w w' := h ▸ right_any lo hi w
theorem refright_tell {lo hi : Int} {p : Bool} (h : decide (lo ≤ hi) = p) (w : World) :
    Calls Try.prog 23 #[.agg #[.int .i64 lo, .int .i64 hi]] w fun e w' => e = .returned (.bool p) ∧ Below w.heap.size w w' := h ▸ refright_any lo hi w
theorem has_tell {lo hi n : Int} {p : Bool} (h : (decide (lo ≤ n) && decide (n ≤ hi)) = p) (w : World) :
    Calls Try.prog 9 #[.agg #[.int .i64 lo, .int .i64 hi], .int .i64 n] w fun e w' => e = .returned (.bool p) ∧ Below w.heap.size w w' := h ▸ has_any lo hi n w
theorem refhas_tell {lo hi n : Int} {p : Bool} (h : (decide (lo ≤ n) && decide (n ≤ hi)) = p) (w : World) :
    Calls Try.prog 26 #[.agg #[.int .i64 lo, .int .i64 hi], .int .i64 n] w fun e w' => e = .returned (.bool p) ∧ Below w.heap.size w w' := h ▸ refhas_any lo hi n w
theorem within_tell {a b c d : Int} {p : Bool} (h : (decide (c ≤ a) && decide (b ≤ d)) = p) (w : World) :
    Calls Try.prog 19 #[.agg #[.int .i64 a, .int .i64 b], .agg #[.int .i64 c, .int .i64 d]] w fun e w' => e = .returned (.bool p) ∧ Below w.heap.size w w' := h ▸ within_any a b c d w
theorem refwithin_tell {a b c d : Int} {p : Bool} (h : (decide (c ≤ a) && decide (b ≤ d)) = p) (w : World) :
    Calls Try.prog 30 #[.agg #[.int .i64 a, .int .i64 b], .agg #[.int .i64 c, .int .i64 d]] w fun e w' => e = .returned (.bool p) ∧ Below w.heap.size w w' := h ▸ refwithin_any a b c d w

set_option maxHeartbeats 8000000 in
set_option maxRecDepth 100000 in
theorem tells_walk (a b c d n num den : Int) (a_1 : -9223372036854775808 ≤ a) (a_2 : a ≤ 9223372036854775807) (b_1 : -9223372036854775808 ≤ b) (b_2 : b ≤ 9223372036854775807) (c_1 : -9223372036854775808 ≤ c) (c_2 : c ≤ 9223372036854775807) (d_1 : -9223372036854775808 ≤ d) (d_2 : d ≤ 9223372036854775807) (w : World) :
    Calls Try.prog 6 #[.agg #[.int .i64 a, .int .i64 b], .agg #[.int .i64 c, .int .i64 d], .int .i64 n, .int .i64 num, .int .i64 den] w fun e w' => e = .returned (.bool true) ∧ Below w.heap.size w w' := by
  obtain ⟨s1, s2, p1, hs⟩ := spanRes_is (Xa.sscale a b num den)
  obtain ⟨m1, m2, p2, hm⟩ := meetRes_is (max a c) (min b d) (max a c) (min b d)
  have SA := Lib.hid (sscale_any a b num den)
  have SB := Lib.hid (refsscale_any a b num den)
  have MA := Lib.hid (meet_any a b c d)
  have MB := Lib.hid (refmeet_any a b c d)
  rw [hs] at SA SB
  rw [hm] at MA MB
  clear hs hm
  obtain ⟨p3, h3⟩ : ∃ p, decide (a ≤ b) = p := ⟨_, rfl⟩
  obtain ⟨p4, h4⟩ : ∃ p, (decide (a ≤ n) && decide (n ≤ b)) = p := ⟨_, rfl⟩
  obtain ⟨p5, h5⟩ : ∃ p, (decide (c ≤ a) && decide (b ≤ d)) = p := ⟨_, rfl⟩
  have e1 : (p1 != p1) = false := bne_self_eq_false p1
  have e2 : (p2 != p2) = false := bne_self_eq_false p2
  have e3 : (p3 == p3) = true := beq_self_eq_true p3
  have e4 : (p4 == p4) = true := beq_self_eq_true p4
  have e5 : (p5 == p5) = true := beq_self_eq_true p5
  have e6 : (Xa.sub b a == Xa.sub b a) = true := beq_self_eq_true _
  have hgt := span_guardType
  have hst := span_stood
  go_enter Try.func6, Try.ntmps6
  go_wp2_with fail
  refine rebase _ (fun V1 hV x1 => ?_)
  have HB1 := Lib.hid (bel_at hV (bel_alloc (bel_alloc (Below.refl w.heap.size w) _) _))
  have HC1 := Lib.hid (Cs.at hV (((Cs.nil w).alloc _ _).alloc _ _))
  have hu1 := HC1.out.bx
  simp only [Bx, newCells, join, World.size_alloc] at hu1
  clear hV
  refine (bel_of (small_any _)).mono ?_
  rintro e w' ⟨rfl, y1, rfl⟩
  go_wp2_with fail
  refine (bel_of (SA.out _)).mono ?_
  rintro e w' ⟨rfl, y2, rfl⟩
  go_upto_region 3 with fail
  refine wp_rebase _ (fun V2 hV x2 => ?_)
  have HB2 := Lib.hid (bel_at hV (bel_alloc (below_next HB1.out y2.2) _))
  have HC2 := Lib.hid (Cs.at hV ((HC1.out.below y2).alloc _ _))
  have hu2 := HC2.out.bx
  simp only [Bx, newCells, join, World.size_alloc] at hu2
  clear hV hu1
  go_wp2_with fail
  refine (bel_of (SB.out _)).mono ?_
  rintro e w' ⟨rfl, y3, rfl⟩
  go_upto_region 4 with fail
  refine wp_rebase _ (fun V3 hV x3 => ?_)
  have HB3 := Lib.hid (bel_at hV (bel_alloc (below_next HB2.out y3.2) _))
  have HC3 := Lib.hid (Cs.at hV ((HC2.out.below y3).alloc _ _))
  have hu3 := HC3.out.bx
  simp only [Bx, newCells, join, World.size_alloc] at hu3
  clear hV hu2
  go_wp2_with fail
  refine (bel_of (MA.out _)).mono ?_
  rintro e w' ⟨rfl, y4, rfl⟩
  go_upto_region 5 with fail
  refine wp_rebase _ (fun V4 hV x4 => ?_)
  have HB4 := Lib.hid (bel_at hV (bel_alloc (below_next HB3.out y4.2) _))
  have HC4 := Lib.hid (Cs.at hV ((HC3.out.below y4).alloc _ _))
  have hu4 := HC4.out.bx
  simp only [Bx, newCells, join, World.size_alloc] at hu4
  clear hV hu3
  go_wp2_with fail
  refine (bel_of (MB.out _)).mono ?_
  rintro e w' ⟨rfl, y5, rfl⟩
  go_upto_region 6 with fail
  refine wp_rebase _ (fun V5 hV x5 => ?_)
  have HB5 := Lib.hid (bel_at hV (bel_alloc (below_next HB4.out y5.2) _))
  have HC5 := Lib.hid (Cs.at hV ((HC4.out.below y5).alloc _ _))
  have hu5 := HC5.out.bx
  simp only [Bx, newCells, join, World.size_alloc] at hu5
  clear hV hu4
  go_upto_region 8 with fail
  refine wp_region_belx (by kernel_rfl) (by kernel_rfl) ?_
  repeat (go_big_quiet_step ((first | (go_at_call 12; exact bel_of (right_tell (by assumption) _)) | (go_at_call 9; exact bel_of (has_tell (by assumption) _)) | (go_at_call 19; exact bel_of (within_tell (by assumption) _)) | (go_at_call 24; exact bel_of (of_any _ _)) | (go_at_call 18; exact bel_of (join_any _ _ _ _ _)) | (go_at_call 10; exact bel_of (sadd_any _ _ _ _ (by assumption) (by assumption) (by assumption) (by assumption) (by assumption) (by assumption) (by assumption) (by assumption) _)) | (go_at_call 11; exact bel_of (ssub_any _ _ _ _ (by assumption) (by assumption) (by assumption) (by assumption) (by assumption) (by assumption) (by assumption) (by assumption) _)) | (go_at_call 20; exact bel_of (width_any _ _ (by assumption) (by assumption) (by assumption) (by assumption) _)) | (go_at_call 23; exact bel_of (refright_tell (by assumption) _)) | (go_at_call 26; exact bel_of (refhas_tell (by assumption) _)) | (go_at_call 30; exact bel_of (refwithin_tell (by assumption) _)) | (go_at_call 25; exact bel_of (refof_any _ _)) | (go_at_call 29; exact bel_of (refjoin_any _ _ _ _ _)) | (go_at_call 27; exact bel_of (refsadd_any _ _ _ _ (by assumption) (by assumption) (by assumption) (by assumption) (by assumption) (by assumption) (by assumption) (by assumption) _)) | (go_at_call 28; exact bel_of (refssub_any _ _ _ _ (by assumption) (by assumption) (by assumption) (by assumption) (by assumption) (by assumption) (by assumption) (by assumption) _)) | (go_at_call 31; exact bel_of (refwidth_any _ _ (by assumption) (by assumption) (by assumption) (by assumption) _)))))
  refine wpQuiet_nil ?_
  intro z1
  go_upto_region 9 with fail
  refine wp_region_belx (by kernel_rfl) (by kernel_rfl) ?_
  repeat (go_big_quiet_step ((first | (go_at_call 12; exact bel_of (right_tell (by assumption) _)) | (go_at_call 9; exact bel_of (has_tell (by assumption) _)) | (go_at_call 19; exact bel_of (within_tell (by assumption) _)) | (go_at_call 24; exact bel_of (of_any _ _)) | (go_at_call 18; exact bel_of (join_any _ _ _ _ _)) | (go_at_call 10; exact bel_of (sadd_any _ _ _ _ (by assumption) (by assumption) (by assumption) (by assumption) (by assumption) (by assumption) (by assumption) (by assumption) _)) | (go_at_call 11; exact bel_of (ssub_any _ _ _ _ (by assumption) (by assumption) (by assumption) (by assumption) (by assumption) (by assumption) (by assumption) (by assumption) _)) | (go_at_call 20; exact bel_of (width_any _ _ (by assumption) (by assumption) (by assumption) (by assumption) _)) | (go_at_call 23; exact bel_of (refright_tell (by assumption) _)) | (go_at_call 26; exact bel_of (refhas_tell (by assumption) _)) | (go_at_call 30; exact bel_of (refwithin_tell (by assumption) _)) | (go_at_call 25; exact bel_of (refof_any _ _)) | (go_at_call 29; exact bel_of (refjoin_any _ _ _ _ _)) | (go_at_call 27; exact bel_of (refsadd_any _ _ _ _ (by assumption) (by assumption) (by assumption) (by assumption) (by assumption) (by assumption) (by assumption) (by assumption) _)) | (go_at_call 28; exact bel_of (refssub_any _ _ _ _ (by assumption) (by assumption) (by assumption) (by assumption) (by assumption) (by assumption) (by assumption) (by assumption) _)) | (go_at_call 31; exact bel_of (refwidth_any _ _ (by assumption) (by assumption) (by assumption) (by assumption) _)))))
  refine wpQuiet_nil ?_
  intro z2
  go_upto_region 10 with fail
  refine wp_region_belx (by kernel_rfl) (by kernel_rfl) ?_
  repeat (go_big_quiet_step ((first | (go_at_call 12; exact bel_of (right_tell (by assumption) _)) | (go_at_call 9; exact bel_of (has_tell (by assumption) _)) | (go_at_call 19; exact bel_of (within_tell (by assumption) _)) | (go_at_call 24; exact bel_of (of_any _ _)) | (go_at_call 18; exact bel_of (join_any _ _ _ _ _)) | (go_at_call 10; exact bel_of (sadd_any _ _ _ _ (by assumption) (by assumption) (by assumption) (by assumption) (by assumption) (by assumption) (by assumption) (by assumption) _)) | (go_at_call 11; exact bel_of (ssub_any _ _ _ _ (by assumption) (by assumption) (by assumption) (by assumption) (by assumption) (by assumption) (by assumption) (by assumption) _)) | (go_at_call 20; exact bel_of (width_any _ _ (by assumption) (by assumption) (by assumption) (by assumption) _)) | (go_at_call 23; exact bel_of (refright_tell (by assumption) _)) | (go_at_call 26; exact bel_of (refhas_tell (by assumption) _)) | (go_at_call 30; exact bel_of (refwithin_tell (by assumption) _)) | (go_at_call 25; exact bel_of (refof_any _ _)) | (go_at_call 29; exact bel_of (refjoin_any _ _ _ _ _)) | (go_at_call 27; exact bel_of (refsadd_any _ _ _ _ (by assumption) (by assumption) (by assumption) (by assumption) (by assumption) (by assumption) (by assumption) (by assumption) _)) | (go_at_call 28; exact bel_of (refssub_any _ _ _ _ (by assumption) (by assumption) (by assumption) (by assumption) (by assumption) (by assumption) (by assumption) (by assumption) _)) | (go_at_call 31; exact bel_of (refwidth_any _ _ (by assumption) (by assumption) (by assumption) (by assumption) _)))))
  refine wpQuiet_nil ?_
  intro z3
  go_wp2_with fail
  go_ret
  exact ⟨rfl, below_next HB5.out z3.2⟩

end Go.Proofs.Ytbmjenmfcndnfaa
