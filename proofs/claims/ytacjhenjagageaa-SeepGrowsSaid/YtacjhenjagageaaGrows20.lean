/- SeepGrows: the walk. -/
import Derived.Test.YtacjhenjagageaaSeepM
namespace Go.Proofs.Ytacjhenjagageaa
open Go.RowKit
set_option linter.unusedVariables false
set_option linter.unusedSimpArgs false

set_option maxHeartbeats 8000000 in
set_option maxRecDepth 100000 in
theorem grows20_walk (nm : ByteArray) (kind from' to' : Int) (r0 r1 r2 : Option Addr) (n0 n1 n2 c0 c1 c2 : Nat) (pos sp leak crest num den prime brk bnum bden delay : Int) (a1 a2 b1 b2 c1' c2' : Int) (w : World) :
    Calls Try.prog 6 #[.agg #[.string nm, .int .i64 kind, .int .i64 from', .int .i64 to', .slice r0 n0 c0, .slice r1 n1 c1, .slice r2 n2 c2, .int .i64 pos, .int .i64 sp, .int .i64 leak, .int .i64 crest, .int .i64 num, .int .i64 den, .int .i64 prime, .int .i64 brk, .int .i64 bnum, .int .i64 bden, .int .i64 delay], .agg #[.int .i64 a1, .int .i64 a2], .agg #[.int .i64 b1, .int .i64 b2], .agg #[.int .i64 c1', .int .i64 c2']] w fun e w' => e = .returned (.bool true) ∧ Below w.heap.size w w' := by
  obtain ⟨p1, hp1⟩ : ∃ p, (decide (0 ≤ a1) && decide (a2 ≤ 1125899906842624) && decide (a1 ≤ a2)) = p := ⟨_, rfl⟩
  obtain ⟨p2, hp2⟩ : ∃ p, (decide (0 ≤ b1) && decide (b2 ≤ 1125899906842624) && decide (b1 ≤ b2)) = p := ⟨_, rfl⟩
  obtain ⟨p3, hp3⟩ : ∃ p, (decide (0 ≤ c1') && decide (c2' ≤ 1125899906842624) && decide (c1' ≤ c2')) = p := ⟨_, rfl⟩
  have W1 := Lib.hid (fun w => within20_tell hp1 w)
  have W2 := Lib.hid (fun w => within20_tell hp2 w)
  have W3 := Lib.hid (fun w => within20_tell hp3 w)
  have hin : p1 = true → p2 = true → p3 = true → (0 ≤ a1 ∧ a2 ≤ 1125899906842624 ∧ a1 ≤ a2) ∧ (0 ≤ b1 ∧ b2 ≤ 1125899906842624 ∧ b1 ≤ b2) ∧ (0 ≤ c1' ∧ c2' ≤ 1125899906842624 ∧ c1' ≤ c2') := by
    intro e1 e2 e3
    rw [e1] at hp1
    rw [e2] at hp2
    rw [e3] at hp3
    simp only [Bool.and_eq_true, decide_eq_true_eq] at hp1 hp2 hp3
    omega
  have HIN := Lib.hid hin
  clear hp1 hp2 hp3 hin
  have hgt := span_guardType
  have hst := span_stood
  go_enter Try.func6, Try.ntmps6
  go_wp2_with fail
  refine rebase _ (fun V1 hV x1 => ?_)
  have HB1 := Lib.hid (bel_at hV (bel_alloc (bel_alloc (bel_alloc (bel_alloc (Below.refl w.heap.size w) _) _) _) _))
  have HR1 := Lib.hid (show V1.rangeAt w.heap.size 0 [.string nm, .int .i64 kind, .int .i64 from', .int .i64 to', .slice r0 n0 c0, .slice r1 n1 c1, .slice r2 n2 c2, .int .i64 pos, .int .i64 sp, .int .i64 leak, .int .i64 crest, .int .i64 num, .int .i64 den, .int .i64 prime, .int .i64 brk, .int .i64 bnum, .int .i64 bden, .int .i64 delay] by rw [hV]; exact World.rangeAt_alloc (World.rangeAt_alloc (World.rangeAt_alloc (range_new _ _ _) _) _) _)
  have HC1 := Lib.hid (Cs.at hV (((Cs.nil (w.alloc (.cells #[.string nm, .int .i64 kind, .int .i64 from', .int .i64 to', .slice r0 n0 c0, .slice r1 n1 c1, .slice r2 n2 c2, .int .i64 pos, .int .i64 sp, .int .i64 leak, .int .i64 crest, .int .i64 num, .int .i64 den, .int .i64 prime, .int .i64 brk, .int .i64 bnum, .int .i64 bden, .int .i64 delay] 26))).alloc 30 [.int .i64 a1, .int .i64 a2]).alloc 30 [.int .i64 b1, .int .i64 b2] |>.alloc 30 [.int .i64 c1', .int .i64 c2']))
  have hu1 := HC1.out.bx
  simp only [Bx, newCells, join, World.size_alloc] at hu1
  clear hV
  have f10 := fun z : BelW V1 => BelW.range HR1.out z 11 _ rfl
  have f11 := fun z : BelW V1 => BelW.range HR1.out z 12 _ rfl
  have f14 := fun z : BelW V1 => BelW.range HR1.out z 15 _ rfl
  have f15 := fun z : BelW V1 => BelW.range HR1.out z 16 _ rfl
  simp only [Nat.zero_add] at f10 f11 f14 f15
  refine (bel_of (small_any _)).mono ?_
  rintro e w' ⟨rfl, y0, rfl⟩
  go_wp2_with fail
  refine (bel_of (W1.out _)).mono ?_
  rintro e w' ⟨rfl, y1, rfl⟩
  cases p1 with
  | false =>
    go_wp2_with fail
    go_ret
    exact ⟨rfl, below_next HB1.out y1.2⟩
  | true =>
  go_wp2_with fail
  refine (bel_of (W2.out _)).mono ?_
  rintro e w' ⟨rfl, y2, rfl⟩
  cases p2 with
  | false =>
    go_wp2_with fail
    go_ret
    exact ⟨rfl, below_next HB1.out y2.2⟩
  | true =>
  go_wp2_with fail
  refine (bel_of (W3.out _)).mono ?_
  rintro e w' ⟨rfl, y3, rfl⟩
  cases p3 with
  | false =>
    go_wp2_with fail
    go_ret
    exact ⟨rfl, below_next HB1.out y3.2⟩
  | true =>
  obtain ⟨⟨ha1, ha2, ha3⟩, ⟨hb1, hb2, hb3⟩, ⟨hc1, hc2, hc3⟩⟩ := HIN.out (by trivial) (by trivial) (by trivial)
  by_cases hok : 0 ≤ num ∧ 0 ≤ bnum ∧ num ≤ den ∧ bnum ≤ bden ∧ den ≤ 1125899906842624 ∧ bden ≤ 1125899906842624
  · obtain ⟨k1, k2, k3, k4, k5, k6⟩ := hok
    have m1 : decide (askOf kind num den bnum bden a2 b1 < askOf kind num den bnum bden a1 b1) = false := decide_eq_false (by have := askOf_mono (kind := kind) k3 k4 ha1 ha3 ha2 hb1 (Int.le_refl _) (by omega : b1 ≤ 1125899906842624); omega)
    have m2 : decide (askOf kind num den bnum bden a1 b1 < askOf kind num den bnum bden a1 b2) = false := decide_eq_false (by have := askOf_mono (kind := kind) k3 k4 ha1 (Int.le_refl _) (by omega : a1 ≤ 1125899906842624) hb1 hb3 hb2; omega)
    go_upto_region 4 with fail
    refine wp_region_belx (by kernel_rfl) (by kernel_rfl) ?_
    repeat (first | (with_reducible refine wpQuiet_load_g 26 _ (by with_reducible rfl) _ _ (by with_unfolding_all rfl) (by with_unfolding_all rfl) _ _ (rangeX HR1.out) Try.underlying26 (by with_unfolding_all rfl) (by kernel_rfl) ?_; simp only [Act.put, List.setIfInBounds_toArray, List.set_cons_succ, List.set_cons_zero]) | go_big_quiet_step ((first | (go_at_call 10; with_reducible exact bel_of (ask_any _ _ _ _ _ _ _ _ _ _ _ _ _ _ _ _ _ _ _ _ _ _ _ _ _ _ _)) | (go_at_call 12; with_reducible exact bel_of (bounds_any _ _ _ _ _ _ _ _ _ _ _ _ _ _ _ _ _ _ _ _ _ _ _ _ _ _ _ _ _)) | (go_at_call 22; with_reducible exact bel_of (has_any _ _ _ _)) | (go_at_call 20; with_reducible exact bel_of (within_any _ _ _ _ _)))))
    refine wpQuiet_nil ?_
    intro y4
    by_cases hm : max a1 c1' ≤ min a2 c2'
    · obtain ⟨u1, e1⟩ : ∃ u, max a1 c1' = u := ⟨_, rfl⟩
      obtain ⟨u2, e2⟩ : ∃ u, min a2 c2' = u := ⟨_, rfl⟩
      have MT := Lib.hid (meet_any a1 a2 c1' c2')
      rw [if_pos hm] at MT
      rw [e1, e2] at MT hm
      have q1 : decide (askOf kind num den bnum bden a1 b2 ≤ askOf kind num den bnum bden u1 b2) = true := decide_eq_true (askOf_mono k3 k4 ha1 (by omega) (by omega) (by omega) (Int.le_refl _) hb2)
      have q2 : decide (askOf kind num den bnum bden u2 b1 ≤ askOf kind num den bnum bden a2 b1) = true := decide_eq_true (askOf_mono k3 k4 (by omega) (by omega) ha2 hb1 (Int.le_refl _) (by omega))
      have q3 : decide (askOf kind num den bnum bden b1 c2' ≤ askOf kind num den bnum bden b1 u2) = true := decide_eq_true (askOf_mono k3 k4 hb1 (Int.le_refl _) (by omega) (by omega) (by omega) hc2)
      have q4 : decide (askOf kind num den bnum bden b2 u1 ≤ askOf kind num den bnum bden b2 c1') = true := decide_eq_true (askOf_mono k3 k4 (by omega) (Int.le_refl _) hb2 hc1 (by omega) (by omega))
      clear e1 e2 hm
      go_wp2_with fail
      refine (bel_of (MT.out _)).mono ?_
      rintro e w' ⟨rfl, y5, rfl⟩
      go_upto_region 9 with fail
      refine wp_rebase _ (fun V2 hV x2 => ?_)
      have HB2 := Lib.hid (bel_at hV (bel_alloc (below_next HB1.out y5.2) _))
      have HC2 := Lib.hid (Cs.at hV ((HC1.out.below y5).alloc _ _))
      have HRm := Lib.hid (show V2.rangeAt w.heap.size 0 [.string nm, .int .i64 kind, .int .i64 from', .int .i64 to', .slice r0 n0 c0, .slice r1 n1 c1, .slice r2 n2 c2, .int .i64 pos, .int .i64 sp, .int .i64 leak, .int .i64 crest, .int .i64 num, .int .i64 den, .int .i64 prime, .int .i64 brk, .int .i64 bnum, .int .i64 bden, .int .i64 delay] by rw [hV]; exact World.rangeAt_alloc (BelW.range HR1.out y5) _)
      have hu2 := HC2.out.bx
      simp only [Bx, newCells, join, World.size_alloc] at hu2
      clear hV hu1 HR1 f10 f11 f14 f15
      have HR1 := HRm
      clear HRm
      refine wp_region_belx (by kernel_rfl) (by kernel_rfl) ?_
      repeat (first | (with_reducible refine wpQuiet_load_g 26 _ (by with_reducible rfl) _ _ (by with_unfolding_all rfl) (by with_unfolding_all rfl) _ _ (rangeX HR1.out) Try.underlying26 (by with_unfolding_all rfl) (by kernel_rfl) ?_; simp only [Act.put, List.setIfInBounds_toArray, List.set_cons_succ, List.set_cons_zero]) | go_big_quiet_step ((first | (go_at_call 10; with_reducible exact bel_of (ask_any _ _ _ _ _ _ _ _ _ _ _ _ _ _ _ _ _ _ _ _ _ _ _ _ _ _ _)) | (go_at_call 12; with_reducible exact bel_of (bounds_any _ _ _ _ _ _ _ _ _ _ _ _ _ _ _ _ _ _ _ _ _ _ _ _ _ _ _ _ _)) | (go_at_call 22; with_reducible exact bel_of (has_any _ _ _ _)) | (go_at_call 20; with_reducible exact bel_of (within_any _ _ _ _ _)))))
      refine wpQuiet_nil ?_
      intro y6
      go_wp2_with fail
      go_ret
      exact ⟨rfl, below_next HB2.out y6.2⟩
    · have MT := Lib.hid (meet_any a1 a2 c1' c2')
      rw [if_neg hm] at MT
      go_wp2_with fail
      refine (bel_of (MT.out _)).mono ?_
      rintro e w' ⟨rfl, y5, rfl⟩
      go_wp2_with fail
      go_ret
      exact ⟨rfl, bel_alloc (below_next HB1.out y5.2) _⟩
  · go_wp2_with fail
    all_goals
      first
      | (exfalso; omega)
      | (go_ret
         exact ⟨rfl, below_next HB1.out y3.2⟩)

end Go.Proofs.Ytacjhenjagageaa
