/- Contracts of package span, over pairs of ends. -/
import Derived.Test.YtafnmaojpheppaaExact
import Derived.Test.YtafnmaojpheppaaBel
import Derived.Test.YtafnmaojpheppaaSpanEq
import Derived.Deep.RegionHeld3
import Derived.Handy
namespace Go.Proofs.Ytafnmaojpheppaa
open Go.RowKit
set_option linter.unusedVariables false
set_option linter.unusedSimpArgs false

theorem right_any (lo hi : Int) (w : World) :
    Calls Try.prog 22 #[.agg #[.int .i64 lo, .int .i64 hi]] w fun e w' => e = .returned (.bool (decide (lo ≤ hi))) ∧ Below w.heap.size w w' := by
  go_enter Try.func22, Try.ntmps22
  go_wp2_with fail
  go_ret
  exact ⟨rfl, by go_grown⟩

theorem of_any (n : Int) (w : World) :
    Calls Try.prog 25 #[.int .i64 n] w fun e w' => e = .returned (.agg #[.int .i64 n, .int .i64 n]) ∧ Below w.heap.size w w' := by
  go_enter Try.func25, Try.ntmps25
  go_wp2_with fail
  exact bodyPost_ret (v := .agg #[.int .i64 n, .int .i64 n]) (by simp [results, Try.results25, go_sem]) rfl ⟨rfl, by go_grown⟩

theorem has_any (lo hi n : Int) (w : World) :
    Calls Try.prog 20 #[.agg #[.int .i64 lo, .int .i64 hi], .int .i64 n] w fun e w' => e = .returned (.bool (decide (lo ≤ n) && decide (n ≤ hi))) ∧ Below w.heap.size w w' := by
  by_cases h : lo ≤ n
  · have t1 : decide (lo ≤ n) = true := decide_eq_true h
    go_enter Try.func20, Try.ntmps20
    go_wp2_with fail
    go_ret
    exact ⟨ret_bool (by simp [h]), by go_grown⟩
  · have t1 : decide (lo ≤ n) = false := decide_eq_false h
    go_enter Try.func20, Try.ntmps20
    go_wp2_with fail
    go_ret
    exact ⟨ret_bool (by simp), by go_grown⟩

set_option maxHeartbeats 1000000 in
theorem sadd_any (a b c d : Int) (a1 : -9223372036854775808 ≤ a) (a2 : a ≤ 9223372036854775807) (b1 : -9223372036854775808 ≤ b) (b2 : b ≤ 9223372036854775807) (c1 : -9223372036854775808 ≤ c) (c2 : c ≤ 9223372036854775807) (d1 : -9223372036854775808 ≤ d) (d2 : d ≤ 9223372036854775807) (w : World) :
    Calls Try.prog 23 #[.agg #[.int .i64 a, .int .i64 b], .agg #[.int .i64 c, .int .i64 d]] w fun e w' => e = .returned (.agg #[.int .i64 (Xa.add a c), .int .i64 (Xa.add b d)]) ∧ Below w.heap.size w w' := by
  go_enter Try.func23, Try.ntmps23
  go_wp2_with fail
  go_region_held3 (fun w' => w'.cell? ⟨w.heap.size, 0, none⟩ = some (.int .i64 a) ∧ w'.cell? ⟨w.heap.size, 1, none⟩ = some (.int .i64 b) ∧ w'.cell? ⟨w.heap.size + 1, 0, none⟩ = some (.int .i64 c) ∧ w'.cell? ⟨w.heap.size + 1, 1, none⟩ = some (.int .i64 d)) (go_keep) (first | (go_at_call 18; refine (add_any _ _ ?_ ?_ ?_ ?_ _).mono ?_; assumption; assumption; assumption; assumption; rintro e w' ⟨rfl, rfl⟩))
  all_goals
    go_wp2_with fail
    exact bodyPost_ret (v := .agg #[.int .i64 (Xa.add a c), .int .i64 (Xa.add b d)]) (by simp [results, Try.results23, go_sem]) rfl ⟨rfl, by go_grown⟩



theorem join_any (a b c d : Int) (w : World) :
    Calls Try.prog 37 #[.agg #[.int .i64 a, .int .i64 b], .agg #[.int .i64 c, .int .i64 d]] w fun e w' => e = .returned (.agg #[.int .i64 (min a c), .int .i64 (max b d)]) ∧ Below w.heap.size w w' := by
  go_enter Try.func37, Try.ntmps37
  go_wp2_with fail
  exact bodyPost_ret (v := .agg #[.int .i64 (min a c), .int .i64 (max b d)]) (by simp [results, Try.results37, go_sem]) rfl ⟨rfl, by go_grown⟩

theorem meet_any (a b c d : Int) (w : World) :
    Calls Try.prog 28 #[.agg #[.int .i64 a, .int .i64 b], .agg #[.int .i64 c, .int .i64 d]] w fun e w' => e = .returned (.tuple (if max a c ≤ min b d then #[.agg #[.int .i64 (max a c), .int .i64 (min b d)], .bool true] else #[.agg #[.int .i64 0, .int .i64 0], .bool false])) ∧ Below w.heap.size w w' := by
  by_cases h : max a c ≤ min b d
  · rw [if_pos h]
    have t1 : decide (max a c ≤ min b d) = true := decide_eq_true h
    go_enter Try.func28, Try.ntmps28
    go_wp2_with fail
    refine (right_any _ _ _).mono ?_
    rintro e w1 ⟨rfl, hb⟩
    obtain ⟨hc, hf⟩ := bcell hb
    have hB : Below w.heap.size w w1 := below_next (by go_grown) hb
    have hz : w.heap.size + 3 < w1.heap.size := by have := hb.size; simp at this; omega
    clear hb
    go_wp2_with fail
    exact bodyPost_ret (v := .tuple #[.agg #[.int .i64 (max a c), .int .i64 (min b d)], .bool true]) (by simp [results, Try.results28, go_sem, hc]) rfl ⟨rfl, by go_grown⟩
  · rw [if_neg h]
    have t1 : decide (max a c ≤ min b d) = false := decide_eq_false h
    go_enter Try.func28, Try.ntmps28
    go_wp2_with fail
    refine (right_any _ _ _).mono ?_
    rintro e w1 ⟨rfl, hb⟩
    obtain ⟨hc, hf⟩ := bcell hb
    have hB : Below w.heap.size w w1 := below_next (by go_grown) hb
    have hz : w.heap.size + 3 < w1.heap.size := by have := hb.size; simp at this; omega
    clear hb
    go_wp2_with fail
    exact bodyPost_ret (v := .tuple #[.agg #[.int .i64 0, .int .i64 0], .bool false]) (by simp [results, Try.results28, go_sem, hc]) rfl ⟨rfl, by go_grown⟩

theorem width_any (a b : Int) (a1 : -9223372036854775808 ≤ a) (a2 : a ≤ 9223372036854775807) (b1 : -9223372036854775808 ≤ b) (b2 : b ≤ 9223372036854775807) (w : World) :
    Calls Try.prog 26 #[.agg #[.int .i64 a, .int .i64 b]] w fun e w' => e = .returned (.int .i64 (Xa.sub b a)) ∧ Below w.heap.size w w' := by
  go_enter Try.func26, Try.ntmps26
  go_wp2_with fail
  refine (sub_any _ _ b1 b2 a1 a2 _).mono ?_
  rintro e w' ⟨rfl, rfl⟩
  go_wp2_with fail
  go_ret
  exact ⟨rfl, by go_grown⟩

theorem min_ne {a c : Int} (h : ¬ c ≤ a) : ¬ min a c = c := by omega
theorem max_ne {b d : Int} (h : ¬ b ≤ d) : ¬ max b d = d := by omega

theorem within_any (a b c d : Int) (w : World) :
    Calls Try.prog 24 #[.agg #[.int .i64 a, .int .i64 b], .agg #[.int .i64 c, .int .i64 d]] w fun e w' => e = .returned (.bool (decide (c ≤ a) && decide (b ≤ d))) ∧ Below w.heap.size w w' := by
  go_enter Try.func24, Try.ntmps24
  go_wp2_with fail
  obtain ⟨W, hW⟩ : ∃ W, W = (w.alloc (.cells #[.int .i64 a, .int .i64 b] 40)).alloc (.cells #[.int .i64 c, .int .i64 d] 40) := ⟨_, rfl⟩
  have hb : Below w.heap.size w W := by subst hW; go_grown
  have h0 : W.cell? ⟨w.heap.size, 0, none⟩ = some (.int .i64 a) := by subst hW; simp [go_sem]
  have h1 : W.cell? ⟨w.heap.size, 1, none⟩ = some (.int .i64 b) := by subst hW; simp [go_sem]
  have h2 : W.cell? ⟨w.heap.size + 1, 0, none⟩ = some (.int .i64 c) := by subst hW; simp [go_sem]
  have h3 : W.cell? ⟨w.heap.size + 1, 1, none⟩ = some (.int .i64 d) := by subst hW; simp [go_sem]
  rw [← hW]
  clear hW
  have hgt := span_guardType
  have hst := span_stood
  have c0 := fun x : BelW W => BelW.cell h0 x
  have c1 := fun x : BelW W => BelW.cell h1 x
  have c2 := fun x : BelW W => BelW.cell h2 x
  have c3 := fun x : BelW W => BelW.cell h3 x
  refine wp_region_bel (by kernel_rfl) (by kernel_rfl) ?_
  by_cases e1 : c ≤ a
  · have m1 : min a c = c := by omega
    by_cases e2 : b ≤ d
    · have m2 : max b d = d := by omega
      repeat (go_big_quiet_step ((go_at_call 37; exact bel_of (join_any _ _ _ _ _))))
      refine wpQuiet_nil ?_
      intro w1 hb1
      have hB : Below w.heap.size w w1 := below_next hb hb1
      clear c0 c1 c2 c3
      go_wp2_with fail
      go_ret
      exact ⟨ret_bool (by rw [decide_eq_true e1, decide_eq_true e2]; rfl), hB⟩
    · have m2 := max_ne e2
      repeat (go_big_quiet_step ((go_at_call 37; exact bel_of (join_any _ _ _ _ _))))
      refine wpQuiet_nil ?_
      intro w1 hb1
      have hB : Below w.heap.size w w1 := below_next hb hb1
      clear c0 c1 c2 c3
      go_wp2_with fail
      go_ret
      exact ⟨ret_bool (by have e3 := decide_eq_false (show ¬ b ≤ d by omega); simp [e3]), hB⟩
  · have m1 := min_ne e1
    repeat (go_big_quiet_step ((go_at_call 37; exact bel_of (join_any _ _ _ _ _))))
    refine wpQuiet_nil ?_
    intro w1 hb1
    have hB : Below w.heap.size w w1 := below_next hb hb1
    clear c0 c1 c2 c3
    go_wp2_with fail
    go_ret
    exact ⟨ret_bool (by rw [decide_eq_false (show ¬ c ≤ a by omega), Bool.false_and]), hB⟩

end Go.Proofs.Ytafnmaojpheppaa
