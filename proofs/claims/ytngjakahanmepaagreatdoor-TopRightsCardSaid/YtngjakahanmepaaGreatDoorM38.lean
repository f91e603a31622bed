/- Part 38 of the proof of TopRights: step.copied at the state at the beginning. Printed by wip/tools/mkcop.py. (*hour).links, (*hour).swaps at the lake. Printed by wip/tools/mkh1.py. (*hour).rain at the lake. Printed by wip/tools/mkh2.py. -/
import Derived.Test.YtngjakahanmepaaGreatDoorM37
import Derived.Test.YtngjakahanmepaaGreatDoorM30
namespace Go.Proofs.YtngjakahanmepaaGreatDoor
open Go.RowKit
set_option linter.unusedVariables false
set_option linter.unusedSimpArgs false
def gate0 : List Value := [.int .i64 0, .int .i64 0, .bool false, .bool false]
def GcB (w : World) (e : Ending) (w' : World) : Prop := ∃ g c, e = .returned (.slice (some ⟨g, 0, none⟩) 1 c) ∧ Bo w' g gate0 ∧ w.heap.size ≤ g ∧ Below w.heap.size w w'
set_option maxHeartbeats 4000000 in
theorem gclone_bo (b c : Nat) (w : World) (hr : Rd w (some ⟨b, 0, none⟩) gate0) : Calls Tryz.prog 59 #[.slice (some ⟨b, 0, none⟩) 1 c] w (GcB w) := by
  obtain ⟨i0, hi0, hz0, hz1, hz2⟩ := info_parts info_gate
  have INF := Lib.hid (And.intro hi0 (And.intro hz0 (And.intro hz1 hz2)))
  have HR := Lib.hid hr
  have he : ∀ W, (binOp .eql 53 (.slice (some ⟨b, 0, none⟩) 1 c) (.slice none 0 0)).run Tryz.prog W = .ok (.bool false) W := fun W => Lib.run_eql_slice_nil (P := Tryz.prog) W 53 115 (some ⟨b, 0, none⟩) 1 c 0 0 Tryz.underlying53
  clear hr hi0 hz0 hz1 hz2
  go_enter Tryz.func59, Tryz.ntmps59
  go_wp2_with (first | (at_builtin; refine wpList_append_rd _ rfl _ _ _ (by rfl) w.heap.size 115 i0 _ 4 24 Tryz.underlying53 INF.out.1 INF.out.2.1 INF.out.2.2.1 INF.out.2.2.2 rfl (by omega) _ 0 [] (by rfl) (own_empty _ _ (Nat.le_refl _)) (some ⟨b, 0, none⟩) 1 c gate0 (by rfl) (fun h => by cases h) (by rfl) (HR.out.alloc _) (by decide) (by unfold maxLen; omega) (by omega) (by rw [World.size_alloc]; omega) ?_))
  intro v w1 hown hgrow hat
  have hb1 : Below w.heap.size w w1 := (bel_alloc (Below.refl _ _) _).grown hgrow (bel_alloc (Below.refl _ _) _).size (fun k hk => by simp [Value.ownBlock] at hk; omega)
  have hown' : w1.ownsRow w.heap.size 115 4 v 1 gate0 := by simpa using hown
  obtain ⟨g, cap, rfl, _, _, hge, _, _⟩ := own_rd2 hown' (by omega)
  have HF := Lib.hid (show GcB w (.returned (.slice (some ⟨g, 0, none⟩) 1 cap)) w1 from ⟨g, cap, rfl, Bo.of_own hown', hge, hb1⟩)
  clear hown hgrow hat hb1 hown' hge
  go_wp2_with fail
  go_ret
  exact HF.out
/-- the state at the beginning in memory -/
def stMem (g4 g8 g12 g16 g20 a ac b bc c cc : Nat) : List (Nat × List Value) := [(c, ints [0, 0]), (b, ints [100, 0]), (a, ints [600, 300]), (g4, [rowV a ac, rowV b bc, rowV c cc]), (g8, ints [0, 0, 0]), (g12, [.int .i64 0, .int .i64 0, .bool false, .bool false]), (g16, ints [0, 0]), (g20, ints [0, 0])]
def stB (g4 g8 g12 g16 g20 : Nat) : Value := .agg #[.int .i64 0, .slice (some ⟨g4, 0, none⟩) 3 3, .slice (some ⟨g8, 0, none⟩) 3 3, .slice none 0 0, .slice (some ⟨g12, 0, none⟩) 1 1, .slice (some ⟨g16, 0, none⟩) 2 2, .slice (some ⟨g20, 0, none⟩) 2 2]
/-- the copy in memory -/
structure CopQ (w : World) (e : Ending) (w' : World) : Prop where
  ex : ∃ o r rc gt gc i ic u uc a' ac' b' bc' c' cc', e = .returned (.agg #[.int .i64 0, .slice (some ⟨o, 0, none⟩) 3 3, .slice (some ⟨r, 0, none⟩) 3 rc, .slice none 0 0, .slice (some ⟨gt, 0, none⟩) 1 gc, .slice (some ⟨i, 0, none⟩) 2 ic, .slice (some ⟨u, 0, none⟩) 2 uc]) ∧ MB w w' [(u, ints [0, 0]), (i, ints [0, 0]), (gt, gate0), (r, ints [0, 0, 0]), (c', ints [0, 0]), (b', ints [100, 0]), (a', ints [600, 300]), (o, [rowV a' ac', rowV b' bc', rowV c' cc'])]
set_option maxHeartbeats 16000000 in
set_option maxRecDepth 100000 in
theorem copied_is (g4 g8 g12 g16 g20 a ac b bc c cc : Nat) (w : World) (hm : Mem w (stMem g4 g8 g12 g16 g20 a ac b bc c cc)) : Calls Tryz.prog 29 #[stB g4 g8 g12 g16 g20] w (CopQ w) := by
  obtain ⟨ir, hr0, hr1, hr2, hr3⟩ := info_parts info_rows
  have hml : 3 ≤ maxLen := by unfold maxLen; omega
  have hbt : ir.bytes * 3 ≤ 281474976710656 := by rw [hr3]; omega
  have INF := Lib.hid (And.intro hr0 (And.intro hr1 (And.intro hr2 (And.intro hbt hml))))
  have HS := Lib.hid hm
  clear hr0 hr1 hr2 hr3 hml hbt hm
  show Calls Tryz.prog 29 #[.agg #[.int .i64 0, .slice (some ⟨g4, 0, none⟩) 3 3, .slice (some ⟨g8, 0, none⟩) 3 3, .slice none 0 0, .slice (some ⟨g12, 0, none⟩) 1 1, .slice (some ⟨g16, 0, none⟩) 2 2, .slice (some ⟨g20, 0, none⟩) 2 2]] w (CopQ w)
  go_enter Tryz.func29, Tryz.ntmps29
  go_upto_region 1 with fail
  refine wp_named _ (fun W0 hW0 => ?_)
  have HM1 := Lib.hid (show MB w W0 [(w.heap.size + 1, [.int .i64 0, .slice none 0 0, .slice none 0 0, .slice none 0 0, .slice none 0 0, .slice none 0 0, .slice none 0 0]), (w.heap.size, [.int .i64 0, .slice (some ⟨g4, 0, none⟩) 3 3, .slice (some ⟨g8, 0, none⟩) 3 3, .slice none 0 0, .slice (some ⟨g12, 0, none⟩) 1 1, .slice (some ⟨g16, 0, none⟩) 2 2, .slice (some ⟨g20, 0, none⟩) 2 2])] by
    rw [hW0]
    exact ((MB.nil w).new 55 [.int .i64 0, .slice (some ⟨g4, 0, none⟩) 3 3, .slice (some ⟨g8, 0, none⟩) 3 3, .slice none 0 0, .slice (some ⟨g12, 0, none⟩) 1 1, .slice (some ⟨g16, 0, none⟩) 2 2, .slice (some ⟨g20, 0, none⟩) 2 2]).newAt (by rw [World.size_alloc]) 55 [.int .i64 0, .slice none 0 0, .slice none 0 0, .slice none 0 0, .slice none 0 0, .slice none 0 0, .slice none 0 0])
  clear hW0
  have b2 : W0.cell? ⟨w.heap.size, 1, none⟩ = some (.slice (some ⟨g4, 0, none⟩) 3 3) := (HM1.out.box 1 rfl (Below.refl _ _)).cell 1 rfl
  go_upto_region 2 with (first | (at_make; refine wpList_make_full _ rfl _ _ 51 rfl W0.heap.size 29 ir (.slice none 0 0) 1 Tryz.underlying51 INF.out.1 INF.out.2.1 INF.out.2.2.1 _ _ _ _ 3 (by rfl) (by rfl) (by rfl) (by rfl) INF.out.2.2.2.1 INF.out.2.2.2.2 (Nat.le_refl _) ?_))
  intro W1 hown hgr
  obtain ⟨o, ho⟩ : ∃ n, W0.heap.size = n := ⟨_, rfl⟩
  rw [ho] at hown ⊢
  have hmc : (madeCells #[Value.slice none 0 0] 3).toList = [.slice none 0 0, .slice none 0 0, .slice none 0 0] := by kernel_rfl
  rw [hmc] at hown
  clear hmc
  have HM3 := Lib.hid (show MB w W1 [(o, [.slice none 0 0, .slice none 0 0, .slice none 0 0]), (w.heap.size + 1, [.int .i64 0, .slice none 0 0, .slice none 0 0, .slice none 0 0, .slice none 0 0, .slice none 0 0, .slice none 0 0]), (w.heap.size, [.int .i64 0, .slice (some ⟨g4, 0, none⟩) 3 3, .slice (some ⟨g8, 0, none⟩) 3 3, .slice none 0 0, .slice (some ⟨g12, 0, none⟩) 1 1, .slice (some ⟨g16, 0, none⟩) 2 2, .slice (some ⟨g20, 0, none⟩) 2 2])] by
    exact HM1.out.add (below_grown (Below.refl _ _) hgr (fun k hk => by cases hk)) (Bo.of_own hown) (Nat.le_of_eq ho))
  clear hown hgr ho HM1 b2
  have b4 : W1.cell? ⟨w.heap.size, 1, none⟩ = some (.slice (some ⟨g4, 0, none⟩) 3 3) := (HM3.out.box 2 rfl (Below.refl _ _)).cell 1 rfl
  go_wp2_with fail
  refine wp_loop_rounds 4 ?_
  rw [rounds_succ]
  have b5 : W1.cell? ⟨g4, 0, none⟩ = some (.slice (some ⟨a, 0, none⟩) 2 ac) := ((HS.out.get 3 rfl).next HM3.out.bel).cell 0 rfl
  have HC := Lib.hid (clone_bo a ac 2 [600, 300] rfl (by omega) (by omega) W1 ((HS.out.get 2 rfl).next HM3.out.bel).rd)
  go_wp2_with (first | (go_at_call 28; (refine (HC.out).mono ?_)))
  rintro e w2 ⟨a', ac', rfl, hbo, hge, hB⟩
  have HM6 := Lib.hid (show MB w w2 [(a', ints [600, 300]), (o, [.slice none 0 0, .slice none 0 0, .slice none 0 0]), (w.heap.size + 1, [.int .i64 0, .slice none 0 0, .slice none 0 0, .slice none 0 0, .slice none 0 0, .slice none 0 0, .slice none 0 0]), (w.heap.size, [.int .i64 0, .slice (some ⟨g4, 0, none⟩) 3 3, .slice (some ⟨g8, 0, none⟩) 3 3, .slice none 0 0, .slice (some ⟨g12, 0, none⟩) 1 1, .slice (some ⟨g16, 0, none⟩) 2 2, .slice (some ⟨g20, 0, none⟩) 2 2])] by
    exact HM3.out.add hB hbo hge)
  clear hbo hge hB HC b5 HM3
  go_wp2_with (first | (refine wpList_store_cell rfl 29 _ _ (by with_reducible rfl) o 0 (.slice (some ⟨a', 0, none⟩) 2 ac') (by with_unfolding_all rfl) (by with_unfolding_all rfl) (HM6.out.get 1 rfl) (by simp) (by kernel_rfl) rfl ?_))
  intro W2 hW2
  have HM7 := Lib.hid (show MB w W2 [(a', ints [600, 300]), (o, [.slice (some ⟨a', 0, none⟩) 2 ac', .slice none 0 0, .slice none 0 0]), (w.heap.size + 1, [.int .i64 0, .slice none 0 0, .slice none 0 0, .slice none 0 0, .slice none 0 0, .slice none 0 0, .slice none 0 0]), (w.heap.size, [.int .i64 0, .slice (some ⟨g4, 0, none⟩) 3 3, .slice (some ⟨g8, 0, none⟩) 3 3, .slice none 0 0, .slice (some ⟨g12, 0, none⟩) 1 1, .slice (some ⟨g16, 0, none⟩) 2 2, .slice (some ⟨g20, 0, none⟩) 2 2])] by
    rw [hW2.out]
    exact HM6.out.put 1 rfl (j := 0) (by simp) (.slice (some ⟨a', 0, none⟩) 2 ac'))
  clear hW2 HM6
  go_wp2_with fail
  rw [rounds_succ]
  have b8 : W2.cell? ⟨g4, 1, none⟩ = some (.slice (some ⟨b, 0, none⟩) 2 bc) := ((HS.out.get 3 rfl).next HM7.out.bel).cell 1 rfl
  have HC := Lib.hid (clone_bo b bc 2 [100, 0] rfl (by omega) (by omega) W2 ((HS.out.get 1 rfl).next HM7.out.bel).rd)
  go_wp2_with (first | (go_at_call 28; (refine (HC.out).mono ?_)))
  rintro e w2 ⟨b', bc', rfl, hbo, hge, hB⟩
  have HM9 := Lib.hid (show MB w w2 [(b', ints [100, 0]), (a', ints [600, 300]), (o, [.slice (some ⟨a', 0, none⟩) 2 ac', .slice none 0 0, .slice none 0 0]), (w.heap.size + 1, [.int .i64 0, .slice none 0 0, .slice none 0 0, .slice none 0 0, .slice none 0 0, .slice none 0 0, .slice none 0 0]), (w.heap.size, [.int .i64 0, .slice (some ⟨g4, 0, none⟩) 3 3, .slice (some ⟨g8, 0, none⟩) 3 3, .slice none 0 0, .slice (some ⟨g12, 0, none⟩) 1 1, .slice (some ⟨g16, 0, none⟩) 2 2, .slice (some ⟨g20, 0, none⟩) 2 2])] by
    exact HM7.out.add hB hbo hge)
  clear hbo hge hB HC b8 HM7
  go_wp2_with (first | (refine wpList_store_cell rfl 29 _ _ (by with_reducible rfl) o 1 (.slice (some ⟨b', 0, none⟩) 2 bc') (by with_unfolding_all rfl) (by with_unfolding_all rfl) (HM9.out.get 2 rfl) (by simp) (by kernel_rfl) rfl ?_))
  intro W3 hW3
  have HM10 := Lib.hid (show MB w W3 [(b', ints [100, 0]), (a', ints [600, 300]), (o, [.slice (some ⟨a', 0, none⟩) 2 ac', .slice (some ⟨b', 0, none⟩) 2 bc', .slice none 0 0]), (w.heap.size + 1, [.int .i64 0, .slice none 0 0, .slice none 0 0, .slice none 0 0, .slice none 0 0, .slice none 0 0, .slice none 0 0]), (w.heap.size, [.int .i64 0, .slice (some ⟨g4, 0, none⟩) 3 3, .slice (some ⟨g8, 0, none⟩) 3 3, .slice none 0 0, .slice (some ⟨g12, 0, none⟩) 1 1, .slice (some ⟨g16, 0, none⟩) 2 2, .slice (some ⟨g20, 0, none⟩) 2 2])] by
    rw [hW3.out]
    exact HM9.out.put 2 rfl (j := 1) (by simp) (.slice (some ⟨b', 0, none⟩) 2 bc'))
  clear hW3 HM9
  go_wp2_with fail
  rw [rounds_succ]
  have b11 : W3.cell? ⟨g4, 2, none⟩ = some (.slice (some ⟨c, 0, none⟩) 2 cc) := ((HS.out.get 3 rfl).next HM10.out.bel).cell 2 rfl
  have HC := Lib.hid (clone_bo c cc 2 [0, 0] rfl (by omega) (by omega) W3 ((HS.out.get 0 rfl).next HM10.out.bel).rd)
  go_wp2_with (first | (go_at_call 28; (refine (HC.out).mono ?_)))
  rintro e w2 ⟨c', cc', rfl, hbo, hge, hB⟩
  have HM12 := Lib.hid (show MB w w2 [(c', ints [0, 0]), (b', ints [100, 0]), (a', ints [600, 300]), (o, [.slice (some ⟨a', 0, none⟩) 2 ac', .slice (some ⟨b', 0, none⟩) 2 bc', .slice none 0 0]), (w.heap.size + 1, [.int .i64 0, .slice none 0 0, .slice none 0 0, .slice none 0 0, .slice none 0 0, .slice none 0 0, .slice none 0 0]), (w.heap.size, [.int .i64 0, .slice (some ⟨g4, 0, none⟩) 3 3, .slice (some ⟨g8, 0, none⟩) 3 3, .slice none 0 0, .slice (some ⟨g12, 0, none⟩) 1 1, .slice (some ⟨g16, 0, none⟩) 2 2, .slice (some ⟨g20, 0, none⟩) 2 2])] by
    exact HM10.out.add hB hbo hge)
  clear hbo hge hB HC b11 HM10
  go_wp2_with (first | (refine wpList_store_cell rfl 29 _ _ (by with_reducible rfl) o 2 (.slice (some ⟨c', 0, none⟩) 2 cc') (by with_unfolding_all rfl) (by with_unfolding_all rfl) (HM12.out.get 3 rfl) (by simp) (by kernel_rfl) rfl ?_))
  intro W4 hW4
  have HM13 := Lib.hid (show MB w W4 [(c', ints [0, 0]), (b', ints [100, 0]), (a', ints [600, 300]), (o, [.slice (some ⟨a', 0, none⟩) 2 ac', .slice (some ⟨b', 0, none⟩) 2 bc', .slice (some ⟨c', 0, none⟩) 2 cc']), (w.heap.size + 1, [.int .i64 0, .slice none 0 0, .slice none 0 0, .slice none 0 0, .slice none 0 0, .slice none 0 0, .slice none 0 0]), (w.heap.size, [.int .i64 0, .slice (some ⟨g4, 0, none⟩) 3 3, .slice (some ⟨g8, 0, none⟩) 3 3, .slice none 0 0, .slice (some ⟨g12, 0, none⟩) 1 1, .slice (some ⟨g16, 0, none⟩) 2 2, .slice (some ⟨g20, 0, none⟩) 2 2])] by
    rw [hW4.out]
    exact HM12.out.put 3 rfl (j := 2) (by simp) (.slice (some ⟨c', 0, none⟩) 2 cc'))
  clear hW4 HM12
  go_wp2_with fail
  rw [rounds_succ]
  go_wp2_with (first | (refine wpList_store_cell rfl 51 _ _ (by with_reducible rfl) w.heap.size 1 (.slice (some ⟨o, 0, none⟩) 3 3) (by with_unfolding_all rfl) (by with_unfolding_all rfl) (HM13.out.get 5 rfl) (by simp) (by kernel_rfl) rfl ?_))
  intro W5 hW5
  have HM14 := Lib.hid (show MB w W5 [(c', ints [0, 0]), (b', ints [100, 0]), (a', ints [600, 300]), (o, [.slice (some ⟨a', 0, none⟩) 2 ac', .slice (some ⟨b', 0, none⟩) 2 bc', .slice (some ⟨c', 0, none⟩) 2 cc']), (w.heap.size + 1, [.int .i64 0, .slice none 0 0, .slice none 0 0, .slice none 0 0, .slice none 0 0, .slice none 0 0, .slice none 0 0]), (w.heap.size, [.int .i64 0, .slice (some ⟨o, 0, none⟩) 3 3, .slice (some ⟨g8, 0, none⟩) 3 3, .slice none 0 0, .slice (some ⟨g12, 0, none⟩) 1 1, .slice (some ⟨g16, 0, none⟩) 2 2, .slice (some ⟨g20, 0, none⟩) 2 2])] by
    rw [hW5.out]
    exact HM13.out.put 5 rfl (j := 1) (by simp) (.slice (some ⟨o, 0, none⟩) 3 3))
  clear hW5 HM13
  have b15 : W5.cell? ⟨w.heap.size, 2, none⟩ = some (.slice (some ⟨g8, 0, none⟩) 3 3) := (HM14.out.box 5 rfl (Below.refl _ _)).cell 2 rfl
  have HC := Lib.hid (clone_bo g8 3 3 [0, 0, 0] rfl (by omega) (by omega) W5 ((HS.out.get 4 rfl).next HM14.out.bel).rd)
  go_wp2_with (first | (go_at_call 28; (refine (HC.out).mono ?_)))
  rintro e w2 ⟨r, rc, rfl, hbo, hge, hB⟩
  have HM16 := Lib.hid (show MB w w2 [(r, ints [0, 0, 0]), (c', ints [0, 0]), (b', ints [100, 0]), (a', ints [600, 300]), (o, [.slice (some ⟨a', 0, none⟩) 2 ac', .slice (some ⟨b', 0, none⟩) 2 bc', .slice (some ⟨c', 0, none⟩) 2 cc']), (w.heap.size + 1, [.int .i64 0, .slice none 0 0, .slice none 0 0, .slice none 0 0, .slice none 0 0, .slice none 0 0, .slice none 0 0]), (w.heap.size, [.int .i64 0, .slice (some ⟨o, 0, none⟩) 3 3, .slice (some ⟨g8, 0, none⟩) 3 3, .slice none 0 0, .slice (some ⟨g12, 0, none⟩) 1 1, .slice (some ⟨g16, 0, none⟩) 2 2, .slice (some ⟨g20, 0, none⟩) 2 2])] by
    exact HM14.out.add hB hbo hge)
  clear hbo hge hB HC HM14 b15
  go_wp2_with (first | (refine wpList_store_cell rfl 29 _ _ (by with_reducible rfl) w.heap.size 2 (.slice (some ⟨r, 0, none⟩) 3 rc) (by with_unfolding_all rfl) (by with_unfolding_all rfl) (HM16.out.get 6 rfl) (by simp) (by kernel_rfl) rfl ?_))
  intro W6 hW6
  have HM17 := Lib.hid (show MB w W6 [(r, ints [0, 0, 0]), (c', ints [0, 0]), (b', ints [100, 0]), (a', ints [600, 300]), (o, [.slice (some ⟨a', 0, none⟩) 2 ac', .slice (some ⟨b', 0, none⟩) 2 bc', .slice (some ⟨c', 0, none⟩) 2 cc']), (w.heap.size + 1, [.int .i64 0, .slice none 0 0, .slice none 0 0, .slice none 0 0, .slice none 0 0, .slice none 0 0, .slice none 0 0]), (w.heap.size, [.int .i64 0, .slice (some ⟨o, 0, none⟩) 3 3, .slice (some ⟨r, 0, none⟩) 3 rc, .slice none 0 0, .slice (some ⟨g12, 0, none⟩) 1 1, .slice (some ⟨g16, 0, none⟩) 2 2, .slice (some ⟨g20, 0, none⟩) 2 2])] by
    rw [hW6.out]
    exact HM16.out.put 6 rfl (j := 2) (by simp) (.slice (some ⟨r, 0, none⟩) 3 rc))
  clear hW6 HM16
  have b18 : W6.cell? ⟨w.heap.size, 4, none⟩ = some (.slice (some ⟨g12, 0, none⟩) 1 1) := (HM17.out.box 6 rfl (Below.refl _ _)).cell 4 rfl
  have HC := Lib.hid (gclone_bo g12 1 W6 ((HS.out.get 5 rfl).next HM17.out.bel).rd)
  go_wp2_with (first | (go_at_call 59; (refine (HC.out).mono ?_)))
  rintro e w2 ⟨gt, gc, rfl, hbo, hge, hB⟩
  have HM19 := Lib.hid (show MB w w2 [(gt, gate0), (r, ints [0, 0, 0]), (c', ints [0, 0]), (b', ints [100, 0]), (a', ints [600, 300]), (o, [.slice (some ⟨a', 0, none⟩) 2 ac', .slice (some ⟨b', 0, none⟩) 2 bc', .slice (some ⟨c', 0, none⟩) 2 cc']), (w.heap.size + 1, [.int .i64 0, .slice none 0 0, .slice none 0 0, .slice none 0 0, .slice none 0 0, .slice none 0 0, .slice none 0 0]), (w.heap.size, [.int .i64 0, .slice (some ⟨o, 0, none⟩) 3 3, .slice (some ⟨r, 0, none⟩) 3 rc, .slice none 0 0, .slice (some ⟨g12, 0, none⟩) 1 1, .slice (some ⟨g16, 0, none⟩) 2 2, .slice (some ⟨g20, 0, none⟩) 2 2])] by
    exact HM17.out.add hB hbo hge)
  clear hbo hge hB HC HM17 b18
  go_wp2_with (first | (refine wpList_store_cell rfl 53 _ _ (by with_reducible rfl) w.heap.size 4 (.slice (some ⟨gt, 0, none⟩) 1 gc) (by with_unfolding_all rfl) (by with_unfolding_all rfl) (HM19.out.get 7 rfl) (by simp) (by kernel_rfl) rfl ?_))
  intro W7 hW7
  have HM20 := Lib.hid (show MB w W7 [(gt, gate0), (r, ints [0, 0, 0]), (c', ints [0, 0]), (b', ints [100, 0]), (a', ints [600, 300]), (o, [.slice (some ⟨a', 0, none⟩) 2 ac', .slice (some ⟨b', 0, none⟩) 2 bc', .slice (some ⟨c', 0, none⟩) 2 cc']), (w.heap.size + 1, [.int .i64 0, .slice none 0 0, .slice none 0 0, .slice none 0 0, .slice none 0 0, .slice none 0 0, .slice none 0 0]), (w.heap.size, [.int .i64 0, .slice (some ⟨o, 0, none⟩) 3 3, .slice (some ⟨r, 0, none⟩) 3 rc, .slice none 0 0, .slice (some ⟨gt, 0, none⟩) 1 gc, .slice (some ⟨g16, 0, none⟩) 2 2, .slice (some ⟨g20, 0, none⟩) 2 2])] by
    rw [hW7.out]
    exact HM19.out.put 7 rfl (j := 4) (by simp) (.slice (some ⟨gt, 0, none⟩) 1 gc))
  clear hW7 HM19
  have b21 : W7.cell? ⟨w.heap.size, 5, none⟩ = some (.slice (some ⟨g16, 0, none⟩) 2 2) := (HM20.out.box 7 rfl (Below.refl _ _)).cell 5 rfl
  have HC := Lib.hid (clone_bo g16 2 2 [0, 0] rfl (by omega) (by omega) W7 ((HS.out.get 6 rfl).next HM20.out.bel).rd)
  go_wp2_with (first | (go_at_call 28; (refine (HC.out).mono ?_)))
  rintro e w2 ⟨i, ic, rfl, hbo, hge, hB⟩
  have HM22 := Lib.hid (show MB w w2 [(i, ints [0, 0]), (gt, gate0), (r, ints [0, 0, 0]), (c', ints [0, 0]), (b', ints [100, 0]), (a', ints [600, 300]), (o, [.slice (some ⟨a', 0, none⟩) 2 ac', .slice (some ⟨b', 0, none⟩) 2 bc', .slice (some ⟨c', 0, none⟩) 2 cc']), (w.heap.size + 1, [.int .i64 0, .slice none 0 0, .slice none 0 0, .slice none 0 0, .slice none 0 0, .slice none 0 0, .slice none 0 0]), (w.heap.size, [.int .i64 0, .slice (some ⟨o, 0, none⟩) 3 3, .slice (some ⟨r, 0, none⟩) 3 rc, .slice none 0 0, .slice (some ⟨gt, 0, none⟩) 1 gc, .slice (some ⟨g16, 0, none⟩) 2 2, .slice (some ⟨g20, 0, none⟩) 2 2])] by
    exact HM20.out.add hB hbo hge)
  clear hbo hge hB HC HM20 b21
  go_wp2_with (first | (refine wpList_store_cell rfl 29 _ _ (by with_reducible rfl) w.heap.size 5 (.slice (some ⟨i, 0, none⟩) 2 ic) (by with_unfolding_all rfl) (by with_unfolding_all rfl) (HM22.out.get 8 rfl) (by simp) (by kernel_rfl) rfl ?_))
  intro W8 hW8
  have HM23 := Lib.hid (show MB w W8 [(i, ints [0, 0]), (gt, gate0), (r, ints [0, 0, 0]), (c', ints [0, 0]), (b', ints [100, 0]), (a', ints [600, 300]), (o, [.slice (some ⟨a', 0, none⟩) 2 ac', .slice (some ⟨b', 0, none⟩) 2 bc', .slice (some ⟨c', 0, none⟩) 2 cc']), (w.heap.size + 1, [.int .i64 0, .slice none 0 0, .slice none 0 0, .slice none 0 0, .slice none 0 0, .slice none 0 0, .slice none 0 0]), (w.heap.size, [.int .i64 0, .slice (some ⟨o, 0, none⟩) 3 3, .slice (some ⟨r, 0, none⟩) 3 rc, .slice none 0 0, .slice (some ⟨gt, 0, none⟩) 1 gc, .slice (some ⟨i, 0, none⟩) 2 ic, .slice (some ⟨g20, 0, none⟩) 2 2])] by
    rw [hW8.out]
    exact HM22.out.put 8 rfl (j := 5) (by simp) (.slice (some ⟨i, 0, none⟩) 2 ic))
  clear hW8 HM22
  have b24 : W8.cell? ⟨w.heap.size, 6, none⟩ = some (.slice (some ⟨g20, 0, none⟩) 2 2) := (HM23.out.box 8 rfl (Below.refl _ _)).cell 6 rfl
  have HC := Lib.hid (clone_bo g20 2 2 [0, 0] rfl (by omega) (by omega) W8 ((HS.out.get 7 rfl).next HM23.out.bel).rd)
  go_wp2_with (first | (go_at_call 28; (refine (HC.out).mono ?_)))
  rintro e w2 ⟨u, uc, rfl, hbo, hge, hB⟩
  have HM25 := Lib.hid (show MB w w2 [(u, ints [0, 0]), (i, ints [0, 0]), (gt, gate0), (r, ints [0, 0, 0]), (c', ints [0, 0]), (b', ints [100, 0]), (a', ints [600, 300]), (o, [.slice (some ⟨a', 0, none⟩) 2 ac', .slice (some ⟨b', 0, none⟩) 2 bc', .slice (some ⟨c', 0, none⟩) 2 cc']), (w.heap.size + 1, [.int .i64 0, .slice none 0 0, .slice none 0 0, .slice none 0 0, .slice none 0 0, .slice none 0 0, .slice none 0 0]), (w.heap.size, [.int .i64 0, .slice (some ⟨o, 0, none⟩) 3 3, .slice (some ⟨r, 0, none⟩) 3 rc, .slice none 0 0, .slice (some ⟨gt, 0, none⟩) 1 gc, .slice (some ⟨i, 0, none⟩) 2 ic, .slice (some ⟨g20, 0, none⟩) 2 2])] by
    exact HM23.out.add hB hbo hge)
  clear hbo hge hB HC HM23 b24
  go_wp2_with (first | (refine wpList_store_cell rfl 29 _ _ (by with_reducible rfl) w.heap.size 6 (.slice (some ⟨u, 0, none⟩) 2 uc) (by with_unfolding_all rfl) (by with_unfolding_all rfl) (HM25.out.get 9 rfl) (by simp) (by kernel_rfl) rfl ?_))
  intro W9 hW9
  have HM26 := Lib.hid (show MB w W9 [(u, ints [0, 0]), (i, ints [0, 0]), (gt, gate0), (r, ints [0, 0, 0]), (c', ints [0, 0]), (b', ints [100, 0]), (a', ints [600, 300]), (o, [.slice (some ⟨a', 0, none⟩) 2 ac', .slice (some ⟨b', 0, none⟩) 2 bc', .slice (some ⟨c', 0, none⟩) 2 cc']), (w.heap.size + 1, [.int .i64 0, .slice none 0 0, .slice none 0 0, .slice none 0 0, .slice none 0 0, .slice none 0 0, .slice none 0 0]), (w.heap.size, [.int .i64 0, .slice (some ⟨o, 0, none⟩) 3 3, .slice (some ⟨r, 0, none⟩) 3 rc, .slice none 0 0, .slice (some ⟨gt, 0, none⟩) 1 gc, .slice (some ⟨i, 0, none⟩) 2 ic, .slice (some ⟨u, 0, none⟩) 2 uc])] by
    rw [hW9.out]
    exact HM25.out.put 9 rfl (j := 6) (by simp) (.slice (some ⟨u, 0, none⟩) 2 uc))
  clear hW9 HM25
  go_wp2_with (first | (with_reducible refine wpList_load_g 55 _ (by with_reducible rfl) w.heap.size 0 (by with_unfolding_all rfl) (by with_unfolding_all rfl) _ _ (HM26.out.box 9 rfl (Below.refl _ _)).rng Tryz.underlying55 (by with_unfolding_all rfl) (by kernel_rfl) ?_) | (with_reducible refine wpList_store_named rfl 55 _ _ (by with_reducible rfl) (w.heap.size + 1) 0 #[.int .i64 0, .slice (some ⟨o, 0, none⟩) 3 3, .slice (some ⟨r, 0, none⟩) 3 rc, .slice none 0 0, .slice (some ⟨gt, 0, none⟩) 1 gc, .slice (some ⟨i, 0, none⟩) 2 ic, .slice (some ⟨u, 0, none⟩) 2 uc] (by with_unfolding_all rfl) (by with_unfolding_all rfl) (by with_unfolding_all exact (HM26.out.get 8 rfl).there) (by kernel_rfl) (by with_unfolding_all rfl) ?_))
  intro WF hWF
  have HM27 := Lib.hid (show MB w WF [(u, ints [0, 0]), (i, ints [0, 0]), (gt, gate0), (r, ints [0, 0, 0]), (c', ints [0, 0]), (b', ints [100, 0]), (a', ints [600, 300]), (o, [.slice (some ⟨a', 0, none⟩) 2 ac', .slice (some ⟨b', 0, none⟩) 2 bc', .slice (some ⟨c', 0, none⟩) 2 cc']), (w.heap.size + 1, [.int .i64 0, .slice (some ⟨o, 0, none⟩) 3 3, .slice (some ⟨r, 0, none⟩) 3 rc, .slice none 0 0, .slice (some ⟨gt, 0, none⟩) 1 gc, .slice (some ⟨i, 0, none⟩) 2 ic, .slice (some ⟨u, 0, none⟩) 2 uc]), (w.heap.size, [.int .i64 0, .slice (some ⟨o, 0, none⟩) 3 3, .slice (some ⟨r, 0, none⟩) 3 rc, .slice none 0 0, .slice (some ⟨gt, 0, none⟩) 1 gc, .slice (some ⟨i, 0, none⟩) 2 ic, .slice (some ⟨u, 0, none⟩) 2 uc])] by
    rw [hWF.out]
    exact HM26.out.fill 8 rfl [.int .i64 0, .slice (some ⟨o, 0, none⟩) 3 3, .slice (some ⟨r, 0, none⟩) 3 rc, .slice none 0 0, .slice (some ⟨gt, 0, none⟩) 1 gc, .slice (some ⟨i, 0, none⟩) 2 ic, .slice (some ⟨u, 0, none⟩) 2 uc] rfl)
  clear hWF HM26
  have b28 : WF.cell? ⟨w.heap.size + 1, 0, none⟩ = some (.int .i64 0) := (HM27.out.box 8 rfl (Below.refl _ _)).cell 0 rfl
  have b29 : WF.cell? ⟨w.heap.size + 1, 1, none⟩ = some (.slice (some ⟨o, 0, none⟩) 3 3) := (HM27.out.box 8 rfl (Below.refl _ _)).cell 1 rfl
  have b30 : WF.cell? ⟨w.heap.size + 1, 2, none⟩ = some (.slice (some ⟨r, 0, none⟩) 3 rc) := (HM27.out.box 8 rfl (Below.refl _ _)).cell 2 rfl
  have b31 : WF.cell? ⟨w.heap.size + 1, 3, none⟩ = some (.slice none 0 0) := (HM27.out.box 8 rfl (Below.refl _ _)).cell 3 rfl
  have b32 : WF.cell? ⟨w.heap.size + 1, 4, none⟩ = some (.slice (some ⟨gt, 0, none⟩) 1 gc) := (HM27.out.box 8 rfl (Below.refl _ _)).cell 4 rfl
  have b33 : WF.cell? ⟨w.heap.size + 1, 5, none⟩ = some (.slice (some ⟨i, 0, none⟩) 2 ic) := (HM27.out.box 8 rfl (Below.refl _ _)).cell 5 rfl
  have b34 : WF.cell? ⟨w.heap.size + 1, 6, none⟩ = some (.slice (some ⟨u, 0, none⟩) 2 uc) := (HM27.out.box 8 rfl (Below.refl _ _)).cell 6 rfl
  have HQ := Lib.hid (show CopQ w (.returned (.agg #[.int .i64 0, .slice (some ⟨o, 0, none⟩) 3 3, .slice (some ⟨r, 0, none⟩) 3 rc, .slice none 0 0, .slice (some ⟨gt, 0, none⟩) 1 gc, .slice (some ⟨i, 0, none⟩) 2 ic, .slice (some ⟨u, 0, none⟩) 2 uc])) WF from ⟨o, r, rc, gt, gc, i, ic, u, uc, a', ac', b', bc', c', cc', rfl, HM27.out.sub (by repeat (first | exact List.Sublist.refl _ | apply List.Sublist.cons_cons | apply List.Sublist.cons))⟩)
  go_wp2_with fail
  refine bodyPost_ret (v := .agg #[.int .i64 0, .slice (some ⟨o, 0, none⟩) 3 3, .slice (some ⟨r, 0, none⟩) 3 rc, .slice none 0 0, .slice (some ⟨gt, 0, none⟩) 1 gc, .slice (some ⟨i, 0, none⟩) 2 ic, .slice (some ⟨u, 0, none⟩) 2 uc]) ?_ rfl HQ.out
  simp [results, Tryz.results29, go_sem, b28, b29, b30, b31, b32, b33, b34]
end Go.Proofs.YtngjakahanmepaaGreatDoor
namespace Go.Proofs.YtngjakahanmepaaGreatDoor
open Go.RowKit
set_option linter.unusedVariables false
set_option linter.unusedSimpArgs false
/-- the hour's cells -/
def hc (ob pb po pc lA tA gA rm rn o r rc gt gc i ic u uc pk : Nat) (que mv snt : Value) : List Value := [.string demoN, .slice (some ⟨ob, 0, none⟩) 2 2, .int .i64 1, .slice (some ⟨pb, po, none⟩) 3 pc, .slice (some ⟨lA, 0, none⟩) 1 1, .slice (some ⟨tA, 0, none⟩) 1 1, .slice (some ⟨gA, 0, none⟩) 1 1, .slice none 0 0, .slice none 0 0, .slice (some ⟨rm, 0, none⟩) 3 3, .int .i64 1, .slice (some ⟨rn, 0, none⟩) 3 3, .slice none 0 0, .slice none 0 0, .slice none 0 0, .slice none 0 0, .int .i64 0, .slice (some ⟨o, 0, none⟩) 3 3, .slice (some ⟨r, 0, none⟩) 3 rc, que, .slice (some ⟨gt, 0, none⟩) 1 gc, .slice (some ⟨i, 0, none⟩) 2 ic, .slice (some ⟨u, 0, none⟩) 2 uc, mv, .slice (some ⟨pk, 0, none⟩) 3 3, snt]
theorem MBR.get {w0 w : World} {e : TypeId} {size : Nat} {v : Value} {n : Nat} {xs : List Value} {m : List (Nat × List Value)} (h : MBR w0 w e size v n xs m) (i : Nat) {b : Nat} {cs : List Value} (hi : m[i]? = some (b, cs)) : Bo w b cs := h.row.mem.get i hi
theorem LakeR.link {w : World} {lv rt ob rm s0 r0 s1 r1 s2 lA tA gA : Nat} {pA : Option Addr} (h : LakeR w lv rt ob rm s0 r0 s1 r1 s2 lA tA gA pA) : w.rangeAt lA 0 (lkc (gateL rt)) := (h.mem.get 2 rfl).rng
set_option maxHeartbeats 32000000 in
set_option maxRecDepth 100000 in
theorem hlinks_is {lv rt ob rm s0 r0 s1 r1 s2 lA tA gA pb po rn hb o a b c r gt i u pk : Nat} (pc ac bc cc rc gc ic uc : Nat) {qa qb qc rl il ul pl : List Int} {que mv snt : Value} {nm : Nat} {xs : List Value} (w0 w : World) (hL : LakeR w0 lv rt ob rm s0 r0 s1 r1 s2 lA tA gA (some ⟨pb, po, none⟩)) (hR : Rd w0 (some ⟨rn, 0, none⟩) (ints [50, 0, 0])) (hm : MBR w0 w 145 5 mv nm xs  [(hb, hc ob pb po pc lA tA gA rm rn o r rc gt gc i ic u uc pk que mv snt), (o, [rowV a ac, rowV b bc, rowV c cc]), (a, ints qa), (b, ints qb), (c, ints qc), (r, ints rl), (gt, gate0), (i, ints il), (u, ints ul), (pk, ints pl)]) :
    Calls Tryz.prog 30 #[.pointer (some ⟨hb, 0, none⟩)] w (fun e w' => e = .returned (.tuple #[]) ∧ MBR w0 w' 145 5 mv nm xs  [(hb, hc ob pb po pc lA tA gA rm rn o r rc gt gc i ic u uc pk que mv snt), (o, [rowV a ac, rowV b bc, rowV c cc]), (a, ints qa), (b, ints qb), (c, ints qc), (r, ints rl), (gt, gate0), (i, ints il), (u, ints ul), (pk, ints pl)]) := by
  have HL := Lib.hid hL
  have HR := Lib.hid hR
  have HM0 := Lib.hid hm
  clear hL hR hm
  go_enter Tryz.func30, Tryz.ntmps30
  refine wp_rebase _ (fun V1 hV1 x2 => ?_)
  have HM3 := Lib.hid (show MBR w0 V1 145 5 mv nm xs  [(hb, hc ob pb po pc lA tA gA rm rn o r rc gt gc i ic u uc pk que mv snt), (o, [rowV a ac, rowV b bc, rowV c cc]), (a, ints qa), (b, ints qb), (c, ints qc), (r, ints rl), (gt, gate0), (i, ints il), (u, ints ul), (pk, ints pl)] by
    rw [hV1]
    exact HM0.out)
  clear hV1
  have b4 := fun z : BelW V1 => (show z.w.cell? ⟨hb, 12, none⟩ = some (.slice none 0 0) from (HM3.out.box 0 rfl z.2).cell 12 rfl)
  have b5 := fun z : BelW V1 => (show z.w.cell? ⟨hb, 13, none⟩ = some (.slice none 0 0) from (HM3.out.box 0 rfl z.2).cell 13 rfl)
  have b6 := fun z : BelW V1 => (show z.w.cell? ⟨hb, 4, none⟩ = some (.slice (some ⟨lA, 0, none⟩) 1 1) from (HM3.out.box 0 rfl z.2).cell 4 rfl)
  have b7 := fun z : BelW V1 => (show z.w.cell? ⟨hb, 20, none⟩ = some (.slice (some ⟨gt, 0, none⟩) 1 gc) from (HM3.out.box 0 rfl z.2).cell 20 rfl)
  have HLK := Lib.hid (show ∀ z : BelW V1, z.w.rangeAt lA 0 [.string gateN, .int .i64 0, .int .i64 0, .int .i64 1, .slice (bk rt) 2 2, .slice (bk rt) 2 2, .slice (bk rt) 2 2, .int .i64 4, .int .i64 1, .int .i64 0, .int .i64 0, .int .i64 0, .int .i64 0, .int .i64 0, .int .i64 0, .int .i64 0, .int .i64 0, .int .i64 0] from fun z => range_bel HL.out.link ⟨z.w, below_next HM3.out.bel z.2⟩)
  go_wp2_with fail
  refine wp_loop_rounds 1 ?_
  rw [rounds_succ]
  go_wp2_with fail
  refine wp_loop_rounds 1 ?_
  rw [rounds_succ]
  go_wp2_with fail
  refine wp_loop_rounds 2 ?_
  rw [rounds_succ]
  obtain ⟨nb, hnb⟩ : ∃ n, x2.w.heap.size = n := ⟨_, rfl⟩
  go_upto_region 15 with (first | (with_reducible refine wpList_load_g 98 _ (by with_reducible rfl) lA 0 (by with_unfolding_all rfl) (by with_unfolding_all rfl) _ _ (HLK.out _) Tryz.underlying98 (by with_unfolding_all rfl) (by kernel_rfl) ?_) | (with_reducible refine wpList_store_new (z := [.string ⟨#[]⟩, .int .i64 0, .int .i64 0, .int .i64 0, .slice none 0 0, .slice none 0 0, .slice none 0 0, .int .i64 0, .int .i64 0, .int .i64 0, .int .i64 0, .int .i64 0, .int .i64 0, .int .i64 0, .int .i64 0, .int .i64 0, .int .i64 0, .int .i64 0]) (cs := [.string gateN, .int .i64 0, .int .i64 0, .int .i64 1, .slice (bk rt) 2 2, .slice (bk rt) 2 2, .slice (bk rt) 2 2, .int .i64 4, .int .i64 1, .int .i64 0, .int .i64 0, .int .i64 0, .int .i64 0, .int .i64 0, .int .i64 0, .int .i64 0, .int .i64 0, .int .i64 0]) 98 _ _ (by with_reducible rfl) (by with_unfolding_all rfl) nb (by exact hnb.symm) _ (by with_unfolding_all rfl) (by with_unfolding_all rfl) (by with_unfolding_all rfl) (by kernel_rfl) (by with_unfolding_all rfl) ?_))
  try simp only [Act.put]
  refine wp_rebase _ (fun V8 hV8 x9 => ?_)
  have HM10 := Lib.hid (show MBR w0 V8 145 5 mv nm xs  [(nb, [.string gateN, .int .i64 0, .int .i64 0, .int .i64 1, .slice (bk rt) 2 2, .slice (bk rt) 2 2, .slice (bk rt) 2 2, .int .i64 4, .int .i64 1, .int .i64 0, .int .i64 0, .int .i64 0, .int .i64 0, .int .i64 0, .int .i64 0, .int .i64 0, .int .i64 0, .int .i64 0]), (hb, hc ob pb po pc lA tA gA rm rn o r rc gt gc i ic u uc pk que mv snt), (o, [rowV a ac, rowV b bc, rowV c cc]), (a, ints qa), (b, ints qb), (c, ints qc), (r, ints rl), (gt, gate0), (i, ints il), (u, ints ul), (pk, ints pl)] by
    rw [hV8]
    exact (HM3.out.next x2.2).newAt hnb 98 [.string gateN, .int .i64 0, .int .i64 0, .int .i64 1, .slice (bk rt) 2 2, .slice (bk rt) 2 2, .slice (bk rt) 2 2, .int .i64 4, .int .i64 1, .int .i64 0, .int .i64 0, .int .i64 0, .int .i64 0, .int .i64 0, .int .i64 0, .int .i64 0, .int .i64 0, .int .i64 0])
  clear hV8
  clear HLK hnb HM3 b4 b5 b6 b7
  have b11 := fun z : BelW V8 => (show z.w.cell? ⟨hb, 20, none⟩ = some (.slice (some ⟨gt, 0, none⟩) 1 gc) from (HM10.out.box 1 rfl z.2).cell 20 rfl)
  have HLB := Lib.hid (HM10.out.row.mem.get 0 rfl).rng
  have HGB := Lib.hid (show V8.rangeAt gt 0 [.int .i64 0, .int .i64 0, .bool false, .bool false] from (HM10.out.row.mem.get 7 rfl).rng)
  have CM := Lib.hid (fun z : BelW V8 => (show Calls Tryz.prog 63 #[.agg #[.string gateN, .int .i64 0, .int .i64 0, .int .i64 1, .slice (bk rt) 2 2, .slice (bk rt) 2 2, .slice (bk rt) 2 2, .int .i64 4, .int .i64 1, .int .i64 0, .int .i64 0, .int .i64 0, .int .i64 0, .int .i64 0, .int .i64 0, .int .i64 0, .int .i64 0, .int .i64 0], .agg #[.int .i64 0, .int .i64 0, .bool false, .bool false]] z.w (fun e w'' => e = .returned (.agg #[.int .i64 0, .int .i64 0, .bool false, .bool false]) ∧ ∃ y : BelW V8, w'' = y.w) from bel_of (x := z) (gmove_is gateN (.int .i64 0) (.slice (bk rt) 2 2) (.slice (bk rt) 2 2) (.int .i64 0) (.int .i64 0) (.int .i64 0) (.int .i64 0) (.int .i64 0) (.int .i64 0) (bk rt) 2 rateL 0 0 z.w)))
  refine wp_region_belt 16 (by kernel_rfl) (by kernel_rfl) ?_
  simp only [List.take_succ_cons, List.take_zero, List.drop_succ_cons, List.drop_zero]
  repeat (first
    | (with_reducible refine wpQuiet_load_g 98 _ (by with_reducible rfl) _ _ (by with_unfolding_all rfl) (by with_unfolding_all rfl) _ _ (rangeX HLB.out) Tryz.underlying98 (by with_unfolding_all rfl) (by kernel_rfl) ?_; simp only [Act.put, List.setIfInBounds_toArray, List.set_cons_succ, List.set_cons_zero])
    | (with_reducible refine wpQuiet_load_g 115 _ (by with_reducible rfl) _ _ (by with_unfolding_all rfl) (by with_unfolding_all rfl) _ _ (rangeX HGB.out) Tryz.underlying115 (by with_unfolding_all rfl) (by kernel_rfl) ?_; simp only [Act.put, List.setIfInBounds_toArray, List.set_cons_succ, List.set_cons_zero])
    | go_big_quiet_step ((first | (go_at_call 63; with_reducible exact CM.out _))))
  refine wpQuiet_nil ?_
  intro y
  try simp only [List.drop_succ_cons, List.drop_zero]
  go_wp2_with (first | (with_reducible refine wpList_store_named rfl 115 _ _ (by with_reducible rfl) gt 0 #[.int .i64 0, .int .i64 0, .bool false, .bool false] (by with_unfolding_all rfl) (by with_unfolding_all rfl) (by with_unfolding_all exact ((HM10.out.next y.2).get 7 rfl).there) (by kernel_rfl) (by with_unfolding_all rfl) ?_))
  intro W5 hW5
  have HM12 := Lib.hid (show MBR w0 W5 145 5 mv nm xs  [(nb, [.string gateN, .int .i64 0, .int .i64 0, .int .i64 1, .slice (bk rt) 2 2, .slice (bk rt) 2 2, .slice (bk rt) 2 2, .int .i64 4, .int .i64 1, .int .i64 0, .int .i64 0, .int .i64 0, .int .i64 0, .int .i64 0, .int .i64 0, .int .i64 0, .int .i64 0, .int .i64 0]), (hb, hc ob pb po pc lA tA gA rm rn o r rc gt gc i ic u uc pk que mv snt), (o, [rowV a ac, rowV b bc, rowV c cc]), (a, ints qa), (b, ints qb), (c, ints qc), (r, ints rl), (gt, gate0), (i, ints il), (u, ints ul), (pk, ints pl)] by
    rw [hW5.out]
    exact (HM10.out.next y.2).fill 7 rfl [.int .i64 0, .int .i64 0, .bool false, .bool false] rfl)
  clear hW5 HLB HGB CM HM10 b11
  go_wp2_with fail
  rw [rounds_succ]
  go_wp2_with fail
  (try simp only [Exit.inBlock, Exit.then])
  refine bodyPost_end (results_none rfl _ _ _) rfl ?_
  exact ⟨rfl, HM12.out.sub (by repeat (first | exact List.Sublist.refl _ | apply List.Sublist.cons_cons | apply List.Sublist.cons))⟩
set_option maxHeartbeats 32000000 in
set_option maxRecDepth 100000 in
theorem hswaps_is {lv rt ob rm s0 r0 s1 r1 s2 lA tA gA pb po rn hb o a b c r gt i u pk : Nat} (pc ac bc cc rc gc ic uc : Nat) {qa qb qc rl il ul pl : List Int} {que mv snt : Value} {nm : Nat} {xs : List Value} (w0 w : World) (hL : LakeR w0 lv rt ob rm s0 r0 s1 r1 s2 lA tA gA (some ⟨pb, po, none⟩)) (hR : Rd w0 (some ⟨rn, 0, none⟩) (ints [50, 0, 0])) (hm : MBR w0 w 145 5 mv nm xs  [(hb, hc ob pb po pc lA tA gA rm rn o r rc gt gc i ic u uc pk que mv snt), (o, [rowV a ac, rowV b bc, rowV c cc]), (a, ints qa), (b, ints qb), (c, ints qc), (r, ints rl), (gt, gate0), (i, ints il), (u, ints ul), (pk, ints pl)]) :
    Calls Tryz.prog 31 #[.pointer (some ⟨hb, 0, none⟩)] w (fun e w' => e = .returned (.tuple #[]) ∧ MBR w0 w' 145 5 mv nm xs  [(hb, hc ob pb po pc lA tA gA rm rn o r rc gt gc i ic u uc pk que mv snt), (o, [rowV a ac, rowV b bc, rowV c cc]), (a, ints qa), (b, ints qb), (c, ints qc), (r, ints rl), (gt, gate0), (i, ints il), (u, ints ul), (pk, ints pl)]) := by
  have HL := Lib.hid hL
  have HR := Lib.hid hR
  have HM0 := Lib.hid hm
  clear hL hR hm
  go_enter Tryz.func31, Tryz.ntmps31
  refine wp_rebase _ (fun V1 hV1 x2 => ?_)
  have HM3 := Lib.hid (show MBR w0 V1 145 5 mv nm xs  [(hb, hc ob pb po pc lA tA gA rm rn o r rc gt gc i ic u uc pk que mv snt), (o, [rowV a ac, rowV b bc, rowV c cc]), (a, ints qa), (b, ints qb), (c, ints qc), (r, ints rl), (gt, gate0), (i, ints il), (u, ints ul), (pk, ints pl)] by
    rw [hV1]
    exact HM0.out)
  clear hV1
  have b4 := fun z : BelW V1 => (show z.w.cell? ⟨hb, 15, none⟩ = some (.slice none 0 0) from (HM3.out.box 0 rfl z.2).cell 15 rfl)
  go_wp2_with fail
  refine wp_loop_rounds 1 ?_
  rw [rounds_succ]
  go_wp2_with fail
  (try simp only [Exit.inBlock, Exit.then])
  refine bodyPost_end (results_none rfl _ _ _) rfl ?_
  exact ⟨rfl, HM3.out.next x2.2⟩
end Go.Proofs.YtngjakahanmepaaGreatDoor
namespace Go.Proofs.YtngjakahanmepaaGreatDoor
open Go.RowKit
set_option linter.unusedVariables false
set_option linter.unusedSimpArgs false
theorem info_move : (Tryz.prog.info? 145).map (fun i => (i.zero, i.size, i.bytes)) = some (some (.agg #[.int .i64 0, .int .i64 0, .int .i64 0, .int .i64 0, .slice none 0 0]), 5, 56) := by kernel_rfl
def fitB (p : List Int) : Bool := p.all fun x => decide (-9223372036854775808 ≤ x) && decide (x ≤ 9223372036854775807)
theorem fitB_spec {p : List Int} (h : fitB p = true) : ∀ i, i < p.length → Fit (gi p i) := fun i hi => by
  have h1 := List.all_eq_true.1 h p[i] (List.getElem_mem hi)
  simp only [Bool.and_eq_true, decide_eq_true_eq] at h1
  have e : gi p i = p[i] := by simp [gi, List.getD, hi]
  rw [e]; exact h1
theorem tot_c (b c n : Nat) (p : List Int) (t : Int) (hp : p.length = n) (ht : tot p n = t) (hf : fitB p = true) (hn : n ≤ 1000) (w : World) (hr : Rd w (some ⟨b, 0, none⟩) (ints p)) :
    Calls Tryz.prog 45 #[.slice (some ⟨b, 0, none⟩) n c] w fun e w' => e = .returned (.int .i64 t) ∧ Below w.heap.size w w' := by
  subst hp
  subst ht
  exact total_any _ c p (by omega) (fitB_spec hf) w hr
theorem Rd.cell0 {w w' : World} {b : Nat} {vs : List Value} (h : Rd w (some ⟨b, 0, none⟩) vs) (hb : Below w.heap.size w w') (j : Nat) {v : Value} (hj : vs[j]? = some v) : w'.cell? ⟨b, j, none⟩ = some v := by
  obtain ⟨ad, e, _, hc⟩ := h.below (Nat.le_refl _) hb (List.length_pos_of_mem (List.mem_of_getElem? hj))
  cases e
  have := hc j v hj
  rwa [add_row] at this
set_option maxHeartbeats 32000000 in
set_option maxRecDepth 100000 in
theorem hrain_is {lv rt ob rm s0 r0 s1 r1 s2 lA tA gA pb po rn hb o a b c r gt i u pk : Nat} (pc ac bc cc rc gc ic uc : Nat) {rl ul pl : List Int} {snt : Value} (w0 w : World) (hL : LakeR w0 lv rt ob rm s0 r0 s1 r1 s2 lA tA gA (some ⟨pb, po, none⟩)) (hR : Rd w0 (some ⟨rn, 0, none⟩) (ints [50, 0, 0])) (hm : MBR w0 w 145 5 (.slice none 0 0) 0 []  [(hb, hc ob pb po pc lA tA gA rm rn o r rc gt gc i ic u uc pk (.slice none 0 0) (.slice none 0 0) snt), (o, [rowV a ac, rowV b bc, rowV c cc]), (a, ints [600, 300]), (b, ints [100, 0]), (c, ints [0, 0]), (r, ints rl), (gt, gate0), (i, ints [0, 0]), (u, ints ul), (pk, ints pl)]) :
    Calls Tryz.prog 32 #[.pointer (some ⟨hb, 0, none⟩)] w (fun e w' => e = .returned (.tuple #[]) ∧ ∃ mv xs, MBR w0 w' 145 5 mv 1 xs  [(hb, hc ob pb po pc lA tA gA rm rn o r rc gt gc i ic u uc pk (.slice none 0 0) mv snt), (o, [rowV a ac, rowV b bc, rowV c cc]), (a, ints [650, 300]), (b, ints [100, 0]), (c, ints [0, 0]), (r, ints rl), (gt, gate0), (i, ints [50, 0]), (u, ints ul), (pk, ints pl)]) := by
  have HL := Lib.hid hL
  have HR := Lib.hid hR
  have HM0 := Lib.hid hm
  clear hL hR hm
  go_enter Tryz.func32, Tryz.ntmps32
  obtain ⟨i1, hj0, hj1, hj2, hj3⟩ := info_parts info_move
  have hmx : 0 + 1 ≤ maxLen ∧ (0 + 1) * 56 ≤ 140737488355328 := by unfold maxLen; omega
  have INF := Lib.hid (And.intro hj0 (And.intro hj1 (And.intro hj2 (And.intro hj3 hmx))))
  clear hj0 hj1 hj2 hj3 hmx
  refine wp_rebase _ (fun V1 hV1 x2 => ?_)
  have HM3 := Lib.hid (show MBR w0 V1 145 5 (.slice none 0 0) 0 []  [(hb, hc ob pb po pc lA tA gA rm rn o r rc gt gc i ic u uc pk (.slice none 0 0) (.slice none 0 0) snt), (o, [rowV a ac, rowV b bc, rowV c cc]), (a, ints [600, 300]), (b, ints [100, 0]), (c, ints [0, 0]), (r, ints rl), (gt, gate0), (i, ints [0, 0]), (u, ints ul), (pk, ints pl)] by
    rw [hV1]
    exact HM0.out)
  clear hV1
  have b4 := fun z : BelW V1 => (show z.w.cell? ⟨hb, 17, none⟩ = some (.slice (some ⟨o, 0, none⟩) 3 3) from (HM3.out.box 0 rfl z.2).cell 17 rfl)
  have b5 := fun z : BelW V1 => (show z.w.cell? ⟨hb, 19, none⟩ = some (.slice none 0 0) from (HM3.out.box 0 rfl z.2).cell 19 rfl)
  have b6 := fun z : BelW V1 => (show z.w.cell? ⟨hb, 21, none⟩ = some (.slice (some ⟨i, 0, none⟩) 2 ic) from (HM3.out.box 0 rfl z.2).cell 21 rfl)
  have b7 := fun z : BelW V1 => (show z.w.cell? ⟨hb, 3, none⟩ = some (.slice (some ⟨pb, po, none⟩) 3 pc) from (HM3.out.box 0 rfl z.2).cell 3 rfl)
  have b8 := fun z : BelW V1 => (show z.w.cell? ⟨hb, 11, none⟩ = some (.slice (some ⟨rn, 0, none⟩) 3 3) from (HM3.out.box 0 rfl z.2).cell 11 rfl)
  have b9 := fun z : BelW V1 => (show z.w.cell? ⟨o, 0, none⟩ = some (.slice (some ⟨a, 0, none⟩) 2 ac) from (HM3.out.box 1 rfl z.2).cell 0 rfl)
  have b10 := fun z : BelW V1 => (show z.w.cell? ⟨o, 1, none⟩ = some (.slice (some ⟨b, 0, none⟩) 2 bc) from (HM3.out.box 1 rfl z.2).cell 1 rfl)
  have b11 := fun z : BelW V1 => (show z.w.cell? ⟨o, 2, none⟩ = some (.slice (some ⟨c, 0, none⟩) 2 cc) from (HM3.out.box 1 rfl z.2).cell 2 rfl)
  have br0 := fun z : BelW V1 => (show z.w.cell? ⟨rn, 0, none⟩ = some (.int .i64 50) from HR.out.cell0 (below_next HM3.out.bel z.2) 0 rfl)
  have CT0 := Lib.hid (fun z : BelW V1 => bel_of (x := z) (tot_c a ac 2 [600, 300] 900 rfl (by kernel_rfl) (by kernel_rfl) (by omega) z.w ((HM3.out.box 2 rfl z.2).rd)))
  have CT1 := Lib.hid (fun z : BelW V1 => bel_of (x := z) (tot_c b bc 2 [100, 0] 100 rfl (by kernel_rfl) (by kernel_rfl) (by omega) z.w ((HM3.out.box 3 rfl z.2).rd)))
  have CT2 := Lib.hid (fun z : BelW V1 => bel_of (x := z) (tot_c c cc 2 [0, 0] 0 rfl (by kernel_rfl) (by kernel_rfl) (by omega) z.w ((HM3.out.box 4 rfl z.2).rd)))
  have CT3 := Lib.hid (fun z : BelW V1 => bel_of (x := z) (tot_c i ic 2 [0, 0] 0 rfl (by kernel_rfl) (by kernel_rfl) (by omega) z.w ((HM3.out.box 7 rfl z.2).rd)))
  go_wp2_with fail
  refine wp_loop_rounds 4 ?_
  rw [rounds_succ]
  go_wp2_with (first | (go_at_call 45; (with_reducible refine (CT0.out _).mono ?_); rintro e w1 ⟨rfl, z, rfl⟩) | (go_at_call 45; (with_reducible refine (CT1.out _).mono ?_); rintro e w1 ⟨rfl, z, rfl⟩) | (go_at_call 45; (with_reducible refine (CT2.out _).mono ?_); rintro e w1 ⟨rfl, z, rfl⟩) | (go_at_call 45; (with_reducible refine (CT3.out _).mono ?_); rintro e w1 ⟨rfl, z, rfl⟩))
  rw [rounds_succ]
  go_wp2_with (first | (go_at_call 45; (with_reducible refine (CT0.out _).mono ?_); rintro e w1 ⟨rfl, z, rfl⟩) | (go_at_call 45; (with_reducible refine (CT1.out _).mono ?_); rintro e w1 ⟨rfl, z, rfl⟩) | (go_at_call 45; (with_reducible refine (CT2.out _).mono ?_); rintro e w1 ⟨rfl, z, rfl⟩) | (go_at_call 45; (with_reducible refine (CT3.out _).mono ?_); rintro e w1 ⟨rfl, z, rfl⟩))
  rw [rounds_succ]
  go_wp2_with (first | (go_at_call 45; (with_reducible refine (CT0.out _).mono ?_); rintro e w1 ⟨rfl, z, rfl⟩) | (go_at_call 45; (with_reducible refine (CT1.out _).mono ?_); rintro e w1 ⟨rfl, z, rfl⟩) | (go_at_call 45; (with_reducible refine (CT2.out _).mono ?_); rintro e w1 ⟨rfl, z, rfl⟩) | (go_at_call 45; (with_reducible refine (CT3.out _).mono ?_); rintro e w1 ⟨rfl, z, rfl⟩))
  rw [rounds_succ]
  go_wp2_with (first | (go_at_call 45; (with_reducible refine (CT0.out _).mono ?_); rintro e w1 ⟨rfl, z, rfl⟩) | (go_at_call 45; (with_reducible refine (CT1.out _).mono ?_); rintro e w1 ⟨rfl, z, rfl⟩) | (go_at_call 45; (with_reducible refine (CT2.out _).mono ?_); rintro e w1 ⟨rfl, z, rfl⟩) | (go_at_call 45; (with_reducible refine (CT3.out _).mono ?_); rintro e w1 ⟨rfl, z, rfl⟩))
  refine wp_loop_rounds 1 ?_
  rw [rounds_succ]
  go_wp2_with (first | (go_at_call 45; (with_reducible refine (CT0.out _).mono ?_); rintro e w1 ⟨rfl, z, rfl⟩) | (go_at_call 45; (with_reducible refine (CT1.out _).mono ?_); rintro e w1 ⟨rfl, z, rfl⟩) | (go_at_call 45; (with_reducible refine (CT2.out _).mono ?_); rintro e w1 ⟨rfl, z, rfl⟩) | (go_at_call 45; (with_reducible refine (CT3.out _).mono ?_); rintro e w1 ⟨rfl, z, rfl⟩))
  refine wp_loop_rounds 4 ?_
  rw [rounds_succ]
  go_upto_region 19 with fail
  refine wp_rebase _ (fun V12 hV12 x13 => ?_)
  have HM14 := Lib.hid (show MBR w0 V12 145 5 (.slice none 0 0) 0 []  [(hb, hc ob pb po pc lA tA gA rm rn o r rc gt gc i ic u uc pk (.slice none 0 0) (.slice none 0 0) snt), (o, [rowV a ac, rowV b bc, rowV c cc]), (a, ints [600, 300]), (b, ints [100, 0]), (c, ints [0, 0]), (r, ints rl), (gt, gate0), (i, ints [0, 0]), (u, ints ul), (pk, ints pl)] by
    rw [hV12]
    exact HM3.out.next z.2)
  clear hV12
  clear CT0 CT1 CT2 CT3 br0 b4 b5 b6 b7 b8 b9 b10 b11
  have b15 := fun z : BelW V12 => (show z.w.cell? ⟨hb, 17, none⟩ = some (.slice (some ⟨o, 0, none⟩) 3 3) from (HM14.out.box 0 rfl z.2).cell 17 rfl)
  have b16 := fun z : BelW V12 => (show z.w.cell? ⟨o, 0, none⟩ = some (.slice (some ⟨a, 0, none⟩) 2 ac) from (HM14.out.box 1 rfl z.2).cell 0 rfl)
  have b17 := fun z : BelW V12 => (show z.w.cell? ⟨a, 0, none⟩ = some (.int .i64 600) from (HM14.out.box 2 rfl z.2).cell 0 rfl)
  go_wp2_with (first | (refine wpList_store_cell rfl 3 _ _ (by with_reducible rfl) a 0 (.int .i64 650) (by with_unfolding_all rfl) (by with_unfolding_all rfl) ((HM14.out.next x13.2).get 2 rfl) (by simp [ints]) (by kernel_rfl) rfl ?_))
  intro W3 hW3
  have HM18 := Lib.hid (show MBR w0 W3 145 5 (.slice none 0 0) 0 []  [(hb, hc ob pb po pc lA tA gA rm rn o r rc gt gc i ic u uc pk (.slice none 0 0) (.slice none 0 0) snt), (o, [rowV a ac, rowV b bc, rowV c cc]), (a, ints [650, 300]), (b, ints [100, 0]), (c, ints [0, 0]), (r, ints rl), (gt, gate0), (i, ints [0, 0]), (u, ints ul), (pk, ints pl)] by
    rw [hW3.out]
    exact (HM14.out.next x13.2).put 2 rfl (j := 0) (by simp [ints]) (.int .i64 650))
  clear hW3 HM14 b15 b16 b17
  have b19 : W3.cell? ⟨hb, 21, none⟩ = some (.slice (some ⟨i, 0, none⟩) 2 ic) := (HM18.out.box 0 rfl (Below.refl _ _)).cell 21 rfl
  have b20 : W3.cell? ⟨i, 0, none⟩ = some (.int .i64 0) := (HM18.out.box 7 rfl (Below.refl _ _)).cell 0 rfl
  go_wp2_with (first | (refine wpList_store_cell rfl 3 _ _ (by with_reducible rfl) i 0 (.int .i64 50) (by with_unfolding_all rfl) (by with_unfolding_all rfl) (HM18.out.get 7 rfl) (by simp [ints]) (by kernel_rfl) rfl ?_))
  intro W4 hW4
  have HM21 := Lib.hid (show MBR w0 W4 145 5 (.slice none 0 0) 0 []  [(hb, hc ob pb po pc lA tA gA rm rn o r rc gt gc i ic u uc pk (.slice none 0 0) (.slice none 0 0) snt), (o, [rowV a ac, rowV b bc, rowV c cc]), (a, ints [650, 300]), (b, ints [100, 0]), (c, ints [0, 0]), (r, ints rl), (gt, gate0), (i, ints [50, 0]), (u, ints ul), (pk, ints pl)] by
    rw [hW4.out]
    exact HM18.out.put 7 rfl (j := 0) (by simp [ints]) (.int .i64 50))
  clear hW4 HM18 b19 b20
  have b22 : W4.cell? ⟨hb, 1, none⟩ = some (.slice (some ⟨ob, 0, none⟩) 2 2) := (HM21.out.box 0 rfl (Below.refl _ _)).cell 1 rfl
  obtain ⟨ii, hi0, hi1, hi2, hi3⟩ := info_parts info_int2
  have hbt : ii.bytes * 2 ≤ 281474976710656 := by rw [hi3]; omega
  have hml : 2 ≤ maxLen := by unfold maxLen; omega
  have INI := Lib.hid (And.intro hi0 (And.intro hi1 (And.intro hi2 (And.intro hbt hml))))
  clear hi0 hi1 hi2 hi3 hbt hml
  go_wp2_with (first | (at_make; refine wpList_make_full _ rfl _ _ 29 rfl W4.heap.size 3 ii (.int .i64 0) 1 Tryz.underlying29 INI.out.1 INI.out.2.1 INI.out.2.2.1 _ _ _ _ 2 (by rfl) (by rfl) (by rfl) (by rfl) INI.out.2.2.2.1 INI.out.2.2.2.2 (Nat.le_refl _) ?_))
  intro W5 hown hgr
  obtain ⟨pt, hpt⟩ : ∃ n, W4.heap.size = n := ⟨_, rfl⟩
  rw [hpt] at hown ⊢
  have hmc : (madeCells #[Value.int .i64 0] 2).toList = ints [0, 0] := by kernel_rfl
  rw [hmc] at hown
  clear hmc
  have HM23 := Lib.hid (show MBR w0 W5 145 5 (.slice none 0 0) 0 []  [(pt, ints [0, 0]), (hb, hc ob pb po pc lA tA gA rm rn o r rc gt gc i ic u uc pk (.slice none 0 0) (.slice none 0 0) snt), (o, [rowV a ac, rowV b bc, rowV c cc]), (a, ints [650, 300]), (b, ints [100, 0]), (c, ints [0, 0]), (r, ints rl), (gt, gate0), (i, ints [50, 0]), (u, ints ul), (pk, ints pl)] by
    exact HM21.out.add (below_grown (Below.refl _ _) hgr (fun k hk => by cases hk)) (Bo.of_own hown) (Nat.le_of_eq hpt))
  clear hown hgr hpt HM21 b22
  go_wp2_with (first | (refine wpList_store_cell rfl 3 _ _ (by with_reducible rfl) pt 0 (.int .i64 50) (by with_unfolding_all rfl) (by with_unfolding_all rfl) (HM23.out.get 0 rfl) (by simp [ints]) (by kernel_rfl) rfl ?_))
  intro W6 hW6
  have HM24 := Lib.hid (show MBR w0 W6 145 5 (.slice none 0 0) 0 []  [(pt, ints [50, 0]), (hb, hc ob pb po pc lA tA gA rm rn o r rc gt gc i ic u uc pk (.slice none 0 0) (.slice none 0 0) snt), (o, [rowV a ac, rowV b bc, rowV c cc]), (a, ints [650, 300]), (b, ints [100, 0]), (c, ints [0, 0]), (r, ints rl), (gt, gate0), (i, ints [50, 0]), (u, ints ul), (pk, ints pl)] by
    rw [hW6.out]
    exact HM23.out.put 0 rfl (j := 0) (by simp [ints]) (.int .i64 50))
  clear hW6 HM23
  go_upto_region 25 with fail
  refine wp_rebase _ (fun V25 hV25 x26 => ?_)
  have HM27 := Lib.hid (show MBR w0 V25 145 5 (.slice none 0 0) 0 []  [(pt, ints [50, 0]), (hb, hc ob pb po pc lA tA gA rm rn o r rc gt gc i ic u uc pk (.slice none 0 0) (.slice none 0 0) snt), (o, [rowV a ac, rowV b bc, rowV c cc]), (a, ints [650, 300]), (b, ints [100, 0]), (c, ints [0, 0]), (r, ints rl), (gt, gate0), (i, ints [50, 0]), (u, ints ul), (pk, ints pl)] by
    rw [hV25]
    exact HM24.out)
  clear hV25
  have HS := Lib.hid (show (fun w' : World => w'.cell? ⟨hb, 23, none⟩ = some (.slice none 0 0) ∧ w'.cell? ⟨hb, 16, none⟩ = some (.int .i64 0)) x26.w.drew from ⟨(HM27.out.box 1 rfl x26.2.drew).cell 23 rfl, (HM27.out.box 1 rfl x26.2.drew).cell 16 rfl⟩)
  refine wp_region_tl 15 18 (fun w' => w'.cell? ⟨hb, 23, none⟩ = some (.slice none 0 0) ∧ w'.cell? ⟨hb, 16, none⟩ = some (.int .i64 0)) HS.out ?_
  iterate 13 (refine wpK_nx rfl rfl HS.out (Or.inl ⟨by rfl, fun w1 hS => by first | (go_simp <;> with_reducible rfl) | (obtain ⟨k0, k1⟩ := hS; (go_simp <;> with_reducible rfl))⟩) ?_; simp only [Act.put, List.setIfInBounds_toArray, List.set_cons_zero, List.set_cons_succ])
  obtain ⟨g0, hg0⟩ : ∃ n, x26.w.drew.heap.size = n := ⟨_, rfl⟩
  have HN := Lib.hid (show MBR w0 (x26.w.drew.alloc (.cells ([.int .i64 0, .int .i64 (-1), .int .i64 0, .int .i64 (-4), .slice (some ⟨pt, 0, none⟩) 2 2] : List Value).toArray 145)) 145 5 (.slice none 0 0) 0 []  [(g0, [.int .i64 0, .int .i64 (-1), .int .i64 0, .int .i64 (-4), .slice (some ⟨pt, 0, none⟩) 2 2]), (pt, ints [50, 0]), (hb, hc ob pb po pc lA tA gA rm rn o r rc gt gc i ic u uc pk (.slice none 0 0) (.slice none 0 0) snt), (o, [rowV a ac, rowV b bc, rowV c cc]), (a, ints [650, 300]), (b, ints [100, 0]), (c, ints [0, 0]), (r, ints rl), (gt, gate0), (i, ints [50, 0]), (u, ints ul), (pk, ints pl)] from (HM27.out.next x26.2.drew).newAt hg0 145 [.int .i64 0, .int .i64 (-1), .int .i64 0, .int .i64 (-4), .slice (some ⟨pt, 0, none⟩) 2 2])
  refine wpK_ne rfl ?_
  go_wp2_with (first | (refine Go.Great.wpList_buildSliceTo rfl 57 145 1 _ rfl (g0) hg0 _ rfl (by kernel_rfl) #[.int .i64 0, .int .i64 (-1), .int .i64 0, .int .i64 (-4), .slice (some ⟨pt, 0, none⟩) 2 2] (by kernel_rfl) ?_))
  refine ⟨⟨(HN.out.box 2 rfl (Below.refl _ _)).cell 23 rfl, (HN.out.box 2 rfl (Below.refl _ _)).cell 16 rfl⟩, ?_⟩
  refine wpK_ne rfl ?_
  refine wpList_append_own_at _ rfl _ _ _ (by rfl) w0.heap.size 145 i1 _ 5 56 Tryz.underlying57 INF.out.1 INF.out.2.1 INF.out.2.2.1 INF.out.2.2.2.1 rfl (by omega) _ 0 [] (by rfl) (HN.out.own (Below.refl _ _)) ⟨g0, 0, none⟩ 1 1 [.int .i64 0, .int .i64 (-1), .int .i64 0, .int .i64 (-4), .slice (some ⟨pt, 0, none⟩) 2 2] (by rfl) (by rfl) (fun j u hu => by rw [add_row]; exact (HN.out.get 0 rfl).cell j hu) (by intro v hv; simp only [List.mem_cons, List.not_mem_nil, or_false] at hv; rcases hv with rfl | rfl | rfl | rfl | rfl <;> rfl) INF.out.2.2.2.2.1 INF.out.2.2.2.2.2 HN.out.bel.size ?_
  intro v6 W6 hown hgr hnil hat
  have HM28 := Lib.hid (show MBR w0 W6 145 5 v6 (0 + 1) ([] ++ [.int .i64 0, .int .i64 (-1), .int .i64 0, .int .i64 (-4), .slice (some ⟨pt, 0, none⟩) 2 2])  [(g0, [.int .i64 0, .int .i64 (-1), .int .i64 0, .int .i64 (-4), .slice (some ⟨pt, 0, none⟩) 2 2]), (pt, ints [50, 0]), (hb, hc ob pb po pc lA tA gA rm rn o r rc gt gc i ic u uc pk (.slice none 0 0) (.slice none 0 0) snt), (o, [rowV a ac, rowV b bc, rowV c cc]), (a, ints [650, 300]), (b, ints [100, 0]), (c, ints [0, 0]), (r, ints rl), (gt, gate0), (i, ints [50, 0]), (u, ints ul), (pk, ints pl)] by
    exact HN.out.appended hown hgr hat)
  obtain ⟨A6, c6, rfl, -, -⟩ := own_slice hown
  clear hgr hnil hat hown hg0 HN HM27
  try simp only [Act.put, List.setIfInBounds_toArray, List.set_cons_zero, List.set_cons_succ]
  refine ⟨⟨(HM28.out.box 2 rfl (Below.refl _ _)).cell 23 rfl, (HM28.out.box 2 rfl (Below.refl _ _)).cell 16 rfl⟩, wpK_done (by kernel_rfl) ?_⟩
  simp only [List.drop_succ_cons, List.drop_zero]
  clear HS
  go_wp2_with (first | (refine wpList_store_cell rfl 57 _ _ (by with_reducible rfl) hb 23 (.slice A6 (0 + 1) c6) (by with_unfolding_all rfl) (by with_unfolding_all rfl) (HM28.out.row.mem.get 2 rfl) (by simp [hc]) (by kernel_rfl) rfl ?_))
  intro W7 hW7
  have HM29 := Lib.hid (show MBR w0 W7 145 5 (.slice A6 (0 + 1) c6) (0 + 1) ([] ++ [.int .i64 0, .int .i64 (-1), .int .i64 0, .int .i64 (-4), .slice (some ⟨pt, 0, none⟩) 2 2])  [(g0, [.int .i64 0, .int .i64 (-1), .int .i64 0, .int .i64 (-4), .slice (some ⟨pt, 0, none⟩) 2 2]), (pt, ints [50, 0]), (hb, hc ob pb po pc lA tA gA rm rn o r rc gt gc i ic u uc pk (.slice none 0 0) (.slice A6 (0 + 1) c6) snt), (o, [rowV a ac, rowV b bc, rowV c cc]), (a, ints [650, 300]), (b, ints [100, 0]), (c, ints [0, 0]), (r, ints rl), (gt, gate0), (i, ints [50, 0]), (u, ints ul), (pk, ints pl)] by
    rw [hW7.out]
    exact HM28.out.put 2 rfl (j := 23) (by simp [hc]) (.slice A6 (0 + 1) c6))
  clear hW7 HM28
  have b30 : W7.cell? ⟨hb, 11, none⟩ = some (.slice (some ⟨rn, 0, none⟩) 3 3) := (HM29.out.box 2 rfl (Below.refl _ _)).cell 11 rfl
  have br1 : W7.cell? ⟨rn, 1, none⟩ = some (.int .i64 0) := HR.out.cell0 HM29.out.bel 1 rfl
  have br2 : W7.cell? ⟨rn, 2, none⟩ = some (.int .i64 0) := HR.out.cell0 HM29.out.bel 2 rfl
  go_wp2_with fail
  rw [rounds_succ]
  go_wp2_with fail
  rw [rounds_succ]
  go_wp2_with fail
  rw [rounds_succ]
  go_wp2_with fail
  (try simp only [Exit.inBlock, Exit.then])
  refine bodyPost_end (results_none rfl _ _ _) rfl ?_
  exact ⟨rfl, _, _, HM29.out.sub (by repeat (first | exact List.Sublist.refl _ | apply List.Sublist.cons_cons | apply List.Sublist.cons))⟩
end Go.Proofs.YtngjakahanmepaaGreatDoor
