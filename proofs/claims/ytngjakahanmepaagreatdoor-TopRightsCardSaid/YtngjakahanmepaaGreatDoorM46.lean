/- Part 46 of the proof of TopRights: slices.Grow, slices.Concat at the exits of a place. -/
import Derived.Test.YtngjakahanmepaaGreatDoorM39
import Derived.Lib.AppendZeros
namespace Go.Proofs.YtngjakahanmepaaGreatDoor
open Go.RowKit
set_option linter.unusedVariables false
set_option linter.unusedSimpArgs false
theorem info_exit : (Tryz.prog.info? 153).map (fun i => (i.zero, i.size, i.bytes)) = some (some (.agg #[.int .i64 0, .int .i64 0, .int .i64 0, .nilFunc]), 4, 32) := by kernel_rfl
set_option maxHeartbeats 2000000 in
theorem grow_none (w : World) : Calls Tryz.prog 100 #[.slice none 0 0, .int .i64 0] w fun e w' => e = .returned (.slice none 0 0) ∧ w' = w := by
  go_enter Tryz.func100, Tryz.ntmps100
  go_wp2_with fail
  go_ret
  exact ⟨rfl, rfl⟩
structure GrowQ (w : World) (e : Ending) (w' : World) : Prop where
  ex : ∃ g c, e = .returned (.slice (some ⟨g, 0, none⟩) 0 c) ∧ w'.ownsRow w.heap.size 153 4 (.slice (some ⟨g, 0, none⟩) 0 c) 0 [] ∧ Below w.heap.size w w'
set_option maxHeartbeats 4000000 in
theorem grow_one (w : World) : Calls Tryz.prog 100 #[.slice none 0 0, .int .i64 1] w (GrowQ w) := by
  obtain ⟨ie, hi0, hi1, hi2, hi3⟩ := info_parts info_exit
  have HR := Lib.hid (fun ty => Lib.run_append_nil_zeros (P := Tryz.prog) w 149 3 ty 153 ie _ .i64 .i64 Tryz.underlying149 Tryz.underlying3 hi0 hi1 1 (by omega) (by omega) (by omega) (by rw [hi3]; omega))
  have hc1 := grownCap_ge w 1 0 153
  have hc2 := grownCap_le_maxLen w 1 0 153 (by unfold maxLen; omega)
  have hsz : (Value.agg #[.int .i64 0, .int .i64 0, .int .i64 0, .nilFunc]).cells.size = 4 := rfl
  have HN := Lib.hid (show GrowQ w (.returned (.slice (some ⟨w.heap.size, 0, none⟩) 0 (grownCap w 1 0 153))) _ from
    ⟨_, _, rfl, World.ownsRow_made w.drew (Builtin.zeroCells (Value.agg #[.int .i64 0, .int .i64 0, .int .i64 0, .nilFunc]).cells 1 ++ Builtin.zeroCells (Value.agg #[.int .i64 0, .int .i64 0, .int .i64 0, .nilFunc]).cells (grownCap w 1 0 153 - 1)) _ (Nat.le_refl _) hc2 (by
      simp only [Builtin.zeroCells, Array.size_append, Array.size_map, Array.size_range, hsz]
      omega), bel_alloc (Below.refl w.heap.size w).drew _⟩)
  clear hc1 hc2 hsz
  clear hi0 hi1 hi2 hi3
  go_enter Tryz.func100, Tryz.ntmps100
  go_wp2_with (first | (at_builtin; refine Lib.wpList_append_run w rfl _ _ _ _ rfl _ _ rfl rfl _ _ (HR.out _) ?_))
  go_ret
  exact HN.out
structure CcQ (xs : List Value) (w : World) (e : Ending) (w' : World) : Prop where
  ex : ∃ g c, e = .returned (.slice (some ⟨g, 0, none⟩) 1 c) ∧ MB w w' [(g, xs)]
set_option maxHeartbeats 4000000 in
set_option maxRecDepth 100000 in
theorem concat_one (q qc x xc : Nat) (v0 v1 v2 v3 : Value) (h1 : ∀ u ∈ [v0, v1, v2, v3], u.oneCell' = true) (w : World) (hq : Rd w (some ⟨q, 0, none⟩) [.slice none 0 0, .slice (some ⟨x, 0, none⟩) 1 xc]) (hx : Rd w (some ⟨x, 0, none⟩) [v0, v1, v2, v3]) :
    Calls Tryz.prog 68 #[.slice (some ⟨q, 0, none⟩) 2 qc] w (CcQ [v0, v1, v2, v3] w) := by
  obtain ⟨ie, hi0, hi1, hi2, hi3⟩ := info_parts info_exit
  have INF := Lib.hid (And.intro hi0 (And.intro hi1 (And.intro hi2 (And.intro hi3 h1))))
  have HQ := Lib.hid (fun (W : World) (hb : Below w.heap.size w W) => And.intro (hq.cell0 hb 0 rfl) (And.intro (hq.cell0 hb 1 rfl) (hx.below (Nat.le_refl _) hb)))
  have HG := Lib.hid (grow_one w)
  obtain ⟨b0, b1, _⟩ := HQ.out w (Below.refl _ _)
  clear hi0 hi1 hi2 hi3 h1 hq hx
  go_enter Tryz.func68, Tryz.ntmps68
  go_wp2_with fail
  refine wp_loop_rounds 3 ?_
  rw [rounds_succ]
  go_wp2_with fail
  rw [rounds_succ]
  go_wp2_with fail
  rw [rounds_succ]
  go_wp2_with fail
  refine HG.out.mono ?_
  rintro e w1 ⟨⟨g, c, rfl, hown, hB⟩⟩
  clear b0 b1 HG
  obtain ⟨b0, b1, hx1⟩ := HQ.out w1 hB
  have HW := Lib.hid (And.intro hown (And.intro hB hx1))
  clear hown hB hx1
  go_wp2_with fail
  refine wp_loop_rounds 3 ?_
  rw [rounds_succ]
  go_wp2_with (first | (at_builtin; refine wpList_append_rd _ rfl _ _ _ (by rfl) w.heap.size 153 ie _ 4 32 Tryz.underlying149 INF.out.1 INF.out.2.1 INF.out.2.2.1 INF.out.2.2.2.1 rfl (by omega) _ 0 [] (by rfl) HW.out.1 none 0 0 [] (by rfl) (fun _ => rfl) (by rfl) (fun h => by cases h) (fun _ h => by cases h) (by unfold maxLen; omega) (by omega) HW.out.2.1.size ?_))
  intro v5 w2 hown hgr hat
  have hB2 : Below w.heap.size w w2 := below_grown HW.out.2.1 hgr (fun k hk => (own_ge HW.out.1 hk).1)
  clear b0 b1 hgr hat HW
  obtain ⟨b0, b1, hx1⟩ := HQ.out w2 hB2
  have HW := Lib.hid (And.intro (show w2.ownsRow w.heap.size 153 4 v5 0 [] from hown) (And.intro hB2 hx1))
  clear hown hB2 hx1
  go_wp2_with fail
  rw [rounds_succ]
  go_wp2_with (first | (at_builtin; refine wpList_append_rd _ rfl _ _ _ (by rfl) w.heap.size 153 ie _ 4 32 Tryz.underlying149 INF.out.1 INF.out.2.1 INF.out.2.2.1 INF.out.2.2.2.1 rfl (by omega) _ 0 [] (by rfl) HW.out.1 (some ⟨x, 0, none⟩) 1 xc [v0, v1, v2, v3] (by rfl) (fun h => by cases h) (by rfl) HW.out.2.2 INF.out.2.2.2.2 (by unfold maxLen; omega) (by omega) HW.out.2.1.size ?_))
  intro v6 w3 hown hgr hat
  have hB3 : Below w.heap.size w w3 := below_grown HW.out.2.1 hgr (fun k hk => (own_ge HW.out.1 hk).1)
  have hown' : w3.ownsRow w.heap.size 153 4 v6 1 [v0, v1, v2, v3] := hown
  obtain ⟨g3, c3, rfl, _, _, hge, _, _⟩ := own_rd2 hown' (by omega)
  have HF := Lib.hid (show MB w w3 [(g3, [v0, v1, v2, v3])] from (MB.nil w).add hB3 (Bo.of_own hown') hge)
  clear b0 b1 hgr hat HW hown hown' hB3 hge HQ
  go_wp2_with fail
  rw [rounds_succ]
  go_wp2_with fail
  go_ret
  exact ⟨g3, c3, rfl, HF.out⟩
structure CnQ (w : World) (e : Ending) (w' : World) : Prop where
  ex : ∃ A c, e = .returned (.slice A 0 c) ∧ Below w.heap.size w w'
set_option maxHeartbeats 4000000 in
set_option maxRecDepth 100000 in
theorem concat_none (q qc : Nat) (w : World) (hq : Rd w (some ⟨q, 0, none⟩) [.slice none 0 0, .slice none 0 0]) :
    Calls Tryz.prog 68 #[.slice (some ⟨q, 0, none⟩) 2 qc] w (CnQ w) := by
  obtain ⟨ie, hi0, hi1, hi2, hi3⟩ := info_parts info_exit
  have INF := Lib.hid (And.intro hi0 (And.intro hi1 (And.intro hi2 (And.intro hi3 trivial))))
  have HQ := Lib.hid (fun (W : World) (hb : Below w.heap.size w W) => And.intro (hq.cell0 hb 0 rfl) (hq.cell0 hb 1 rfl))
  have HG := Lib.hid (grow_none w)
  obtain ⟨b0, b1⟩ := HQ.out w (Below.refl _ _)
  clear hi0 hi1 hi2 hi3 hq
  go_enter Tryz.func68, Tryz.ntmps68
  go_wp2_with fail
  refine wp_loop_rounds 3 ?_
  rw [rounds_succ]
  go_wp2_with fail
  rw [rounds_succ]
  go_wp2_with fail
  rw [rounds_succ]
  go_wp2_with fail
  refine HG.out.mono ?_
  rintro e w1 ⟨rfl, rfl⟩
  clear HG
  have HW := Lib.hid (And.intro (World.ownsRow_nil w1 w1.heap.size 153 4) (Below.refl w1.heap.size w1))
  go_wp2_with fail
  refine wp_loop_rounds 3 ?_
  rw [rounds_succ]
  go_wp2_with (first | (at_builtin; refine wpList_append_rd _ rfl _ _ _ (by rfl) w1.heap.size 153 ie _ 4 32 Tryz.underlying149 INF.out.1 INF.out.2.1 INF.out.2.2.1 INF.out.2.2.2.1 rfl (by omega) _ 0 [] (by rfl) HW.out.1 none 0 0 [] (by rfl) (fun _ => rfl) (by rfl) (fun h => by cases h) (fun _ h => by cases h) (by unfold maxLen; omega) (by omega) HW.out.2.size ?_))
  intro v5 w2 hown hgr hat
  have hB2 : Below w1.heap.size w1 w2 := below_grown HW.out.2 hgr (fun k hk => by cases hk)
  clear b0 b1 hgr hat HW
  obtain ⟨b0, b1⟩ := HQ.out w2 hB2
  have HW := Lib.hid (And.intro (show w2.ownsRow w1.heap.size 153 4 v5 0 [] from hown) hB2)
  clear hown hB2
  go_wp2_with fail
  rw [rounds_succ]
  go_wp2_with (first | (at_builtin; refine wpList_append_rd _ rfl _ _ _ (by rfl) w1.heap.size 153 ie _ 4 32 Tryz.underlying149 INF.out.1 INF.out.2.1 INF.out.2.2.1 INF.out.2.2.2.1 rfl (by omega) _ 0 [] (by rfl) HW.out.1 none 0 0 [] (by rfl) (fun _ => rfl) (by rfl) (fun h => by cases h) (fun _ h => by cases h) (by unfold maxLen; omega) (by omega) HW.out.2.size ?_))
  intro v6 w3 hown hgr hat
  have hB3 : Below w1.heap.size w1 w3 := below_grown HW.out.2 hgr (fun k hk => (own_ge HW.out.1 hk).1)
  obtain ⟨A6, c6, rfl, -, -⟩ := own_slice hown
  have HF := Lib.hid hB3
  clear b0 b1 hgr hat HW hown hB3 HQ
  go_wp2_with fail
  rw [rounds_succ]
  go_wp2_with fail
  go_ret
  exact ⟨_, _, rfl, HF.out⟩
end Go.Proofs.YtngjakahanmepaaGreatDoor
