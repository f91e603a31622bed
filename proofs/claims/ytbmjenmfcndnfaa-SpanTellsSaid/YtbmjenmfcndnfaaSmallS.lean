/- The examples of the span laws: the function small answers true. -/
import Derived.Test.YtbmjenmfcndnfaaSpanS
import Derived.Deep.CutBlock
import Derived.Deep.DeepCutAuto
namespace Go.Proofs.Ytbmjenmfcndnfaa
open Go.RowKit

set_option maxHeartbeats 4000000 in
set_option maxRecDepth 100000 in
theorem small_any (w : World) : Calls Try.prog 8 #[] w fun e w' => e = .returned (.bool true) ∧ Below w.heap.size w w' := by
  have s1 : spanRes (Xa.sscale 10 11 1 3) = #[.agg #[.int .i64 3, .int .i64 4], .bool true] := rfl
  have s2 : spanRes (Xa.sscale (-1) 5 1 1) = #[.agg #[.int .i64 0, .int .i64 0], .bool false] := rfl
  go_enter Try.func8, Try.ntmps8
  go_wp2_with fail
  refine rebase _ (fun V hV x => ?_)
  have HB1 := Lib.hid (bel_at hV (bel_alloc (bel_alloc (Below.refl w.heap.size w) _) _))
  have HC1 := Lib.hid (Cs.at hV (((Cs.nil w).alloc _ _).alloc _ _))
  have hu1 := HC1.out.bx
  simp only [Bx, newCells, join, World.size_alloc] at hu1
  clear hV
  refine (bel_of (sscale_any _ _ _ _ _)).mono ?_
  rintro e w' ⟨rfl, y1, rfl⟩
  rw [s1]
  go_wp2_with fail
  refine rebase _ (fun V2 hV x2 => ?_)
  have HB2 := Lib.hid (bel_at hV (bel_alloc (below_next HB1.out y1.2) _))
  have HC2 := Lib.hid (Cs.at hV ((HC1.out.below y1).alloc _ _))
  have hu2 := HC2.out.bx
  simp only [Bx, newCells, join, World.size_alloc] at hu2
  clear hV hu1
  refine (bel_of (sscale_any _ _ _ _ _)).mono ?_
  rintro e w' ⟨rfl, y2, rfl⟩
  rw [s2]
  go_wp2_with fail
  refine rebase _ (fun V3 hV x3 => ?_)
  have HB3 := Lib.hid (bel_at hV (bel_alloc (below_next HB2.out y2.2) _))
  have HC3 := Lib.hid (Cs.at hV ((HC2.out.below y2).alloc _ _))
  have hu3 := HC3.out.bx
  simp only [Bx, newCells, join, World.size_alloc] at hu3
  clear hV hu2
  refine (bel_of (meet_any _ _ _ _ _)).mono ?_
  rintro e w' ⟨rfl, y3, rfl⟩
  rw [if_pos (by decide)]
  go_wp2_with fail
  refine rebase _ (fun V4 hV x4 => ?_)
  have HB4 := Lib.hid (bel_at hV (bel_alloc (below_next HB3.out y3.2) _))
  have HC4 := Lib.hid (Cs.at hV ((HC3.out.below y3).alloc _ _))
  have hu4 := HC4.out.bx
  simp only [Bx, newCells, join, World.size_alloc] at hu4
  clear hV hu3
  refine (bel_of (meet_any _ _ _ _ _)).mono ?_
  rintro e w' ⟨rfl, y4, rfl⟩
  rw [if_neg (by decide)]
  go_upto_region 7 with fail
  refine wp_rebase _ (fun V5 hV x5 => ?_)
  have HB5 := Lib.hid (bel_at hV (bel_alloc (below_next HB4.out y4.2) _))
  have HC5 := Lib.hid (Cs.at hV ((HC4.out.below y4).alloc _ _))
  have hu5 := HC5.out.bx
  simp only [Bx, newCells, join, World.size_alloc] at hu5
  clear hV hu4
  have k1 : Xa.add 1 10 = 11 := by decide
  have k2 : Xa.add 3 20 = 23 := by decide
  have k3 : Xa.sub 1 20 = -19 := by decide
  have k4 : Xa.sub 3 10 = -7 := by decide
  have k5 : Xa.sub 20 10 = 10 := by decide
  go_wp2_with (first | (go_at_call 10; refine (bel_of (sadd_any _ _ _ _ (by decide) (by decide) (by decide) (by decide) (by decide) (by decide) (by decide) (by decide) _)).mono ?_; rintro e w' ⟨rfl, z, rfl⟩) | (go_at_call 11; refine (bel_of (ssub_any _ _ _ _ (by decide) (by decide) (by decide) (by decide) (by decide) (by decide) (by decide) (by decide) _)).mono ?_; rintro e w' ⟨rfl, z, rfl⟩) | (go_at_call 18; refine (bel_of (join_any _ _ _ _ _)).mono ?_; rintro e w' ⟨rfl, z, rfl⟩) | (go_at_call 9; refine (bel_of (has_any _ _ _ _)).mono ?_; rintro e w' ⟨rfl, z, rfl⟩) | (go_at_call 12; refine (bel_of (right_any _ _ _)).mono ?_; rintro e w' ⟨rfl, z, rfl⟩) | (go_at_call 20; refine (bel_of (width_any _ _ (by decide) (by decide) (by decide) (by decide) _)).mono ?_; rintro e w' ⟨rfl, z, rfl⟩))
  go_ret
  exact ⟨rfl, below_next HB5.out z.2⟩

end Go.Proofs.Ytbmjenmfcndnfaa
