/- The examples of the seep laws: the function small answers true. -/
import Derived.Test.YtacjhenjagageaaMaybe
import Derived.Deep.CutBlock
import Derived.Deep.DeepCutAuto
import Derived.Outline
namespace Go.Proofs.Ytacjhenjagageaa
open Go.RowKit
set_option linter.unusedVariables false
set_option linter.unusedSimpArgs false

theorem Cs.more {V : World} {m : List (Addr × Value)} (hm : Cs V m) (a : Addr) (v : Value) (h : V.cell? a = some v) : Cs V ((a, v) :: m) := ⟨h, hm⟩

set_option maxHeartbeats 4000000 in
set_option maxRecDepth 100000 in
theorem small_any (w : World) : Calls Try.prog 9 #[] w fun e w' => e = .returned (.bool true) ∧ Below w.heap.size w w' := by
  have hgt := span_guardType
  have hst := span_stood
  have hgo := gate_open
  go_enter Try.func9, Try.ntmps9
  go_upto_region 3 with (first | (with_reducible refine wpList_build_as (o := ⟨some 5, _, _, _, _, _⟩) 26 _ (by with_reducible rfl) (by with_unfolding_all rfl) #[.string ⟨#[]⟩, .int .i64 4, .int .i64 0, .int .i64 0, .slice none 0 0, .slice none 0 0, .slice none 0 0, .int .i64 0, .int .i64 0, .int .i64 0, .int .i64 0, .int .i64 1, .int .i64 10, .int .i64 0, .int .i64 0, .int .i64 1, .int .i64 5, .int .i64 0] (by kernel_rfl) ?_) | (with_reducible refine wpList_build_as (o := ⟨some 6, _, _, _, _, _⟩) 26 _ (by with_reducible rfl) (by with_unfolding_all rfl) #[.string ⟨#[]⟩, .int .i64 3, .int .i64 0, .int .i64 0, .slice none 0 0, .slice none 0 0, .slice none 0 0, .int .i64 0, .int .i64 0, .int .i64 0, .int .i64 0, .int .i64 0, .int .i64 0, .int .i64 50, .int .i64 20, .int .i64 0, .int .i64 0, .int .i64 0] (by kernel_rfl) ?_) | (with_reducible refine wpList_store_new (z := [.string ⟨#[]⟩, .int .i64 0, .int .i64 0, .int .i64 0, .slice none 0 0, .slice none 0 0, .slice none 0 0, .int .i64 0, .int .i64 0, .int .i64 0, .int .i64 0, .int .i64 0, .int .i64 0, .int .i64 0, .int .i64 0, .int .i64 0, .int .i64 0, .int .i64 0]) (cs := [.string ⟨#[]⟩, .int .i64 4, .int .i64 0, .int .i64 0, .slice none 0 0, .slice none 0 0, .slice none 0 0, .int .i64 0, .int .i64 0, .int .i64 0, .int .i64 0, .int .i64 1, .int .i64 10, .int .i64 0, .int .i64 0, .int .i64 1, .int .i64 5, .int .i64 0]) 26 (.tmp 1) _ (by with_reducible rfl) (by with_unfolding_all rfl) w.heap.size (by with_reducible rfl) _ (by with_unfolding_all rfl) (by with_unfolding_all rfl) (by with_unfolding_all rfl) (by kernel_rfl) (by with_unfolding_all rfl) ?_) | (with_reducible refine wpList_store_new (z := [.string ⟨#[]⟩, .int .i64 0, .int .i64 0, .int .i64 0, .slice none 0 0, .slice none 0 0, .slice none 0 0, .int .i64 0, .int .i64 0, .int .i64 0, .int .i64 0, .int .i64 0, .int .i64 0, .int .i64 0, .int .i64 0, .int .i64 0, .int .i64 0, .int .i64 0]) (cs := [.string ⟨#[]⟩, .int .i64 3, .int .i64 0, .int .i64 0, .slice none 0 0, .slice none 0 0, .slice none 0 0, .int .i64 0, .int .i64 0, .int .i64 0, .int .i64 0, .int .i64 0, .int .i64 0, .int .i64 50, .int .i64 20, .int .i64 0, .int .i64 0, .int .i64 0]) 26 (.tmp 2) _ (by with_reducible rfl) (by with_unfolding_all rfl) (w.heap.size + 1) (by simp) _ (by with_unfolding_all rfl) (by with_unfolding_all rfl) (by with_unfolding_all rfl) (by kernel_rfl) (by with_unfolding_all rfl) ?_))
  refine wp_rebase _ (fun V1 hV x1 => ?_)
  have HB1 := Lib.hid (bel_at hV (bel_alloc (bel_alloc (Below.refl w.heap.size w) _) _))
  have HR1 := Lib.hid (show V1.rangeAt w.heap.size 0 [.string ⟨#[]⟩, .int .i64 4, .int .i64 0, .int .i64 0, .slice none 0 0, .slice none 0 0, .slice none 0 0, .int .i64 0, .int .i64 0, .int .i64 0, .int .i64 0, .int .i64 1, .int .i64 10, .int .i64 0, .int .i64 0, .int .i64 1, .int .i64 5, .int .i64 0] by rw [hV]; exact World.rangeAt_alloc (range_new _ _ _) _)
  have HR2 := Lib.hid (show V1.rangeAt (w.heap.size + 1) 0 [.string ⟨#[]⟩, .int .i64 3, .int .i64 0, .int .i64 0, .slice none 0 0, .slice none 0 0, .slice none 0 0, .int .i64 0, .int .i64 0, .int .i64 0, .int .i64 0, .int .i64 0, .int .i64 0, .int .i64 50, .int .i64 20, .int .i64 0, .int .i64 0, .int .i64 0] by rw [hV]; have h := range_new (w.alloc (.cells #[.string ⟨#[]⟩, .int .i64 4, .int .i64 0, .int .i64 0, .slice none 0 0, .slice none 0 0, .slice none 0 0, .int .i64 0, .int .i64 0, .int .i64 0, .int .i64 0, .int .i64 1, .int .i64 10, .int .i64 0, .int .i64 0, .int .i64 1, .int .i64 5, .int .i64 0] 26)) 26 [.string ⟨#[]⟩, .int .i64 3, .int .i64 0, .int .i64 0, .slice none 0 0, .slice none 0 0, .slice none 0 0, .int .i64 0, .int .i64 0, .int .i64 0, .int .i64 0, .int .i64 0, .int .i64 0, .int .i64 50, .int .i64 20, .int .i64 0, .int .i64 0, .int .i64 0]; rw [World.size_alloc] at h; exact h)
  clear hV
  go_wp2_with (with_reducible refine wpList_load_g 26 _ (by with_reducible rfl) _ _ (by with_unfolding_all rfl) (by with_unfolding_all rfl) _ _ (BelW.range HR2.out _) Try.underlying26 (by with_unfolding_all rfl) (by kernel_rfl) ?_)
  refine (bel_of (siphon_any _ _ _ _ _ _ _ _ _ _ _ _ _ _ _ _ _ _ _ _ _ _ _ _ 3 0 false false _ _)).mono ?_
  rintro e w' ⟨rfl, y1, rfl⟩
  rw [show sipOpen 3 50 20 50 false = true from rfl]
  go_upto_region 4 with fail
  refine wp_rebase _ (fun V2 hV x2 => ?_)
  have HB2 := Lib.hid (bel_at hV (bel_alloc (below_next HB1.out y1.2) _))
  have HC2 := Lib.hid (Cs.at hV ((Cs.nil y1.w).alloc _ _))
  have HR1' := Lib.hid (show V2.rangeAt w.heap.size 0 [.string ⟨#[]⟩, .int .i64 4, .int .i64 0, .int .i64 0, .slice none 0 0, .slice none 0 0, .slice none 0 0, .int .i64 0, .int .i64 0, .int .i64 0, .int .i64 0, .int .i64 1, .int .i64 10, .int .i64 0, .int .i64 0, .int .i64 1, .int .i64 5, .int .i64 0] by rw [hV]; exact World.rangeAt_alloc (BelW.range HR1.out y1) _)
  have HR2' := Lib.hid (show V2.rangeAt (w.heap.size + 1) 0 [.string ⟨#[]⟩, .int .i64 3, .int .i64 0, .int .i64 0, .slice none 0 0, .slice none 0 0, .slice none 0 0, .int .i64 0, .int .i64 0, .int .i64 0, .int .i64 0, .int .i64 0, .int .i64 0, .int .i64 50, .int .i64 20, .int .i64 0, .int .i64 0, .int .i64 0] by rw [hV]; exact World.rangeAt_alloc (BelW.range HR2.out y1) _)
  clear hV HR1 HR2
  have HR1 := HR1'
  have HR2 := HR2'
  clear HR1' HR2'
  go_wp2_with (with_reducible refine wpList_load_g 26 _ (by with_reducible rfl) _ _ (by with_unfolding_all rfl) (by with_unfolding_all rfl) _ _ (BelW.range HR2.out _) Try.underlying26 (by with_unfolding_all rfl) (by kernel_rfl) ?_)
  refine (bel_of (maybe_any _ _ _ _ _ _ _ _ _ _ _ _ _ _ _ _ _ _ _ _ _ _ _ _ (by decide) (by decide) _ _ _ _ _ _ _ _)).mono ?_
  rintro e w' ⟨rfl, y2, rfl⟩
  rw [show maybeOpen 3 50 20 0 0 30 60 = (0, 1) from by decide]
  go_upto_region 5 with fail
  refine wp_rebase _ (fun V3 hV x3 => ?_)
  have HB3 := Lib.hid (bel_at hV (bel_alloc (below_next HB2.out y2.2) _))
  have HC3 := Lib.hid (Cs.at hV ((HC2.out.below y2).alloc _ _))
  have HR1' := Lib.hid (show V3.rangeAt w.heap.size 0 [.string ⟨#[]⟩, .int .i64 4, .int .i64 0, .int .i64 0, .slice none 0 0, .slice none 0 0, .slice none 0 0, .int .i64 0, .int .i64 0, .int .i64 0, .int .i64 0, .int .i64 1, .int .i64 10, .int .i64 0, .int .i64 0, .int .i64 1, .int .i64 5, .int .i64 0] by rw [hV]; exact World.rangeAt_alloc (BelW.range HR1.out y2) _)
  have HR2' := Lib.hid (show V3.rangeAt (w.heap.size + 1) 0 [.string ⟨#[]⟩, .int .i64 3, .int .i64 0, .int .i64 0, .slice none 0 0, .slice none 0 0, .slice none 0 0, .int .i64 0, .int .i64 0, .int .i64 0, .int .i64 0, .int .i64 0, .int .i64 0, .int .i64 50, .int .i64 20, .int .i64 0, .int .i64 0, .int .i64 0] by rw [hV]; exact World.rangeAt_alloc (BelW.range HR2.out y2) _)
  have hu3 := HC3.out.bx
  simp only [Bx, newCells, join, World.size_alloc] at hu3
  clear hV HR1 HR2
  have HR1 := HR1'
  have HR2 := HR2'
  clear HR1' HR2'
  have a1 : askOf 4 1 10 1 5 100 10 = 8 := by decide
  have a2 : askOf 4 1 10 1 5 100 100 = -10 := by decide
  have a3 : askOf 4 1 10 1 5 100 20 = 6 := by decide
  have a4 : askOf 4 1 10 1 5 200 10 = 18 := by decide
  have a5 : sipOpen 3 50 20 20 true = false := rfl
  have a6 : sipOpen 3 50 20 21 true = true := rfl
  go_wp2_with (first | (with_reducible refine wpList_load_g 26 _ (by with_reducible rfl) _ _ (by with_unfolding_all rfl) (by with_unfolding_all rfl) _ _ (BelW.range HR1.out _) Try.underlying26 (by with_unfolding_all rfl) (by kernel_rfl) ?_) | (with_reducible refine wpList_load_g 26 _ (by with_reducible rfl) _ _ (by with_unfolding_all rfl) (by with_unfolding_all rfl) _ _ (BelW.range HR2.out _) Try.underlying26 (by with_unfolding_all rfl) (by kernel_rfl) ?_) | (go_at_call 10; refine (bel_of (ask_any _ _ _ _ _ _ _ _ _ _ _ _ _ _ _ _ _ _ _ _ _ _ _ _ _ _ _)).mono ?_; rintro e w' ⟨rfl, z, rfl⟩) | (go_at_call 12; refine (bel_of (bounds_any _ _ _ _ _ _ _ _ _ _ _ _ _ _ _ _ _ _ _ _ _ _ _ _ _ _ _ _ _)).mono ?_; rintro e w' ⟨rfl, z, rfl⟩) | (go_at_call 14; refine (bel_of (siphon_any _ _ _ _ _ _ _ _ _ _ _ _ _ _ _ _ _ _ _ _ _ _ _ _ _ _ _ _ _ _)).mono ?_; rintro e w' ⟨rfl, z, rfl⟩))
  go_ret
  exact ⟨rfl, below_next HB3.out z.2⟩

end Go.Proofs.Ytacjhenjagageaa
