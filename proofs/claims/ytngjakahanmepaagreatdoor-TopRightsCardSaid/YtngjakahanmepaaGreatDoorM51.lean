/- Part 51 of the proof of TopRights: hull.Of at the lake's beginning. Printed by wip/tools/mkof.py. -/
import Derived.Test.YtngjakahanmepaaGreatDoorM50
namespace Go.Proofs.YtngjakahanmepaaGreatDoor
open Go.RowKit
set_option linter.unusedVariables false
set_option linter.unusedSimpArgs false
structure HullQ (w : World) (e : Ending) (w' : World) : Prop where
  ex : ∃ vo vc li lc, e = .returned (.agg #[.int .i64 0, .slice (some ⟨vo, 0, none⟩) 3 vc, .slice none 0 0, .slice (some ⟨li, 0, none⟩) 1 lc]) ∧ MB w w' [(li, [.int .i64 0, .int .i64 0, .int .i64 0, .int .i64 0, .int .i64 0]), (vo, [.int .i64 900, .int .i64 900, .int .i64 100, .int .i64 100, .int .i64 0, .int .i64 0])]
set_option maxHeartbeats 32000000 in
set_option maxRecDepth 100000 in
theorem of_is {ob pb po lA tA gA rm : Nat} (pc g4 g8 g12 g16 g20 a ac b bc c cc : Nat) (w : World) (hm : Mem w (stMem g4 g8 g12 g16 g20 a ac b bc c cc)) :
    Calls Tryz.prog 18 #[lakeB ob rm lA tA gA (some ⟨pb, po, none⟩) pc, stB g4 g8 g12 g16 g20] w (HullQ w) := by
  obtain ⟨is, hi0, hi1, hi2, hi3⟩ := info_parts info_span
  obtain ⟨ik, hk0, hk1, hk2, hk3⟩ := info_parts info_known
  have hml : 3 ≤ maxLen := by unfold maxLen; omega
  have INS := Lib.hid (And.intro hi0 (And.intro hi1 (And.intro hi2 (And.intro hi3 hml))))
  have INK := Lib.hid (And.intro hk0 (And.intro hk1 (And.intro hk2 (And.intro hk3 hml))))
  have HS0 := Lib.hid hm
  clear hi0 hi1 hi2 hi3 hk0 hk1 hk2 hk3 hml hm
  show Calls Tryz.prog 18 #[.agg #[.string demoN, .slice (some ⟨ob, 0, none⟩) 2 2, .int .i64 1, .slice (some ⟨pb, po, none⟩) 3 pc, .slice (some ⟨lA, 0, none⟩) 1 1, .slice (some ⟨tA, 0, none⟩) 1 1, .slice (some ⟨gA, 0, none⟩) 1 1, .slice none 0 0, .slice none 0 0, .slice (some ⟨rm, 0, none⟩) 3 3, .int .i64 1], .agg #[.int .i64 0, .slice (some ⟨g4, 0, none⟩) 3 3, .slice (some ⟨g8, 0, none⟩) 3 3, .slice none 0 0, .slice (some ⟨g12, 0, none⟩) 1 1, .slice (some ⟨g16, 0, none⟩) 2 2, .slice (some ⟨g20, 0, none⟩) 2 2]] w (HullQ w)
  go_enter Tryz.func18, Tryz.ntmps18
  go_upto_region 1 with fail
  refine wp_rebase _ (fun V1 hV1 x2 => ?_)
  have HM3 := Lib.hid (show MB w V1 [(w.heap.size + 1 + 1, [.int .i64 0, .slice none 0 0, .slice none 0 0, .slice none 0 0]), (w.heap.size + 1, stL g4 g8 g12 g16 g20)] by
    rw [hV1]
    exact ((((MB.nil w).new 31 [.string demoN, .slice (some ⟨ob, 0, none⟩) 2 2, .int .i64 1, .slice (some ⟨pb, po, none⟩) 3 pc, .slice (some ⟨lA, 0, none⟩) 1 1, .slice (some ⟨tA, 0, none⟩) 1 1, .slice (some ⟨gA, 0, none⟩) 1 1, .slice none 0 0, .slice none 0 0, .slice (some ⟨rm, 0, none⟩) 3 3, .int .i64 1]).newAt (by rw [World.size_alloc]) 55 [.int .i64 0, .slice (some ⟨g4, 0, none⟩) 3 3, .slice (some ⟨g8, 0, none⟩) 3 3, .slice none 0 0, .slice (some ⟨g12, 0, none⟩) 1 1, .slice (some ⟨g16, 0, none⟩) 2 2, .slice (some ⟨g20, 0, none⟩) 2 2]).newAt (by rw [World.size_alloc, World.size_alloc]) 71 [.int .i64 0, .slice none 0 0, .slice none 0 0, .slice none 0 0]).sub (.cons_cons _ (.cons_cons _ (.cons _ (.refl _)))))
  clear hV1
  have b4 := fun z : BelW V1 => (show z.w.cell? ⟨w.heap.size + 1, 0, none⟩ = some (.int .i64 0) from (HM3.out.box 1 rfl z.2).cell 0 rfl)
  obtain ⟨hx, hhx⟩ : ∃ n, x2.w.heap.size = n := ⟨_, rfl⟩
  go_upto_region 2 with (first | (with_reducible refine wpList_store_new (z := [.int .i64 0, .slice none 0 0, .slice none 0 0, .slice none 0 0]) (cs := [.int .i64 0, .slice none 0 0, .slice none 0 0, .slice none 0 0]) 71 _ _ (by with_reducible rfl) (by with_unfolding_all rfl) hx (by exact hhx.symm) _ (by with_unfolding_all rfl) (by with_unfolding_all rfl) (by with_unfolding_all rfl) (by kernel_rfl) (by with_unfolding_all rfl) ?_))
  try simp only [Act.put]
  refine wp_rebase _ (fun V5 hV5 x6 => ?_)
  have HM7 := Lib.hid (show MBR w V5 109 2 (.slice none 0 0) 0 []  [(hx, [.int .i64 0, .slice none 0 0, .slice none 0 0, .slice none 0 0]), (w.heap.size + 1 + 1, [.int .i64 0, .slice none 0 0, .slice none 0 0, .slice none 0 0]), (w.heap.size + 1, stL g4 g8 g12 g16 g20)] by
    rw [hV5]
    exact ((HM3.out.next x2.2).newAt hhx 71 [.int .i64 0, .slice none 0 0, .slice none 0 0, .slice none 0 0]).row 109 2)
  clear hV5
  clear hhx HM3 b4
  have b8 := fun z : BelW V5 => (show z.w.cell? ⟨w.heap.size + 1, 1, none⟩ = some (.slice (some ⟨g4, 0, none⟩) 3 3) from (HM7.out.box 2 rfl z.2).cell 1 rfl)
  go_wp2_with fail
  refine wp_loop_rounds 4 ?_
  rw [rounds_succ]
  have b9 := fun z : BelW V5 => (show z.w.cell? ⟨g4, 0, none⟩ = some (.slice (some ⟨a, 0, none⟩) 2 ac) from (((HS0.out.get 3 rfl).next HM7.out.bel).next z.2).cell 0 rfl)
  go_upto_region 5 with fail
  try simp only [Act.put]
  refine wp_rebase _ (fun V10 hV10 x11 => ?_)
  have HM12 := Lib.hid (show MBR w V10 109 2 (.slice none 0 0) 0 []  [(hx, [.int .i64 0, .slice none 0 0, .slice none 0 0, .slice none 0 0]), (w.heap.size + 1 + 1, [.int .i64 0, .slice none 0 0, .slice none 0 0, .slice none 0 0]), (w.heap.size + 1, stL g4 g8 g12 g16 g20)] by
    rw [hV10]
    exact HM7.out.next x6.2)
  clear hV10
  clear HM7 b8 b9
  have HS := Lib.hid (show (fun w' : World => w'.cell? ⟨hx, 1, none⟩ = some (.slice none 0 0)) x11.w.drew from (HM12.out.box 0 rfl x11.2.drew).cell 1 rfl)
  have b13 := fun z : BelW V10 => (show z.w.cell? ⟨hx, 1, none⟩ = some (.slice none 0 0) from (HM12.out.box 0 rfl z.2).cell 1 rfl)
  refine wp_region_tl 7 9 (fun w' => w'.cell? ⟨hx, 1, none⟩ = some (.slice none 0 0)) HS.out ?_
  iterate 3 (refine wpK_nx rfl rfl HS.out (Or.inl ⟨by rfl, fun w1 hS => by first | (go_simp <;> with_reducible rfl) | (go_simp <;> simp only [hS])⟩) ?_; simp only [Act.put, List.setIfInBounds_toArray, List.set_cons_zero, List.set_cons_succ])
  have HC := Lib.hid (tot_c a ac 2 [600, 300] 900 rfl (by kernel_rfl) (by kernel_rfl) (by omega) x11.w.drew (((HS0.out.get 2 rfl).next HM12.out.bel).next x11.2.drew).rd)
  refine wpK_ne rfl ?_
  go_wp2_with fail
  refine HC.out.mono ?_
  rintro e wa ⟨rfl, hB⟩
  have HM14 := Lib.hid (show MBR w wa 109 2 (.slice none 0 0) 0 []  [(hx, [.int .i64 0, .slice none 0 0, .slice none 0 0, .slice none 0 0]), (w.heap.size + 1 + 1, [.int .i64 0, .slice none 0 0, .slice none 0 0, .slice none 0 0]), (w.heap.size + 1, stL g4 g8 g12 g16 g20)] by
    exact (HM12.out.next x11.2.drew).next hB)
  clear hB HC HM12
  go_wp2_with fail
  refine ⟨(HM14.out.box 0 rfl (Below.refl _ _)).cell 1 rfl, ?_⟩
  have HC := Lib.hid (spof_is 900 wa)
  refine wpK_ne rfl ?_
  go_wp2_with fail
  refine HC.out.mono ?_
  rintro e wb ⟨rfl, hB⟩
  have HM15 := Lib.hid (show MBR w wb 109 2 (.slice none 0 0) 0 []  [(hx, [.int .i64 0, .slice none 0 0, .slice none 0 0, .slice none 0 0]), (w.heap.size + 1 + 1, [.int .i64 0, .slice none 0 0, .slice none 0 0, .slice none 0 0]), (w.heap.size + 1, stL g4 g8 g12 g16 g20)] by
    exact HM14.out.next hB)
  clear hB HC HM14
  go_wp2_with fail
  refine ⟨(HM15.out.box 0 rfl (Below.refl _ _)).cell 1 rfl, ?_⟩
  obtain ⟨g0, hg0⟩ : ∃ n, wb.heap.size = n := ⟨_, rfl⟩
  have HM16 := Lib.hid (show MBR w (wb.alloc (.cells ([.int .i64 900, .int .i64 900] : List Value).toArray 109)) 109 2 (.slice none 0 0) 0 []  [(g0, [.int .i64 900, .int .i64 900]), (hx, [.int .i64 0, .slice none 0 0, .slice none 0 0, .slice none 0 0]), (w.heap.size + 1 + 1, [.int .i64 0, .slice none 0 0, .slice none 0 0, .slice none 0 0]), (w.heap.size + 1, stL g4 g8 g12 g16 g20)] by
    exact HM15.out.newAt hg0 109 [.int .i64 900, .int .i64 900])
  refine wpK_ne rfl ?_
  go_wp2_with (first | (refine Go.Great.wpList_buildSliceTo rfl 67 109 1 _ rfl (g0) hg0 _ rfl (by kernel_rfl) #[.int .i64 900, .int .i64 900] (by kernel_rfl) ?_))
  refine ⟨(HM16.out.box 1 rfl (Below.refl _ _)).cell 1 rfl, ?_⟩
  refine wpK_ne rfl ?_
  refine wpList_append_own_at _ rfl _ _ _ (by rfl) w.heap.size 109 is _ 2 16 Tryz.underlying67 INS.out.1 INS.out.2.1 INS.out.2.2.1 INS.out.2.2.2.1 rfl (by omega) _ 0 [] (by rfl) (HM16.out.own (Below.refl _ _)) ⟨g0, 0, none⟩ 1 1 [.int .i64 900, .int .i64 900] (by rfl) (by rfl) (fun j u hu => by rw [add_row]; exact (HM16.out.row.mem.get 0 rfl).cell j hu) (by intro v hv; simp only [List.mem_cons, List.not_mem_nil, or_false] at hv; rcases hv with rfl | rfl <;> rfl) (by unfold maxLen; omega) (by omega) HM16.out.bel.size ?_
  intro v6 W6 hown hgr hnil hat
  obtain ⟨vo0, vc0, rfl, _, _, _, _, _⟩ := own_rd2 hown (by omega)
  have HM17 := Lib.hid (show MBR w W6 109 2 (.slice (some ⟨vo0, 0, none⟩) 1 vc0) 1 [.int .i64 900, .int .i64 900]  [(g0, [.int .i64 900, .int .i64 900]), (hx, [.int .i64 0, .slice none 0 0, .slice none 0 0, .slice none 0 0]), (w.heap.size + 1 + 1, [.int .i64 0, .slice none 0 0, .slice none 0 0, .slice none 0 0]), (w.heap.size + 1, stL g4 g8 g12 g16 g20)] by
    exact HM16.out.appended hown hgr hat)
  clear hgr hnil hat hown hg0 HM15 HM16
  try simp only [Act.put, List.setIfInBounds_toArray, List.set_cons_zero, List.set_cons_succ]
  refine ⟨(HM17.out.box 1 rfl (Below.refl _ _)).cell 1 rfl, wpK_done (by kernel_rfl) ?_⟩
  simp only [List.drop_succ_cons, List.drop_zero]
  clear HS b13
  go_wp2_with (first | (refine wpList_store_cell rfl 67 _ _ (by with_reducible rfl) hx 1 (.slice (some ⟨vo0, 0, none⟩) 1 vc0) (by with_unfolding_all rfl) (by with_unfolding_all rfl) (HM17.out.row.mem.get 1 rfl) (by simp) (by kernel_rfl) rfl ?_))
  intro X0 hX0
  have HM18 := Lib.hid (show MBR w X0 109 2 (.slice (some ⟨vo0, 0, none⟩) 1 vc0) 1 [.int .i64 900, .int .i64 900]  [(hx, [.int .i64 0, .slice (some ⟨vo0, 0, none⟩) 1 vc0, .slice none 0 0, .slice none 0 0]), (w.heap.size + 1 + 1, [.int .i64 0, .slice none 0 0, .slice none 0 0, .slice none 0 0]), (w.heap.size + 1, stL g4 g8 g12 g16 g20)] by
    rw [hX0.out]
    exact (HM17.out.put 1 rfl (j := 1) (by simp) (.slice (some ⟨vo0, 0, none⟩) 1 vc0)).sub (by repeat (first | exact List.Sublist.refl _ | apply List.Sublist.cons_cons | apply List.Sublist.cons)))
  clear hX0 HM17
  go_upto_region 6 with fail
  try simp only [Act.put]
  refine wp_rebase _ (fun V19 hV19 x20 => ?_)
  have HM21 := Lib.hid (show MBR w V19 109 2 (.slice (some ⟨vo0, 0, none⟩) 1 vc0) 1 [.int .i64 900, .int .i64 900]  [(hx, [.int .i64 0, .slice (some ⟨vo0, 0, none⟩) 1 vc0, .slice none 0 0, .slice none 0 0]), (w.heap.size + 1 + 1, [.int .i64 0, .slice none 0 0, .slice none 0 0, .slice none 0 0]), (w.heap.size + 1, stL g4 g8 g12 g16 g20)] by
    rw [hV19]
    exact HM18.out)
  clear hV19
  clear HM18
  have b22 := fun z : BelW V19 => (show z.w.cell? ⟨g4, 1, none⟩ = some (.slice (some ⟨b, 0, none⟩) 2 bc) from (((HS0.out.get 3 rfl).next HM21.out.bel).next z.2).cell 1 rfl)
  go_wp2_with fail
  rw [rounds_succ]
  go_upto_region 5 with fail
  try simp only [Act.put]
  refine wp_rebase _ (fun V23 hV23 x24 => ?_)
  have HM25 := Lib.hid (show MBR w V23 109 2 (.slice (some ⟨vo0, 0, none⟩) 1 vc0) 1 [.int .i64 900, .int .i64 900]  [(hx, [.int .i64 0, .slice (some ⟨vo0, 0, none⟩) 1 vc0, .slice none 0 0, .slice none 0 0]), (w.heap.size + 1 + 1, [.int .i64 0, .slice none 0 0, .slice none 0 0, .slice none 0 0]), (w.heap.size + 1, stL g4 g8 g12 g16 g20)] by
    rw [hV23]
    exact HM21.out.next x20.2)
  clear hV23
  clear HM21 b22
  have HS := Lib.hid (show (fun w' : World => w'.cell? ⟨hx, 1, none⟩ = some (.slice (some ⟨vo0, 0, none⟩) 1 vc0)) x24.w.drew from (HM25.out.box 0 rfl x24.2.drew).cell 1 rfl)
  have b26 := fun z : BelW V23 => (show z.w.cell? ⟨hx, 1, none⟩ = some (.slice (some ⟨vo0, 0, none⟩) 1 vc0) from (HM25.out.box 0 rfl z.2).cell 1 rfl)
  refine wp_region_tl 7 9 (fun w' => w'.cell? ⟨hx, 1, none⟩ = some (.slice (some ⟨vo0, 0, none⟩) 1 vc0)) HS.out ?_
  iterate 3 (refine wpK_nx rfl rfl HS.out (Or.inl ⟨by rfl, fun w1 hS => by first | (go_simp <;> with_reducible rfl) | (go_simp <;> simp only [hS])⟩) ?_; simp only [Act.put, List.setIfInBounds_toArray, List.set_cons_zero, List.set_cons_succ])
  have HC := Lib.hid (tot_c b bc 2 [100, 0] 100 rfl (by kernel_rfl) (by kernel_rfl) (by omega) x24.w.drew (((HS0.out.get 1 rfl).next HM25.out.bel).next x24.2.drew).rd)
  refine wpK_ne rfl ?_
  go_wp2_with fail
  refine HC.out.mono ?_
  rintro e wa ⟨rfl, hB⟩
  have HM27 := Lib.hid (show MBR w wa 109 2 (.slice (some ⟨vo0, 0, none⟩) 1 vc0) 1 [.int .i64 900, .int .i64 900]  [(hx, [.int .i64 0, .slice (some ⟨vo0, 0, none⟩) 1 vc0, .slice none 0 0, .slice none 0 0]), (w.heap.size + 1 + 1, [.int .i64 0, .slice none 0 0, .slice none 0 0, .slice none 0 0]), (w.heap.size + 1, stL g4 g8 g12 g16 g20)] by
    exact (HM25.out.next x24.2.drew).next hB)
  clear hB HC HM25
  go_wp2_with fail
  refine ⟨(HM27.out.box 0 rfl (Below.refl _ _)).cell 1 rfl, ?_⟩
  have HC := Lib.hid (spof_is 100 wa)
  refine wpK_ne rfl ?_
  go_wp2_with fail
  refine HC.out.mono ?_
  rintro e wb ⟨rfl, hB⟩
  have HM28 := Lib.hid (show MBR w wb 109 2 (.slice (some ⟨vo0, 0, none⟩) 1 vc0) 1 [.int .i64 900, .int .i64 900]  [(hx, [.int .i64 0, .slice (some ⟨vo0, 0, none⟩) 1 vc0, .slice none 0 0, .slice none 0 0]), (w.heap.size + 1 + 1, [.int .i64 0, .slice none 0 0, .slice none 0 0, .slice none 0 0]), (w.heap.size + 1, stL g4 g8 g12 g16 g20)] by
    exact HM27.out.next hB)
  clear hB HC HM27
  go_wp2_with fail
  refine ⟨(HM28.out.box 0 rfl (Below.refl _ _)).cell 1 rfl, ?_⟩
  obtain ⟨g0, hg0⟩ : ∃ n, wb.heap.size = n := ⟨_, rfl⟩
  have HM29 := Lib.hid (show MBR w (wb.alloc (.cells ([.int .i64 100, .int .i64 100] : List Value).toArray 109)) 109 2 (.slice (some ⟨vo0, 0, none⟩) 1 vc0) 1 [.int .i64 900, .int .i64 900]  [(g0, [.int .i64 100, .int .i64 100]), (hx, [.int .i64 0, .slice (some ⟨vo0, 0, none⟩) 1 vc0, .slice none 0 0, .slice none 0 0]), (w.heap.size + 1 + 1, [.int .i64 0, .slice none 0 0, .slice none 0 0, .slice none 0 0]), (w.heap.size + 1, stL g4 g8 g12 g16 g20)] by
    exact HM28.out.newAt hg0 109 [.int .i64 100, .int .i64 100])
  refine wpK_ne rfl ?_
  go_wp2_with (first | (refine Go.Great.wpList_buildSliceTo rfl 67 109 1 _ rfl (g0) hg0 _ rfl (by kernel_rfl) #[.int .i64 100, .int .i64 100] (by kernel_rfl) ?_))
  refine ⟨(HM29.out.box 1 rfl (Below.refl _ _)).cell 1 rfl, ?_⟩
  refine wpK_ne rfl ?_
  refine wpList_append_own_at _ rfl _ _ _ (by rfl) w.heap.size 109 is _ 2 16 Tryz.underlying67 INS.out.1 INS.out.2.1 INS.out.2.2.1 INS.out.2.2.2.1 rfl (by omega) _ 1 [.int .i64 900, .int .i64 900] (by rfl) (HM29.out.own (Below.refl _ _)) ⟨g0, 0, none⟩ 1 1 [.int .i64 100, .int .i64 100] (by rfl) (by rfl) (fun j u hu => by rw [add_row]; exact (HM29.out.row.mem.get 0 rfl).cell j hu) (by intro v hv; simp only [List.mem_cons, List.not_mem_nil, or_false] at hv; rcases hv with rfl | rfl <;> rfl) (by unfold maxLen; omega) (by omega) HM29.out.bel.size ?_
  intro v6 W6 hown hgr hnil hat
  obtain ⟨vo1, vc1, rfl, _, _, _, _, _⟩ := own_rd2 hown (by omega)
  have HM30 := Lib.hid (show MBR w W6 109 2 (.slice (some ⟨vo1, 0, none⟩) 2 vc1) 2 [.int .i64 900, .int .i64 900, .int .i64 100, .int .i64 100]  [(g0, [.int .i64 100, .int .i64 100]), (hx, [.int .i64 0, .slice (some ⟨vo0, 0, none⟩) 1 vc0, .slice none 0 0, .slice none 0 0]), (w.heap.size + 1 + 1, [.int .i64 0, .slice none 0 0, .slice none 0 0, .slice none 0 0]), (w.heap.size + 1, stL g4 g8 g12 g16 g20)] by
    exact HM29.out.appended hown hgr hat)
  clear hgr hnil hat hown hg0 HM28 HM29
  try simp only [Act.put, List.setIfInBounds_toArray, List.set_cons_zero, List.set_cons_succ]
  refine ⟨(HM30.out.box 1 rfl (Below.refl _ _)).cell 1 rfl, wpK_done (by kernel_rfl) ?_⟩
  simp only [List.drop_succ_cons, List.drop_zero]
  clear HS b26
  go_wp2_with (first | (refine wpList_store_cell rfl 67 _ _ (by with_reducible rfl) hx 1 (.slice (some ⟨vo1, 0, none⟩) 2 vc1) (by with_unfolding_all rfl) (by with_unfolding_all rfl) (HM30.out.row.mem.get 1 rfl) (by simp) (by kernel_rfl) rfl ?_))
  intro X1 hX1
  have HM31 := Lib.hid (show MBR w X1 109 2 (.slice (some ⟨vo1, 0, none⟩) 2 vc1) 2 [.int .i64 900, .int .i64 900, .int .i64 100, .int .i64 100]  [(hx, [.int .i64 0, .slice (some ⟨vo1, 0, none⟩) 2 vc1, .slice none 0 0, .slice none 0 0]), (w.heap.size + 1 + 1, [.int .i64 0, .slice none 0 0, .slice none 0 0, .slice none 0 0]), (w.heap.size + 1, stL g4 g8 g12 g16 g20)] by
    rw [hX1.out]
    exact (HM30.out.put 1 rfl (j := 1) (by simp) (.slice (some ⟨vo1, 0, none⟩) 2 vc1)).sub (by repeat (first | exact List.Sublist.refl _ | apply List.Sublist.cons_cons | apply List.Sublist.cons)))
  clear hX1 HM30
  go_upto_region 6 with fail
  try simp only [Act.put]
  refine wp_rebase _ (fun V32 hV32 x33 => ?_)
  have HM34 := Lib.hid (show MBR w V32 109 2 (.slice (some ⟨vo1, 0, none⟩) 2 vc1) 2 [.int .i64 900, .int .i64 900, .int .i64 100, .int .i64 100]  [(hx, [.int .i64 0, .slice (some ⟨vo1, 0, none⟩) 2 vc1, .slice none 0 0, .slice none 0 0]), (w.heap.size + 1 + 1, [.int .i64 0, .slice none 0 0, .slice none 0 0, .slice none 0 0]), (w.heap.size + 1, stL g4 g8 g12 g16 g20)] by
    rw [hV32]
    exact HM31.out)
  clear hV32
  clear HM31
  have b35 := fun z : BelW V32 => (show z.w.cell? ⟨g4, 2, none⟩ = some (.slice (some ⟨c, 0, none⟩) 2 cc) from (((HS0.out.get 3 rfl).next HM34.out.bel).next z.2).cell 2 rfl)
  go_wp2_with fail
  rw [rounds_succ]
  go_upto_region 5 with fail
  try simp only [Act.put]
  refine wp_rebase _ (fun V36 hV36 x37 => ?_)
  have HM38 := Lib.hid (show MBR w V36 109 2 (.slice (some ⟨vo1, 0, none⟩) 2 vc1) 2 [.int .i64 900, .int .i64 900, .int .i64 100, .int .i64 100]  [(hx, [.int .i64 0, .slice (some ⟨vo1, 0, none⟩) 2 vc1, .slice none 0 0, .slice none 0 0]), (w.heap.size + 1 + 1, [.int .i64 0, .slice none 0 0, .slice none 0 0, .slice none 0 0]), (w.heap.size + 1, stL g4 g8 g12 g16 g20)] by
    rw [hV36]
    exact HM34.out.next x33.2)
  clear hV36
  clear HM34 b35
  have HS := Lib.hid (show (fun w' : World => w'.cell? ⟨hx, 1, none⟩ = some (.slice (some ⟨vo1, 0, none⟩) 2 vc1)) x37.w.drew from (HM38.out.box 0 rfl x37.2.drew).cell 1 rfl)
  have b39 := fun z : BelW V36 => (show z.w.cell? ⟨hx, 1, none⟩ = some (.slice (some ⟨vo1, 0, none⟩) 2 vc1) from (HM38.out.box 0 rfl z.2).cell 1 rfl)
  refine wp_region_tl 7 9 (fun w' => w'.cell? ⟨hx, 1, none⟩ = some (.slice (some ⟨vo1, 0, none⟩) 2 vc1)) HS.out ?_
  iterate 3 (refine wpK_nx rfl rfl HS.out (Or.inl ⟨by rfl, fun w1 hS => by first | (go_simp <;> with_reducible rfl) | (go_simp <;> simp only [hS])⟩) ?_; simp only [Act.put, List.setIfInBounds_toArray, List.set_cons_zero, List.set_cons_succ])
  have HC := Lib.hid (tot_c c cc 2 [0, 0] 0 rfl (by kernel_rfl) (by kernel_rfl) (by omega) x37.w.drew (((HS0.out.get 0 rfl).next HM38.out.bel).next x37.2.drew).rd)
  refine wpK_ne rfl ?_
  go_wp2_with fail
  refine HC.out.mono ?_
  rintro e wa ⟨rfl, hB⟩
  have HM40 := Lib.hid (show MBR w wa 109 2 (.slice (some ⟨vo1, 0, none⟩) 2 vc1) 2 [.int .i64 900, .int .i64 900, .int .i64 100, .int .i64 100]  [(hx, [.int .i64 0, .slice (some ⟨vo1, 0, none⟩) 2 vc1, .slice none 0 0, .slice none 0 0]), (w.heap.size + 1 + 1, [.int .i64 0, .slice none 0 0, .slice none 0 0, .slice none 0 0]), (w.heap.size + 1, stL g4 g8 g12 g16 g20)] by
    exact (HM38.out.next x37.2.drew).next hB)
  clear hB HC HM38
  go_wp2_with fail
  refine ⟨(HM40.out.box 0 rfl (Below.refl _ _)).cell 1 rfl, ?_⟩
  have HC := Lib.hid (spof_is 0 wa)
  refine wpK_ne rfl ?_
  go_wp2_with fail
  refine HC.out.mono ?_
  rintro e wb ⟨rfl, hB⟩
  have HM41 := Lib.hid (show MBR w wb 109 2 (.slice (some ⟨vo1, 0, none⟩) 2 vc1) 2 [.int .i64 900, .int .i64 900, .int .i64 100, .int .i64 100]  [(hx, [.int .i64 0, .slice (some ⟨vo1, 0, none⟩) 2 vc1, .slice none 0 0, .slice none 0 0]), (w.heap.size + 1 + 1, [.int .i64 0, .slice none 0 0, .slice none 0 0, .slice none 0 0]), (w.heap.size + 1, stL g4 g8 g12 g16 g20)] by
    exact HM40.out.next hB)
  clear hB HC HM40
  go_wp2_with fail
  refine ⟨(HM41.out.box 0 rfl (Below.refl _ _)).cell 1 rfl, ?_⟩
  obtain ⟨g0, hg0⟩ : ∃ n, wb.heap.size = n := ⟨_, rfl⟩
  have HM42 := Lib.hid (show MBR w (wb.alloc (.cells ([.int .i64 0, .int .i64 0] : List Value).toArray 109)) 109 2 (.slice (some ⟨vo1, 0, none⟩) 2 vc1) 2 [.int .i64 900, .int .i64 900, .int .i64 100, .int .i64 100]  [(g0, [.int .i64 0, .int .i64 0]), (hx, [.int .i64 0, .slice (some ⟨vo1, 0, none⟩) 2 vc1, .slice none 0 0, .slice none 0 0]), (w.heap.size + 1 + 1, [.int .i64 0, .slice none 0 0, .slice none 0 0, .slice none 0 0]), (w.heap.size + 1, stL g4 g8 g12 g16 g20)] by
    exact HM41.out.newAt hg0 109 [.int .i64 0, .int .i64 0])
  refine wpK_ne rfl ?_
  go_wp2_with (first | (refine Go.Great.wpList_buildSliceTo rfl 67 109 1 _ rfl (g0) hg0 _ rfl (by kernel_rfl) #[.int .i64 0, .int .i64 0] (by kernel_rfl) ?_))
  refine ⟨(HM42.out.box 1 rfl (Below.refl _ _)).cell 1 rfl, ?_⟩
  refine wpK_ne rfl ?_
  refine wpList_append_own_at _ rfl _ _ _ (by rfl) w.heap.size 109 is _ 2 16 Tryz.underlying67 INS.out.1 INS.out.2.1 INS.out.2.2.1 INS.out.2.2.2.1 rfl (by omega) _ 2 [.int .i64 900, .int .i64 900, .int .i64 100, .int .i64 100] (by rfl) (HM42.out.own (Below.refl _ _)) ⟨g0, 0, none⟩ 1 1 [.int .i64 0, .int .i64 0] (by rfl) (by rfl) (fun j u hu => by rw [add_row]; exact (HM42.out.row.mem.get 0 rfl).cell j hu) (by intro v hv; simp only [List.mem_cons, List.not_mem_nil, or_false] at hv; rcases hv with rfl | rfl <;> rfl) (by unfold maxLen; omega) (by omega) HM42.out.bel.size ?_
  intro v6 W6 hown hgr hnil hat
  obtain ⟨vo2, vc2, rfl, _, _, _, _, _⟩ := own_rd2 hown (by omega)
  have HM43 := Lib.hid (show MBR w W6 109 2 (.slice (some ⟨vo2, 0, none⟩) 3 vc2) 3 [.int .i64 900, .int .i64 900, .int .i64 100, .int .i64 100, .int .i64 0, .int .i64 0]  [(g0, [.int .i64 0, .int .i64 0]), (hx, [.int .i64 0, .slice (some ⟨vo1, 0, none⟩) 2 vc1, .slice none 0 0, .slice none 0 0]), (w.heap.size + 1 + 1, [.int .i64 0, .slice none 0 0, .slice none 0 0, .slice none 0 0]), (w.heap.size + 1, stL g4 g8 g12 g16 g20)] by
    exact HM42.out.appended hown hgr hat)
  clear hgr hnil hat hown hg0 HM41 HM42
  try simp only [Act.put, List.setIfInBounds_toArray, List.set_cons_zero, List.set_cons_succ]
  refine ⟨(HM43.out.box 1 rfl (Below.refl _ _)).cell 1 rfl, wpK_done (by kernel_rfl) ?_⟩
  simp only [List.drop_succ_cons, List.drop_zero]
  clear HS b39
  go_wp2_with (first | (refine wpList_store_cell rfl 67 _ _ (by with_reducible rfl) hx 1 (.slice (some ⟨vo2, 0, none⟩) 3 vc2) (by with_unfolding_all rfl) (by with_unfolding_all rfl) (HM43.out.row.mem.get 1 rfl) (by simp) (by kernel_rfl) rfl ?_))
  intro X2 hX2
  have HM44 := Lib.hid (show MBR w X2 109 2 (.slice (some ⟨vo2, 0, none⟩) 3 vc2) 3 [.int .i64 900, .int .i64 900, .int .i64 100, .int .i64 100, .int .i64 0, .int .i64 0]  [(hx, [.int .i64 0, .slice (some ⟨vo2, 0, none⟩) 3 vc2, .slice none 0 0, .slice none 0 0]), (w.heap.size + 1 + 1, [.int .i64 0, .slice none 0 0, .slice none 0 0, .slice none 0 0]), (w.heap.size + 1, stL g4 g8 g12 g16 g20)] by
    rw [hX2.out]
    exact (HM43.out.put 1 rfl (j := 1) (by simp) (.slice (some ⟨vo2, 0, none⟩) 3 vc2)).sub (by repeat (first | exact List.Sublist.refl _ | apply List.Sublist.cons_cons | apply List.Sublist.cons)))
  clear hX2 HM43
  go_upto_region 6 with fail
  try simp only [Act.put]
  refine wp_rebase _ (fun V45 hV45 x46 => ?_)
  have HM47 := Lib.hid (show MBR w V45 109 2 (.slice (some ⟨vo2, 0, none⟩) 3 vc2) 3 [.int .i64 900, .int .i64 900, .int .i64 100, .int .i64 100, .int .i64 0, .int .i64 0]  [(hx, [.int .i64 0, .slice (some ⟨vo2, 0, none⟩) 3 vc2, .slice none 0 0, .slice none 0 0]), (w.heap.size + 1 + 1, [.int .i64 0, .slice none 0 0, .slice none 0 0, .slice none 0 0]), (w.heap.size + 1, stL g4 g8 g12 g16 g20)] by
    rw [hV45]
    exact HM44.out)
  clear hV45
  clear HM44
  go_wp2_with fail
  rw [rounds_succ]
  have b48 := fun z : BelW V45 => (show z.w.cell? ⟨w.heap.size + 1, 3, none⟩ = some (.slice none 0 0) from (HM47.out.box 2 rfl z.2).cell 3 rfl)
  go_wp2_with fail
  refine wp_loop_rounds 1 ?_
  rw [rounds_succ]
  go_upto_region 12 with fail
  try simp only [Act.put]
  refine wp_rebase _ (fun V49 hV49 x50 => ?_)
  have HM51 := Lib.hid (show MB w V49 [(vo2, [.int .i64 900, .int .i64 900, .int .i64 100, .int .i64 100, .int .i64 0, .int .i64 0]), (hx, [.int .i64 0, .slice (some ⟨vo2, 0, none⟩) 3 vc2, .slice none 0 0, .slice none 0 0]), (w.heap.size + 1 + 1, [.int .i64 0, .slice none 0 0, .slice none 0 0, .slice none 0 0]), (w.heap.size + 1, stL g4 g8 g12 g16 g20)] by
    rw [hV49]
    exact HM47.out.shut.next x46.2)
  clear hV49
  clear HM47 b48
  have b52 := fun z : BelW V49 => (show z.w.cell? ⟨w.heap.size + 1, 4, none⟩ = some (.slice (some ⟨g12, 0, none⟩) 1 1) from (HM51.out.box 3 rfl z.2).cell 4 rfl)
  have HG := Lib.hid (show ∀ z : BelW V49, z.w.rangeAt g12 0 [.int .i64 0, .int .i64 0, .bool false, .bool false] from fun z => (((HS0.out.get 5 rfl).next HM51.out.bel).next z.2).rng)
  go_wp2_with fail
  refine wp_loop_rounds 2 ?_
  rw [rounds_succ]
  obtain ⟨gb, hgb⟩ : ∃ n, x50.w.heap.size = n := ⟨_, rfl⟩
  go_upto_region 15 with (first | (with_reducible refine wpList_load_g 115 _ (by with_reducible rfl) g12 0 (by with_unfolding_all rfl) (by with_unfolding_all rfl) _ _ (HG.out _) Tryz.underlying115 (by with_unfolding_all rfl) (by kernel_rfl) ?_) | (with_reducible refine wpList_store_new (z := [.int .i64 0, .int .i64 0, .bool false, .bool false]) (cs := [.int .i64 0, .int .i64 0, .bool false, .bool false]) 115 _ _ (by with_reducible rfl) (by with_unfolding_all rfl) gb (by exact hgb.symm) _ (by with_unfolding_all rfl) (by with_unfolding_all rfl) (by with_unfolding_all rfl) (by kernel_rfl) (by with_unfolding_all rfl) ?_))
  try simp only [Act.put]
  refine wp_rebase _ (fun V53 hV53 x54 => ?_)
  have HM55 := Lib.hid (show MB w V53 [(gb, [.int .i64 0, .int .i64 0, .bool false, .bool false]), (vo2, [.int .i64 900, .int .i64 900, .int .i64 100, .int .i64 100, .int .i64 0, .int .i64 0]), (hx, [.int .i64 0, .slice (some ⟨vo2, 0, none⟩) 3 vc2, .slice none 0 0, .slice none 0 0]), (w.heap.size + 1 + 1, [.int .i64 0, .slice none 0 0, .slice none 0 0, .slice none 0 0]), (w.heap.size + 1, stL g4 g8 g12 g16 g20)] by
    rw [hV53]
    exact (HM51.out.next x50.2).newAt hgb 115 [.int .i64 0, .int .i64 0, .bool false, .bool false])
  clear hV53
  clear HG hgb HM51 b52
  have b56 := fun z : BelW V53 => (show z.w.cell? ⟨hx, 3, none⟩ = some (.slice none 0 0) from (HM55.out.box 2 rfl z.2).cell 3 rfl)
  have b57 := fun z : BelW V53 => (show z.w.cell? ⟨gb, 0, none⟩ = some (.int .i64 0) from (HM55.out.box 0 rfl z.2).cell 0 rfl)
  have b58 := fun z : BelW V53 => (show z.w.cell? ⟨gb, 1, none⟩ = some (.int .i64 0) from (HM55.out.box 0 rfl z.2).cell 1 rfl)
  have b59 := fun z : BelW V53 => (show z.w.cell? ⟨gb, 3, none⟩ = some (.bool false) from (HM55.out.box 0 rfl z.2).cell 3 rfl)
  have HS := Lib.hid (show ∃ z : BelW V53, x54.w.drew = z.w from ⟨⟨_, x54.2.drew⟩, rfl⟩)
  refine wp_region_tail 14 (fun w' => ∃ z : BelW V53, w' = z.w) (by kernel_rfl) (by kernel_rfl) HS.out ?_
  refine wpK_tk 0 rfl rfl HS.out (Or.inl ⟨by rfl, fun w1 hS => by first | (go_simp <;> with_reducible rfl) | (obtain ⟨z, rfl⟩ := hS; (go_simp <;> with_reducible rfl))⟩) ?_; simp only [Act.put, List.setIfInBounds_toArray, List.set_cons_zero, List.set_cons_succ]
  refine wpK_tk 1 rfl rfl HS.out (Or.inl ⟨by rfl, fun w1 hS => by first | (go_simp <;> with_reducible rfl) | (obtain ⟨z, rfl⟩ := hS; (go_simp <;> with_reducible rfl))⟩) ?_; simp only [Act.put, List.setIfInBounds_toArray, List.set_cons_zero, List.set_cons_succ]
  refine wpK_tk 2 rfl rfl HS.out (Or.inl ⟨by rfl, fun w1 hS => by first | (go_simp <;> with_reducible rfl) | (obtain ⟨z, rfl⟩ := hS; (go_simp <;> with_reducible rfl))⟩) ?_; simp only [Act.put, List.setIfInBounds_toArray, List.set_cons_zero, List.set_cons_succ]
  refine wpK_tk 3 rfl rfl HS.out (Or.inl ⟨by rfl, fun w1 hS => by first | (go_simp <;> with_reducible rfl) | (obtain ⟨z, rfl⟩ := hS; (go_simp <;> with_reducible rfl))⟩) ?_; simp only [Act.put, List.setIfInBounds_toArray, List.set_cons_zero, List.set_cons_succ]
  refine wpK_tk 5 rfl rfl HS.out (Or.inl ⟨by rfl, fun w1 hS => by first | (go_simp <;> with_reducible rfl) | (obtain ⟨z, rfl⟩ := hS; (go_simp <;> with_reducible rfl))⟩) ?_; simp only [Act.put, List.setIfInBounds_toArray, List.set_cons_zero, List.set_cons_succ]
  refine wpK_tk 6 rfl rfl HS.out (Or.inl ⟨by rfl, fun w1 hS => by first | (go_simp <;> with_reducible rfl) | (obtain ⟨z, rfl⟩ := hS; (go_simp <;> with_reducible rfl))⟩) ?_; simp only [Act.put, List.setIfInBounds_toArray, List.set_cons_zero, List.set_cons_succ]
  refine wpK_tk 7 rfl rfl HS.out (Or.inl ⟨by rfl, fun w1 hS => by first | (go_simp <;> with_reducible rfl) | (obtain ⟨z, rfl⟩ := hS; (go_simp <;> with_reducible rfl))⟩) ?_; simp only [Act.put, List.setIfInBounds_toArray, List.set_cons_zero, List.set_cons_succ]
  refine wpK_tk 8 rfl rfl HS.out (Or.inl ⟨by rfl, fun w1 hS => by first | (go_simp <;> with_reducible rfl) | (obtain ⟨z, rfl⟩ := hS; (go_simp <;> with_reducible rfl))⟩) ?_; simp only [Act.put, List.setIfInBounds_toArray, List.set_cons_zero, List.set_cons_succ]
  have HC := Lib.hid (spof_is 0 x54.w.drew)
  refine wpK_on 4 rfl ?_
  go_wp2_with fail
  refine HC.out.mono ?_
  rintro e wa ⟨rfl, hB⟩
  have HSa := Lib.hid (show ∃ z : BelW V53, wa = z.w from by
    obtain ⟨z, e⟩ := HS.out
    rw [e] at hB
    exact ⟨⟨wa, below_next z.2 hB⟩, rfl⟩)
  have HM60 := Lib.hid (show MB w wa [(gb, [.int .i64 0, .int .i64 0, .bool false, .bool false]), (vo2, [.int .i64 900, .int .i64 900, .int .i64 100, .int .i64 100, .int .i64 0, .int .i64 0]), (hx, [.int .i64 0, .slice (some ⟨vo2, 0, none⟩) 3 vc2, .slice none 0 0, .slice none 0 0]), (w.heap.size + 1 + 1, [.int .i64 0, .slice none 0 0, .slice none 0 0, .slice none 0 0]), (w.heap.size + 1, stL g4 g8 g12 g16 g20)] by
    exact (HM55.out.next x54.2.drew).next hB)
  clear hB HC HM55
  go_wp2_with fail
  refine ⟨HSa.out, ?_⟩
  have HC := Lib.hid (bit_is wa)
  refine wpK_on 9 rfl ?_
  go_wp2_with fail
  refine HC.out.mono ?_
  rintro e wb ⟨rfl, hB⟩
  have HSb := Lib.hid (show ∃ z : BelW V53, wb = z.w from by
    obtain ⟨z, e⟩ := HSa.out
    rw [e] at hB
    exact ⟨⟨wb, below_next z.2 hB⟩, rfl⟩)
  have HM61 := Lib.hid (show MB w wb [(gb, [.int .i64 0, .int .i64 0, .bool false, .bool false]), (vo2, [.int .i64 900, .int .i64 900, .int .i64 100, .int .i64 100, .int .i64 0, .int .i64 0]), (hx, [.int .i64 0, .slice (some ⟨vo2, 0, none⟩) 3 vc2, .slice none 0 0, .slice none 0 0]), (w.heap.size + 1 + 1, [.int .i64 0, .slice none 0 0, .slice none 0 0, .slice none 0 0]), (w.heap.size + 1, stL g4 g8 g12 g16 g20)] by
    exact HM60.out.next hB)
  clear hB HC HM60
  go_wp2_with fail
  refine ⟨HSb.out, ?_⟩
  have HC := Lib.hid (spof_is 0 wb)
  refine wpK_on 10 rfl ?_
  go_wp2_with fail
  refine HC.out.mono ?_
  rintro e wc ⟨rfl, hB⟩
  have HSc := Lib.hid (show ∃ z : BelW V53, wc = z.w from by
    obtain ⟨z, e⟩ := HSb.out
    rw [e] at hB
    exact ⟨⟨wc, below_next z.2 hB⟩, rfl⟩)
  have HM62 := Lib.hid (show MB w wc [(gb, [.int .i64 0, .int .i64 0, .bool false, .bool false]), (vo2, [.int .i64 900, .int .i64 900, .int .i64 100, .int .i64 100, .int .i64 0, .int .i64 0]), (hx, [.int .i64 0, .slice (some ⟨vo2, 0, none⟩) 3 vc2, .slice none 0 0, .slice none 0 0]), (w.heap.size + 1 + 1, [.int .i64 0, .slice none 0 0, .slice none 0 0, .slice none 0 0]), (w.heap.size + 1, stL g4 g8 g12 g16 g20)] by
    exact HM61.out.next hB)
  clear hB HC HM61
  go_wp2_with fail
  refine ⟨HSc.out, ?_⟩
  refine wpK_tk 11 rfl rfl HSc.out (Or.inl ⟨by rfl, fun w1 hS => by first | (go_simp <;> with_reducible rfl) | (obtain ⟨z, rfl⟩ := hS; (go_simp <;> with_reducible rfl))⟩) ?_; simp only [Act.put, List.setIfInBounds_toArray, List.set_cons_zero, List.set_cons_succ]
  obtain ⟨g0, hg0⟩ : ∃ n, wc.heap.size = n := ⟨_, rfl⟩
  have HM63 := Lib.hid (show MB w (wc.alloc (.cells ([.int .i64 0, .int .i64 0, .int .i64 0, .int .i64 0, .int .i64 0] : List Value).toArray 113)) [(g0, [.int .i64 0, .int .i64 0, .int .i64 0, .int .i64 0, .int .i64 0]), (gb, [.int .i64 0, .int .i64 0, .bool false, .bool false]), (vo2, [.int .i64 900, .int .i64 900, .int .i64 100, .int .i64 100, .int .i64 0, .int .i64 0]), (hx, [.int .i64 0, .slice (some ⟨vo2, 0, none⟩) 3 vc2, .slice none 0 0, .slice none 0 0]), (w.heap.size + 1 + 1, [.int .i64 0, .slice none 0 0, .slice none 0 0, .slice none 0 0]), (w.heap.size + 1, stL g4 g8 g12 g16 g20)] by
    exact HM62.out.newAt hg0 113 [.int .i64 0, .int .i64 0, .int .i64 0, .int .i64 0, .int .i64 0])
  have HSd := Lib.hid (show ∃ z : BelW V53, (wc.alloc (.cells ([.int .i64 0, .int .i64 0, .int .i64 0, .int .i64 0, .int .i64 0] : List Value).toArray 113)) = z.w from by
    obtain ⟨z, e⟩ := HSc.out
    rw [e]
    exact ⟨⟨_, bel_alloc z.2 _⟩, rfl⟩)
  refine wpK_on 12 rfl ?_
  go_wp2_with (first | (refine Go.Great.wpList_buildSliceTo rfl 69 113 1 _ rfl (g0) hg0 _ rfl (by kernel_rfl) #[.int .i64 0, .int .i64 0, .int .i64 0, .int .i64 0, .int .i64 0] (by kernel_rfl) ?_))
  refine ⟨HSd.out, ?_⟩
  refine wpK_on 13 rfl ?_
  refine wpList_append_own_at _ rfl _ _ _ (by rfl) (wc.alloc (.cells ([.int .i64 0, .int .i64 0, .int .i64 0, .int .i64 0, .int .i64 0] : List Value).toArray 113)).heap.size 113 ik _ 5 40 Tryz.underlying69 INK.out.1 INK.out.2.1 INK.out.2.2.1 INK.out.2.2.2.1 rfl (by omega) _ 0 [] (by rfl) (World.ownsRow_nil _ _ _ _) ⟨g0, 0, none⟩ 1 1 [.int .i64 0, .int .i64 0, .int .i64 0, .int .i64 0, .int .i64 0] (by rfl) (by rfl) (fun j u hu => by rw [add_row]; exact (HM63.out.mem.get 0 rfl).cell j hu) (by intro v hv; simp only [List.mem_cons, List.not_mem_nil, or_false] at hv; rcases hv with rfl | rfl | rfl | rfl | rfl <;> rfl) (by unfold maxLen; omega) (by omega) (Nat.le_refl _) ?_
  intro v6 W6 hown hgr hnil hat
  obtain ⟨li, lc, rfl, _, _, hge, _, _⟩ := own_rd2 hown (by omega)
  have hB6 : Below (wc.alloc (.cells ([.int .i64 0, .int .i64 0, .int .i64 0, .int .i64 0, .int .i64 0] : List Value).toArray 113)).heap.size (wc.alloc (.cells ([.int .i64 0, .int .i64 0, .int .i64 0, .int .i64 0, .int .i64 0] : List Value).toArray 113)) W6 := below_grown (Below.refl _ _) hgr (fun k hk => by cases hk)
  have HSe := Lib.hid (show ∃ z : BelW V53, W6 = z.w from by
    obtain ⟨z, e⟩ := HSd.out
    rw [e] at hB6
    exact ⟨⟨W6, below_next z.2 hB6⟩, rfl⟩)
  have HM64 := Lib.hid (show MB w W6 [(li, [.int .i64 0, .int .i64 0, .int .i64 0, .int .i64 0, .int .i64 0]), (g0, [.int .i64 0, .int .i64 0, .int .i64 0, .int .i64 0, .int .i64 0]), (gb, [.int .i64 0, .int .i64 0, .bool false, .bool false]), (vo2, [.int .i64 900, .int .i64 900, .int .i64 100, .int .i64 100, .int .i64 0, .int .i64 0]), (hx, [.int .i64 0, .slice (some ⟨vo2, 0, none⟩) 3 vc2, .slice none 0 0, .slice none 0 0]), (w.heap.size + 1 + 1, [.int .i64 0, .slice none 0 0, .slice none 0 0, .slice none 0 0]), (w.heap.size + 1, stL g4 g8 g12 g16 g20)] by
    exact HM63.out.add hB6 (Bo.of_own hown) hge)
  clear hgr hnil hat hown hg0 hge hB6 HM62 HM63
  try simp only [Act.put, List.setIfInBounds_toArray, List.set_cons_zero, List.set_cons_succ]
  refine ⟨HSe.out, wpK_done (by kernel_rfl) ?_⟩
  simp only [List.drop_succ_cons, List.drop_zero]
  clear HS HSa HSb HSc HSd HSe b56 b57 b58 b59
  go_wp2_with (first | (refine wpList_store_cell rfl 69 _ _ (by with_reducible rfl) hx 3 (.slice (some ⟨li, 0, none⟩) 1 lc) (by with_unfolding_all rfl) (by with_unfolding_all rfl) (HM64.out.mem.get 4 rfl) (by simp) (by kernel_rfl) rfl ?_))
  intro Y1 hY1
  have HM65 := Lib.hid (show MB w Y1 [(li, [.int .i64 0, .int .i64 0, .int .i64 0, .int .i64 0, .int .i64 0]), (g0, [.int .i64 0, .int .i64 0, .int .i64 0, .int .i64 0, .int .i64 0]), (gb, [.int .i64 0, .int .i64 0, .bool false, .bool false]), (vo2, [.int .i64 900, .int .i64 900, .int .i64 100, .int .i64 100, .int .i64 0, .int .i64 0]), (hx, [.int .i64 0, .slice (some ⟨vo2, 0, none⟩) 3 vc2, .slice none 0 0, .slice (some ⟨li, 0, none⟩) 1 lc]), (w.heap.size + 1 + 1, [.int .i64 0, .slice none 0 0, .slice none 0 0, .slice none 0 0]), (w.heap.size + 1, stL g4 g8 g12 g16 g20)] by
    rw [hY1.out]
    exact HM64.out.put 4 rfl (j := 3) (by simp) (.slice (some ⟨li, 0, none⟩) 1 lc))
  clear hY1 HM64
  go_wp2_with fail
  rw [rounds_succ]
  have HR := Lib.hid (HM65.out.get 4 rfl).rng
  go_wp2_with (first | (with_reducible refine wpList_load_g 71 _ (by with_reducible rfl) hx 0 (by with_unfolding_all rfl) (by with_unfolding_all rfl) _ _ HR.out Tryz.underlying71 (by with_unfolding_all rfl) (by kernel_rfl) ?_) | (with_reducible refine wpList_store_named rfl 71 _ _ (by with_reducible rfl) (w.heap.size + 1 + 1) 0 #[.int .i64 0, .slice (some ⟨vo2, 0, none⟩) 3 vc2, .slice none 0 0, .slice (some ⟨li, 0, none⟩) 1 lc] (by with_unfolding_all rfl) (by with_unfolding_all rfl) (by with_unfolding_all exact (HM65.out.get 5 rfl).there) (by kernel_rfl) (by with_unfolding_all rfl) ?_))
  intro WF hWF
  have HM66 := Lib.hid (show MB w WF [(li, [.int .i64 0, .int .i64 0, .int .i64 0, .int .i64 0, .int .i64 0]), (g0, [.int .i64 0, .int .i64 0, .int .i64 0, .int .i64 0, .int .i64 0]), (gb, [.int .i64 0, .int .i64 0, .bool false, .bool false]), (vo2, [.int .i64 900, .int .i64 900, .int .i64 100, .int .i64 100, .int .i64 0, .int .i64 0]), (hx, [.int .i64 0, .slice (some ⟨vo2, 0, none⟩) 3 vc2, .slice none 0 0, .slice (some ⟨li, 0, none⟩) 1 lc]), (w.heap.size + 1 + 1, [.int .i64 0, .slice (some ⟨vo2, 0, none⟩) 3 vc2, .slice none 0 0, .slice (some ⟨li, 0, none⟩) 1 lc]), (w.heap.size + 1, stL g4 g8 g12 g16 g20)] by
    rw [hWF.out]
    exact HM65.out.fill 5 rfl [.int .i64 0, .slice (some ⟨vo2, 0, none⟩) 3 vc2, .slice none 0 0, .slice (some ⟨li, 0, none⟩) 1 lc] rfl)
  clear hWF HR HM65
  have b67 : WF.cell? ⟨w.heap.size + 1 + 1, 0, none⟩ = some (.int .i64 0) := (HM66.out.box 5 rfl (Below.refl _ _)).cell 0 rfl
  have b68 : WF.cell? ⟨w.heap.size + 1 + 1, 1, none⟩ = some (.slice (some ⟨vo2, 0, none⟩) 3 vc2) := (HM66.out.box 5 rfl (Below.refl _ _)).cell 1 rfl
  have b69 : WF.cell? ⟨w.heap.size + 1 + 1, 2, none⟩ = some (.slice none 0 0) := (HM66.out.box 5 rfl (Below.refl _ _)).cell 2 rfl
  have b70 : WF.cell? ⟨w.heap.size + 1 + 1, 3, none⟩ = some (.slice (some ⟨li, 0, none⟩) 1 lc) := (HM66.out.box 5 rfl (Below.refl _ _)).cell 3 rfl
  have HQ := Lib.hid (show HullQ w (.returned (.agg #[.int .i64 0, .slice (some ⟨vo2, 0, none⟩) 3 vc2, .slice none 0 0, .slice (some ⟨li, 0, none⟩) 1 lc])) WF from ⟨⟨vo2, vc2, li, lc, rfl, HM66.out.pick [0, 3] (by decide) rfl⟩⟩)
  go_wp2_with fail
  refine bodyPost_ret (v := .agg #[.int .i64 0, .slice (some ⟨vo2, 0, none⟩) 3 vc2, .slice none 0 0, .slice (some ⟨li, 0, none⟩) 1 lc]) ?_ rfl HQ.out
  simp [results, Tryz.results18, go_sem, b67, b68, b69, b70]
end Go.Proofs.YtngjakahanmepaaGreatDoor
