/- Part 47 of the proof of TopRights: (*hour).takes, (*hour).flows at the lake. Printed by wip/tools/mkh4.py. (*hour).move at the lake, where nothing is taken. Printed by wip/tools/mkh5.py. (*hour).leave at the place 0 of the lake. Printed by wip/tools/mkh6.py. -/
import Derived.Test.YtngjakahanmepaaGreatDoorM39
import Derived.Test.YtngjakahanmepaaGreatDoorM45
import Derived.Test.YtngjakahanmepaaGreatDoorM46
namespace Go.Proofs.YtngjakahanmepaaGreatDoor
open Go.RowKit
set_option linter.unusedVariables false
set_option linter.unusedSimpArgs false
set_option maxHeartbeats 2000000 in
set_option maxRecDepth 100000 in
theorem htakes_is (hb : Nat) (p : Int) (w : World) (h : w.cell? ⟨hb, 14, none⟩ = some (.slice none 0 0)) :
    Calls Tryz.prog 69 #[.pointer (some ⟨hb, 0, none⟩), .int .i64 p] w fun e w' => e = .returned (.slice none 0 0) ∧ w' = w := by
  go_enter Tryz.func69, Tryz.ntmps69
  go_wp2_with fail
  refine wp_loop_rounds 1 ?_
  rw [rounds_succ]
  go_wp2_with fail
  go_ret
  exact ⟨rfl, rfl⟩
structure FlQ (w : World) (e : Ending) (w' : World) : Prop where
  ex : ∃ g c gf, e = .returned (.slice (some ⟨g, 0, none⟩) 1 c) ∧ MB w w' [(g, [.int .i64 1, .int .i64 0, .int .i64 0, .func (.func 107) #[] #[.pointer (some ⟨gf, 0, none⟩)]]), (gf, [.int .i64 0])]
set_option maxHeartbeats 16000000 in
set_option maxRecDepth 100000 in
theorem hflows_one {lv rt ob rm s0 r0 s1 r1 s2 lA tA gA pb po rn hb o a b c r gt i u pk : Nat} (pc ac bc cc rc gc ic uc : Nat) {qa qb qc rl il ul : List Int} {que mv snt : Value} {nm : Nat} {xs : List Value} (w0 w : World) (hL : LakeR w0 lv rt ob rm s0 r0 s1 r1 s2 lA tA gA (some ⟨pb, po, none⟩)) (hm : MBR w0 w 145 5 mv nm xs  [(hb, hc ob pb po pc lA tA gA rm rn o r rc gt gc i ic u uc pk que mv snt), (o, [rowV a ac, rowV b bc, rowV c cc]), (a, ints qa), (b, ints qb), (c, ints qc), (r, ints rl), (gt, gate0), (i, ints il), (u, ints ul), (pk, ints [950, 100, 0])]) :
    Calls Tryz.prog 70 #[.pointer (some ⟨hb, 0, none⟩), .int .i64 0] w (FlQ w) := by
  have HL := Lib.hid hL
  have HM := Lib.hid hm
  have HM0 := Lib.hid (MB.nil w)
  clear hL hm
  go_enter Tryz.func70, Tryz.ntmps70
  go_upto_region 2 with fail
  refine wp_rebase _ (fun V1 hV1 x2 => ?_)
  have HM3 := Lib.hid (show MB w V1 [] by
    rw [hV1]
    exact HM0.out)
  clear hV1
  have b4 := fun z : BelW V1 => (show z.w.cell? ⟨hb, 4, none⟩ = some (.slice (some ⟨lA, 0, none⟩) 1 1) from (HM.out.box 0 rfl (below_next HM3.out.bel z.2)).cell 4 rfl)
  have HLK := Lib.hid (show ∀ z : BelW V1, z.w.rangeAt lA 0 [.string gateN, .int .i64 0, .int .i64 0, .int .i64 1, .slice (bk rt) 2 2, .slice (bk rt) 2 2, .slice (bk rt) 2 2, .int .i64 4, .int .i64 1, .int .i64 0, .int .i64 0, .int .i64 0, .int .i64 0, .int .i64 0, .int .i64 0, .int .i64 0, .int .i64 0, .int .i64 0] from fun z => range_bel HL.out.link ⟨z.w, below_next HM.out.bel (below_next HM3.out.bel z.2)⟩)
  go_wp2_with fail
  refine wp_loop_rounds 2 ?_
  rw [rounds_succ]
  obtain ⟨nb, hnb⟩ : ∃ n, x2.w.heap.size = n := ⟨_, rfl⟩
  go_upto_region 5 with (first | (with_reducible refine wpList_load_g 98 _ (by with_reducible rfl) lA 0 (by with_unfolding_all rfl) (by with_unfolding_all rfl) _ _ (HLK.out _) Tryz.underlying98 (by with_unfolding_all rfl) (by kernel_rfl) ?_) | (with_reducible refine wpList_store_new (z := [.string ⟨#[]⟩, .int .i64 0, .int .i64 0, .int .i64 0, .slice none 0 0, .slice none 0 0, .slice none 0 0, .int .i64 0, .int .i64 0, .int .i64 0, .int .i64 0, .int .i64 0, .int .i64 0, .int .i64 0, .int .i64 0, .int .i64 0, .int .i64 0, .int .i64 0]) (cs := [.string gateN, .int .i64 0, .int .i64 0, .int .i64 1, .slice (bk rt) 2 2, .slice (bk rt) 2 2, .slice (bk rt) 2 2, .int .i64 4, .int .i64 1, .int .i64 0, .int .i64 0, .int .i64 0, .int .i64 0, .int .i64 0, .int .i64 0, .int .i64 0, .int .i64 0, .int .i64 0]) 98 _ _ (by with_reducible rfl) (by with_unfolding_all rfl) nb (by exact hnb.symm) _ (by with_unfolding_all rfl) (by with_unfolding_all rfl) (by with_unfolding_all rfl) (by kernel_rfl) (by with_unfolding_all rfl) ?_))
  try simp only [Act.put]
  refine wp_rebase _ (fun V5 hV5 x6 => ?_)
  have HM7 := Lib.hid (show MB w V5 [(nb, [.string gateN, .int .i64 0, .int .i64 0, .int .i64 1, .slice (bk rt) 2 2, .slice (bk rt) 2 2, .slice (bk rt) 2 2, .int .i64 4, .int .i64 1, .int .i64 0, .int .i64 0, .int .i64 0, .int .i64 0, .int .i64 0, .int .i64 0, .int .i64 0, .int .i64 0, .int .i64 0])] by
    rw [hV5]
    exact (HM3.out.next x2.2).newAt hnb 98 [.string gateN, .int .i64 0, .int .i64 0, .int .i64 1, .slice (bk rt) 2 2, .slice (bk rt) 2 2, .slice (bk rt) 2 2, .int .i64 4, .int .i64 1, .int .i64 0, .int .i64 0, .int .i64 0, .int .i64 0, .int .i64 0, .int .i64 0, .int .i64 0, .int .i64 0, .int .i64 0])
  clear hV5
  clear HLK hnb HM3 b4
  have b8 := fun z : BelW V5 => (show z.w.cell? ⟨nb, 1, none⟩ = some (.int .i64 0) from (HM7.out.box 0 rfl z.2).cell 1 rfl)
  have b9 := fun z : BelW V5 => (show z.w.cell? ⟨nb, 2, none⟩ = some (.int .i64 0) from (HM7.out.box 0 rfl z.2).cell 2 rfl)
  have b10 := fun z : BelW V5 => (show z.w.cell? ⟨nb, 3, none⟩ = some (.int .i64 1) from (HM7.out.box 0 rfl z.2).cell 3 rfl)
  go_upto_region 8 with fail
  have b11 := fun z : BelW V5 => (show z.w.cell? ⟨hb, 24, none⟩ = some (.slice (some ⟨pk, 0, none⟩) 3 3) from (HM.out.box 0 rfl (below_next HM7.out.bel z.2)).cell 24 rfl)
  have b12 := fun z : BelW V5 => (show z.w.cell? ⟨pk, 1, none⟩ = some (.int .i64 100) from (HM.out.box 9 rfl (below_next HM7.out.bel z.2)).cell 1 rfl)
  refine wp_region_belt 8 (by kernel_rfl) (by kernel_rfl) ?_
  simp only [List.take_succ_cons, List.take_zero, List.drop_succ_cons, List.drop_zero]
  repeat (go_big_quiet_step (fail))
  refine wpQuiet_nil ?_
  intro y
  try simp only [List.drop_succ_cons, List.drop_zero]
  go_upto_region 9 with fail
  try simp only [Act.put]
  refine wp_rebase _ (fun V13 hV13 x14 => ?_)
  have HM15 := Lib.hid (show MB w V13 [(nb, [.string gateN, .int .i64 0, .int .i64 0, .int .i64 1, .slice (bk rt) 2 2, .slice (bk rt) 2 2, .slice (bk rt) 2 2, .int .i64 4, .int .i64 1, .int .i64 0, .int .i64 0, .int .i64 0, .int .i64 0, .int .i64 0, .int .i64 0, .int .i64 0, .int .i64 0, .int .i64 0])] by
    rw [hV13]
    exact HM7.out.next y.2)
  clear hV13
  clear HM7 b8 b9 b10 b11 b12
  have b16 := fun z : BelW V13 => (show z.w.cell? ⟨nb, 3, none⟩ = some (.int .i64 1) from (HM15.out.box 0 rfl z.2).cell 3 rfl)
  have b17 := fun z : BelW V13 => (show z.w.cell? ⟨nb, 17, none⟩ = some (.int .i64 0) from (HM15.out.box 0 rfl z.2).cell 17 rfl)
  have b18 := fun z : BelW V13 => (show z.w.cell? ⟨hb, 20, none⟩ = some (.slice (some ⟨gt, 0, none⟩) 1 gc) from (HM.out.box 0 rfl (below_next HM15.out.bel z.2)).cell 20 rfl)
  have b19 := fun z : BelW V13 => (show z.w.cell? ⟨hb, 24, none⟩ = some (.slice (some ⟨pk, 0, none⟩) 3 3) from (HM.out.box 0 rfl (below_next HM15.out.bel z.2)).cell 24 rfl)
  have b20 := fun z : BelW V13 => (show z.w.cell? ⟨pk, 0, none⟩ = some (.int .i64 950) from (HM.out.box 9 rfl (below_next HM15.out.bel z.2)).cell 0 rfl)
  have HLB := Lib.hid (HM15.out.get 0 rfl).rng
  have HGB := Lib.hid (HM.out.box 6 rfl HM15.out.bel).rng
  have HS := Lib.hid (show ∃ z : BelW V13, x14.w.drew = z.w from ⟨⟨_, x14.2.drew⟩, rfl⟩)
  refine wp_region_tl 28 29 (fun w' => ∃ z : BelW V13, w' = z.w) HS.out ?_
  iterate 6 (refine wpK_nx rfl rfl HS.out (Or.inl ⟨by rfl, fun w1 hS => by first | (go_simp <;> with_reducible rfl) | (obtain ⟨z, rfl⟩ := hS; (go_simp <;> with_reducible rfl))⟩) ?_; simp only [Act.put, List.setIfInBounds_toArray, List.set_cons_zero, List.set_cons_succ])
  refine wpK_nl 98 nb 0 _ _ _ rfl rfl (by with_reducible rfl) (by with_unfolding_all rfl) (by rfl) HS.out (rangeX HLB.out) Tryz.underlying98 ?_; simp only [Act.put, List.setIfInBounds_toArray, List.set_cons_zero, List.set_cons_succ]
  iterate 7 (refine wpK_nx rfl rfl HS.out (Or.inl ⟨by rfl, fun w1 hS => by first | (go_simp <;> with_reducible rfl) | (obtain ⟨z, rfl⟩ := hS; (go_simp <;> with_reducible rfl))⟩) ?_; simp only [Act.put, List.setIfInBounds_toArray, List.set_cons_zero, List.set_cons_succ])
  refine wpK_nl 115 gt 0 _ _ _ rfl rfl (by with_reducible rfl) (by with_unfolding_all rfl) (by rfl) HS.out (rangeX HGB.out) Tryz.underlying115 ?_; simp only [Act.put, List.setIfInBounds_toArray, List.set_cons_zero, List.set_cons_succ]
  iterate 8 (refine wpK_nx rfl rfl HS.out (Or.inl ⟨by rfl, fun w1 hS => by first | (go_simp <;> with_reducible rfl) | (obtain ⟨z, rfl⟩ := hS; (go_simp <;> with_reducible rfl))⟩) ?_; simp only [Act.put, List.setIfInBounds_toArray, List.set_cons_zero, List.set_cons_succ])
  have HC := Lib.hid (gask_is gateN (.int .i64 0) (.slice (bk rt) 2 2) (.slice (bk rt) 2 2) (.int .i64 0) (.int .i64 0) (.int .i64 0) (.int .i64 0) (.int .i64 0) (.int .i64 0) (bk rt) 2 rateL 0 0 0 950 100 (by unfold Fit; omega) (by decide) x14.w.drew ((HL.out.mem.get 10 rfl).rd.below (Nat.le_refl _) (below_next HM.out.bel (below_next HM15.out.bel x14.2.drew))))
  refine wpK_ne rfl ?_
  go_wp2_with fail
  refine HC.out.mono ?_
  rintro e w2 ⟨rfl, hB⟩
  have HB := Lib.hid (show ∃ z : BelW V13, w2 = z.w from ⟨⟨w2, below_next x14.2.drew hB⟩, rfl⟩)
  have HM21 := Lib.hid (show MB w w2 [(nb, [.string gateN, .int .i64 0, .int .i64 0, .int .i64 1, .slice (bk rt) 2 2, .slice (bk rt) 2 2, .slice (bk rt) 2 2, .int .i64 4, .int .i64 1, .int .i64 0, .int .i64 0, .int .i64 0, .int .i64 0, .int .i64 0, .int .i64 0, .int .i64 0, .int .i64 0, .int .i64 0])] by
    exact (HM15.out.next x14.2.drew).next hB)
  clear hB HC HM15
  go_wp2_with fail
  refine ⟨HB.out, ?_⟩
  have HC := Lib.hid (share_is 0 w2)
  refine wpK_ne rfl ?_
  go_wp2_with fail
  refine HC.out.mono ?_
  rintro e w3 ⟨gf, rfl, hS⟩
  have HB3 := Lib.hid (show ∃ z : BelW V13, w3 = z.w from by
    obtain ⟨z, rfl⟩ := HB.out
    exact ⟨⟨w3, below_next z.2 hS.bel⟩, rfl⟩)
  have HM22 := Lib.hid (show MB w w3 [(gf, [.int .i64 0]), (nb, [.string gateN, .int .i64 0, .int .i64 0, .int .i64 1, .slice (bk rt) 2 2, .slice (bk rt) 2 2, .slice (bk rt) 2 2, .int .i64 4, .int .i64 1, .int .i64 0, .int .i64 0, .int .i64 0, .int .i64 0, .int .i64 0, .int .i64 0, .int .i64 0, .int .i64 0, .int .i64 0])] by
    exact HM21.out.join hS)
  clear hS HC HB HM21
  go_wp2_with fail
  refine ⟨HB3.out, ?_⟩
  refine wpK_nx rfl rfl HB3.out (Or.inl ⟨by rfl, fun w1 hS => by first | (go_simp <;> with_reducible rfl) | (obtain ⟨z, rfl⟩ := hS; (go_simp <;> with_reducible rfl))⟩) ?_; simp only [Act.put, List.setIfInBounds_toArray, List.set_cons_zero, List.set_cons_succ]
  obtain ⟨g0, hg0⟩ : ∃ n, w3.heap.size = n := ⟨_, rfl⟩
  have HN := Lib.hid (show MB w (w3.alloc (.cells ([.int .i64 1, .int .i64 0, .int .i64 0, .func (.func 107) #[] #[.pointer (some ⟨gf, 0, none⟩)]] : List Value).toArray 153)) [(g0, [.int .i64 1, .int .i64 0, .int .i64 0, .func (.func 107) #[] #[.pointer (some ⟨gf, 0, none⟩)]]), (gf, [.int .i64 0]), (nb, [.string gateN, .int .i64 0, .int .i64 0, .int .i64 1, .slice (bk rt) 2 2, .slice (bk rt) 2 2, .slice (bk rt) 2 2, .int .i64 4, .int .i64 1, .int .i64 0, .int .i64 0, .int .i64 0, .int .i64 0, .int .i64 0, .int .i64 0, .int .i64 0, .int .i64 0, .int .i64 0])] from HM22.out.newAt hg0 153 [.int .i64 1, .int .i64 0, .int .i64 0, .func (.func 107) #[] #[.pointer (some ⟨gf, 0, none⟩)]])
  obtain ⟨ie, hi0, hi1, hi2, hi3⟩ := info_parts info_exit
  have INF := Lib.hid (And.intro hi0 (And.intro hi1 (And.intro hi2 hi3)))
  clear hi0 hi1 hi2 hi3
  refine wpK_ne rfl ?_
  go_wp2_with (first | (refine Go.Great.wpList_buildSliceTo rfl 149 153 1 _ rfl (g0) hg0 _ rfl (by kernel_rfl) #[.int .i64 1, .int .i64 0, .int .i64 0, .func (.func 107) #[] #[.pointer (some ⟨gf, 0, none⟩)]] (by kernel_rfl) ?_))
  have HB4 := Lib.hid (show ∃ z : BelW V13, (w3.alloc (.cells ([.int .i64 1, .int .i64 0, .int .i64 0, .func (.func 107) #[] #[.pointer (some ⟨gf, 0, none⟩)]] : List Value).toArray 153)) = z.w from by
    obtain ⟨z, e⟩ := HB3.out
    rw [e]
    exact ⟨⟨_, bel_alloc z.2 _⟩, rfl⟩)
  refine ⟨HB4.out, ?_⟩
  refine wpK_ne rfl ?_
  refine wpList_append_own_at _ rfl _ _ _ (by rfl) (w3.alloc (.cells ([.int .i64 1, .int .i64 0, .int .i64 0, .func (.func 107) #[] #[.pointer (some ⟨gf, 0, none⟩)]] : List Value).toArray 153)).heap.size 153 ie _ 4 32 Tryz.underlying149 INF.out.1 INF.out.2.1 INF.out.2.2.1 INF.out.2.2.2 rfl (by omega) _ 0 [] (by rfl) (World.ownsRow_nil _ _ _ _) ⟨g0, 0, none⟩ 1 1 [.int .i64 1, .int .i64 0, .int .i64 0, .func (.func 107) #[] #[.pointer (some ⟨gf, 0, none⟩)]] (by rfl) (by rfl) (fun j u hu => by rw [add_row]; exact (HN.out.get 0 rfl).cell j hu) (by intro v hv; simp only [List.mem_cons, List.not_mem_nil, or_false] at hv; rcases hv with rfl | rfl | rfl | rfl <;> rfl) (by unfold maxLen; omega) (by omega) (Nat.le_refl _) ?_
  intro v6 W6 hown hgr hnil hat
  obtain ⟨g, cg, rfl, _, _, hge, _, _⟩ := own_rd2 hown (by omega)
  have hB6 := below_grown (Below.refl _ _) hgr (fun k hk => by cases hk)
  have HB5 := Lib.hid (show ∃ z : BelW V13, W6 = z.w from by
    obtain ⟨z, e⟩ := HB4.out
    rw [e] at hB6
    exact ⟨⟨W6, below_next z.2 hB6⟩, rfl⟩)
  have HM23 := Lib.hid (show MB w W6 [(g, [.int .i64 1, .int .i64 0, .int .i64 0, .func (.func 107) #[] #[.pointer (some ⟨gf, 0, none⟩)]]), (g0, [.int .i64 1, .int .i64 0, .int .i64 0, .func (.func 107) #[] #[.pointer (some ⟨gf, 0, none⟩)]]), (gf, [.int .i64 0]), (nb, [.string gateN, .int .i64 0, .int .i64 0, .int .i64 1, .slice (bk rt) 2 2, .slice (bk rt) 2 2, .slice (bk rt) 2 2, .int .i64 4, .int .i64 1, .int .i64 0, .int .i64 0, .int .i64 0, .int .i64 0, .int .i64 0, .int .i64 0, .int .i64 0, .int .i64 0, .int .i64 0])] by
    exact HN.out.add hB6 (Bo.of_own hown) hge)
  clear hgr hnil hat hown hg0 hge hB6 HN HB3 HB4 HM22
  try simp only [Act.put, List.setIfInBounds_toArray, List.set_cons_zero, List.set_cons_succ]
  refine ⟨HB5.out, wpK_done (by kernel_rfl) ?_⟩
  simp only [List.drop_succ_cons, List.drop_zero]
  clear HS HB5 HLB HGB b16 b17 b18 b19 b20
  go_wp2_with fail
  rw [rounds_succ]
  go_wp2_with fail
  go_ret
  exact ⟨g, cg, gf, rfl, HM23.out.sub (by repeat (first | exact List.Sublist.refl _ | apply List.Sublist.cons_cons | apply List.Sublist.cons))⟩
set_option maxHeartbeats 16000000 in
set_option maxRecDepth 100000 in
theorem hflows_up {lv rt ob rm s0 r0 s1 r1 s2 lA tA gA pb po rn hb o a b c r gt i u pk : Nat} (pc ac bc cc rc gc ic uc : Nat) {qa qb qc rl il ul : List Int} {que mv snt : Value} {nm : Nat} {xs : List Value} (w0 w : World) (hL : LakeR w0 lv rt ob rm s0 r0 s1 r1 s2 lA tA gA (some ⟨pb, po, none⟩)) (hm : MBR w0 w 145 5 mv nm xs  [(hb, hc ob pb po pc lA tA gA rm rn o r rc gt gc i ic u uc pk que mv snt), (o, [rowV a ac, rowV b bc, rowV c cc]), (a, ints qa), (b, ints qb), (c, ints qc), (r, ints rl), (gt, gate0), (i, ints il), (u, ints ul), (pk, ints [950, 100, 0])]) :
    Calls Tryz.prog 70 #[.pointer (some ⟨hb, 0, none⟩), .int .i64 1] w (fun e w' => e = .returned (.slice none 0 0) ∧ Below w.heap.size w w') := by
  have HL := Lib.hid hL
  have HM := Lib.hid hm
  have HM0 := Lib.hid (MB.nil w)
  clear hL hm
  go_enter Tryz.func70, Tryz.ntmps70
  go_upto_region 2 with fail
  refine wp_rebase _ (fun V1 hV1 x2 => ?_)
  have HM3 := Lib.hid (show MB w V1 [] by
    rw [hV1]
    exact HM0.out)
  clear hV1
  have b4 := fun z : BelW V1 => (show z.w.cell? ⟨hb, 4, none⟩ = some (.slice (some ⟨lA, 0, none⟩) 1 1) from (HM.out.box 0 rfl (below_next HM3.out.bel z.2)).cell 4 rfl)
  have HLK := Lib.hid (show ∀ z : BelW V1, z.w.rangeAt lA 0 [.string gateN, .int .i64 0, .int .i64 0, .int .i64 1, .slice (bk rt) 2 2, .slice (bk rt) 2 2, .slice (bk rt) 2 2, .int .i64 4, .int .i64 1, .int .i64 0, .int .i64 0, .int .i64 0, .int .i64 0, .int .i64 0, .int .i64 0, .int .i64 0, .int .i64 0, .int .i64 0] from fun z => range_bel HL.out.link ⟨z.w, below_next HM.out.bel (below_next HM3.out.bel z.2)⟩)
  go_wp2_with fail
  refine wp_loop_rounds 2 ?_
  rw [rounds_succ]
  obtain ⟨nb, hnb⟩ : ∃ n, x2.w.heap.size = n := ⟨_, rfl⟩
  go_upto_region 5 with (first | (with_reducible refine wpList_load_g 98 _ (by with_reducible rfl) lA 0 (by with_unfolding_all rfl) (by with_unfolding_all rfl) _ _ (HLK.out _) Tryz.underlying98 (by with_unfolding_all rfl) (by kernel_rfl) ?_) | (with_reducible refine wpList_store_new (z := [.string ⟨#[]⟩, .int .i64 0, .int .i64 0, .int .i64 0, .slice none 0 0, .slice none 0 0, .slice none 0 0, .int .i64 0, .int .i64 0, .int .i64 0, .int .i64 0, .int .i64 0, .int .i64 0, .int .i64 0, .int .i64 0, .int .i64 0, .int .i64 0, .int .i64 0]) (cs := [.string gateN, .int .i64 0, .int .i64 0, .int .i64 1, .slice (bk rt) 2 2, .slice (bk rt) 2 2, .slice (bk rt) 2 2, .int .i64 4, .int .i64 1, .int .i64 0, .int .i64 0, .int .i64 0, .int .i64 0, .int .i64 0, .int .i64 0, .int .i64 0, .int .i64 0, .int .i64 0]) 98 _ _ (by with_reducible rfl) (by with_unfolding_all rfl) nb (by exact hnb.symm) _ (by with_unfolding_all rfl) (by with_unfolding_all rfl) (by with_unfolding_all rfl) (by kernel_rfl) (by with_unfolding_all rfl) ?_))
  try simp only [Act.put]
  refine wp_rebase _ (fun V5 hV5 x6 => ?_)
  have HM7 := Lib.hid (show MB w V5 [(nb, [.string gateN, .int .i64 0, .int .i64 0, .int .i64 1, .slice (bk rt) 2 2, .slice (bk rt) 2 2, .slice (bk rt) 2 2, .int .i64 4, .int .i64 1, .int .i64 0, .int .i64 0, .int .i64 0, .int .i64 0, .int .i64 0, .int .i64 0, .int .i64 0, .int .i64 0, .int .i64 0])] by
    rw [hV5]
    exact (HM3.out.next x2.2).newAt hnb 98 [.string gateN, .int .i64 0, .int .i64 0, .int .i64 1, .slice (bk rt) 2 2, .slice (bk rt) 2 2, .slice (bk rt) 2 2, .int .i64 4, .int .i64 1, .int .i64 0, .int .i64 0, .int .i64 0, .int .i64 0, .int .i64 0, .int .i64 0, .int .i64 0, .int .i64 0, .int .i64 0])
  clear hV5
  clear HLK hnb HM3 b4
  have b8 := fun z : BelW V5 => (show z.w.cell? ⟨nb, 1, none⟩ = some (.int .i64 0) from (HM7.out.box 0 rfl z.2).cell 1 rfl)
  have b9 := fun z : BelW V5 => (show z.w.cell? ⟨nb, 2, none⟩ = some (.int .i64 0) from (HM7.out.box 0 rfl z.2).cell 2 rfl)
  have b10 := fun z : BelW V5 => (show z.w.cell? ⟨nb, 3, none⟩ = some (.int .i64 1) from (HM7.out.box 0 rfl z.2).cell 3 rfl)
  go_wp2_with fail
  rw [rounds_succ]
  go_wp2_with fail
  go_ret
  exact ⟨rfl, below_next HM7.out.bel x6.2⟩
set_option maxHeartbeats 16000000 in
set_option maxRecDepth 100000 in
theorem hflows_low {lv rt ob rm s0 r0 s1 r1 s2 lA tA gA pb po rn hb o a b c r gt i u pk : Nat} (pc ac bc cc rc gc ic uc : Nat) {qa qb qc rl il ul : List Int} {que mv snt : Value} {nm : Nat} {xs : List Value} (w0 w : World) (hL : LakeR w0 lv rt ob rm s0 r0 s1 r1 s2 lA tA gA (some ⟨pb, po, none⟩)) (hm : MBR w0 w 145 5 mv nm xs  [(hb, hc ob pb po pc lA tA gA rm rn o r rc gt gc i ic u uc pk que mv snt), (o, [rowV a ac, rowV b bc, rowV c cc]), (a, ints qa), (b, ints qb), (c, ints qc), (r, ints rl), (gt, gate0), (i, ints il), (u, ints ul), (pk, ints [950, 100, 0])]) :
    Calls Tryz.prog 70 #[.pointer (some ⟨hb, 0, none⟩), .int .i64 2] w (fun e w' => e = .returned (.slice none 0 0) ∧ Below w.heap.size w w') := by
  have HL := Lib.hid hL
  have HM := Lib.hid hm
  have HM0 := Lib.hid (MB.nil w)
  clear hL hm
  go_enter Tryz.func70, Tryz.ntmps70
  go_upto_region 2 with fail
  refine wp_rebase _ (fun V1 hV1 x2 => ?_)
  have HM3 := Lib.hid (show MB w V1 [] by
    rw [hV1]
    exact HM0.out)
  clear hV1
  have b4 := fun z : BelW V1 => (show z.w.cell? ⟨hb, 4, none⟩ = some (.slice (some ⟨lA, 0, none⟩) 1 1) from (HM.out.box 0 rfl (below_next HM3.out.bel z.2)).cell 4 rfl)
  have HLK := Lib.hid (show ∀ z : BelW V1, z.w.rangeAt lA 0 [.string gateN, .int .i64 0, .int .i64 0, .int .i64 1, .slice (bk rt) 2 2, .slice (bk rt) 2 2, .slice (bk rt) 2 2, .int .i64 4, .int .i64 1, .int .i64 0, .int .i64 0, .int .i64 0, .int .i64 0, .int .i64 0, .int .i64 0, .int .i64 0, .int .i64 0, .int .i64 0] from fun z => range_bel HL.out.link ⟨z.w, below_next HM.out.bel (below_next HM3.out.bel z.2)⟩)
  go_wp2_with fail
  refine wp_loop_rounds 2 ?_
  rw [rounds_succ]
  obtain ⟨nb, hnb⟩ : ∃ n, x2.w.heap.size = n := ⟨_, rfl⟩
  go_upto_region 5 with (first | (with_reducible refine wpList_load_g 98 _ (by with_reducible rfl) lA 0 (by with_unfolding_all rfl) (by with_unfolding_all rfl) _ _ (HLK.out _) Tryz.underlying98 (by with_unfolding_all rfl) (by kernel_rfl) ?_) | (with_reducible refine wpList_store_new (z := [.string ⟨#[]⟩, .int .i64 0, .int .i64 0, .int .i64 0, .slice none 0 0, .slice none 0 0, .slice none 0 0, .int .i64 0, .int .i64 0, .int .i64 0, .int .i64 0, .int .i64 0, .int .i64 0, .int .i64 0, .int .i64 0, .int .i64 0, .int .i64 0, .int .i64 0]) (cs := [.string gateN, .int .i64 0, .int .i64 0, .int .i64 1, .slice (bk rt) 2 2, .slice (bk rt) 2 2, .slice (bk rt) 2 2, .int .i64 4, .int .i64 1, .int .i64 0, .int .i64 0, .int .i64 0, .int .i64 0, .int .i64 0, .int .i64 0, .int .i64 0, .int .i64 0, .int .i64 0]) 98 _ _ (by with_reducible rfl) (by with_unfolding_all rfl) nb (by exact hnb.symm) _ (by with_unfolding_all rfl) (by with_unfolding_all rfl) (by with_unfolding_all rfl) (by kernel_rfl) (by with_unfolding_all rfl) ?_))
  try simp only [Act.put]
  refine wp_rebase _ (fun V5 hV5 x6 => ?_)
  have HM7 := Lib.hid (show MB w V5 [(nb, [.string gateN, .int .i64 0, .int .i64 0, .int .i64 1, .slice (bk rt) 2 2, .slice (bk rt) 2 2, .slice (bk rt) 2 2, .int .i64 4, .int .i64 1, .int .i64 0, .int .i64 0, .int .i64 0, .int .i64 0, .int .i64 0, .int .i64 0, .int .i64 0, .int .i64 0, .int .i64 0])] by
    rw [hV5]
    exact (HM3.out.next x2.2).newAt hnb 98 [.string gateN, .int .i64 0, .int .i64 0, .int .i64 1, .slice (bk rt) 2 2, .slice (bk rt) 2 2, .slice (bk rt) 2 2, .int .i64 4, .int .i64 1, .int .i64 0, .int .i64 0, .int .i64 0, .int .i64 0, .int .i64 0, .int .i64 0, .int .i64 0, .int .i64 0, .int .i64 0])
  clear hV5
  clear HLK hnb HM3 b4
  have b8 := fun z : BelW V5 => (show z.w.cell? ⟨nb, 1, none⟩ = some (.int .i64 0) from (HM7.out.box 0 rfl z.2).cell 1 rfl)
  have b9 := fun z : BelW V5 => (show z.w.cell? ⟨nb, 2, none⟩ = some (.int .i64 0) from (HM7.out.box 0 rfl z.2).cell 2 rfl)
  have b10 := fun z : BelW V5 => (show z.w.cell? ⟨nb, 3, none⟩ = some (.int .i64 1) from (HM7.out.box 0 rfl z.2).cell 3 rfl)
  go_wp2_with fail
  rw [rounds_succ]
  go_wp2_with fail
  go_ret
  exact ⟨rfl, below_next HM7.out.bel x6.2⟩
end Go.Proofs.YtngjakahanmepaaGreatDoor
namespace Go.Proofs.YtngjakahanmepaaGreatDoor
open Go.RowKit
set_option linter.unusedVariables false
set_option linter.unusedSimpArgs false
set_option maxHeartbeats 32000000 in
set_option maxRecDepth 100000 in
theorem hmove_a {ob rm lA tA gA pb po rn hb o a b c r gt i u pk gf pv : Nat} {pvs : List Value} (pc ac bc cc rc gc ic uc : Nat) {qb qc rl ul il pl : List Int} {que mv snt : Value} {nm : Nat} {xs : List Value} (to' dl way : Int) (w0 w : World) (hm : MBR w0 w 145 5 mv nm xs  [(gf, [.int .i64 0]), (hb, hc ob pb po pc lA tA gA rm rn o r rc gt gc i ic u uc pk que mv snt), (o, [rowV a ac, rowV b bc, rowV c cc]), (a, ints [650, 300]), (b, ints qb), (c, ints qc), (r, ints rl), (gt, gate0), (i, ints il), (u, ints ul), (pk, ints pl), (pv, pvs)]) :
    Calls Tryz.prog 71 #[.pointer (some ⟨hb, 0, none⟩), .int .i64 0, .agg #[.int .i64 to', .int .i64 dl, .int .i64 way, .func (.func 107) #[] #[.pointer (some ⟨gf, 0, none⟩)]]] w (fun e w' => e = .returned (.tuple #[]) ∧ ∃ x', MBR w0 w' 145 5 mv nm xs  [(hb, hc ob pb po pc lA tA gA rm rn o r rc gt gc i ic u uc pk que mv snt), (o, [rowV x' 2, rowV b bc, rowV c cc]), (x', ints [650, 300]), (b, ints qb), (c, ints qc), (r, ints rl), (gt, gate0), (i, ints il), (u, ints ul), (pk, ints pl), (pv, pvs)]) := by
  have HM0 := Lib.hid hm
  clear hm
  go_enter Tryz.func71, Tryz.ntmps71
  obtain ⟨eb, heb⟩ : ∃ n, w.heap.size = n := ⟨_, rfl⟩
  go_upto_region 1 with fail
  refine wp_rebase _ (fun V1 hV1 x2 => ?_)
  have HM3 := Lib.hid (show MBR w0 V1 145 5 mv nm xs  [(eb, [.int .i64 to', .int .i64 dl, .int .i64 way, .func (.func 107) #[] #[.pointer (some ⟨gf, 0, none⟩)]]), (gf, [.int .i64 0]), (hb, hc ob pb po pc lA tA gA rm rn o r rc gt gc i ic u uc pk que mv snt), (o, [rowV a ac, rowV b bc, rowV c cc]), (a, ints [650, 300]), (b, ints qb), (c, ints qc), (r, ints rl), (gt, gate0), (i, ints il), (u, ints ul), (pk, ints pl), (pv, pvs)] by
    rw [hV1]
    exact HM0.out.newAt heb 153 [.int .i64 to', .int .i64 dl, .int .i64 way, .func (.func 107) #[] #[.pointer (some ⟨gf, 0, none⟩)]])
  clear hV1
  try rw [heb]
  clear HM0
  have b4 := fun z : BelW V1 => (show z.w.cell? ⟨eb, 3, none⟩ = some (.func (.func 107) #[] #[.pointer (some ⟨gf, 0, none⟩)]) from (HM3.out.box 0 rfl z.2).cell 3 rfl)
  have b5 := fun z : BelW V1 => (show z.w.cell? ⟨hb, 17, none⟩ = some (.slice (some ⟨o, 0, none⟩) 3 3) from (HM3.out.box 2 rfl z.2).cell 17 rfl)
  have b6 := fun z : BelW V1 => (show z.w.cell? ⟨o, 0, none⟩ = some (.slice (some ⟨a, 0, none⟩) 2 ac) from (HM3.out.box 3 rfl z.2).cell 0 rfl)
  have HS := Lib.hid (show ∃ z : BelW V1, x2.w.drew = z.w from ⟨⟨_, x2.2.drew⟩, rfl⟩)
  refine wp_region_tl 15 16 (fun w' => ∃ z : BelW V1, w' = z.w) HS.out ?_
  iterate 10 (refine wpK_nx rfl rfl HS.out (Or.inl ⟨by rfl, fun w1 hS => by first | (go_simp <;> with_reducible rfl) | (obtain ⟨z, rfl⟩ := hS; (go_simp <;> with_reducible rfl))⟩) ?_; simp only [Act.put, List.setIfInBounds_toArray, List.set_cons_zero, List.set_cons_succ])
  have HC := Lib.hid (share1_is a ac gf [650, 300] [0, 0] [650, 300] 0 rfl (by kernel_rfl) (fun T' h => take_zero h) (by kernel_rfl) x2.w.drew ((HM3.out.box 4 rfl x2.2.drew).rd) (HM3.out.box 1 rfl x2.2.drew))
  refine wpK_ne rfl ?_
  go_wp2_with fail
  refine HC.out.mono ?_
  rintro e w2 ⟨t1, t2, rfl, hD⟩
  have HB := Lib.hid (show ∃ z : BelW V1, w2 = z.w from ⟨⟨w2, below_next x2.2.drew hD.bel⟩, rfl⟩)
  have HM7 := Lib.hid (show MBR w0 w2 145 5 mv nm xs  [(t2, ints [650, 300]), (t1, ints [0, 0]), (eb, [.int .i64 to', .int .i64 dl, .int .i64 way, .func (.func 107) #[] #[.pointer (some ⟨gf, 0, none⟩)]]), (gf, [.int .i64 0]), (hb, hc ob pb po pc lA tA gA rm rn o r rc gt gc i ic u uc pk que mv snt), (o, [rowV a ac, rowV b bc, rowV c cc]), (a, ints [650, 300]), (b, ints qb), (c, ints qc), (r, ints rl), (gt, gate0), (i, ints il), (u, ints ul), (pk, ints pl), (pv, pvs)] by
    exact (HM3.out.next x2.2.drew).join hD)
  clear hD HC HM3
  go_wp2_with fail
  refine ⟨HB.out, ?_⟩
  iterate 4 (refine wpK_nx rfl rfl HB.out (Or.inl ⟨by rfl, fun w1 hS => by first | (go_simp <;> with_reducible rfl) | (obtain ⟨z, rfl⟩ := hS; (go_simp <;> with_reducible rfl))⟩) ?_; simp only [Act.put, List.setIfInBounds_toArray, List.set_cons_zero, List.set_cons_succ])
  refine wpK_done (by kernel_rfl) ?_
  simp only [List.drop_succ_cons, List.drop_zero]
  clear HB HS b4 b5 b6
  have b8 : w2.cell? ⟨hb, 17, none⟩ = some (.slice (some ⟨o, 0, none⟩) 3 3) := (HM7.out.box 4 rfl (Below.refl _ _)).cell 17 rfl
  go_wp2_with (first | (refine wpList_store_cell rfl 29 _ _ (by with_reducible rfl) o 0 (.slice (some ⟨t2, 0, none⟩) 2 2) (by with_unfolding_all rfl) (by with_unfolding_all rfl) (HM7.out.row.mem.get 5 rfl) (by simp) (by kernel_rfl) rfl ?_))
  intro W3 hW3
  have HM9 := Lib.hid (show MBR w0 W3 145 5 mv nm xs  [(t2, ints [650, 300]), (t1, ints [0, 0]), (eb, [.int .i64 to', .int .i64 dl, .int .i64 way, .func (.func 107) #[] #[.pointer (some ⟨gf, 0, none⟩)]]), (gf, [.int .i64 0]), (hb, hc ob pb po pc lA tA gA rm rn o r rc gt gc i ic u uc pk que mv snt), (o, [rowV t2 2, rowV b bc, rowV c cc]), (a, ints [650, 300]), (b, ints qb), (c, ints qc), (r, ints rl), (gt, gate0), (i, ints il), (u, ints ul), (pk, ints pl), (pv, pvs)] by
    rw [hW3.out]
    exact HM7.out.put 5 rfl (j := 0) (by simp) (.slice (some ⟨t2, 0, none⟩) 2 2))
  clear hW3 HM7 b8
  go_upto_region 3 with fail
  try simp only [Act.put]
  refine wp_rebase _ (fun V10 hV10 x11 => ?_)
  have HM12 := Lib.hid (show MBR w0 V10 145 5 mv nm xs  [(t2, ints [650, 300]), (t1, ints [0, 0]), (eb, [.int .i64 to', .int .i64 dl, .int .i64 way, .func (.func 107) #[] #[.pointer (some ⟨gf, 0, none⟩)]]), (gf, [.int .i64 0]), (hb, hc ob pb po pc lA tA gA rm rn o r rc gt gc i ic u uc pk que mv snt), (o, [rowV t2 2, rowV b bc, rowV c cc]), (a, ints [650, 300]), (b, ints qb), (c, ints qc), (r, ints rl), (gt, gate0), (i, ints il), (u, ints ul), (pk, ints pl), (pv, pvs)] by
    rw [hV10]
    exact HM9.out)
  clear hV10
  have CT := Lib.hid (fun z : BelW V10 => bel_of (x := z) (tot_c t1 2 2 [0, 0] 0 rfl (by kernel_rfl) (by kernel_rfl) (by omega) z.w ((HM12.out.box 1 rfl z.2).rd)))
  go_wp2_with (first | (go_at_call 45; (with_reducible refine (CT.out _).mono ?_); rintro e w1 ⟨rfl, z, rfl⟩))
  (try simp only [Exit.inBlock, Exit.then])
  refine bodyPost_ret (results_none rfl _ _ _) rfl ?_
  exact ⟨rfl, t2, ((HM12.out.next z.2).pick [4, 5, 0, 7, 8, 9, 10, 11, 12, 13, 14] (by decide) rfl)⟩
set_option maxHeartbeats 32000000 in
set_option maxRecDepth 100000 in
theorem hmove_c {ob rm lA tA gA pb po rn hb o a b c r gt i u pk gf pv sn : Nat} {pvs sns : List Value} (pc ac bc cc rc gc ic uc : Nat) {qa qb rl ul il pl : List Int} {que mv snt : Value} {nm : Nat} {xs : List Value} (to' dl way : Int) (w0 w : World) (hm : MBR w0 w 145 5 mv nm xs  [(gf, [.int .i64 0]), (hb, hc ob pb po pc lA tA gA rm rn o r rc gt gc i ic u uc pk que mv snt), (o, [rowV a ac, rowV b bc, rowV c cc]), (a, ints qa), (b, ints qb), (c, ints [0, 0]), (r, ints rl), (gt, gate0), (i, ints il), (u, ints ul), (pk, ints pl), (pv, pvs), (sn, sns)]) :
    Calls Tryz.prog 71 #[.pointer (some ⟨hb, 0, none⟩), .int .i64 2, .agg #[.int .i64 to', .int .i64 dl, .int .i64 way, .func (.func 107) #[] #[.pointer (some ⟨gf, 0, none⟩)]]] w (fun e w' => e = .returned (.tuple #[]) ∧ ∃ x', MBR w0 w' 145 5 mv nm xs  [(hb, hc ob pb po pc lA tA gA rm rn o r rc gt gc i ic u uc pk que mv snt), (o, [rowV a ac, rowV b bc, rowV x' 2]), (a, ints qa), (b, ints qb), (x', ints [0, 0]), (r, ints rl), (gt, gate0), (i, ints il), (u, ints ul), (pk, ints pl), (pv, pvs), (sn, sns)]) := by
  have HM0 := Lib.hid hm
  clear hm
  go_enter Tryz.func71, Tryz.ntmps71
  obtain ⟨eb, heb⟩ : ∃ n, w.heap.size = n := ⟨_, rfl⟩
  go_upto_region 1 with fail
  refine wp_rebase _ (fun V1 hV1 x2 => ?_)
  have HM3 := Lib.hid (show MBR w0 V1 145 5 mv nm xs  [(eb, [.int .i64 to', .int .i64 dl, .int .i64 way, .func (.func 107) #[] #[.pointer (some ⟨gf, 0, none⟩)]]), (gf, [.int .i64 0]), (hb, hc ob pb po pc lA tA gA rm rn o r rc gt gc i ic u uc pk que mv snt), (o, [rowV a ac, rowV b bc, rowV c cc]), (a, ints qa), (b, ints qb), (c, ints [0, 0]), (r, ints rl), (gt, gate0), (i, ints il), (u, ints ul), (pk, ints pl), (pv, pvs), (sn, sns)] by
    rw [hV1]
    exact HM0.out.newAt heb 153 [.int .i64 to', .int .i64 dl, .int .i64 way, .func (.func 107) #[] #[.pointer (some ⟨gf, 0, none⟩)]])
  clear hV1
  try rw [heb]
  clear HM0
  have b4 := fun z : BelW V1 => (show z.w.cell? ⟨eb, 3, none⟩ = some (.func (.func 107) #[] #[.pointer (some ⟨gf, 0, none⟩)]) from (HM3.out.box 0 rfl z.2).cell 3 rfl)
  have b5 := fun z : BelW V1 => (show z.w.cell? ⟨hb, 17, none⟩ = some (.slice (some ⟨o, 0, none⟩) 3 3) from (HM3.out.box 2 rfl z.2).cell 17 rfl)
  have b6 := fun z : BelW V1 => (show z.w.cell? ⟨o, 2, none⟩ = some (.slice (some ⟨c, 0, none⟩) 2 cc) from (HM3.out.box 3 rfl z.2).cell 2 rfl)
  have HS := Lib.hid (show ∃ z : BelW V1, x2.w.drew = z.w from ⟨⟨_, x2.2.drew⟩, rfl⟩)
  refine wp_region_tl 15 16 (fun w' => ∃ z : BelW V1, w' = z.w) HS.out ?_
  iterate 10 (refine wpK_nx rfl rfl HS.out (Or.inl ⟨by rfl, fun w1 hS => by first | (go_simp <;> with_reducible rfl) | (obtain ⟨z, rfl⟩ := hS; (go_simp <;> with_reducible rfl))⟩) ?_; simp only [Act.put, List.setIfInBounds_toArray, List.set_cons_zero, List.set_cons_succ])
  have HC := Lib.hid (share1_is c cc gf [0, 0] [0, 0] [0, 0] 0 rfl (by kernel_rfl) (fun T' h => take_zero h) (by kernel_rfl) x2.w.drew ((HM3.out.box 6 rfl x2.2.drew).rd) (HM3.out.box 1 rfl x2.2.drew))
  refine wpK_ne rfl ?_
  go_wp2_with fail
  refine HC.out.mono ?_
  rintro e w2 ⟨t1, t2, rfl, hD⟩
  have HB := Lib.hid (show ∃ z : BelW V1, w2 = z.w from ⟨⟨w2, below_next x2.2.drew hD.bel⟩, rfl⟩)
  have HM7 := Lib.hid (show MBR w0 w2 145 5 mv nm xs  [(t2, ints [0, 0]), (t1, ints [0, 0]), (eb, [.int .i64 to', .int .i64 dl, .int .i64 way, .func (.func 107) #[] #[.pointer (some ⟨gf, 0, none⟩)]]), (gf, [.int .i64 0]), (hb, hc ob pb po pc lA tA gA rm rn o r rc gt gc i ic u uc pk que mv snt), (o, [rowV a ac, rowV b bc, rowV c cc]), (a, ints qa), (b, ints qb), (c, ints [0, 0]), (r, ints rl), (gt, gate0), (i, ints il), (u, ints ul), (pk, ints pl), (pv, pvs), (sn, sns)] by
    exact (HM3.out.next x2.2.drew).join hD)
  clear hD HC HM3
  go_wp2_with fail
  refine ⟨HB.out, ?_⟩
  iterate 4 (refine wpK_nx rfl rfl HB.out (Or.inl ⟨by rfl, fun w1 hS => by first | (go_simp <;> with_reducible rfl) | (obtain ⟨z, rfl⟩ := hS; (go_simp <;> with_reducible rfl))⟩) ?_; simp only [Act.put, List.setIfInBounds_toArray, List.set_cons_zero, List.set_cons_succ])
  refine wpK_done (by kernel_rfl) ?_
  simp only [List.drop_succ_cons, List.drop_zero]
  clear HB HS b4 b5 b6
  have b8 : w2.cell? ⟨hb, 17, none⟩ = some (.slice (some ⟨o, 0, none⟩) 3 3) := (HM7.out.box 4 rfl (Below.refl _ _)).cell 17 rfl
  go_wp2_with (first | (refine wpList_store_cell rfl 29 _ _ (by with_reducible rfl) o 2 (.slice (some ⟨t2, 0, none⟩) 2 2) (by with_unfolding_all rfl) (by with_unfolding_all rfl) (HM7.out.row.mem.get 5 rfl) (by simp) (by kernel_rfl) rfl ?_))
  intro W3 hW3
  have HM9 := Lib.hid (show MBR w0 W3 145 5 mv nm xs  [(t2, ints [0, 0]), (t1, ints [0, 0]), (eb, [.int .i64 to', .int .i64 dl, .int .i64 way, .func (.func 107) #[] #[.pointer (some ⟨gf, 0, none⟩)]]), (gf, [.int .i64 0]), (hb, hc ob pb po pc lA tA gA rm rn o r rc gt gc i ic u uc pk que mv snt), (o, [rowV a ac, rowV b bc, rowV t2 2]), (a, ints qa), (b, ints qb), (c, ints [0, 0]), (r, ints rl), (gt, gate0), (i, ints il), (u, ints ul), (pk, ints pl), (pv, pvs), (sn, sns)] by
    rw [hW3.out]
    exact HM7.out.put 5 rfl (j := 2) (by simp) (.slice (some ⟨t2, 0, none⟩) 2 2))
  clear hW3 HM7 b8
  go_upto_region 3 with fail
  try simp only [Act.put]
  refine wp_rebase _ (fun V10 hV10 x11 => ?_)
  have HM12 := Lib.hid (show MBR w0 V10 145 5 mv nm xs  [(t2, ints [0, 0]), (t1, ints [0, 0]), (eb, [.int .i64 to', .int .i64 dl, .int .i64 way, .func (.func 107) #[] #[.pointer (some ⟨gf, 0, none⟩)]]), (gf, [.int .i64 0]), (hb, hc ob pb po pc lA tA gA rm rn o r rc gt gc i ic u uc pk que mv snt), (o, [rowV a ac, rowV b bc, rowV t2 2]), (a, ints qa), (b, ints qb), (c, ints [0, 0]), (r, ints rl), (gt, gate0), (i, ints il), (u, ints ul), (pk, ints pl), (pv, pvs), (sn, sns)] by
    rw [hV10]
    exact HM9.out)
  clear hV10
  have CT := Lib.hid (fun z : BelW V10 => bel_of (x := z) (tot_c t1 2 2 [0, 0] 0 rfl (by kernel_rfl) (by kernel_rfl) (by omega) z.w ((HM12.out.box 1 rfl z.2).rd)))
  go_wp2_with (first | (go_at_call 45; (with_reducible refine (CT.out _).mono ?_); rintro e w1 ⟨rfl, z, rfl⟩))
  (try simp only [Exit.inBlock, Exit.then])
  refine bodyPost_ret (results_none rfl _ _ _) rfl ?_
  exact ⟨rfl, t2, ((HM12.out.next z.2).pick [4, 5, 6, 7, 0, 9, 10, 11, 12, 13, 14, 15] (by decide) rfl)⟩
end Go.Proofs.YtngjakahanmepaaGreatDoor
namespace Go.Proofs.YtngjakahanmepaaGreatDoor
open Go.RowKit
set_option linter.unusedVariables false
set_option linter.unusedSimpArgs false
set_option maxHeartbeats 32000000 in
set_option maxRecDepth 100000 in
theorem hleave_0 {lv rt ob rm s0 r0 s1 r1 s2 lA tA gA pb po rn hb o a b c r gt i u pk : Nat} (pc ac bc cc rc gc ic uc : Nat) {qb qc il ul : List Int} {que mv snt : Value} {nm : Nat} {xs : List Value} (w0 w : World) (hL : LakeR w0 lv rt ob rm s0 r0 s1 r1 s2 lA tA gA (some ⟨pb, po, none⟩)) (hm : MBR w0 w 145 5 mv nm xs  [(hb, hc ob pb po pc lA tA gA rm rn o r rc gt gc i ic u uc pk que mv snt), (o, [rowV a ac, rowV b bc, rowV c cc]), (a, ints [650, 300]), (b, ints qb), (c, ints qc), (r, ints [0, 0, 0]), (gt, gate0), (i, ints il), (u, ints ul), (pk, ints [950, 100, 0])]) :
    Calls Tryz.prog 34 #[.pointer (some ⟨hb, 0, none⟩), .int .i64 0] w (fun e w' => e = .returned (.tuple #[]) ∧ ∃ x', MBR w0 w' 145 5 mv nm xs  [(hb, hc ob pb po pc lA tA gA rm rn o r rc gt gc i ic u uc pk que mv snt), (o, [rowV x' 2, rowV b bc, rowV c cc]), (x', ints [650, 300]), (b, ints qb), (c, ints qc), (r, ints [0, 0, 0]), (gt, gate0), (i, ints il), (u, ints ul), (pk, ints [950, 100, 0])]) := by
  have HL := Lib.hid hL
  have HM0 := Lib.hid hm
  obtain ⟨pb', po', e, -, HP0, HP1, HP2⟩ := lake_pl hL
  cases e
  have HP := Lib.hid HP0
  clear hL hm HP0 HP1 HP2
  go_enter Tryz.func34, Tryz.ntmps34
  go_upto_region 0 with fail
  refine wp_rebase _ (fun V1 hV1 x2 => ?_)
  have HM3 := Lib.hid (show MBR w0 V1 145 5 mv nm xs  [(hb, hc ob pb po pc lA tA gA rm rn o r rc gt gc i ic u uc pk que mv snt), (o, [rowV a ac, rowV b bc, rowV c cc]), (a, ints [650, 300]), (b, ints qb), (c, ints qc), (r, ints [0, 0, 0]), (gt, gate0), (i, ints il), (u, ints ul), (pk, ints [950, 100, 0])] by
    rw [hV1]
    exact HM0.out)
  clear hV1
  clear HM0
  have b4 := fun z : BelW V1 => (show z.w.cell? ⟨hb, 3, none⟩ = some (.slice (some ⟨pb, po, none⟩) 3 pc) from (HM3.out.box 0 rfl z.2).cell 3 rfl)
  have HPk := Lib.hid (show ∀ z : BelW V1, z.w.rangeAt pb po [.string lakeN, .int .i64 1, .int .i64 0, .int .i64 1000, .slice (bk lv) 2 2, .slice (bk s0) 2 2, .int .i64 0, .int .i64 0, .int .i64 1, .int .i64 0, .int .i64 0, .slice (bk r0) 1 1] from fun z => range_bel HP.out ⟨z.w, below_next HM3.out.bel z.2⟩)
  obtain ⟨pv, hpv⟩ : ∃ n, x2.w.heap.size = n := ⟨_, rfl⟩
  go_upto_region 1 with (first | (with_reducible refine wpList_load_g 90 _ (by with_reducible rfl) pb po (by with_unfolding_all rfl) (by with_unfolding_all rfl) _ _ (HPk.out _) Tryz.underlying90 (by with_unfolding_all rfl) (by kernel_rfl) ?_) | (with_reducible refine wpList_store_new (z := [.string ⟨#[]⟩, .int .i64 0, .int .i64 0, .int .i64 0, .slice none 0 0, .slice none 0 0, .int .i64 0, .int .i64 0, .int .i64 0, .int .i64 0, .int .i64 0, .slice none 0 0]) (cs := [.string lakeN, .int .i64 1, .int .i64 0, .int .i64 1000, .slice (bk lv) 2 2, .slice (bk s0) 2 2, .int .i64 0, .int .i64 0, .int .i64 1, .int .i64 0, .int .i64 0, .slice (bk r0) 1 1]) 90 _ _ (by with_reducible rfl) (by with_unfolding_all rfl) pv (by exact hpv.symm) _ (by with_unfolding_all rfl) (by with_unfolding_all rfl) (by with_unfolding_all rfl) (by kernel_rfl) (by with_unfolding_all rfl) ?_))
  try simp only [Act.put]
  refine wp_rebase _ (fun V5 hV5 x6 => ?_)
  have HM7 := Lib.hid (show MBR w0 V5 145 5 mv nm xs  [(pv, [.string lakeN, .int .i64 1, .int .i64 0, .int .i64 1000, .slice (bk lv) 2 2, .slice (bk s0) 2 2, .int .i64 0, .int .i64 0, .int .i64 1, .int .i64 0, .int .i64 0, .slice (bk r0) 1 1]), (hb, hc ob pb po pc lA tA gA rm rn o r rc gt gc i ic u uc pk que mv snt), (o, [rowV a ac, rowV b bc, rowV c cc]), (a, ints [650, 300]), (b, ints qb), (c, ints qc), (r, ints [0, 0, 0]), (gt, gate0), (i, ints il), (u, ints ul), (pk, ints [950, 100, 0])] by
    rw [hV5]
    exact (HM3.out.next x2.2).newAt hpv 90 [.string lakeN, .int .i64 1, .int .i64 0, .int .i64 1000, .slice (bk lv) 2 2, .slice (bk s0) 2 2, .int .i64 0, .int .i64 0, .int .i64 1, .int .i64 0, .int .i64 0, .slice (bk r0) 1 1])
  clear hV5
  clear HPk hpv HP HM3 b4
  have CT := Lib.hid (fun z : BelW V5 => htakes_is hb 0 z.w ((HM7.out.box 1 rfl z.2).cell 14 rfl))
  have CF := Lib.hid (fun z : BelW V5 => hflows_one pc ac bc cc rc gc ic uc w0 z.w HL.out ((HM7.out.next z.2).sub (by repeat (first | exact List.Sublist.refl _ | apply List.Sublist.cons_cons | apply List.Sublist.cons))))
  go_wp2_with (first | (go_at_call 69; (with_reducible refine (CT.out _).mono ?_); rintro e w1 ⟨rfl, rfl⟩))
  refine (CF.out _).mono ?_
  rintro e w1 ⟨⟨gx, cx, gf, rfl, hF⟩⟩
  have HM8 := Lib.hid (show MBR w0 w1 145 5 mv nm xs  [(gx, [.int .i64 1, .int .i64 0, .int .i64 0, .func (.func 107) #[] #[.pointer (some ⟨gf, 0, none⟩)]]), (gf, [.int .i64 0]), (pv, [.string lakeN, .int .i64 1, .int .i64 0, .int .i64 1000, .slice (bk lv) 2 2, .slice (bk s0) 2 2, .int .i64 0, .int .i64 0, .int .i64 1, .int .i64 0, .int .i64 0, .slice (bk r0) 1 1]), (hb, hc ob pb po pc lA tA gA rm rn o r rc gt gc i ic u uc pk que mv snt), (o, [rowV a ac, rowV b bc, rowV c cc]), (a, ints [650, 300]), (b, ints qb), (c, ints qc), (r, ints [0, 0, 0]), (gt, gate0), (i, ints il), (u, ints ul), (pk, ints [950, 100, 0])] by
    exact (HM7.out.next x6.2).join hF)
  clear CT CF hF HM7
  obtain ⟨q0, hq0⟩ : ∃ n, w1.heap.size = n := ⟨_, rfl⟩
  have HM9 := Lib.hid (show MBR w0 (w1.alloc (.cells ([.slice none 0 0, .slice (some ⟨gx, 0, none⟩) 1 cx] : List Value).toArray 149)) 145 5 mv nm xs  [(q0, [.slice none 0 0, .slice (some ⟨gx, 0, none⟩) 1 cx]), (gx, [.int .i64 1, .int .i64 0, .int .i64 0, .func (.func 107) #[] #[.pointer (some ⟨gf, 0, none⟩)]]), (gf, [.int .i64 0]), (pv, [.string lakeN, .int .i64 1, .int .i64 0, .int .i64 1000, .slice (bk lv) 2 2, .slice (bk s0) 2 2, .int .i64 0, .int .i64 0, .int .i64 1, .int .i64 0, .int .i64 0, .slice (bk r0) 1 1]), (hb, hc ob pb po pc lA tA gA rm rn o r rc gt gc i ic u uc pk que mv snt), (o, [rowV a ac, rowV b bc, rowV c cc]), (a, ints [650, 300]), (b, ints qb), (c, ints qc), (r, ints [0, 0, 0]), (gt, gate0), (i, ints il), (u, ints ul), (pk, ints [950, 100, 0])] by
    exact HM8.out.newAt hq0 149 [.slice none 0 0, .slice (some ⟨gx, 0, none⟩) 1 cx])
  have CC := Lib.hid (concat_one q0 2 gx cx (.int .i64 1) (.int .i64 0) (.int .i64 0) (.func (.func 107) #[] #[.pointer (some ⟨gf, 0, none⟩)]) (by intro v hv; simp only [List.mem_cons, List.not_mem_nil, or_false] at hv; rcases hv with rfl | rfl | rfl | rfl <;> rfl) (w1.alloc (.cells ([.slice none 0 0, .slice (some ⟨gx, 0, none⟩) 1 cx] : List Value).toArray 149)) (HM9.out.row.mem.get 0 rfl).rd (HM9.out.row.mem.get 1 rfl).rd)
  go_wp2_with (first | (refine Go.Great.wpList_buildSliceTo rfl 188 149 2 _ rfl (q0) hq0 _ rfl (by kernel_rfl) #[.slice none 0 0, .slice (some ⟨gx, 0, none⟩) 1 cx] (by kernel_rfl) ?_))
  refine CC.out.mono ?_
  rintro e w2 ⟨⟨g3, c3, rfl, hC⟩⟩
  have HM10 := Lib.hid (show MBR w0 w2 145 5 mv nm xs  [(g3, [.int .i64 1, .int .i64 0, .int .i64 0, .func (.func 107) #[] #[.pointer (some ⟨gf, 0, none⟩)]]), (q0, [.slice none 0 0, .slice (some ⟨gx, 0, none⟩) 1 cx]), (gx, [.int .i64 1, .int .i64 0, .int .i64 0, .func (.func 107) #[] #[.pointer (some ⟨gf, 0, none⟩)]]), (gf, [.int .i64 0]), (pv, [.string lakeN, .int .i64 1, .int .i64 0, .int .i64 1000, .slice (bk lv) 2 2, .slice (bk s0) 2 2, .int .i64 0, .int .i64 0, .int .i64 1, .int .i64 0, .int .i64 0, .slice (bk r0) 1 1]), (hb, hc ob pb po pc lA tA gA rm rn o r rc gt gc i ic u uc pk que mv snt), (o, [rowV a ac, rowV b bc, rowV c cc]), (a, ints [650, 300]), (b, ints qb), (c, ints qc), (r, ints [0, 0, 0]), (gt, gate0), (i, ints il), (u, ints ul), (pk, ints [950, 100, 0])] by
    exact HM9.out.join hC)
  clear CC hC hq0 HM8 HM9
  go_wp2_with fail
  refine wp_loop_rounds 2 ?_
  rw [rounds_succ]
  obtain ⟨eb, heb⟩ : ∃ n, w2.heap.size = n := ⟨_, rfl⟩
  have HX := Lib.hid (HM10.out.row.mem.get 0 rfl).rng
  go_upto_region 4 with (first | (with_reducible refine wpList_load_g 153 _ (by with_reducible rfl) g3 0 (by with_unfolding_all rfl) (by with_unfolding_all rfl) _ _ HX.out Tryz.underlying153 (by with_unfolding_all rfl) (by kernel_rfl) ?_) | (with_reducible refine wpList_store_new (z := [.int .i64 0, .int .i64 0, .int .i64 0, .nilFunc]) (cs := [.int .i64 1, .int .i64 0, .int .i64 0, .func (.func 107) #[] #[.pointer (some ⟨gf, 0, none⟩)]]) 153 _ _ (by with_reducible rfl) (by with_unfolding_all rfl) eb (by exact heb.symm) _ (by with_unfolding_all rfl) (by with_unfolding_all rfl) (by with_unfolding_all rfl) (by kernel_rfl) (by with_unfolding_all rfl) ?_))
  try simp only [Act.put]
  refine wp_rebase _ (fun V11 hV11 x12 => ?_)
  have HM13 := Lib.hid (show MBR w0 V11 145 5 mv nm xs  [(eb, [.int .i64 1, .int .i64 0, .int .i64 0, .func (.func 107) #[] #[.pointer (some ⟨gf, 0, none⟩)]]), (g3, [.int .i64 1, .int .i64 0, .int .i64 0, .func (.func 107) #[] #[.pointer (some ⟨gf, 0, none⟩)]]), (q0, [.slice none 0 0, .slice (some ⟨gx, 0, none⟩) 1 cx]), (gx, [.int .i64 1, .int .i64 0, .int .i64 0, .func (.func 107) #[] #[.pointer (some ⟨gf, 0, none⟩)]]), (gf, [.int .i64 0]), (pv, [.string lakeN, .int .i64 1, .int .i64 0, .int .i64 1000, .slice (bk lv) 2 2, .slice (bk s0) 2 2, .int .i64 0, .int .i64 0, .int .i64 1, .int .i64 0, .int .i64 0, .slice (bk r0) 1 1]), (hb, hc ob pb po pc lA tA gA rm rn o r rc gt gc i ic u uc pk que mv snt), (o, [rowV a ac, rowV b bc, rowV c cc]), (a, ints [650, 300]), (b, ints qb), (c, ints qc), (r, ints [0, 0, 0]), (gt, gate0), (i, ints il), (u, ints ul), (pk, ints [950, 100, 0])] by
    rw [hV11]
    exact HM10.out.newAt heb 153 [.int .i64 1, .int .i64 0, .int .i64 0, .func (.func 107) #[] #[.pointer (some ⟨gf, 0, none⟩)]])
  clear hV11
  clear HX heb HM10
  have HEB := Lib.hid (HM13.out.row.mem.get 0 rfl).rng
  have CM := Lib.hid (fun z : BelW V11 => hmove_a pc ac bc cc rc gc ic uc 1 0 0 w0 z.w ((HM13.out.next z.2).pick [4, 6, 7, 8, 9, 10, 11, 12, 13, 14, 15, 5] (by decide) rfl))
  go_wp2_with (first | (with_reducible refine wpList_load_g 153 _ (by with_reducible rfl) eb 0 (by with_unfolding_all rfl) (by with_unfolding_all rfl) _ _ (BelW.range HEB.out _) Tryz.underlying153 (by with_unfolding_all rfl) (by kernel_rfl) ?_))
  refine (CM.out _).mono ?_
  rintro e w4 ⟨rfl, x', hM⟩
  have HM14 := Lib.hid (show MBR w0 w4 145 5 mv nm xs  [(hb, hc ob pb po pc lA tA gA rm rn o r rc gt gc i ic u uc pk que mv snt), (o, [rowV x' 2, rowV b bc, rowV c cc]), (x', ints [650, 300]), (b, ints qb), (c, ints qc), (r, ints [0, 0, 0]), (gt, gate0), (i, ints il), (u, ints ul), (pk, ints [950, 100, 0]), (pv, [.string lakeN, .int .i64 1, .int .i64 0, .int .i64 1000, .slice (bk lv) 2 2, .slice (bk s0) 2 2, .int .i64 0, .int .i64 0, .int .i64 1, .int .i64 0, .int .i64 0, .slice (bk r0) 1 1])] by
    exact hM)
  clear hM CM HEB HM13
  go_wp2_with fail
  rw [rounds_succ]
  go_upto_region 6 with fail
  try simp only [Act.put]
  refine wp_rebase _ (fun V15 hV15 x16 => ?_)
  have HM17 := Lib.hid (show MBR w0 V15 145 5 mv nm xs  [(hb, hc ob pb po pc lA tA gA rm rn o r rc gt gc i ic u uc pk que mv snt), (o, [rowV x' 2, rowV b bc, rowV c cc]), (x', ints [650, 300]), (b, ints qb), (c, ints qc), (r, ints [0, 0, 0]), (gt, gate0), (i, ints il), (u, ints ul), (pk, ints [950, 100, 0]), (pv, [.string lakeN, .int .i64 1, .int .i64 0, .int .i64 1000, .slice (bk lv) 2 2, .slice (bk s0) 2 2, .int .i64 0, .int .i64 0, .int .i64 1, .int .i64 0, .int .i64 0, .slice (bk r0) 1 1])] by
    rw [hV15]
    exact HM14.out)
  clear hV15
  have b18 := fun z : BelW V15 => (show z.w.cell? ⟨pv, 7, none⟩ = some (.int .i64 0) from (HM17.out.box 10 rfl z.2).cell 7 rfl)
  go_upto_region 12 with fail
  try simp only [Act.put]
  refine wp_rebase _ (fun V19 hV19 x20 => ?_)
  have HM21 := Lib.hid (show MBR w0 V19 145 5 mv nm xs  [(hb, hc ob pb po pc lA tA gA rm rn o r rc gt gc i ic u uc pk que mv snt), (o, [rowV x' 2, rowV b bc, rowV c cc]), (x', ints [650, 300]), (b, ints qb), (c, ints qc), (r, ints [0, 0, 0]), (gt, gate0), (i, ints il), (u, ints ul), (pk, ints [950, 100, 0]), (pv, [.string lakeN, .int .i64 1, .int .i64 0, .int .i64 1000, .slice (bk lv) 2 2, .slice (bk s0) 2 2, .int .i64 0, .int .i64 0, .int .i64 1, .int .i64 0, .int .i64 0, .slice (bk r0) 1 1])] by
    rw [hV19]
    exact HM17.out.next x16.2)
  clear hV19
  clear HM17 b18
  have b22 := fun z : BelW V19 => (show z.w.cell? ⟨hb, 17, none⟩ = some (.slice (some ⟨o, 0, none⟩) 3 3) from (HM21.out.box 0 rfl z.2).cell 17 rfl)
  have b23 := fun z : BelW V19 => (show z.w.cell? ⟨o, 0, none⟩ = some (.slice (some ⟨x', 0, none⟩) 2 2) from (HM21.out.box 1 rfl z.2).cell 0 rfl)
  have b24 := fun z : BelW V19 => (show z.w.cell? ⟨pv, 3, none⟩ = some (.int .i64 1000) from (HM21.out.box 10 rfl z.2).cell 3 rfl)
  have CT := Lib.hid (fun z : BelW V19 => bel_of (x := z) (tot_c x' 2 2 [650, 300] 950 rfl (by kernel_rfl) (by kernel_rfl) (by omega) z.w ((HM21.out.box 2 rfl z.2).rd)))
  refine wp_region_belt 12 (by kernel_rfl) (by kernel_rfl) ?_
  simp only [List.take_succ_cons, List.take_zero, List.drop_succ_cons, List.drop_zero]
  repeat (go_big_quiet_step ((first | (go_at_call 45; with_reducible exact CT.out _))))
  refine wpQuiet_nil ?_
  intro y
  try simp only [List.drop_succ_cons, List.drop_zero]
  go_wp2_with fail
  (try simp only [Exit.inBlock, Exit.then])
  refine bodyPost_end (results_none rfl _ _ _) rfl ?_
  exact ⟨rfl, x', ((HM21.out.next y.2).pick [0, 1, 2, 3, 4, 5, 6, 7, 8, 9] (by decide) rfl)⟩
end Go.Proofs.YtngjakahanmepaaGreatDoor
