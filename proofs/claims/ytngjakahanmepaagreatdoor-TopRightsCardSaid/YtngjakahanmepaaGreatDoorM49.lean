/- Part 49 of the proof of TopRights: (*hour).leave at the place 2 of the lake. Printed by wip/tools/mkh6.py. Makers that call; boxes between two marks. No walk. -/
import Derived.Test.YtngjakahanmepaaGreatDoorM48
import Derived.Test.YtngjakahanmepaaGreatDoorM47
namespace Go.Proofs.YtngjakahanmepaaGreatDoor
open Go.RowKit
set_option linter.unusedVariables false
set_option linter.unusedSimpArgs false
set_option maxHeartbeats 32000000 in
set_option maxRecDepth 100000 in
theorem hleave_2 {lv rt ob rm s0 r0 s1 r1 s2 lA tA gA pb po rn hb o a b c r gt i u pk sn : Nat} {sns : List Value} (pc ac bc cc rc gc ic uc : Nat) {qa qb il ul : List Int} {que mv snt : Value} {nm : Nat} {xs : List Value} (w0 w : World) (hL : LakeR w0 lv rt ob rm s0 r0 s1 r1 s2 lA tA gA (some ⟨pb, po, none⟩)) (hm : MBR w0 w 145 5 mv nm xs  [(hb, hc ob pb po pc lA tA gA rm rn o r rc gt gc i ic u uc pk que mv snt), (o, [rowV a ac, rowV b bc, rowV c cc]), (a, ints qa), (b, ints qb), (c, ints [0, 0]), (r, ints [0, 0, 0]), (gt, gate0), (i, ints il), (u, ints ul), (pk, ints [950, 100, 0]), (sn, sns)]) :
    Calls Tryz.prog 34 #[.pointer (some ⟨hb, 0, none⟩), .int .i64 2] w (fun e w' => e = .returned (.tuple #[]) ∧ ∃ x', MBR w0 w' 145 5 mv nm xs  [(hb, hc ob pb po pc lA tA gA rm rn o r rc gt gc i ic u uc pk que mv snt), (o, [rowV a ac, rowV b bc, rowV x' 2]), (a, ints qa), (b, ints qb), (x', ints [0, 0]), (r, ints [0, 0, 0]), (gt, gate0), (i, ints il), (u, ints ul), (pk, ints [950, 100, 0]), (sn, sns)]) := by
  have HL := Lib.hid hL
  have HM0 := Lib.hid hm
  obtain ⟨pb', po', e, -, HP0, HP1, HP2⟩ := lake_pl hL
  cases e
  have HP := Lib.hid HP2
  clear hL hm HP0 HP1 HP2
  go_enter Tryz.func34, Tryz.ntmps34
  go_upto_region 0 with fail
  refine wp_rebase _ (fun V1 hV1 x2 => ?_)
  have HM3 := Lib.hid (show MBR w0 V1 145 5 mv nm xs  [(hb, hc ob pb po pc lA tA gA rm rn o r rc gt gc i ic u uc pk que mv snt), (o, [rowV a ac, rowV b bc, rowV c cc]), (a, ints qa), (b, ints qb), (c, ints [0, 0]), (r, ints [0, 0, 0]), (gt, gate0), (i, ints il), (u, ints ul), (pk, ints [950, 100, 0]), (sn, sns)] by
    rw [hV1]
    exact HM0.out)
  clear hV1
  clear HM0
  have b4 := fun z : BelW V1 => (show z.w.cell? ⟨hb, 3, none⟩ = some (.slice (some ⟨pb, po, none⟩) 3 pc) from (HM3.out.box 0 rfl z.2).cell 3 rfl)
  have HPk := Lib.hid (show ∀ z : BelW V1, z.w.rangeAt pb (po + 24) [.string lowerN, .int .i64 0, .int .i64 2, .int .i64 1000, .slice (bk lv) 2 2, .slice (bk s2) 2 2, .int .i64 1, .int .i64 2, .int .i64 (-1), .int .i64 0, .int .i64 0, .slice none 0 0] from fun z => range_bel HP.out ⟨z.w, below_next HM3.out.bel z.2⟩)
  obtain ⟨pv, hpv⟩ : ∃ n, x2.w.heap.size = n := ⟨_, rfl⟩
  go_upto_region 1 with (first | (with_reducible refine wpList_load_g 90 _ (by with_reducible rfl) pb (po + 24) (by with_unfolding_all rfl) (by with_unfolding_all rfl) _ _ (HPk.out _) Tryz.underlying90 (by with_unfolding_all rfl) (by kernel_rfl) ?_) | (with_reducible refine wpList_store_new (z := [.string ⟨#[]⟩, .int .i64 0, .int .i64 0, .int .i64 0, .slice none 0 0, .slice none 0 0, .int .i64 0, .int .i64 0, .int .i64 0, .int .i64 0, .int .i64 0, .slice none 0 0]) (cs := [.string lowerN, .int .i64 0, .int .i64 2, .int .i64 1000, .slice (bk lv) 2 2, .slice (bk s2) 2 2, .int .i64 1, .int .i64 2, .int .i64 (-1), .int .i64 0, .int .i64 0, .slice none 0 0]) 90 _ _ (by with_reducible rfl) (by with_unfolding_all rfl) pv (by exact hpv.symm) _ (by with_unfolding_all rfl) (by with_unfolding_all rfl) (by with_unfolding_all rfl) (by kernel_rfl) (by with_unfolding_all rfl) ?_))
  try simp only [Act.put]
  refine wp_rebase _ (fun V5 hV5 x6 => ?_)
  have HM7 := Lib.hid (show MBR w0 V5 145 5 mv nm xs  [(pv, [.string lowerN, .int .i64 0, .int .i64 2, .int .i64 1000, .slice (bk lv) 2 2, .slice (bk s2) 2 2, .int .i64 1, .int .i64 2, .int .i64 (-1), .int .i64 0, .int .i64 0, .slice none 0 0]), (hb, hc ob pb po pc lA tA gA rm rn o r rc gt gc i ic u uc pk que mv snt), (o, [rowV a ac, rowV b bc, rowV c cc]), (a, ints qa), (b, ints qb), (c, ints [0, 0]), (r, ints [0, 0, 0]), (gt, gate0), (i, ints il), (u, ints ul), (pk, ints [950, 100, 0]), (sn, sns)] by
    rw [hV5]
    exact (HM3.out.next x2.2).newAt hpv 90 [.string lowerN, .int .i64 0, .int .i64 2, .int .i64 1000, .slice (bk lv) 2 2, .slice (bk s2) 2 2, .int .i64 1, .int .i64 2, .int .i64 (-1), .int .i64 0, .int .i64 0, .slice none 0 0])
  clear hV5
  clear HPk hpv HP HM3 b4
  have CT := Lib.hid (fun z : BelW V5 => htakes_is hb 2 z.w ((HM7.out.box 1 rfl z.2).cell 14 rfl))
  have CF := Lib.hid (fun z : BelW V5 => hflows_low pc ac bc cc rc gc ic uc w0 z.w HL.out ((HM7.out.next z.2).sub (by repeat (first | exact List.Sublist.refl _ | apply List.Sublist.cons_cons | apply List.Sublist.cons))))
  go_wp2_with (first | (go_at_call 69; (with_reducible refine (CT.out _).mono ?_); rintro e w1 ⟨rfl, rfl⟩))
  refine (CF.out _).mono ?_
  rintro e w1 ⟨rfl, hF⟩
  have HM8 := Lib.hid (show MBR w0 w1 145 5 mv nm xs  [(pv, [.string lowerN, .int .i64 0, .int .i64 2, .int .i64 1000, .slice (bk lv) 2 2, .slice (bk s2) 2 2, .int .i64 1, .int .i64 2, .int .i64 (-1), .int .i64 0, .int .i64 0, .slice none 0 0]), (hb, hc ob pb po pc lA tA gA rm rn o r rc gt gc i ic u uc pk que mv snt), (o, [rowV a ac, rowV b bc, rowV c cc]), (a, ints qa), (b, ints qb), (c, ints [0, 0]), (r, ints [0, 0, 0]), (gt, gate0), (i, ints il), (u, ints ul), (pk, ints [950, 100, 0]), (sn, sns)] by
    exact (HM7.out.next x6.2).next hF)
  clear CT CF hF HM7
  obtain ⟨q0, hq0⟩ : ∃ n, w1.heap.size = n := ⟨_, rfl⟩
  have HM9 := Lib.hid (show MBR w0 (w1.alloc (.cells ([.slice none 0 0, .slice none 0 0] : List Value).toArray 149)) 145 5 mv nm xs  [(q0, [.slice none 0 0, .slice none 0 0]), (pv, [.string lowerN, .int .i64 0, .int .i64 2, .int .i64 1000, .slice (bk lv) 2 2, .slice (bk s2) 2 2, .int .i64 1, .int .i64 2, .int .i64 (-1), .int .i64 0, .int .i64 0, .slice none 0 0]), (hb, hc ob pb po pc lA tA gA rm rn o r rc gt gc i ic u uc pk que mv snt), (o, [rowV a ac, rowV b bc, rowV c cc]), (a, ints qa), (b, ints qb), (c, ints [0, 0]), (r, ints [0, 0, 0]), (gt, gate0), (i, ints il), (u, ints ul), (pk, ints [950, 100, 0]), (sn, sns)] by
    exact HM8.out.newAt hq0 149 [.slice none 0 0, .slice none 0 0])
  have CC := Lib.hid (concat_none q0 2 (w1.alloc (.cells ([.slice none 0 0, .slice none 0 0] : List Value).toArray 149)) (HM9.out.row.mem.get 0 rfl).rd)
  go_wp2_with (first | (refine Go.Great.wpList_buildSliceTo rfl 188 149 2 _ rfl (q0) hq0 _ rfl (by kernel_rfl) #[.slice none 0 0, .slice none 0 0] (by kernel_rfl) ?_))
  refine CC.out.mono ?_
  rintro e w2 ⟨⟨A3, c3, rfl, hC⟩⟩
  have HM10 := Lib.hid (show MBR w0 w2 145 5 mv nm xs  [(q0, [.slice none 0 0, .slice none 0 0]), (pv, [.string lowerN, .int .i64 0, .int .i64 2, .int .i64 1000, .slice (bk lv) 2 2, .slice (bk s2) 2 2, .int .i64 1, .int .i64 2, .int .i64 (-1), .int .i64 0, .int .i64 0, .slice none 0 0]), (hb, hc ob pb po pc lA tA gA rm rn o r rc gt gc i ic u uc pk que mv snt), (o, [rowV a ac, rowV b bc, rowV c cc]), (a, ints qa), (b, ints qb), (c, ints [0, 0]), (r, ints [0, 0, 0]), (gt, gate0), (i, ints il), (u, ints ul), (pk, ints [950, 100, 0]), (sn, sns)] by
    exact HM9.out.next hC)
  clear CC hC hq0 HM8 HM9
  go_wp2_with fail
  refine wp_loop_rounds 1 ?_
  rw [rounds_succ]
  go_upto_region 6 with fail
  try simp only [Act.put]
  refine wp_rebase _ (fun V11 hV11 x12 => ?_)
  have HM13 := Lib.hid (show MBR w0 V11 145 5 mv nm xs  [(q0, [.slice none 0 0, .slice none 0 0]), (pv, [.string lowerN, .int .i64 0, .int .i64 2, .int .i64 1000, .slice (bk lv) 2 2, .slice (bk s2) 2 2, .int .i64 1, .int .i64 2, .int .i64 (-1), .int .i64 0, .int .i64 0, .slice none 0 0]), (hb, hc ob pb po pc lA tA gA rm rn o r rc gt gc i ic u uc pk que mv snt), (o, [rowV a ac, rowV b bc, rowV c cc]), (a, ints qa), (b, ints qb), (c, ints [0, 0]), (r, ints [0, 0, 0]), (gt, gate0), (i, ints il), (u, ints ul), (pk, ints [950, 100, 0]), (sn, sns)] by
    rw [hV11]
    exact HM10.out)
  clear hV11
  have b14 := fun z : BelW V11 => (show z.w.cell? ⟨pv, 7, none⟩ = some (.int .i64 2) from (HM13.out.box 1 rfl z.2).cell 7 rfl)
  go_upto_region 7 with fail
  try simp only [Act.put]
  refine wp_rebase _ (fun V15 hV15 x16 => ?_)
  have HM17 := Lib.hid (show MBR w0 V15 145 5 mv nm xs  [(q0, [.slice none 0 0, .slice none 0 0]), (pv, [.string lowerN, .int .i64 0, .int .i64 2, .int .i64 1000, .slice (bk lv) 2 2, .slice (bk s2) 2 2, .int .i64 1, .int .i64 2, .int .i64 (-1), .int .i64 0, .int .i64 0, .slice none 0 0]), (hb, hc ob pb po pc lA tA gA rm rn o r rc gt gc i ic u uc pk que mv snt), (o, [rowV a ac, rowV b bc, rowV c cc]), (a, ints qa), (b, ints qb), (c, ints [0, 0]), (r, ints [0, 0, 0]), (gt, gate0), (i, ints il), (u, ints ul), (pk, ints [950, 100, 0]), (sn, sns)] by
    rw [hV15]
    exact HM13.out.next x12.2)
  clear hV15
  clear HM13 b14
  have b18 := fun z : BelW V15 => (show z.w.cell? ⟨hb, 24, none⟩ = some (.slice (some ⟨pk, 0, none⟩) 3 3) from (HM17.out.box 2 rfl z.2).cell 24 rfl)
  have b19 := fun z : BelW V15 => (show z.w.cell? ⟨hb, 18, none⟩ = some (.slice (some ⟨r, 0, none⟩) 3 rc) from (HM17.out.box 2 rfl z.2).cell 18 rfl)
  have b20 := fun z : BelW V15 => (show z.w.cell? ⟨pk, 2, none⟩ = some (.int .i64 0) from (HM17.out.box 11 rfl z.2).cell 2 rfl)
  have b21 := fun z : BelW V15 => (show z.w.cell? ⟨r, 2, none⟩ = some (.int .i64 0) from (HM17.out.box 7 rfl z.2).cell 2 rfl)
  have HPB := Lib.hid (HM17.out.row.mem.get 1 rfl).rng
  have CR := Lib.hid (fun z : BelW V15 => bel_of (x := z) (route_low (.string lowerN) (.int .i64 0) (.int .i64 2) (.int .i64 1000) (.slice (bk lv) 2 2) (.slice (bk s2) 2 2) (.int .i64 (-1)) (.int .i64 0) (.int .i64 0) (.slice none 0 0) z.w))
  refine wp_region_belt 21 (by kernel_rfl) (by kernel_rfl) ?_
  simp only [List.take_succ_cons, List.take_zero, List.drop_succ_cons, List.drop_zero]
  repeat (first
    | (with_reducible refine wpQuiet_load_g 90 _ (by with_reducible rfl) _ _ (by with_unfolding_all rfl) (by with_unfolding_all rfl) _ _ (rangeX HPB.out) Tryz.underlying90 (by with_unfolding_all rfl) (by kernel_rfl) ?_; simp only [Act.put, List.setIfInBounds_toArray, List.set_cons_succ, List.set_cons_zero])
    | go_big_quiet_step ((first | (go_at_call 72; with_reducible exact CR.out _))))
  refine wpQuiet_nil ?_
  intro y
  try simp only [List.drop_succ_cons, List.drop_zero]
  go_wp2_with (first | (refine wpList_store_cell rfl 3 _ _ (by with_reducible rfl) r 2 (.int .i64 0) (by with_unfolding_all rfl) (by with_unfolding_all rfl) ((HM17.out.next y.2).get 7 rfl) (by simp [ints]) (by kernel_rfl) rfl ?_))
  intro W5 hW5
  have HM22 := Lib.hid (show MBR w0 W5 145 5 mv nm xs  [(q0, [.slice none 0 0, .slice none 0 0]), (pv, [.string lowerN, .int .i64 0, .int .i64 2, .int .i64 1000, .slice (bk lv) 2 2, .slice (bk s2) 2 2, .int .i64 1, .int .i64 2, .int .i64 (-1), .int .i64 0, .int .i64 0, .slice none 0 0]), (hb, hc ob pb po pc lA tA gA rm rn o r rc gt gc i ic u uc pk que mv snt), (o, [rowV a ac, rowV b bc, rowV c cc]), (a, ints qa), (b, ints qb), (c, ints [0, 0]), (r, ints [0, 0, 0]), (gt, gate0), (i, ints il), (u, ints ul), (pk, ints [950, 100, 0]), (sn, sns)] by
    rw [hW5.out]
    exact (HM17.out.next y.2).put 7 rfl (j := 2) (by simp [ints]) (.int .i64 0))
  clear hW5 HM17
  clear CR HPB b18 b19 b20 b21
  go_upto_region 9 with fail
  try simp only [Act.put]
  refine wp_rebase _ (fun V23 hV23 x24 => ?_)
  have HM25 := Lib.hid (show MBR w0 V23 145 5 mv nm xs  [(q0, [.slice none 0 0, .slice none 0 0]), (pv, [.string lowerN, .int .i64 0, .int .i64 2, .int .i64 1000, .slice (bk lv) 2 2, .slice (bk s2) 2 2, .int .i64 1, .int .i64 2, .int .i64 (-1), .int .i64 0, .int .i64 0, .slice none 0 0]), (hb, hc ob pb po pc lA tA gA rm rn o r rc gt gc i ic u uc pk que mv snt), (o, [rowV a ac, rowV b bc, rowV c cc]), (a, ints qa), (b, ints qb), (c, ints [0, 0]), (r, ints [0, 0, 0]), (gt, gate0), (i, ints il), (u, ints ul), (pk, ints [950, 100, 0]), (sn, sns)] by
    rw [hV23]
    exact HM22.out)
  clear hV23
  have b26 := fun z : BelW V23 => (show z.w.cell? ⟨hb, 17, none⟩ = some (.slice (some ⟨o, 0, none⟩) 3 3) from (HM25.out.box 2 rfl z.2).cell 17 rfl)
  have b27 := fun z : BelW V23 => (show z.w.cell? ⟨o, 2, none⟩ = some (.slice (some ⟨c, 0, none⟩) 2 cc) from (HM25.out.box 3 rfl z.2).cell 2 rfl)
  have CT := Lib.hid (fun z : BelW V23 => bel_of (x := z) (tot_c c cc 2 [0, 0] 0 rfl (by kernel_rfl) (by kernel_rfl) (by omega) z.w ((HM25.out.box 6 rfl z.2).rd)))
  go_upto_region 10 with (first | (go_at_call 45; (with_reducible refine (CT.out _).mono ?_); rintro e w1 ⟨rfl, z, rfl⟩))
  try simp only [Act.put]
  refine wp_rebase _ (fun V28 hV28 x29 => ?_)
  have HM30 := Lib.hid (show MBR w0 V28 145 5 mv nm xs  [(q0, [.slice none 0 0, .slice none 0 0]), (pv, [.string lowerN, .int .i64 0, .int .i64 2, .int .i64 1000, .slice (bk lv) 2 2, .slice (bk s2) 2 2, .int .i64 1, .int .i64 2, .int .i64 (-1), .int .i64 0, .int .i64 0, .slice none 0 0]), (hb, hc ob pb po pc lA tA gA rm rn o r rc gt gc i ic u uc pk que mv snt), (o, [rowV a ac, rowV b bc, rowV c cc]), (a, ints qa), (b, ints qb), (c, ints [0, 0]), (r, ints [0, 0, 0]), (gt, gate0), (i, ints il), (u, ints ul), (pk, ints [950, 100, 0]), (sn, sns)] by
    rw [hV28]
    exact HM25.out.next z.2)
  clear hV28
  clear CT HM25 b26 b27
  have b31 := fun z : BelW V28 => (show z.w.cell? ⟨hb, 18, none⟩ = some (.slice (some ⟨r, 0, none⟩) 3 rc) from (HM30.out.box 2 rfl z.2).cell 18 rfl)
  go_wp2_with (first | (refine wpList_store_cell rfl 3 _ _ (by with_reducible rfl) r 2 (.int .i64 0) (by with_unfolding_all rfl) (by with_unfolding_all rfl) ((HM30.out.next x29.2).get 7 rfl) (by simp [ints]) (by kernel_rfl) rfl ?_))
  intro W6 hW6
  have HM32 := Lib.hid (show MBR w0 W6 145 5 mv nm xs  [(q0, [.slice none 0 0, .slice none 0 0]), (pv, [.string lowerN, .int .i64 0, .int .i64 2, .int .i64 1000, .slice (bk lv) 2 2, .slice (bk s2) 2 2, .int .i64 1, .int .i64 2, .int .i64 (-1), .int .i64 0, .int .i64 0, .slice none 0 0]), (hb, hc ob pb po pc lA tA gA rm rn o r rc gt gc i ic u uc pk que mv snt), (o, [rowV a ac, rowV b bc, rowV c cc]), (a, ints qa), (b, ints qb), (c, ints [0, 0]), (r, ints [0, 0, 0]), (gt, gate0), (i, ints il), (u, ints ul), (pk, ints [950, 100, 0]), (sn, sns)] by
    rw [hW6.out]
    exact (HM30.out.next x29.2).put 7 rfl (j := 2) (by simp [ints]) (.int .i64 0))
  clear hW6 HM30
  clear b31
  go_upto_region 11 with fail
  try simp only [Act.put]
  refine wp_rebase _ (fun V33 hV33 x34 => ?_)
  have HM35 := Lib.hid (show MBR w0 V33 145 5 mv nm xs  [(q0, [.slice none 0 0, .slice none 0 0]), (pv, [.string lowerN, .int .i64 0, .int .i64 2, .int .i64 1000, .slice (bk lv) 2 2, .slice (bk s2) 2 2, .int .i64 1, .int .i64 2, .int .i64 (-1), .int .i64 0, .int .i64 0, .slice none 0 0]), (hb, hc ob pb po pc lA tA gA rm rn o r rc gt gc i ic u uc pk que mv snt), (o, [rowV a ac, rowV b bc, rowV c cc]), (a, ints qa), (b, ints qb), (c, ints [0, 0]), (r, ints [0, 0, 0]), (gt, gate0), (i, ints il), (u, ints ul), (pk, ints [950, 100, 0]), (sn, sns)] by
    rw [hV33]
    exact HM32.out)
  clear hV33
  have b36 := fun z : BelW V33 => (show z.w.cell? ⟨pv, 8, none⟩ = some (.int .i64 (-1)) from (HM35.out.box 1 rfl z.2).cell 8 rfl)
  have b37 := fun z : BelW V33 => (show z.w.cell? ⟨pv, 9, none⟩ = some (.int .i64 0) from (HM35.out.box 1 rfl z.2).cell 9 rfl)
  have HS := Lib.hid (show ∃ z : BelW V33, x34.w.drew = z.w from ⟨⟨_, x34.2.drew⟩, rfl⟩)
  refine wp_region_tl 9 10 (fun w' => ∃ z : BelW V33, w' = z.w) HS.out ?_
  iterate 7 (refine wpK_nx rfl rfl HS.out (Or.inl ⟨by rfl, fun w1 hS => by first | (go_simp <;> with_reducible rfl) | (obtain ⟨z, rfl⟩ := hS; (go_simp <;> with_reducible rfl))⟩) ?_; simp only [Act.put, List.setIfInBounds_toArray, List.set_cons_zero, List.set_cons_succ])
  have HC := Lib.hid (share_is 0 x34.w.drew)
  refine wpK_ne rfl ?_
  go_wp2_with fail
  refine HC.out.mono ?_
  rintro e w7 ⟨gf, rfl, hS⟩
  have HB := Lib.hid (show ∃ z : BelW V33, w7 = z.w from ⟨⟨w7, below_next x34.2.drew hS.bel⟩, rfl⟩)
  have HM38 := Lib.hid (show MBR w0 w7 145 5 mv nm xs  [(gf, [.int .i64 0]), (q0, [.slice none 0 0, .slice none 0 0]), (pv, [.string lowerN, .int .i64 0, .int .i64 2, .int .i64 1000, .slice (bk lv) 2 2, .slice (bk s2) 2 2, .int .i64 1, .int .i64 2, .int .i64 (-1), .int .i64 0, .int .i64 0, .slice none 0 0]), (hb, hc ob pb po pc lA tA gA rm rn o r rc gt gc i ic u uc pk que mv snt), (o, [rowV a ac, rowV b bc, rowV c cc]), (a, ints qa), (b, ints qb), (c, ints [0, 0]), (r, ints [0, 0, 0]), (gt, gate0), (i, ints il), (u, ints ul), (pk, ints [950, 100, 0]), (sn, sns)] by
    exact (HM35.out.next x34.2.drew).join hS)
  clear hS HC HM35
  go_wp2_with fail
  refine ⟨HB.out, ?_⟩
  refine wpK_nx rfl rfl HB.out (Or.inl ⟨by rfl, fun w1 hS => by first | (go_simp <;> with_reducible rfl) | (obtain ⟨z, rfl⟩ := hS; (go_simp <;> with_reducible rfl))⟩) ?_; simp only [Act.put, List.setIfInBounds_toArray, List.set_cons_zero, List.set_cons_succ]
  refine wpK_done (by kernel_rfl) ?_
  simp only [List.drop_succ_cons, List.drop_zero]
  clear HB HS b36 b37
  have CM := Lib.hid (hmove_c pc ac bc cc rc gc ic uc (-1) 0 (-1) w0 w7 (HM38.out.pick [0, 3, 4, 5, 6, 7, 8, 9, 10, 11, 12, 2, 13] (by decide) rfl))
  go_wp2_with fail
  refine CM.out.mono ?_
  rintro e w8 ⟨rfl, x', hM⟩
  have HM39 := Lib.hid (show MBR w0 w8 145 5 mv nm xs  [(hb, hc ob pb po pc lA tA gA rm rn o r rc gt gc i ic u uc pk que mv snt), (o, [rowV a ac, rowV b bc, rowV x' 2]), (a, ints qa), (b, ints qb), (x', ints [0, 0]), (r, ints [0, 0, 0]), (gt, gate0), (i, ints il), (u, ints ul), (pk, ints [950, 100, 0]), (pv, [.string lowerN, .int .i64 0, .int .i64 2, .int .i64 1000, .slice (bk lv) 2 2, .slice (bk s2) 2 2, .int .i64 1, .int .i64 2, .int .i64 (-1), .int .i64 0, .int .i64 0, .slice none 0 0]), (sn, sns)] by
    exact hM)
  clear hM CM HM38
  go_upto_region 12 with fail
  try simp only [Act.put]
  refine wp_rebase _ (fun V40 hV40 x41 => ?_)
  have HM42 := Lib.hid (show MBR w0 V40 145 5 mv nm xs  [(hb, hc ob pb po pc lA tA gA rm rn o r rc gt gc i ic u uc pk que mv snt), (o, [rowV a ac, rowV b bc, rowV x' 2]), (a, ints qa), (b, ints qb), (x', ints [0, 0]), (r, ints [0, 0, 0]), (gt, gate0), (i, ints il), (u, ints ul), (pk, ints [950, 100, 0]), (pv, [.string lowerN, .int .i64 0, .int .i64 2, .int .i64 1000, .slice (bk lv) 2 2, .slice (bk s2) 2 2, .int .i64 1, .int .i64 2, .int .i64 (-1), .int .i64 0, .int .i64 0, .slice none 0 0]), (sn, sns)] by
    rw [hV40]
    exact HM39.out)
  clear hV40
  have b43 := fun z : BelW V40 => (show z.w.cell? ⟨hb, 17, none⟩ = some (.slice (some ⟨o, 0, none⟩) 3 3) from (HM42.out.box 0 rfl z.2).cell 17 rfl)
  have b44 := fun z : BelW V40 => (show z.w.cell? ⟨o, 2, none⟩ = some (.slice (some ⟨x', 0, none⟩) 2 2) from (HM42.out.box 1 rfl z.2).cell 2 rfl)
  have b45 := fun z : BelW V40 => (show z.w.cell? ⟨pv, 3, none⟩ = some (.int .i64 1000) from (HM42.out.box 10 rfl z.2).cell 3 rfl)
  have CT := Lib.hid (fun z : BelW V40 => bel_of (x := z) (tot_c x' 2 2 [0, 0] 0 rfl (by kernel_rfl) (by kernel_rfl) (by omega) z.w ((HM42.out.box 4 rfl z.2).rd)))
  refine wp_region_belt 12 (by kernel_rfl) (by kernel_rfl) ?_
  simp only [List.take_succ_cons, List.take_zero, List.drop_succ_cons, List.drop_zero]
  repeat (go_big_quiet_step ((first | (go_at_call 45; with_reducible exact CT.out _))))
  refine wpQuiet_nil ?_
  intro y
  try simp only [List.drop_succ_cons, List.drop_zero]
  go_wp2_with fail
  (try simp only [Exit.inBlock, Exit.then])
  refine bodyPost_end (results_none rfl _ _ _) rfl ?_
  exact ⟨rfl, x', ((HM42.out.next y.2).pick [0, 1, 2, 3, 4, 5, 6, 7, 8, 9, 11] (by decide) rfl)⟩
end Go.Proofs.YtngjakahanmepaaGreatDoor
namespace Go.Proofs.YtngjakahanmepaaGreatDoor
open Go.RowKit
set_option linter.unusedVariables false
set_option linter.unusedSimpArgs false
/-- boxes between two marks -/
structure MW (lo hi : Nat) (W : World) (m : List (Nat × List Value)) : Prop where
  mem : Mem W m
  rng : ∀ p ∈ m, lo ≤ p.1 ∧ p.1 < hi
theorem MW.next {lo hi : Nat} {W W' : World} {m : List (Nat × List Value)} (h : MW lo hi W m) (hb : Below W.heap.size W W') : MW lo hi W' m := ⟨h.mem.next hb, h.rng⟩
theorem MB.mw {w w' : World} {m : List (Nat × List Value)} (h : MB w w' m) : MW w.heap.size w'.heap.size w' m := ⟨h.mem, fun p hp => ⟨h.ge p hp, (h.mem.box p hp).lt⟩⟩
theorem MW.one {lo hi g : Nat} {W : World} {cs : List Value} (h : Bo W g cs) (h1 : lo ≤ g) (h2 : g < hi) : MW lo hi W [(g, cs)] :=
  ⟨⟨fun p hp => by obtain rfl := List.mem_singleton.1 hp; exact h, by simp⟩, fun p hp => by obtain rfl := List.mem_singleton.1 hp; exact ⟨h1, h2⟩⟩
theorem Mem.append {W : World} {m1 m2 : List (Nat × List Value)} (h1 : Mem W m1) (h2 : Mem W m2) (hd : ∀ p ∈ m1, ∀ q ∈ m2, p.1 ≠ q.1) : Mem W (m1 ++ m2) :=
  ⟨fun p hp => by
    rcases List.mem_append.1 hp with hp | hp
    · exact h1.box p hp
    · exact h2.box p hp, by
    rw [List.map_append, List.nodup_append]
    refine ⟨h1.nd, h2.nd, fun a ha b hb e => ?_⟩
    obtain ⟨p, hp, rfl⟩ := List.mem_map.1 ha
    obtain ⟨q, hq, rfl⟩ := List.mem_map.1 hb
    exact hd p hp q hq e⟩
theorem MW.ne {a b c d : Nat} {W : World} {m1 m2 : List (Nat × List Value)} (h1 : MW a b W m1) (h2 : MW c d W m2) (h : b ≤ c ∨ d ≤ a) : ∀ p ∈ m1, ∀ q ∈ m2, p.1 ≠ q.1 := fun p hp q hq e => by
  have := h1.rng p hp
  have := h2.rng q hq
  omega
theorem MW.three {a b c d x y : Nat} {w W : World} {m1 m2 m3 : List (Nat × List Value)} (h1 : MW a b W m1) (h2 : MW c d W m2) (h3 : MW x y W m3) (h12 : b ≤ c ∨ d ≤ a) (h13 : b ≤ x ∨ y ≤ a) (h23 : d ≤ x ∨ y ≤ c)
    (hb : Below w.heap.size w W) (ha : w.heap.size ≤ a) (hc : w.heap.size ≤ c) (hx : w.heap.size ≤ x) : MB w W (m1 ++ (m2 ++ m3)) :=
  ⟨hb, h1.mem.append (h2.mem.append h3.mem (h2.ne h3 h23)) (fun p hp q hq => by
    rcases List.mem_append.1 hq with hq | hq
    · exact h1.ne h2 h12 p hp q hq
    · exact h1.ne h3 h13 p hp q hq), fun p hp => by
    rcases List.mem_append.1 hp with hp | hp
    · exact Nat.le_trans ha (h1.rng p hp).1
    · rcases List.mem_append.1 hp with hp | hp
      · exact Nat.le_trans hc (h2.rng p hp).1
      · exact Nat.le_trans hx (h3.rng p hp).1⟩
section
variable {P : Program} {l : List Oper} {Q : Exit → Act → World → Prop}
theorem maker_call {M : List Nat} {d : Nat → Nat} {a0 : Act} {w0 : World} {F : Nat → Value → Nat → Nat → World → Prop} (i : Nat) {o : Oper} (ho : l.toArray[i]? = some o) (hg : o.guard = none) (hdst : o.dst = some (d i)) (k : Nat) (vk : Value) (hk : ∀ j ∈ M, d j ≠ k) (hl : a0.eval (.tmp k) = vk) (f : FuncId)
    (hrun : ∀ (a : Act) (w : World), (execOp a.eval o).run P w = .ok (.enter f #[a.eval (.tmp k)]) w) (hC : ∀ w, Below w0.heap.size w0 w → Calls P f #[vk] w fun e w' => ∃ v, e = .returned v ∧ F i v w.heap.size w'.heap.size w' ∧ Below w.heap.size w w') :
    ∃ o, l.toArray[i]? = some o ∧ ∀ D vs w K', (∀ j ∈ D, j ∈ M) → Below w0.heap.size w0 w →
      (∀ v w', F i v w.heap.size w'.heap.size w' → Below w.heap.size w w' → K' ((putAll d vs D a0).put (some (d i)) v) w') → wpList P l.toArray (onNormal Q K') [o] (putAll d vs D a0) w :=
  ⟨o, ho, fun D vs w K' hD hb hK => by
    refine wpList_plain hg fun K hK2 => ?_
    unfold Oper.wp
    rw [hrun, Oper.upon_enter, (eval_putAll (fun j hj => hk j (hD j hj))).trans hl]
    refine (hC w hb).mono fun e w' ⟨v, e1, h1, h2⟩ => ?_
    subst e1
    refine hK2 _ _ ?_
    rw [hdst]
    exact hK v w' h1 h2⟩
theorem maker_of {M : List Nat} {d : Nat → Nat} {a0 : Act} {w0 : World} {F G : Nat → Value → Nat → Nat → World → Prop} {i : Nat} (hF : ∀ v lo hi w, F i v lo hi w → G i v lo hi w)
    (h : ∃ o, l.toArray[i]? = some o ∧ ∀ D vs w K', (∀ j ∈ D, j ∈ M) → Below w0.heap.size w0 w →
      (∀ v w', F i v w.heap.size w'.heap.size w' → Below w.heap.size w w' → K' ((putAll d vs D a0).put (some (d i)) v) w') → wpList P l.toArray (onNormal Q K') [o] (putAll d vs D a0) w) :
    ∃ o, l.toArray[i]? = some o ∧ ∀ D vs w K', (∀ j ∈ D, j ∈ M) → Below w0.heap.size w0 w →
      (∀ v w', G i v w.heap.size w'.heap.size w' → Below w.heap.size w w' → K' ((putAll d vs D a0).put (some (d i)) v) w') → wpList P l.toArray (onNormal Q K') [o] (putAll d vs D a0) w := by
  obtain ⟨o, ho, h⟩ := h
  exact ⟨o, ho, fun D vs w K' hD hb hK => h D vs w K' hD hb (fun v w' h1 h2 => hK v w' (hF _ _ _ _ h1) h2)⟩
theorem maker_ofX {d : Nat → Nat} {w0 : World} {F G : Nat → Value → Nat → Nat → World → Prop} {i : Nat} (hF : ∀ v lo hi w, F i v lo hi w → G i v lo hi w)
    (h : ∃ o, l.toArray[i]? = some o ∧ ∀ a w K', Below w0.heap.size w0 w →
      (∀ v w', F i v w.heap.size w'.heap.size w' → Below w.heap.size w w' → K' (a.put (some (d i)) v) w') → wpList P l.toArray (onNormal Q K') [o] a w) :
    ∃ o, l.toArray[i]? = some o ∧ ∀ a w K', Below w0.heap.size w0 w →
      (∀ v w', G i v w.heap.size w'.heap.size w' → Below w.heap.size w w' → K' (a.put (some (d i)) v) w') → wpList P l.toArray (onNormal Q K') [o] a w := by
  obtain ⟨o, ho, h⟩ := h
  exact ⟨o, ho, fun a w K' hb hK => h a w K' hb (fun v w' h1 h2 => hK v w' (hF _ _ _ _ h1) h2)⟩
end
/-- a part of a range -/
theorem range_part {w : World} {b o : Nat} {cs : List Value} (k m : Nat) (h : w.rangeAt b o cs) : w.rangeAt b (o + k) ((cs.drop k).take m) := fun j v hj => by
  rw [List.getElem?_take] at hj
  split at hj
  · rw [List.getElem?_drop] at hj
    have := h (k + j) v hj
    rwa [show o + (k + j) = o + k + j by omega] at this
  · cases hj
end Go.Proofs.YtngjakahanmepaaGreatDoor
