/- Part 48 of the proof of TopRights: (*hour).move at the lake, where something is taken and sent. Printed by wip/tools/mkh5.py. (*hour).leave at the place 1 of the lake. Printed by wip/tools/mkh6.py. -/
import Derived.Test.YtngjakahanmepaaGreatDoorM47
import Derived.Test.YtngjakahanmepaaGreatDoorM39
namespace Go.Proofs.YtngjakahanmepaaGreatDoor
open Go.RowKit
set_option linter.unusedVariables false
set_option linter.unusedSimpArgs false
theorem share_half : Pw.ShareP 50 [100, 0] [50, 0] := ⟨rfl, rfl, by decide, fun i j hi hj => (show ∀ i, i < 2 → ∀ j, j < 2 → Pw.gi [50, 0] i = Pw.qq 50 [100, 0] i + 1 → Pw.gi [50, 0] j = Pw.qq 50 [100, 0] j → (Pw.rr 50 [100, 0] j < Pw.rr 50 [100, 0] i ∨ (Pw.rr 50 [100, 0] i = Pw.rr 50 [100, 0] j ∧ i < j)) from by decide) i hi j hj⟩
theorem take_half {T : List Int} (h : Pw.TakeQ [100, 0] 50 T) : T = [50, 0] := by
  rcases h with ⟨_, _, _, h⟩ | ⟨h, _⟩
  · exact Pw.ShareP.unique (show Pw.ShareP 50 [100, 0] T from h) share_half
  · exact absurd ⟨by decide, by decide, ⟨by decide, by decide⟩⟩ h
set_option maxHeartbeats 32000000 in
set_option maxRecDepth 100000 in
theorem hmove_b {ob rm lA tA gA pb po rn hb o a b c r gt i u pk gf pv : Nat} {pvs : List Value} (pc ac bc cc rc gc ic uc : Nat) {qa qc rl ul il pl : List Int} {que mv : Value} {xs : List Value} (w0 w : World) (hm : MBR w0 w 145 5 mv 1 xs  [(gf, [.int .i64 50]), (hb, hc ob pb po pc lA tA gA rm rn o r rc gt gc i ic u uc pk que mv (.slice none 0 0)), (o, [rowV a ac, rowV b bc, rowV c cc]), (a, ints qa), (b, ints [100, 0]), (c, ints qc), (r, ints rl), (gt, gate0), (i, ints il), (u, ints ul), (pk, ints pl), (pv, pvs)]) :
    Calls Tryz.prog 71 #[.pointer (some ⟨hb, 0, none⟩), .int .i64 1, .agg #[.int .i64 2, .int .i64 0, .int .i64 (-1), .func (.func 107) #[] #[.pointer (some ⟨gf, 0, none⟩)]]] w (fun e w' => e = .returned (.tuple #[]) ∧ ∃ x' mv' xs' sn snc lp lpc, MBR w0 w' 145 5 mv' 2 xs'  [(hb, hc ob pb po pc lA tA gA rm rn o r rc gt gc i ic u uc pk que mv' (.slice (some ⟨sn, 0, none⟩) 1 snc)), (o, [rowV a ac, rowV x' 2, rowV c cc]), (a, ints qa), (x', ints [50, 0]), (c, ints qc), (r, ints rl), (gt, gate0), (i, ints il), (u, ints ul), (pk, ints pl), (pv, pvs), (sn, loadV 1 2 lp lpc)]) := by
  obtain ⟨i1, hj0, hj1, hj2, hj3⟩ := info_parts info_move
  have hmx : 1 + 1 ≤ maxLen ∧ (1 + 1) * 56 ≤ 140737488355328 := by unfold maxLen; omega
  have INF := Lib.hid (And.intro hj0 (And.intro hj1 (And.intro hj2 (And.intro hj3 hmx))))
  clear hj0 hj1 hj2 hj3 hmx
  have HM0 := Lib.hid hm
  clear hm
  go_enter Tryz.func71, Tryz.ntmps71
  obtain ⟨eb, heb⟩ : ∃ n, w.heap.size = n := ⟨_, rfl⟩
  go_upto_region 1 with fail
  refine wp_rebase _ (fun V1 hV1 x2 => ?_)
  have HM3 := Lib.hid (show MBR w0 V1 145 5 mv 1 xs  [(eb, [.int .i64 2, .int .i64 0, .int .i64 (-1), .func (.func 107) #[] #[.pointer (some ⟨gf, 0, none⟩)]]), (gf, [.int .i64 50]), (hb, hc ob pb po pc lA tA gA rm rn o r rc gt gc i ic u uc pk que mv (.slice none 0 0)), (o, [rowV a ac, rowV b bc, rowV c cc]), (a, ints qa), (b, ints [100, 0]), (c, ints qc), (r, ints rl), (gt, gate0), (i, ints il), (u, ints ul), (pk, ints pl), (pv, pvs)] by
    rw [hV1]
    exact HM0.out.newAt heb 153 [.int .i64 2, .int .i64 0, .int .i64 (-1), .func (.func 107) #[] #[.pointer (some ⟨gf, 0, none⟩)]])
  clear hV1
  try rw [heb]
  clear HM0
  have b4 := fun z : BelW V1 => (show z.w.cell? ⟨eb, 3, none⟩ = some (.func (.func 107) #[] #[.pointer (some ⟨gf, 0, none⟩)]) from (HM3.out.box 0 rfl z.2).cell 3 rfl)
  have b5 := fun z : BelW V1 => (show z.w.cell? ⟨hb, 17, none⟩ = some (.slice (some ⟨o, 0, none⟩) 3 3) from (HM3.out.box 2 rfl z.2).cell 17 rfl)
  have b6 := fun z : BelW V1 => (show z.w.cell? ⟨o, 1, none⟩ = some (.slice (some ⟨b, 0, none⟩) 2 bc) from (HM3.out.box 3 rfl z.2).cell 1 rfl)
  have HS := Lib.hid (show ∃ z : BelW V1, x2.w.drew = z.w from ⟨⟨_, x2.2.drew⟩, rfl⟩)
  refine wp_region_tl 15 16 (fun w' => ∃ z : BelW V1, w' = z.w) HS.out ?_
  iterate 10 (refine wpK_nx rfl rfl HS.out (Or.inl ⟨by rfl, fun w1 hS => by first | (go_simp <;> with_reducible rfl) | (obtain ⟨z, rfl⟩ := hS; (go_simp <;> with_reducible rfl))⟩) ?_; simp only [Act.put, List.setIfInBounds_toArray, List.set_cons_zero, List.set_cons_succ])
  have HC := Lib.hid (share1_is b bc gf [100, 0] [50, 0] [50, 0] 50 rfl (by kernel_rfl) (fun T' h => take_half h) (by kernel_rfl) x2.w.drew ((HM3.out.box 5 rfl x2.2.drew).rd) (HM3.out.box 1 rfl x2.2.drew))
  refine wpK_ne rfl ?_
  go_wp2_with fail
  refine HC.out.mono ?_
  rintro e w2 ⟨t1, t2, rfl, hD⟩
  have HB := Lib.hid (show ∃ z : BelW V1, w2 = z.w from ⟨⟨w2, below_next x2.2.drew hD.bel⟩, rfl⟩)
  have HM7 := Lib.hid (show MBR w0 w2 145 5 mv 1 xs  [(t2, ints [50, 0]), (t1, ints [50, 0]), (eb, [.int .i64 2, .int .i64 0, .int .i64 (-1), .func (.func 107) #[] #[.pointer (some ⟨gf, 0, none⟩)]]), (gf, [.int .i64 50]), (hb, hc ob pb po pc lA tA gA rm rn o r rc gt gc i ic u uc pk que mv (.slice none 0 0)), (o, [rowV a ac, rowV b bc, rowV c cc]), (a, ints qa), (b, ints [100, 0]), (c, ints qc), (r, ints rl), (gt, gate0), (i, ints il), (u, ints ul), (pk, ints pl), (pv, pvs)] by
    exact (HM3.out.next x2.2.drew).join hD)
  clear hD HC HM3
  go_wp2_with fail
  refine ⟨HB.out, ?_⟩
  iterate 4 (refine wpK_nx rfl rfl HB.out (Or.inl ⟨by rfl, fun w1 hS => by first | (go_simp <;> with_reducible rfl) | (obtain ⟨z, rfl⟩ := hS; (go_simp <;> with_reducible rfl))⟩) ?_; simp only [Act.put, List.setIfInBounds_toArray, List.set_cons_zero, List.set_cons_succ])
  refine wpK_done (by kernel_rfl) ?_
  simp only [List.drop_succ_cons, List.drop_zero]
  clear HB HS b4 b5 b6
  have b8 : w2.cell? ⟨hb, 17, none⟩ = some (.slice (some ⟨o, 0, none⟩) 3 3) := (HM7.out.box 4 rfl (Below.refl _ _)).cell 17 rfl
  go_wp2_with (first | (refine wpList_store_cell rfl 29 _ _ (by with_reducible rfl) o 1 (.slice (some ⟨t2, 0, none⟩) 2 2) (by with_unfolding_all rfl) (by with_unfolding_all rfl) (HM7.out.row.mem.get 5 rfl) (by simp) (by kernel_rfl) rfl ?_))
  intro W3 hW3
  have HM9 := Lib.hid (show MBR w0 W3 145 5 mv 1 xs  [(t2, ints [50, 0]), (t1, ints [50, 0]), (eb, [.int .i64 2, .int .i64 0, .int .i64 (-1), .func (.func 107) #[] #[.pointer (some ⟨gf, 0, none⟩)]]), (gf, [.int .i64 50]), (hb, hc ob pb po pc lA tA gA rm rn o r rc gt gc i ic u uc pk que mv (.slice none 0 0)), (o, [rowV a ac, rowV t2 2, rowV c cc]), (a, ints qa), (b, ints [100, 0]), (c, ints qc), (r, ints rl), (gt, gate0), (i, ints il), (u, ints ul), (pk, ints pl), (pv, pvs)] by
    rw [hW3.out]
    exact HM7.out.put 5 rfl (j := 1) (by simp) (.slice (some ⟨t2, 0, none⟩) 2 2))
  clear hW3 HM7 b8
  go_upto_region 3 with fail
  try simp only [Act.put]
  refine wp_rebase _ (fun V10 hV10 x11 => ?_)
  have HM12 := Lib.hid (show MBR w0 V10 145 5 mv 1 xs  [(t2, ints [50, 0]), (t1, ints [50, 0]), (eb, [.int .i64 2, .int .i64 0, .int .i64 (-1), .func (.func 107) #[] #[.pointer (some ⟨gf, 0, none⟩)]]), (gf, [.int .i64 50]), (hb, hc ob pb po pc lA tA gA rm rn o r rc gt gc i ic u uc pk que mv (.slice none 0 0)), (o, [rowV a ac, rowV t2 2, rowV c cc]), (a, ints qa), (b, ints [100, 0]), (c, ints qc), (r, ints rl), (gt, gate0), (i, ints il), (u, ints ul), (pk, ints pl), (pv, pvs)] by
    rw [hV10]
    exact HM9.out)
  clear hV10
  have CT := Lib.hid (fun z : BelW V10 => bel_of (x := z) (tot_c t1 2 2 [50, 0] 50 rfl (by kernel_rfl) (by kernel_rfl) (by omega) z.w ((HM12.out.box 1 rfl z.2).rd)))
  go_upto_region 4 with (first | (go_at_call 45; (with_reducible refine (CT.out _).mono ?_); rintro e w1 ⟨rfl, z, rfl⟩))
  refine wp_rebase _ (fun V13 hV13 x14 => ?_)
  have HM15 := Lib.hid (show MBR w0 V13 145 5 mv 1 xs  [(t2, ints [50, 0]), (t1, ints [50, 0]), (eb, [.int .i64 2, .int .i64 0, .int .i64 (-1), .func (.func 107) #[] #[.pointer (some ⟨gf, 0, none⟩)]]), (gf, [.int .i64 50]), (hb, hc ob pb po pc lA tA gA rm rn o r rc gt gc i ic u uc pk que mv (.slice none 0 0)), (o, [rowV a ac, rowV t2 2, rowV c cc]), (a, ints qa), (b, ints [100, 0]), (c, ints qc), (r, ints rl), (gt, gate0), (i, ints il), (u, ints ul), (pk, ints pl), (pv, pvs)] by
    rw [hV13]
    exact HM12.out.next z.2)
  clear hV13
  clear CT HM12
  have HS := Lib.hid (show (fun w' : World => w'.cell? ⟨hb, 23, none⟩ = some (mv) ∧ w'.cell? ⟨hb, 16, none⟩ = some (.int .i64 0) ∧ w'.cell? ⟨eb, 0, none⟩ = some (.int .i64 2) ∧ w'.cell? ⟨eb, 2, none⟩ = some (.int .i64 (-1))) x14.w.drew from ⟨(HM15.out.box 4 rfl x14.2.drew).cell 23 rfl, (HM15.out.box 4 rfl x14.2.drew).cell 16 rfl, (HM15.out.box 2 rfl x14.2.drew).cell 0 rfl, (HM15.out.box 2 rfl x14.2.drew).cell 2 rfl⟩)
  refine wp_region_tl 19 22 (fun w' => w'.cell? ⟨hb, 23, none⟩ = some (mv) ∧ w'.cell? ⟨hb, 16, none⟩ = some (.int .i64 0) ∧ w'.cell? ⟨eb, 0, none⟩ = some (.int .i64 2) ∧ w'.cell? ⟨eb, 2, none⟩ = some (.int .i64 (-1))) HS.out ?_
  iterate 17 (refine wpK_nx rfl rfl HS.out (Or.inl ⟨by rfl, fun w1 hS => by first | (go_simp <;> with_reducible rfl) | (obtain ⟨k0, k1, k2, k3⟩ := hS; (go_simp <;> with_reducible rfl))⟩) ?_; simp only [Act.put, List.setIfInBounds_toArray, List.set_cons_zero, List.set_cons_succ])
  obtain ⟨g0, hg0⟩ : ∃ n, x14.w.drew.heap.size = n := ⟨_, rfl⟩
  have HN := Lib.hid (show MBR w0 (x14.w.drew.alloc (.cells ([.int .i64 0, .int .i64 1, .int .i64 2, .int .i64 (-1), .slice (some ⟨t1, 0, none⟩) 2 2] : List Value).toArray 145)) 145 5 mv 1 xs  [(g0, [.int .i64 0, .int .i64 1, .int .i64 2, .int .i64 (-1), .slice (some ⟨t1, 0, none⟩) 2 2]), (t2, ints [50, 0]), (t1, ints [50, 0]), (eb, [.int .i64 2, .int .i64 0, .int .i64 (-1), .func (.func 107) #[] #[.pointer (some ⟨gf, 0, none⟩)]]), (gf, [.int .i64 50]), (hb, hc ob pb po pc lA tA gA rm rn o r rc gt gc i ic u uc pk que mv (.slice none 0 0)), (o, [rowV a ac, rowV t2 2, rowV c cc]), (a, ints qa), (b, ints [100, 0]), (c, ints qc), (r, ints rl), (gt, gate0), (i, ints il), (u, ints ul), (pk, ints pl), (pv, pvs)] from (HM15.out.next x14.2.drew).newAt hg0 145 [.int .i64 0, .int .i64 1, .int .i64 2, .int .i64 (-1), .slice (some ⟨t1, 0, none⟩) 2 2])
  refine wpK_ne rfl ?_
  go_wp2_with (first | (refine Go.Great.wpList_buildSliceTo rfl 57 145 1 _ rfl (g0) hg0 _ rfl (by kernel_rfl) #[.int .i64 0, .int .i64 1, .int .i64 2, .int .i64 (-1), .slice (some ⟨t1, 0, none⟩) 2 2] (by kernel_rfl) ?_))
  refine ⟨⟨(HN.out.box 5 rfl (Below.refl _ _)).cell 23 rfl, (HN.out.box 5 rfl (Below.refl _ _)).cell 16 rfl, (HN.out.box 3 rfl (Below.refl _ _)).cell 0 rfl, (HN.out.box 3 rfl (Below.refl _ _)).cell 2 rfl⟩, ?_⟩
  refine wpK_ne rfl ?_
  refine wpList_append_own_at _ rfl _ _ _ (by rfl) w0.heap.size 145 i1 _ 5 56 Tryz.underlying57 INF.out.1 INF.out.2.1 INF.out.2.2.1 INF.out.2.2.2.1 rfl (by omega) _ 1 xs (by rfl) (HN.out.own (Below.refl _ _)) ⟨g0, 0, none⟩ 1 1 [.int .i64 0, .int .i64 1, .int .i64 2, .int .i64 (-1), .slice (some ⟨t1, 0, none⟩) 2 2] (by rfl) (by rfl) (fun j u hu => by rw [add_row]; exact (HN.out.get 0 rfl).cell j hu) (by intro v hv; simp only [List.mem_cons, List.not_mem_nil, or_false] at hv; rcases hv with rfl | rfl | rfl | rfl | rfl <;> rfl) INF.out.2.2.2.2.1 INF.out.2.2.2.2.2 HN.out.bel.size ?_
  intro v6 W6 hown hgr hnil hat
  have HM16 := Lib.hid (show MBR w0 W6 145 5 v6 (1 + 1) (xs ++ [.int .i64 0, .int .i64 1, .int .i64 2, .int .i64 (-1), .slice (some ⟨t1, 0, none⟩) 2 2])  [(g0, [.int .i64 0, .int .i64 1, .int .i64 2, .int .i64 (-1), .slice (some ⟨t1, 0, none⟩) 2 2]), (t2, ints [50, 0]), (t1, ints [50, 0]), (eb, [.int .i64 2, .int .i64 0, .int .i64 (-1), .func (.func 107) #[] #[.pointer (some ⟨gf, 0, none⟩)]]), (gf, [.int .i64 50]), (hb, hc ob pb po pc lA tA gA rm rn o r rc gt gc i ic u uc pk que mv (.slice none 0 0)), (o, [rowV a ac, rowV t2 2, rowV c cc]), (a, ints qa), (b, ints [100, 0]), (c, ints qc), (r, ints rl), (gt, gate0), (i, ints il), (u, ints ul), (pk, ints pl), (pv, pvs)] by
    exact HN.out.appended hown hgr hat)
  obtain ⟨A6, c6, rfl, -, -⟩ := own_slice hown
  clear hgr hnil hat hown hg0 HN HM15
  try simp only [Act.put, List.setIfInBounds_toArray, List.set_cons_zero, List.set_cons_succ]
  refine ⟨⟨(HM16.out.box 5 rfl (Below.refl _ _)).cell 23 rfl, (HM16.out.box 5 rfl (Below.refl _ _)).cell 16 rfl, (HM16.out.box 3 rfl (Below.refl _ _)).cell 0 rfl, (HM16.out.box 3 rfl (Below.refl _ _)).cell 2 rfl⟩, wpK_done (by kernel_rfl) ?_⟩
  simp only [List.drop_succ_cons, List.drop_zero]
  clear HS
  go_wp2_with (first | (refine wpList_store_cell rfl 57 _ _ (by with_reducible rfl) hb 23 (.slice A6 (1 + 1) c6) (by with_unfolding_all rfl) (by with_unfolding_all rfl) (HM16.out.row.mem.get 5 rfl) (by simp [hc]) (by kernel_rfl) rfl ?_))
  intro W7 hW7
  have HM17 := Lib.hid (show MBR w0 W7 145 5 (.slice A6 (1 + 1) c6) (1 + 1) (xs ++ [.int .i64 0, .int .i64 1, .int .i64 2, .int .i64 (-1), .slice (some ⟨t1, 0, none⟩) 2 2])  [(g0, [.int .i64 0, .int .i64 1, .int .i64 2, .int .i64 (-1), .slice (some ⟨t1, 0, none⟩) 2 2]), (t2, ints [50, 0]), (t1, ints [50, 0]), (eb, [.int .i64 2, .int .i64 0, .int .i64 (-1), .func (.func 107) #[] #[.pointer (some ⟨gf, 0, none⟩)]]), (gf, [.int .i64 50]), (hb, hc ob pb po pc lA tA gA rm rn o r rc gt gc i ic u uc pk que (.slice A6 (1 + 1) c6) (.slice none 0 0)), (o, [rowV a ac, rowV t2 2, rowV c cc]), (a, ints qa), (b, ints [100, 0]), (c, ints qc), (r, ints rl), (gt, gate0), (i, ints il), (u, ints ul), (pk, ints pl), (pv, pvs)] by
    rw [hW7.out]
    exact HM16.out.put 5 rfl (j := 23) (by simp [hc]) (.slice A6 (1 + 1) c6))
  clear hW7 HM16
  go_upto_region 5 with fail
  try simp only [Act.put]
  refine wp_rebase _ (fun V18 hV18 x19 => ?_)
  have HM20 := Lib.hid (show MBR w0 V18 145 5 (.slice A6 (1 + 1) c6) (1 + 1) (xs ++ [.int .i64 0, .int .i64 1, .int .i64 2, .int .i64 (-1), .slice (some ⟨t1, 0, none⟩) 2 2])  [(g0, [.int .i64 0, .int .i64 1, .int .i64 2, .int .i64 (-1), .slice (some ⟨t1, 0, none⟩) 2 2]), (t2, ints [50, 0]), (t1, ints [50, 0]), (eb, [.int .i64 2, .int .i64 0, .int .i64 (-1), .func (.func 107) #[] #[.pointer (some ⟨gf, 0, none⟩)]]), (gf, [.int .i64 50]), (hb, hc ob pb po pc lA tA gA rm rn o r rc gt gc i ic u uc pk que (.slice A6 (1 + 1) c6) (.slice none 0 0)), (o, [rowV a ac, rowV t2 2, rowV c cc]), (a, ints qa), (b, ints [100, 0]), (c, ints qc), (r, ints rl), (gt, gate0), (i, ints il), (u, ints ul), (pk, ints pl), (pv, pvs)] by
    rw [hV18]
    exact HM17.out)
  clear hV18
  have b21 := fun z : BelW V18 => (show z.w.cell? ⟨eb, 0, none⟩ = some (.int .i64 2) from (HM20.out.box 3 rfl z.2).cell 0 rfl)
  go_upto_region 7 with fail
  try simp only [Act.put]
  refine wp_rebase _ (fun V22 hV22 x23 => ?_)
  have HM24 := Lib.hid (show MBR w0 V22 145 5 (.slice A6 (1 + 1) c6) (1 + 1) (xs ++ [.int .i64 0, .int .i64 1, .int .i64 2, .int .i64 (-1), .slice (some ⟨t1, 0, none⟩) 2 2])  [(g0, [.int .i64 0, .int .i64 1, .int .i64 2, .int .i64 (-1), .slice (some ⟨t1, 0, none⟩) 2 2]), (t2, ints [50, 0]), (t1, ints [50, 0]), (eb, [.int .i64 2, .int .i64 0, .int .i64 (-1), .func (.func 107) #[] #[.pointer (some ⟨gf, 0, none⟩)]]), (gf, [.int .i64 50]), (hb, hc ob pb po pc lA tA gA rm rn o r rc gt gc i ic u uc pk que (.slice A6 (1 + 1) c6) (.slice none 0 0)), (o, [rowV a ac, rowV t2 2, rowV c cc]), (a, ints qa), (b, ints [100, 0]), (c, ints qc), (r, ints rl), (gt, gate0), (i, ints il), (u, ints ul), (pk, ints pl), (pv, pvs)] by
    rw [hV22]
    exact HM20.out.next x19.2)
  clear hV22
  clear HM20 b21
  have b25 := fun z : BelW V22 => (show z.w.cell? ⟨hb, 25, none⟩ = some (.slice none 0 0) from (HM24.out.box 5 rfl z.2).cell 25 rfl)
  have b26 := fun z : BelW V22 => (show z.w.cell? ⟨hb, 16, none⟩ = some (.int .i64 0) from (HM24.out.box 5 rfl z.2).cell 16 rfl)
  have b27 := fun z : BelW V22 => (show z.w.cell? ⟨eb, 1, none⟩ = some (.int .i64 0) from (HM24.out.box 3 rfl z.2).cell 1 rfl)
  have b28 := fun z : BelW V22 => (show z.w.cell? ⟨eb, 0, none⟩ = some (.int .i64 2) from (HM24.out.box 3 rfl z.2).cell 0 rfl)
  have HS := Lib.hid (show ∃ z : BelW V22, x23.w.drew = z.w from ⟨⟨_, x23.2.drew⟩, rfl⟩)
  refine wp_region_tl 19 22 (fun w' => ∃ z : BelW V22, w' = z.w) HS.out ?_
  iterate 17 (refine wpK_nx rfl rfl HS.out (Or.inl ⟨by rfl, fun w1 hS => by first | (go_simp <;> with_reducible rfl) | (obtain ⟨z, rfl⟩ := hS; (go_simp <;> with_reducible rfl))⟩) ?_; simp only [Act.put, List.setIfInBounds_toArray, List.set_cons_zero, List.set_cons_succ])
  have HC := Lib.hid (push_is 1 2 t1 2 [50, 0] rfl (by omega) ⟨0, by decide, by decide⟩ x23.w.drew ((HM24.out.box 2 rfl x23.2.drew).rd))
  refine wpK_ne rfl ?_
  go_wp2_with fail
  refine HC.out.mono ?_
  rintro e w8 ⟨lg, lgc, lp, lpc, rfl, hD⟩
  have HB := Lib.hid (show ∃ z : BelW V22, w8 = z.w from ⟨⟨w8, below_next x23.2.drew hD.bel⟩, rfl⟩)
  have HM29 := Lib.hid (show MBR w0 w8 145 5 (.slice A6 (1 + 1) c6) (1 + 1) (xs ++ [.int .i64 0, .int .i64 1, .int .i64 2, .int .i64 (-1), .slice (some ⟨t1, 0, none⟩) 2 2])  [(lg, loadV 1 2 lp lpc), (lp, ints [50, 0]), (g0, [.int .i64 0, .int .i64 1, .int .i64 2, .int .i64 (-1), .slice (some ⟨t1, 0, none⟩) 2 2]), (t2, ints [50, 0]), (t1, ints [50, 0]), (eb, [.int .i64 2, .int .i64 0, .int .i64 (-1), .func (.func 107) #[] #[.pointer (some ⟨gf, 0, none⟩)]]), (gf, [.int .i64 50]), (hb, hc ob pb po pc lA tA gA rm rn o r rc gt gc i ic u uc pk que (.slice A6 (1 + 1) c6) (.slice none 0 0)), (o, [rowV a ac, rowV t2 2, rowV c cc]), (a, ints qa), (b, ints [100, 0]), (c, ints qc), (r, ints rl), (gt, gate0), (i, ints il), (u, ints ul), (pk, ints pl), (pv, pvs)] by
    exact (HM24.out.next x23.2.drew).join hD)
  clear hD HC HM24
  go_wp2_with fail
  refine ⟨HB.out, ?_⟩
  obtain ⟨ild, hi0, hi1, hi2, hi3⟩ := info_parts info_load
  have hml : 0 + 1 ≤ maxLen := by unfold maxLen; omega
  have INL := Lib.hid (And.intro hi0 (And.intro hi1 (And.intro hi2 (And.intro hi3 hml))))
  clear hi0 hi1 hi2 hi3 hml
  refine wpK_ne rfl ?_
  refine wpList_append_own_at _ rfl _ _ _ (by rfl) w8.heap.size 120 ild _ 3 40 Tryz.underlying52 INL.out.1 INL.out.2.1 INL.out.2.2.1 INL.out.2.2.2.1 rfl (by omega) _ 0 [] (by rfl) (World.ownsRow_nil _ _ _ _) ⟨lg, 0, none⟩ 1 lgc (loadV 1 2 lp lpc) (by rfl) (by rfl) (fun j u hu => by rw [add_row]; exact (HM29.out.row.mem.get 0 rfl).cell j hu) load_one INL.out.2.2.2.2 (by omega) (Nat.le_refl _) ?_
  intro v9 W9 hown hgr hnil hat
  obtain ⟨sn, snc, rfl, _, _, hge, _, _⟩ := own_rd2 hown (by omega)
  have hB9 : Below w8.heap.size w8 W9 := below_grown (Below.refl _ _) hgr (fun k hk => by cases hk)
  have HB9 := Lib.hid (show ∃ z : BelW V22, W9 = z.w from by
    obtain ⟨z, e⟩ := HB.out
    rw [e] at hB9
    exact ⟨⟨W9, below_next z.2 hB9⟩, rfl⟩)
  have HM30 := Lib.hid (show MBR w0 W9 145 5 (.slice A6 (1 + 1) c6) (1 + 1) (xs ++ [.int .i64 0, .int .i64 1, .int .i64 2, .int .i64 (-1), .slice (some ⟨t1, 0, none⟩) 2 2])  [(sn, loadV 1 2 lp lpc), (lg, loadV 1 2 lp lpc), (lp, ints [50, 0]), (g0, [.int .i64 0, .int .i64 1, .int .i64 2, .int .i64 (-1), .slice (some ⟨t1, 0, none⟩) 2 2]), (t2, ints [50, 0]), (t1, ints [50, 0]), (eb, [.int .i64 2, .int .i64 0, .int .i64 (-1), .func (.func 107) #[] #[.pointer (some ⟨gf, 0, none⟩)]]), (gf, [.int .i64 50]), (hb, hc ob pb po pc lA tA gA rm rn o r rc gt gc i ic u uc pk que (.slice A6 (1 + 1) c6) (.slice none 0 0)), (o, [rowV a ac, rowV t2 2, rowV c cc]), (a, ints qa), (b, ints [100, 0]), (c, ints qc), (r, ints rl), (gt, gate0), (i, ints il), (u, ints ul), (pk, ints pl), (pv, pvs)] by
    exact HM29.out.add hB9 (Bo.of_own hown) hge)
  clear hgr hnil hat hown hge hB9 HB HM29
  try simp only [Act.put, List.setIfInBounds_toArray, List.set_cons_zero, List.set_cons_succ]
  refine ⟨HB9.out, wpK_done (by kernel_rfl) ?_⟩
  simp only [List.drop_succ_cons, List.drop_zero]
  clear HS HB9 b25 b26 b27 b28
  go_wp2_with (first | (refine wpList_store_cell rfl 52 _ _ (by with_reducible rfl) hb 25 (.slice (some ⟨sn, 0, none⟩) 1 snc) (by with_unfolding_all rfl) (by with_unfolding_all rfl) (HM30.out.row.mem.get 8 rfl) (by simp [hc]) (by kernel_rfl) rfl ?_))
  intro WA hWA
  have HM31 := Lib.hid (show MBR w0 WA 145 5 (.slice A6 (1 + 1) c6) (1 + 1) (xs ++ [.int .i64 0, .int .i64 1, .int .i64 2, .int .i64 (-1), .slice (some ⟨t1, 0, none⟩) 2 2])  [(sn, loadV 1 2 lp lpc), (lg, loadV 1 2 lp lpc), (lp, ints [50, 0]), (g0, [.int .i64 0, .int .i64 1, .int .i64 2, .int .i64 (-1), .slice (some ⟨t1, 0, none⟩) 2 2]), (t2, ints [50, 0]), (t1, ints [50, 0]), (eb, [.int .i64 2, .int .i64 0, .int .i64 (-1), .func (.func 107) #[] #[.pointer (some ⟨gf, 0, none⟩)]]), (gf, [.int .i64 50]), (hb, hc ob pb po pc lA tA gA rm rn o r rc gt gc i ic u uc pk que (.slice A6 (1 + 1) c6) (.slice (some ⟨sn, 0, none⟩) 1 snc)), (o, [rowV a ac, rowV t2 2, rowV c cc]), (a, ints qa), (b, ints [100, 0]), (c, ints qc), (r, ints rl), (gt, gate0), (i, ints il), (u, ints ul), (pk, ints pl), (pv, pvs)] by
    rw [hWA.out]
    exact HM30.out.put 8 rfl (j := 25) (by simp [hc]) (.slice (some ⟨sn, 0, none⟩) 1 snc))
  clear hWA HM30
  go_wp2_with fail
  (try simp only [Exit.inBlock, Exit.then])
  refine bodyPost_end (results_none rfl _ _ _) rfl ?_
  exact ⟨rfl, t2, _, _, sn, snc, lp, lpc, (HM31.out.pick [8, 9, 10, 4, 12, 13, 14, 15, 16, 17, 18, 0] (by decide) rfl)⟩
end Go.Proofs.YtngjakahanmepaaGreatDoor
namespace Go.Proofs.YtngjakahanmepaaGreatDoor
open Go.RowKit
set_option linter.unusedVariables false
set_option linter.unusedSimpArgs false
theorem route_up (a0 a1 a2 a3 a4 a5 a8 a9 a10 a11 : Value) (w : World) : Calls Tryz.prog 72 #[.agg #[a0, a1, a2, a3, a4, a5, .int .i64 1, .int .i64 2, a8, a9, a10, a11], .int .i64 100, .int .i64 0] w fun e w' => e = .returned (.tuple #[.int .i64 50, .int .i64 0]) ∧ Below w.heap.size w w' := by
  have h := route_any a0 a1 a2 a3 a4 a5 a8 a9 a10 a11 1 2 100 0 w
  rw [show routeF 1 2 100 0 = (50, 0) from by decide] at h
  exact h
theorem route_low (a0 a1 a2 a3 a4 a5 a8 a9 a10 a11 : Value) (w : World) : Calls Tryz.prog 72 #[.agg #[a0, a1, a2, a3, a4, a5, .int .i64 1, .int .i64 2, a8, a9, a10, a11], .int .i64 0, .int .i64 0] w fun e w' => e = .returned (.tuple #[.int .i64 0, .int .i64 0]) ∧ Below w.heap.size w w' := by
  have h := route_any a0 a1 a2 a3 a4 a5 a8 a9 a10 a11 1 2 0 0 w
  rw [show routeF 1 2 0 0 = (0, 0) from by decide] at h
  exact h
set_option maxHeartbeats 32000000 in
set_option maxRecDepth 100000 in
theorem hleave_1 {lv rt ob rm s0 r0 s1 r1 s2 lA tA gA pb po rn hb o a b c r gt i u pk : Nat} (pc ac bc cc rc gc ic uc : Nat) {qa qc il ul : List Int} {que mv : Value} {xs : List Value} (w0 w : World) (hL : LakeR w0 lv rt ob rm s0 r0 s1 r1 s2 lA tA gA (some ⟨pb, po, none⟩)) (hm : MBR w0 w 145 5 mv 1 xs  [(hb, hc ob pb po pc lA tA gA rm rn o r rc gt gc i ic u uc pk que mv (.slice none 0 0)), (o, [rowV a ac, rowV b bc, rowV c cc]), (a, ints qa), (b, ints [100, 0]), (c, ints qc), (r, ints [0, 0, 0]), (gt, gate0), (i, ints il), (u, ints ul), (pk, ints [950, 100, 0])]) :
    Calls Tryz.prog 34 #[.pointer (some ⟨hb, 0, none⟩), .int .i64 1] w (fun e w' => e = .returned (.tuple #[]) ∧ ∃ x' mv' xs' sn snc lp lpc, MBR w0 w' 145 5 mv' 2 xs'  [(hb, hc ob pb po pc lA tA gA rm rn o r rc gt gc i ic u uc pk que mv' (.slice (some ⟨sn, 0, none⟩) 1 snc)), (o, [rowV a ac, rowV x' 2, rowV c cc]), (a, ints qa), (x', ints [50, 0]), (c, ints qc), (r, ints [0, 0, 0]), (gt, gate0), (i, ints il), (u, ints ul), (pk, ints [950, 100, 0]), (sn, loadV 1 2 lp lpc)]) := by
  have HL := Lib.hid hL
  have HM0 := Lib.hid hm
  obtain ⟨pb', po', e, -, HP0, HP1, HP2⟩ := lake_pl hL
  cases e
  have HP := Lib.hid HP1
  clear hL hm HP0 HP1 HP2
  go_enter Tryz.func34, Tryz.ntmps34
  go_upto_region 0 with fail
  refine wp_rebase _ (fun V1 hV1 x2 => ?_)
  have HM3 := Lib.hid (show MBR w0 V1 145 5 mv 1 xs  [(hb, hc ob pb po pc lA tA gA rm rn o r rc gt gc i ic u uc pk que mv (.slice none 0 0)), (o, [rowV a ac, rowV b bc, rowV c cc]), (a, ints qa), (b, ints [100, 0]), (c, ints qc), (r, ints [0, 0, 0]), (gt, gate0), (i, ints il), (u, ints ul), (pk, ints [950, 100, 0])] by
    rw [hV1]
    exact HM0.out)
  clear hV1
  clear HM0
  have b4 := fun z : BelW V1 => (show z.w.cell? ⟨hb, 3, none⟩ = some (.slice (some ⟨pb, po, none⟩) 3 pc) from (HM3.out.box 0 rfl z.2).cell 3 rfl)
  have HPk := Lib.hid (show ∀ z : BelW V1, z.w.rangeAt pb (po + 12) [.string upperN, .int .i64 0, .int .i64 1, .int .i64 1000, .slice (bk lv) 2 2, .slice (bk s1) 2 2, .int .i64 1, .int .i64 2, .int .i64 2, .int .i64 0, .int .i64 0, .slice (bk r1) 1 1] from fun z => range_bel HP.out ⟨z.w, below_next HM3.out.bel z.2⟩)
  obtain ⟨pv, hpv⟩ : ∃ n, x2.w.heap.size = n := ⟨_, rfl⟩
  go_upto_region 1 with (first | (with_reducible refine wpList_load_g 90 _ (by with_reducible rfl) pb (po + 12) (by with_unfolding_all rfl) (by with_unfolding_all rfl) _ _ (HPk.out _) Tryz.underlying90 (by with_unfolding_all rfl) (by kernel_rfl) ?_) | (with_reducible refine wpList_store_new (z := [.string ⟨#[]⟩, .int .i64 0, .int .i64 0, .int .i64 0, .slice none 0 0, .slice none 0 0, .int .i64 0, .int .i64 0, .int .i64 0, .int .i64 0, .int .i64 0, .slice none 0 0]) (cs := [.string upperN, .int .i64 0, .int .i64 1, .int .i64 1000, .slice (bk lv) 2 2, .slice (bk s1) 2 2, .int .i64 1, .int .i64 2, .int .i64 2, .int .i64 0, .int .i64 0, .slice (bk r1) 1 1]) 90 _ _ (by with_reducible rfl) (by with_unfolding_all rfl) pv (by exact hpv.symm) _ (by with_unfolding_all rfl) (by with_unfolding_all rfl) (by with_unfolding_all rfl) (by kernel_rfl) (by with_unfolding_all rfl) ?_))
  try simp only [Act.put]
  refine wp_rebase _ (fun V5 hV5 x6 => ?_)
  have HM7 := Lib.hid (show MBR w0 V5 145 5 mv 1 xs  [(pv, [.string upperN, .int .i64 0, .int .i64 1, .int .i64 1000, .slice (bk lv) 2 2, .slice (bk s1) 2 2, .int .i64 1, .int .i64 2, .int .i64 2, .int .i64 0, .int .i64 0, .slice (bk r1) 1 1]), (hb, hc ob pb po pc lA tA gA rm rn o r rc gt gc i ic u uc pk que mv (.slice none 0 0)), (o, [rowV a ac, rowV b bc, rowV c cc]), (a, ints qa), (b, ints [100, 0]), (c, ints qc), (r, ints [0, 0, 0]), (gt, gate0), (i, ints il), (u, ints ul), (pk, ints [950, 100, 0])] by
    rw [hV5]
    exact (HM3.out.next x2.2).newAt hpv 90 [.string upperN, .int .i64 0, .int .i64 1, .int .i64 1000, .slice (bk lv) 2 2, .slice (bk s1) 2 2, .int .i64 1, .int .i64 2, .int .i64 2, .int .i64 0, .int .i64 0, .slice (bk r1) 1 1])
  clear hV5
  clear HPk hpv HP HM3 b4
  have CT := Lib.hid (fun z : BelW V5 => htakes_is hb 1 z.w ((HM7.out.box 1 rfl z.2).cell 14 rfl))
  have CF := Lib.hid (fun z : BelW V5 => hflows_up pc ac bc cc rc gc ic uc w0 z.w HL.out ((HM7.out.next z.2).sub (by repeat (first | exact List.Sublist.refl _ | apply List.Sublist.cons_cons | apply List.Sublist.cons))))
  go_wp2_with (first | (go_at_call 69; (with_reducible refine (CT.out _).mono ?_); rintro e w1 ⟨rfl, rfl⟩))
  refine (CF.out _).mono ?_
  rintro e w1 ⟨rfl, hF⟩
  have HM8 := Lib.hid (show MBR w0 w1 145 5 mv 1 xs  [(pv, [.string upperN, .int .i64 0, .int .i64 1, .int .i64 1000, .slice (bk lv) 2 2, .slice (bk s1) 2 2, .int .i64 1, .int .i64 2, .int .i64 2, .int .i64 0, .int .i64 0, .slice (bk r1) 1 1]), (hb, hc ob pb po pc lA tA gA rm rn o r rc gt gc i ic u uc pk que mv (.slice none 0 0)), (o, [rowV a ac, rowV b bc, rowV c cc]), (a, ints qa), (b, ints [100, 0]), (c, ints qc), (r, ints [0, 0, 0]), (gt, gate0), (i, ints il), (u, ints ul), (pk, ints [950, 100, 0])] by
    exact (HM7.out.next x6.2).next hF)
  clear CT CF hF HM7
  obtain ⟨q0, hq0⟩ : ∃ n, w1.heap.size = n := ⟨_, rfl⟩
  have HM9 := Lib.hid (show MBR w0 (w1.alloc (.cells ([.slice none 0 0, .slice none 0 0] : List Value).toArray 149)) 145 5 mv 1 xs  [(q0, [.slice none 0 0, .slice none 0 0]), (pv, [.string upperN, .int .i64 0, .int .i64 1, .int .i64 1000, .slice (bk lv) 2 2, .slice (bk s1) 2 2, .int .i64 1, .int .i64 2, .int .i64 2, .int .i64 0, .int .i64 0, .slice (bk r1) 1 1]), (hb, hc ob pb po pc lA tA gA rm rn o r rc gt gc i ic u uc pk que mv (.slice none 0 0)), (o, [rowV a ac, rowV b bc, rowV c cc]), (a, ints qa), (b, ints [100, 0]), (c, ints qc), (r, ints [0, 0, 0]), (gt, gate0), (i, ints il), (u, ints ul), (pk, ints [950, 100, 0])] by
    exact HM8.out.newAt hq0 149 [.slice none 0 0, .slice none 0 0])
  have CC := Lib.hid (concat_none q0 2 (w1.alloc (.cells ([.slice none 0 0, .slice none 0 0] : List Value).toArray 149)) (HM9.out.row.mem.get 0 rfl).rd)
  go_wp2_with (first | (refine Go.Great.wpList_buildSliceTo rfl 188 149 2 _ rfl (q0) hq0 _ rfl (by kernel_rfl) #[.slice none 0 0, .slice none 0 0] (by kernel_rfl) ?_))
  refine CC.out.mono ?_
  rintro e w2 ⟨⟨A3, c3, rfl, hC⟩⟩
  have HM10 := Lib.hid (show MBR w0 w2 145 5 mv 1 xs  [(q0, [.slice none 0 0, .slice none 0 0]), (pv, [.string upperN, .int .i64 0, .int .i64 1, .int .i64 1000, .slice (bk lv) 2 2, .slice (bk s1) 2 2, .int .i64 1, .int .i64 2, .int .i64 2, .int .i64 0, .int .i64 0, .slice (bk r1) 1 1]), (hb, hc ob pb po pc lA tA gA rm rn o r rc gt gc i ic u uc pk que mv (.slice none 0 0)), (o, [rowV a ac, rowV b bc, rowV c cc]), (a, ints qa), (b, ints [100, 0]), (c, ints qc), (r, ints [0, 0, 0]), (gt, gate0), (i, ints il), (u, ints ul), (pk, ints [950, 100, 0])] by
    exact HM9.out.next hC)
  clear CC hC hq0 HM8 HM9
  go_wp2_with fail
  refine wp_loop_rounds 1 ?_
  rw [rounds_succ]
  go_upto_region 6 with fail
  try simp only [Act.put]
  refine wp_rebase _ (fun V11 hV11 x12 => ?_)
  have HM13 := Lib.hid (show MBR w0 V11 145 5 mv 1 xs  [(q0, [.slice none 0 0, .slice none 0 0]), (pv, [.string upperN, .int .i64 0, .int .i64 1, .int .i64 1000, .slice (bk lv) 2 2, .slice (bk s1) 2 2, .int .i64 1, .int .i64 2, .int .i64 2, .int .i64 0, .int .i64 0, .slice (bk r1) 1 1]), (hb, hc ob pb po pc lA tA gA rm rn o r rc gt gc i ic u uc pk que mv (.slice none 0 0)), (o, [rowV a ac, rowV b bc, rowV c cc]), (a, ints qa), (b, ints [100, 0]), (c, ints qc), (r, ints [0, 0, 0]), (gt, gate0), (i, ints il), (u, ints ul), (pk, ints [950, 100, 0])] by
    rw [hV11]
    exact HM10.out)
  clear hV11
  have b14 := fun z : BelW V11 => (show z.w.cell? ⟨pv, 7, none⟩ = some (.int .i64 2) from (HM13.out.box 1 rfl z.2).cell 7 rfl)
  go_upto_region 7 with fail
  try simp only [Act.put]
  refine wp_rebase _ (fun V15 hV15 x16 => ?_)
  have HM17 := Lib.hid (show MBR w0 V15 145 5 mv 1 xs  [(q0, [.slice none 0 0, .slice none 0 0]), (pv, [.string upperN, .int .i64 0, .int .i64 1, .int .i64 1000, .slice (bk lv) 2 2, .slice (bk s1) 2 2, .int .i64 1, .int .i64 2, .int .i64 2, .int .i64 0, .int .i64 0, .slice (bk r1) 1 1]), (hb, hc ob pb po pc lA tA gA rm rn o r rc gt gc i ic u uc pk que mv (.slice none 0 0)), (o, [rowV a ac, rowV b bc, rowV c cc]), (a, ints qa), (b, ints [100, 0]), (c, ints qc), (r, ints [0, 0, 0]), (gt, gate0), (i, ints il), (u, ints ul), (pk, ints [950, 100, 0])] by
    rw [hV15]
    exact HM13.out.next x12.2)
  clear hV15
  clear HM13 b14
  have b18 := fun z : BelW V15 => (show z.w.cell? ⟨hb, 24, none⟩ = some (.slice (some ⟨pk, 0, none⟩) 3 3) from (HM17.out.box 2 rfl z.2).cell 24 rfl)
  have b19 := fun z : BelW V15 => (show z.w.cell? ⟨hb, 18, none⟩ = some (.slice (some ⟨r, 0, none⟩) 3 rc) from (HM17.out.box 2 rfl z.2).cell 18 rfl)
  have b20 := fun z : BelW V15 => (show z.w.cell? ⟨pk, 1, none⟩ = some (.int .i64 100) from (HM17.out.box 11 rfl z.2).cell 1 rfl)
  have b21 := fun z : BelW V15 => (show z.w.cell? ⟨r, 1, none⟩ = some (.int .i64 0) from (HM17.out.box 7 rfl z.2).cell 1 rfl)
  have HPB := Lib.hid (HM17.out.row.mem.get 1 rfl).rng
  have CR := Lib.hid (fun z : BelW V15 => bel_of (x := z) (route_up (.string upperN) (.int .i64 0) (.int .i64 1) (.int .i64 1000) (.slice (bk lv) 2 2) (.slice (bk s1) 2 2) (.int .i64 2) (.int .i64 0) (.int .i64 0) (.slice (bk r1) 1 1) z.w))
  refine wp_region_belt 21 (by kernel_rfl) (by kernel_rfl) ?_
  simp only [List.take_succ_cons, List.take_zero, List.drop_succ_cons, List.drop_zero]
  repeat (first
    | (with_reducible refine wpQuiet_load_g 90 _ (by with_reducible rfl) _ _ (by with_unfolding_all rfl) (by with_unfolding_all rfl) _ _ (rangeX HPB.out) Tryz.underlying90 (by with_unfolding_all rfl) (by kernel_rfl) ?_; simp only [Act.put, List.setIfInBounds_toArray, List.set_cons_succ, List.set_cons_zero])
    | go_big_quiet_step ((first | (go_at_call 72; with_reducible exact CR.out _))))
  refine wpQuiet_nil ?_
  intro y
  try simp only [List.drop_succ_cons, List.drop_zero]
  go_wp2_with (first | (refine wpList_store_cell rfl 3 _ _ (by with_reducible rfl) r 1 (.int .i64 0) (by with_unfolding_all rfl) (by with_unfolding_all rfl) ((HM17.out.next y.2).get 7 rfl) (by simp [ints]) (by kernel_rfl) rfl ?_))
  intro W5 hW5
  have HM22 := Lib.hid (show MBR w0 W5 145 5 mv 1 xs  [(q0, [.slice none 0 0, .slice none 0 0]), (pv, [.string upperN, .int .i64 0, .int .i64 1, .int .i64 1000, .slice (bk lv) 2 2, .slice (bk s1) 2 2, .int .i64 1, .int .i64 2, .int .i64 2, .int .i64 0, .int .i64 0, .slice (bk r1) 1 1]), (hb, hc ob pb po pc lA tA gA rm rn o r rc gt gc i ic u uc pk que mv (.slice none 0 0)), (o, [rowV a ac, rowV b bc, rowV c cc]), (a, ints qa), (b, ints [100, 0]), (c, ints qc), (r, ints [0, 0, 0]), (gt, gate0), (i, ints il), (u, ints ul), (pk, ints [950, 100, 0])] by
    rw [hW5.out]
    exact (HM17.out.next y.2).put 7 rfl (j := 1) (by simp [ints]) (.int .i64 0))
  clear hW5 HM17
  clear CR HPB b18 b19 b20 b21
  go_upto_region 9 with fail
  try simp only [Act.put]
  refine wp_rebase _ (fun V23 hV23 x24 => ?_)
  have HM25 := Lib.hid (show MBR w0 V23 145 5 mv 1 xs  [(q0, [.slice none 0 0, .slice none 0 0]), (pv, [.string upperN, .int .i64 0, .int .i64 1, .int .i64 1000, .slice (bk lv) 2 2, .slice (bk s1) 2 2, .int .i64 1, .int .i64 2, .int .i64 2, .int .i64 0, .int .i64 0, .slice (bk r1) 1 1]), (hb, hc ob pb po pc lA tA gA rm rn o r rc gt gc i ic u uc pk que mv (.slice none 0 0)), (o, [rowV a ac, rowV b bc, rowV c cc]), (a, ints qa), (b, ints [100, 0]), (c, ints qc), (r, ints [0, 0, 0]), (gt, gate0), (i, ints il), (u, ints ul), (pk, ints [950, 100, 0])] by
    rw [hV23]
    exact HM22.out)
  clear hV23
  have b26 := fun z : BelW V23 => (show z.w.cell? ⟨hb, 17, none⟩ = some (.slice (some ⟨o, 0, none⟩) 3 3) from (HM25.out.box 2 rfl z.2).cell 17 rfl)
  have b27 := fun z : BelW V23 => (show z.w.cell? ⟨o, 1, none⟩ = some (.slice (some ⟨b, 0, none⟩) 2 bc) from (HM25.out.box 3 rfl z.2).cell 1 rfl)
  have CT := Lib.hid (fun z : BelW V23 => bel_of (x := z) (tot_c b bc 2 [100, 0] 100 rfl (by kernel_rfl) (by kernel_rfl) (by omega) z.w ((HM25.out.box 5 rfl z.2).rd)))
  go_upto_region 10 with (first | (go_at_call 45; (with_reducible refine (CT.out _).mono ?_); rintro e w1 ⟨rfl, z, rfl⟩))
  try simp only [Act.put]
  refine wp_rebase _ (fun V28 hV28 x29 => ?_)
  have HM30 := Lib.hid (show MBR w0 V28 145 5 mv 1 xs  [(q0, [.slice none 0 0, .slice none 0 0]), (pv, [.string upperN, .int .i64 0, .int .i64 1, .int .i64 1000, .slice (bk lv) 2 2, .slice (bk s1) 2 2, .int .i64 1, .int .i64 2, .int .i64 2, .int .i64 0, .int .i64 0, .slice (bk r1) 1 1]), (hb, hc ob pb po pc lA tA gA rm rn o r rc gt gc i ic u uc pk que mv (.slice none 0 0)), (o, [rowV a ac, rowV b bc, rowV c cc]), (a, ints qa), (b, ints [100, 0]), (c, ints qc), (r, ints [0, 0, 0]), (gt, gate0), (i, ints il), (u, ints ul), (pk, ints [950, 100, 0])] by
    rw [hV28]
    exact HM25.out.next z.2)
  clear hV28
  clear CT HM25 b26 b27
  have b31 := fun z : BelW V28 => (show z.w.cell? ⟨hb, 18, none⟩ = some (.slice (some ⟨r, 0, none⟩) 3 rc) from (HM30.out.box 2 rfl z.2).cell 18 rfl)
  go_wp2_with (first | (refine wpList_store_cell rfl 3 _ _ (by with_reducible rfl) r 1 (.int .i64 0) (by with_unfolding_all rfl) (by with_unfolding_all rfl) ((HM30.out.next x29.2).get 7 rfl) (by simp [ints]) (by kernel_rfl) rfl ?_))
  intro W6 hW6
  have HM32 := Lib.hid (show MBR w0 W6 145 5 mv 1 xs  [(q0, [.slice none 0 0, .slice none 0 0]), (pv, [.string upperN, .int .i64 0, .int .i64 1, .int .i64 1000, .slice (bk lv) 2 2, .slice (bk s1) 2 2, .int .i64 1, .int .i64 2, .int .i64 2, .int .i64 0, .int .i64 0, .slice (bk r1) 1 1]), (hb, hc ob pb po pc lA tA gA rm rn o r rc gt gc i ic u uc pk que mv (.slice none 0 0)), (o, [rowV a ac, rowV b bc, rowV c cc]), (a, ints qa), (b, ints [100, 0]), (c, ints qc), (r, ints [0, 0, 0]), (gt, gate0), (i, ints il), (u, ints ul), (pk, ints [950, 100, 0])] by
    rw [hW6.out]
    exact (HM30.out.next x29.2).put 7 rfl (j := 1) (by simp [ints]) (.int .i64 0))
  clear hW6 HM30
  clear b31
  go_upto_region 11 with fail
  try simp only [Act.put]
  refine wp_rebase _ (fun V33 hV33 x34 => ?_)
  have HM35 := Lib.hid (show MBR w0 V33 145 5 mv 1 xs  [(q0, [.slice none 0 0, .slice none 0 0]), (pv, [.string upperN, .int .i64 0, .int .i64 1, .int .i64 1000, .slice (bk lv) 2 2, .slice (bk s1) 2 2, .int .i64 1, .int .i64 2, .int .i64 2, .int .i64 0, .int .i64 0, .slice (bk r1) 1 1]), (hb, hc ob pb po pc lA tA gA rm rn o r rc gt gc i ic u uc pk que mv (.slice none 0 0)), (o, [rowV a ac, rowV b bc, rowV c cc]), (a, ints qa), (b, ints [100, 0]), (c, ints qc), (r, ints [0, 0, 0]), (gt, gate0), (i, ints il), (u, ints ul), (pk, ints [950, 100, 0])] by
    rw [hV33]
    exact HM32.out)
  clear hV33
  have b36 := fun z : BelW V33 => (show z.w.cell? ⟨pv, 8, none⟩ = some (.int .i64 2) from (HM35.out.box 1 rfl z.2).cell 8 rfl)
  have b37 := fun z : BelW V33 => (show z.w.cell? ⟨pv, 9, none⟩ = some (.int .i64 0) from (HM35.out.box 1 rfl z.2).cell 9 rfl)
  have HS := Lib.hid (show ∃ z : BelW V33, x34.w.drew = z.w from ⟨⟨_, x34.2.drew⟩, rfl⟩)
  refine wp_region_tl 9 10 (fun w' => ∃ z : BelW V33, w' = z.w) HS.out ?_
  iterate 7 (refine wpK_nx rfl rfl HS.out (Or.inl ⟨by rfl, fun w1 hS => by first | (go_simp <;> with_reducible rfl) | (obtain ⟨z, rfl⟩ := hS; (go_simp <;> with_reducible rfl))⟩) ?_; simp only [Act.put, List.setIfInBounds_toArray, List.set_cons_zero, List.set_cons_succ])
  have HC := Lib.hid (share_is 50 x34.w.drew)
  refine wpK_ne rfl ?_
  go_wp2_with fail
  refine HC.out.mono ?_
  rintro e w7 ⟨gf, rfl, hS⟩
  have HB := Lib.hid (show ∃ z : BelW V33, w7 = z.w from ⟨⟨w7, below_next x34.2.drew hS.bel⟩, rfl⟩)
  have HM38 := Lib.hid (show MBR w0 w7 145 5 mv 1 xs  [(gf, [.int .i64 50]), (q0, [.slice none 0 0, .slice none 0 0]), (pv, [.string upperN, .int .i64 0, .int .i64 1, .int .i64 1000, .slice (bk lv) 2 2, .slice (bk s1) 2 2, .int .i64 1, .int .i64 2, .int .i64 2, .int .i64 0, .int .i64 0, .slice (bk r1) 1 1]), (hb, hc ob pb po pc lA tA gA rm rn o r rc gt gc i ic u uc pk que mv (.slice none 0 0)), (o, [rowV a ac, rowV b bc, rowV c cc]), (a, ints qa), (b, ints [100, 0]), (c, ints qc), (r, ints [0, 0, 0]), (gt, gate0), (i, ints il), (u, ints ul), (pk, ints [950, 100, 0])] by
    exact (HM35.out.next x34.2.drew).join hS)
  clear hS HC HM35
  go_wp2_with fail
  refine ⟨HB.out, ?_⟩
  refine wpK_nx rfl rfl HB.out (Or.inl ⟨by rfl, fun w1 hS => by first | (go_simp <;> with_reducible rfl) | (obtain ⟨z, rfl⟩ := hS; (go_simp <;> with_reducible rfl))⟩) ?_; simp only [Act.put, List.setIfInBounds_toArray, List.set_cons_zero, List.set_cons_succ]
  refine wpK_done (by kernel_rfl) ?_
  simp only [List.drop_succ_cons, List.drop_zero]
  clear HB HS b36 b37
  have CM := Lib.hid (hmove_b pc ac bc cc rc gc ic uc w0 w7 (HM38.out.pick [0, 3, 4, 5, 6, 7, 8, 9, 10, 11, 12, 2] (by decide) rfl))
  go_wp2_with fail
  refine CM.out.mono ?_
  rintro e w8 ⟨rfl, x', mv', xs', sn, snc, lp, lpc, hM⟩
  have HM39 := Lib.hid (show MBR w0 w8 145 5 mv' 2 xs'  [(hb, hc ob pb po pc lA tA gA rm rn o r rc gt gc i ic u uc pk que mv' (.slice (some ⟨sn, 0, none⟩) 1 snc)), (o, [rowV a ac, rowV x' 2, rowV c cc]), (a, ints qa), (x', ints [50, 0]), (c, ints qc), (r, ints [0, 0, 0]), (gt, gate0), (i, ints il), (u, ints ul), (pk, ints [950, 100, 0]), (pv, [.string upperN, .int .i64 0, .int .i64 1, .int .i64 1000, .slice (bk lv) 2 2, .slice (bk s1) 2 2, .int .i64 1, .int .i64 2, .int .i64 2, .int .i64 0, .int .i64 0, .slice (bk r1) 1 1]), (sn, loadV 1 2 lp lpc)] by
    exact hM)
  clear hM CM HM38
  go_upto_region 12 with fail
  try simp only [Act.put]
  refine wp_rebase _ (fun V40 hV40 x41 => ?_)
  have HM42 := Lib.hid (show MBR w0 V40 145 5 mv' 2 xs'  [(hb, hc ob pb po pc lA tA gA rm rn o r rc gt gc i ic u uc pk que mv' (.slice (some ⟨sn, 0, none⟩) 1 snc)), (o, [rowV a ac, rowV x' 2, rowV c cc]), (a, ints qa), (x', ints [50, 0]), (c, ints qc), (r, ints [0, 0, 0]), (gt, gate0), (i, ints il), (u, ints ul), (pk, ints [950, 100, 0]), (pv, [.string upperN, .int .i64 0, .int .i64 1, .int .i64 1000, .slice (bk lv) 2 2, .slice (bk s1) 2 2, .int .i64 1, .int .i64 2, .int .i64 2, .int .i64 0, .int .i64 0, .slice (bk r1) 1 1]), (sn, loadV 1 2 lp lpc)] by
    rw [hV40]
    exact HM39.out)
  clear hV40
  have b43 := fun z : BelW V40 => (show z.w.cell? ⟨hb, 17, none⟩ = some (.slice (some ⟨o, 0, none⟩) 3 3) from (HM42.out.box 0 rfl z.2).cell 17 rfl)
  have b44 := fun z : BelW V40 => (show z.w.cell? ⟨o, 1, none⟩ = some (.slice (some ⟨x', 0, none⟩) 2 2) from (HM42.out.box 1 rfl z.2).cell 1 rfl)
  have b45 := fun z : BelW V40 => (show z.w.cell? ⟨pv, 3, none⟩ = some (.int .i64 1000) from (HM42.out.box 10 rfl z.2).cell 3 rfl)
  have CT := Lib.hid (fun z : BelW V40 => bel_of (x := z) (tot_c x' 2 2 [50, 0] 50 rfl (by kernel_rfl) (by kernel_rfl) (by omega) z.w ((HM42.out.box 3 rfl z.2).rd)))
  refine wp_region_belt 12 (by kernel_rfl) (by kernel_rfl) ?_
  simp only [List.take_succ_cons, List.take_zero, List.drop_succ_cons, List.drop_zero]
  repeat (go_big_quiet_step ((first | (go_at_call 45; with_reducible exact CT.out _))))
  refine wpQuiet_nil ?_
  intro y
  try simp only [List.drop_succ_cons, List.drop_zero]
  go_wp2_with fail
  (try simp only [Exit.inBlock, Exit.then])
  refine bodyPost_end (results_none rfl _ _ _) rfl ?_
  exact ⟨rfl, x', mv', xs', sn, snc, lp, lpc, ((HM42.out.next y.2).pick [0, 1, 2, 3, 4, 5, 6, 7, 8, 9, 11] (by decide) rfl)⟩
end Go.Proofs.YtngjakahanmepaaGreatDoor
