/- Part 50 of the proof of TopRights: step.Step at the lake. Printed by wip/tools/mkstep.py. A row that is shut is a box; the operation i is taken. No walk. -/
import Derived.Test.YtngjakahanmepaaGreatDoorM49
namespace Go.Proofs.YtngjakahanmepaaGreatDoor
open Go.RowKit
set_option linter.unusedVariables false
set_option linter.unusedSimpArgs false
def hourZ : List Value := [.string ⟨#[]⟩, .slice none 0 0, .int .i64 0, .slice none 0 0, .slice none 0 0, .slice none 0 0, .slice none 0 0, .slice none 0 0, .slice none 0 0, .slice none 0 0, .int .i64 0, .slice none 0 0, .slice none 0 0, .slice none 0 0, .slice none 0 0, .slice none 0 0, .int .i64 0, .slice none 0 0, .slice none 0 0, .slice none 0 0, .slice none 0 0, .slice none 0 0, .slice none 0 0, .slice none 0 0, .slice none 0 0, .slice none 0 0]
def stpF : Nat → Value → Nat → Nat → World → Prop
  | 3, v, lo, hi, W => ∃ o r rc gt gc i ic u uc a ac b bc c cc, v = .agg #[.int .i64 0, .slice (some ⟨o, 0, none⟩) 3 3, .slice (some ⟨r, 0, none⟩) 3 rc, .slice none 0 0, .slice (some ⟨gt, 0, none⟩) 1 gc, .slice (some ⟨i, 0, none⟩) 2 ic, .slice (some ⟨u, 0, none⟩) 2 uc] ∧ MW lo hi W [(u, ints [0, 0]), (i, ints [0, 0]), (gt, gate0), (r, ints [0, 0, 0]), (c, ints [0, 0]), (b, ints [100, 0]), (a, ints [600, 300]), (o, [rowV a ac, rowV b bc, rowV c cc])]
  | 7, v, lo, hi, W => ∃ g, v = .slice (some ⟨g, 0, none⟩) 3 3 ∧ MW lo hi W [(g, ints [0, 0, 0])]
  | 9, v, lo, hi, W => ∃ g, v = .pointer (some ⟨g, 0, none⟩) ∧ MW lo hi W [(g, hourZ)]
  | _, _, _, _, _ => False
theorem stpF_next (i : Nat) (v : Value) (lo hi : Nat) (w w' : World) (h : stpF i v lo hi w) (hb : Below w.heap.size w w') : stpF i v lo hi w' := by
  unfold stpF at h ⊢
  split at h
  · obtain ⟨o, r, rc, gt, gc, i, ic, u, uc, a, ac, b, bc, c, cc, e, h⟩ := h
    exact ⟨o, r, rc, gt, gc, i, ic, u, uc, a, ac, b, bc, c, cc, e, h.next hb⟩
  · obtain ⟨g, e, h⟩ := h
    exact ⟨g, e, h.next hb⟩
  · obtain ⟨g, e, h⟩ := h
    exact ⟨g, e, h.next hb⟩
  · exact h
def stpD : Nat → Nat
  | 3 => 14
  | 7 => 18
  | 9 => 9
  | _ => 5
def stpV : Nat → Nat → Value
  | 7, g => .slice (some ⟨g, 0, none⟩) 3 3
  | _, g => .pointer (some ⟨g, 0, none⟩)
def stpC : Nat → List Value
  | 7 => ints [0, 0, 0]
  | _ => hourZ
def cj (v : Value) (j : Nat) : Value := match v with
  | .agg cs => cs.getD j .nilFunc
  | _ => .nilFunc
def vbF (ob pb po pc lA tA gA rm rn : Nat) (vs : Nat → Value) : Value := .agg #[.string demoN, .slice (some ⟨ob, 0, none⟩) 2 2, .int .i64 1, .slice (some ⟨pb, po, none⟩) 3 pc, .slice (some ⟨lA, 0, none⟩) 1 1, .slice (some ⟨tA, 0, none⟩) 1 1, .slice (some ⟨gA, 0, none⟩) 1 1, .slice none 0 0, .slice none 0 0, .slice (some ⟨rm, 0, none⟩) 3 3, .int .i64 1, .slice (some ⟨rn, 0, none⟩) 3 3, .slice none 0 0, .slice none 0 0, .slice none 0 0, .slice none 0 0, cj (vs 3) 0, cj (vs 3) 1, cj (vs 3) 2, cj (vs 3) 3, cj (vs 3) 4, cj (vs 3) 5, cj (vs 3) 6, .slice none 0 0, vs 7, .slice none 0 0]
structure StepQ (w : World) (e : Ending) (w' : World) : Prop where
  ex : ∃ o r rc AQ cq gt gc i ic u uc AM nm cm pk, e = .returned (.tuple #[.agg #[.int .i64 1, .slice (some ⟨o, 0, none⟩) 3 3, .slice (some ⟨r, 0, none⟩) 3 rc, .slice AQ 1 cq, .slice (some ⟨gt, 0, none⟩) 1 gc, .slice (some ⟨i, 0, none⟩) 2 ic, .slice (some ⟨u, 0, none⟩) 2 uc], .slice AM nm cm, .slice (some ⟨pk, 0, none⟩) 3 3]) ∧ Bo w' pk (ints [950, 100, 0]) ∧ Below w.heap.size w w'
set_option maxHeartbeats 64000000 in
set_option maxRecDepth 100000 in
theorem step_is {lv rt ob rm s0 r0 s1 r1 s2 lA tA gA pb po rn : Nat} (pc g4 g8 g12 g16 g20 a0 ac0 b0 bc0 c0 cc0 : Nat) (w : World) (hL : LakeR w lv rt ob rm s0 r0 s1 r1 s2 lA tA gA (some ⟨pb, po, none⟩)) (hR : Rd w (some ⟨rn, 0, none⟩) (ints [50, 0, 0])) (hm : Mem w (stMem g4 g8 g12 g16 g20 a0 ac0 b0 bc0 c0 cc0)) :
    Calls Tryz.prog 15 #[lakeB ob rm lA tA gA (some ⟨pb, po, none⟩) pc, stB g4 g8 g12 g16 g20, .agg #[.slice (some ⟨rn, 0, none⟩) 3 3, .slice none 0 0, .slice none 0 0, .slice none 0 0, .slice none 0 0]] w (StepQ w) := by
  obtain ⟨ii, hi0, hi1, hi2, hi3⟩ := info_parts info_int2
  have hml : ii.bytes * 3 ≤ 281474976710656 ∧ 3 ≤ maxLen := by rw [hi3]; unfold maxLen; omega
  have INI := Lib.hid (And.intro hi0 (And.intro hi1 (And.intro hi2 hml)))
  have HL0 := Lib.hid hL
  have HR0 := Lib.hid hR
  have HS0 := Lib.hid hm
  clear hi0 hi1 hi2 hi3 hml hL hR hm
  show Calls Tryz.prog 15 #[.agg #[.string demoN, .slice (some ⟨ob, 0, none⟩) 2 2, .int .i64 1, .slice (some ⟨pb, po, none⟩) 3 pc, .slice (some ⟨lA, 0, none⟩) 1 1, .slice (some ⟨tA, 0, none⟩) 1 1, .slice (some ⟨gA, 0, none⟩) 1 1, .slice none 0 0, .slice none 0 0, .slice (some ⟨rm, 0, none⟩) 3 3, .int .i64 1], .agg #[.int .i64 0, .slice (some ⟨g4, 0, none⟩) 3 3, .slice (some ⟨g8, 0, none⟩) 3 3, .slice none 0 0, .slice (some ⟨g12, 0, none⟩) 1 1, .slice (some ⟨g16, 0, none⟩) 2 2, .slice (some ⟨g20, 0, none⟩) 2 2], .agg #[.slice (some ⟨rn, 0, none⟩) 3 3, .slice none 0 0, .slice none 0 0, .slice none 0 0, .slice none 0 0]] w (StepQ w)
  go_enter Tryz.func15, Tryz.ntmps15
  go_upto_region 1 with fail
  refine wp_rebase _ (fun V1 hV1 x2 => ?_)
  have HM3 := Lib.hid (show MB w V1 [(w.heap.size + 1 + 1 + 1, [.int .i64 0, .slice none 0 0, .slice none 0 0, .slice none 0 0, .slice none 0 0, .slice none 0 0, .slice none 0 0]), (w.heap.size + 1 + 1, [.slice (some ⟨rn, 0, none⟩) 3 3, .slice none 0 0, .slice none 0 0, .slice none 0 0, .slice none 0 0]), (w.heap.size + 1, [.int .i64 0, .slice (some ⟨g4, 0, none⟩) 3 3, .slice (some ⟨g8, 0, none⟩) 3 3, .slice none 0 0, .slice (some ⟨g12, 0, none⟩) 1 1, .slice (some ⟨g16, 0, none⟩) 2 2, .slice (some ⟨g20, 0, none⟩) 2 2]), (w.heap.size, [.string demoN, .slice (some ⟨ob, 0, none⟩) 2 2, .int .i64 1, .slice (some ⟨pb, po, none⟩) 3 pc, .slice (some ⟨lA, 0, none⟩) 1 1, .slice (some ⟨tA, 0, none⟩) 1 1, .slice (some ⟨gA, 0, none⟩) 1 1, .slice none 0 0, .slice none 0 0, .slice (some ⟨rm, 0, none⟩) 3 3, .int .i64 1])] by
    rw [hV1]
    exact ((((MB.nil w).new 31 [.string demoN, .slice (some ⟨ob, 0, none⟩) 2 2, .int .i64 1, .slice (some ⟨pb, po, none⟩) 3 pc, .slice (some ⟨lA, 0, none⟩) 1 1, .slice (some ⟨tA, 0, none⟩) 1 1, .slice (some ⟨gA, 0, none⟩) 1 1, .slice none 0 0, .slice none 0 0, .slice (some ⟨rm, 0, none⟩) 3 3, .int .i64 1]).newAt (by rw [World.size_alloc]) 55 [.int .i64 0, .slice (some ⟨g4, 0, none⟩) 3 3, .slice (some ⟨g8, 0, none⟩) 3 3, .slice none 0 0, .slice (some ⟨g12, 0, none⟩) 1 1, .slice (some ⟨g16, 0, none⟩) 2 2, .slice (some ⟨g20, 0, none⟩) 2 2]).newAt (by rw [World.size_alloc, World.size_alloc]) 65 [.slice (some ⟨rn, 0, none⟩) 3 3, .slice none 0 0, .slice none 0 0, .slice none 0 0, .slice none 0 0]).newAt (by rw [World.size_alloc, World.size_alloc, World.size_alloc]) 55 [.int .i64 0, .slice none 0 0, .slice none 0 0, .slice none 0 0, .slice none 0 0, .slice none 0 0, .slice none 0 0])
  clear hV1
  have HL := Lib.hid (HL0.out.next HM3.out.bel)
  have HR := Lib.hid (HR0.out.below (Nat.le_refl _) HM3.out.bel)
  have HS1 := Lib.hid (HS0.out.next HM3.out.bel)
  clear HL0 HR0 HS0
  have b4 := fun z : BelW V1 => (show z.w.cell? ⟨w.heap.size, 3, none⟩ = some (.slice (some ⟨pb, po, none⟩) 3 pc) from (HM3.out.box 3 rfl z.2).cell 3 rfl)
  have RB := Lib.hid (HM3.out.get 3 rfl).rng
  have RI := Lib.hid (HM3.out.get 1 rfl).rng
  have RS := Lib.hid (HM3.out.get 2 rfl).rng
  have HS := Lib.hid (show ∃ z : BelW V1, x2.w.drew = z.w from ⟨⟨_, x2.2.drew⟩, rfl⟩)
  refine wp_region_tail 10 (fun w' => ∃ z : BelW V1, w' = z.w) (by kernel_rfl) (by kernel_rfl) HS.out ?_
  refine wpK_ld 0 31 (w.heap.size) 0 _ _ _ rfl rfl (by with_reducible rfl) (by with_unfolding_all rfl) (by rfl) HS.out (rangeX RB.out) Tryz.underlying31 ?_; simp only [Act.put, List.setIfInBounds_toArray, List.set_cons_zero, List.set_cons_succ]
  refine wpK_ld 1 65 (w.heap.size + 1 + 1) 0 _ _ _ rfl rfl (by with_reducible rfl) (by with_unfolding_all rfl) (by rfl) HS.out (rangeX RI.out) Tryz.underlying65 ?_; simp only [Act.put, List.setIfInBounds_toArray, List.set_cons_zero, List.set_cons_succ]
  refine wpK_ld 2 55 (w.heap.size + 1) 0 _ _ _ rfl rfl (by with_reducible rfl) (by with_unfolding_all rfl) (by rfl) HS.out (rangeX RS.out) Tryz.underlying55 ?_; simp only [Act.put, List.setIfInBounds_toArray, List.set_cons_zero, List.set_cons_succ]
  refine wpK_takeD (i := 4) (v := ?v1) (some 15) (by kernel_rfl) rfl (by with_unfolding_all rfl) (by omega) (by kernel_rfl) (by kernel_rfl) (fun _ _ _ h => h) (Or.inl ⟨by rfl, ?y1⟩) HS.out ?_
  case y1 => intro w1 hS; first | (go_simp <;> with_reducible rfl) | (obtain ⟨z, rfl⟩ := hS; (go_simp <;> with_reducible rfl))
  simp only [Act.put, List.setIfInBounds_toArray, List.set_cons_zero, List.set_cons_succ]
  refine wpK_takeD (i := 5) (v := ?v2) (some 16) (by kernel_rfl) rfl (by with_unfolding_all rfl) (by omega) (by kernel_rfl) (by kernel_rfl) (fun _ _ _ h => h) (Or.inl ⟨by rfl, ?y2⟩) HS.out ?_
  case y2 => intro w1 hS; first | (go_simp <;> with_reducible rfl) | (obtain ⟨z, rfl⟩ := hS; (go_simp <;> with_reducible rfl))
  simp only [Act.put, List.setIfInBounds_toArray, List.set_cons_zero, List.set_cons_succ]
  refine wpK_takeD (i := 6) (v := ?v3) (some 17) (by kernel_rfl) rfl (by with_unfolding_all rfl) (by omega) (by kernel_rfl) (by kernel_rfl) (fun _ _ _ h => h) (Or.inl ⟨by rfl, ?y3⟩) HS.out ?_
  case y3 => intro w1 hS; first | (go_simp <;> with_reducible rfl) | (obtain ⟨z, rfl⟩ := hS; (go_simp <;> with_reducible rfl))
  simp only [Act.put, List.setIfInBounds_toArray, List.set_cons_zero, List.set_cons_succ]
  have hdr : Below V1.heap.size V1 x2.w.drew := x2.2.drew
  refine wpK_makersX (f := 0) [3, 7] 9 8 (by decide) (by decide) stpD (by decide) 19 (by decide) (vbF ob pb po pc lA tA gA rm rn) stpF (by kernel_rfl) (by kernel_rfl) (by decide) (by omega) ?run ?runx stpF_next (fun W hW => ⟨⟨W, below_next hdr hW⟩, rfl⟩) ?bld (fun _ _ => rfl) ?_
  case run =>
    intro i hi
    simp only [List.mem_append, List.mem_cons, List.not_mem_nil, or_false] at hi
    rcases hi with (rfl | rfl) | rfl
    · exact maker_call (M := [3, 7] ++ [9]) (d := stpD) 3 rfl rfl rfl 13 (stB g4 g8 g12 g16 g20) (by decide) (by rfl) 29 (fun a w => by kernel_rfl) (fun W hb => (copied_is g4 g8 g12 g16 g20 a0 ac0 b0 bc0 c0 cc0 W (HS1.out.next (below_next hdr hb))).mono (fun e W' h => by
        obtain ⟨o, r, rc, gt, gc, i, ic, u, uc, a, ac, b, bc, c, cc, e1, hM⟩ := h.ex
        exact ⟨_, e1, ⟨o, r, rc, gt, gc, i, ic, u, uc, a, ac, b, bc, c, cc, rfl, hM.mw⟩, hM.bel⟩))
    · exact maker_of (F := FB stpV stpC) (fun v lo hi w h => by
        obtain ⟨g, e, h1, h2, h3⟩ := h
        exact ⟨g, e, MW.one h3 h1 h2⟩) (maker_slice (M := [3, 7] ++ [9]) (d := stpD) (mkv := stpV) (cs := stpC) 7 rfl rfl 17 29 3 rfl rfl (by decide) ii (.int .i64 0) 1 Tryz.underlying29 INI.out.1 INI.out.2.1 INI.out.2.2.1 3 (by kernel_rfl) INI.out.2.2.2.1 INI.out.2.2.2.2 (fun _ => rfl) (by kernel_rfl))
    · exact maker_of (F := FB stpV stpC) (fun v lo hi w h => by
        obtain ⟨g, e, h1, h2, h3⟩ := h
        exact ⟨g, e, MW.one h3 h1 h2⟩) (maker_alloc (M := [3, 7] ++ [9]) (d := stpD) (mkv := stpV) (cs := stpC) 9 rfl rfl rfl 106 (fun a w => by kernel_rfl) (fun _ => rfl))
  case runx => exact maker_ofX (F := FB stpV stpC) (fun v lo hi w h => by
        obtain ⟨g, e, h1, h2, h3⟩ := h
        exact ⟨g, e, MW.one h3 h1 h2⟩) (maker_allocX (d := stpD) (mkv := stpV) (cs := stpC) 9 rfl rfl rfl 106 (fun a w => by kernel_rfl) (fun _ => rfl))
  case bld =>
    refine ⟨_, rfl, rfl, fun _ _ _ _ h => h, fun vs lo hi W hm => ?_⟩
    have h3 := (hm.at' 3 (by decide)).1
    obtain ⟨o, r, rc, gt, gc, i, ic, u, uc, a, ac, b, bc, c, cc, e3, x3⟩ := h3
    have h7 := (hm.at' 7 (by decide)).1
    obtain ⟨pk, e7, x7⟩ := h7
    simp only [putAll, List.foldl_cons, List.foldl_nil, e3, e7, vbF]
    exact ⟨Or.inl ⟨by rfl, fun w1 _ => by kernel_rfl⟩, fun v => Or.inl ⟨by rfl, fun w1 _ => by kernel_rfl⟩⟩
  intro vs lo hi w1 hm
  obtain ⟨⟨o, r, rc, gt, gc, i, ic, u, uc, a, ac, b, bc, c, cc, e3, B3⟩, s3, -⟩ := hm.at' 3 (by decide)
  obtain ⟨⟨pk, e7, B7⟩, s7, -⟩ := hm.at' 7 (by decide)
  obtain ⟨⟨hb, e9, B9⟩, s9, -⟩ := hm.at' 9 (by decide)
  have hT := MW.three B9 B7 B3 (hm.dis 9 (by decide) 7 (by decide) (by decide)) (hm.dis 9 (by decide) 3 (by decide) (by decide)) (hm.dis 7 (by decide) 3 (by decide) (by decide)) hm.bel s9 s7 s3
  have hvb : vbF ob pb po pc lA tA gA rm rn vs = .agg #[.string demoN, .slice (some ⟨ob, 0, none⟩) 2 2, .int .i64 1, .slice (some ⟨pb, po, none⟩) 3 pc, .slice (some ⟨lA, 0, none⟩) 1 1, .slice (some ⟨tA, 0, none⟩) 1 1, .slice (some ⟨gA, 0, none⟩) 1 1, .slice none 0 0, .slice none 0 0, .slice (some ⟨rm, 0, none⟩) 3 3, .int .i64 1, .slice (some ⟨rn, 0, none⟩) 3 3, .slice none 0 0, .slice none 0 0, .slice none 0 0, .slice none 0 0, .int .i64 0, .slice (some ⟨o, 0, none⟩) 3 3, .slice (some ⟨r, 0, none⟩) 3 rc, .slice none 0 0, .slice (some ⟨gt, 0, none⟩) 1 gc, .slice (some ⟨i, 0, none⟩) 2 ic, .slice (some ⟨u, 0, none⟩) 2 uc, .slice none 0 0, .slice (some ⟨pk, 0, none⟩) 3 3, .slice none 0 0] := by
    simp only [vbF, e3, e7]
    rfl
  have HM5 := Lib.hid (show MB V1 w1 [(hb, hourZ), (pk, ints [0, 0, 0]), (u, ints [0, 0]), (i, ints [0, 0]), (gt, gate0), (r, ints [0, 0, 0]), (c, ints [0, 0]), (b, ints [100, 0]), (a, ints [600, 300]), (o, [rowV a ac, rowV b bc, rowV c cc])] by
    exact ((MB.nil V1).next hdr).join hT)
  have HB1 := Lib.hid (show ∃ z : BelW V1, w1 = z.w from ⟨⟨w1, below_next hdr hm.bel⟩, rfl⟩)
  simp only [putAll, List.cons_append, List.nil_append, List.foldl_cons, List.foldl_nil, stpD, e3, e7, e9, hvb, Act.put, List.setIfInBounds_toArray, List.set_cons_zero, List.set_cons_succ]
  clear hm hT hvb B3 B7 B9 s3 s7 s9 e3 e7 e9 hdr RB RI RS HS1 HB1 HS b4
  clear lo hi
  refine wpK_done (by kernel_rfl) ?_
  simp only [List.drop_succ_cons, List.drop_zero]
  go_wp2_with (first | (with_reducible refine wpList_store_named rfl 106 _ _ (by with_reducible rfl) hb 0 #[.string demoN, .slice (some ⟨ob, 0, none⟩) 2 2, .int .i64 1, .slice (some ⟨pb, po, none⟩) 3 pc, .slice (some ⟨lA, 0, none⟩) 1 1, .slice (some ⟨tA, 0, none⟩) 1 1, .slice (some ⟨gA, 0, none⟩) 1 1, .slice none 0 0, .slice none 0 0, .slice (some ⟨rm, 0, none⟩) 3 3, .int .i64 1, .slice (some ⟨rn, 0, none⟩) 3 3, .slice none 0 0, .slice none 0 0, .slice none 0 0, .slice none 0 0, .int .i64 0, .slice (some ⟨o, 0, none⟩) 3 3, .slice (some ⟨r, 0, none⟩) 3 rc, .slice none 0 0, .slice (some ⟨gt, 0, none⟩) 1 gc, .slice (some ⟨i, 0, none⟩) 2 ic, .slice (some ⟨u, 0, none⟩) 2 uc, .slice none 0 0, .slice (some ⟨pk, 0, none⟩) 3 3, .slice none 0 0] (by with_unfolding_all rfl) (by with_unfolding_all rfl) (by with_unfolding_all exact (HM5.out.get 0 rfl).there) (by kernel_rfl) (by with_unfolding_all rfl) ?_))
  intro W2 hW2
  have HM6 := Lib.hid (show MB V1 W2 [(hb, hc ob pb po pc lA tA gA rm rn o r rc gt gc i ic u uc pk (.slice none 0 0) (.slice none 0 0) (.slice none 0 0)), (pk, ints [0, 0, 0]), (u, ints [0, 0]), (i, ints [0, 0]), (gt, gate0), (r, ints [0, 0, 0]), (c, ints [0, 0]), (b, ints [100, 0]), (a, ints [600, 300]), (o, [rowV a ac, rowV b bc, rowV c cc])] by
    rw [hW2.out]
    exact HM5.out.fill 0 rfl [.string demoN, .slice (some ⟨ob, 0, none⟩) 2 2, .int .i64 1, .slice (some ⟨pb, po, none⟩) 3 pc, .slice (some ⟨lA, 0, none⟩) 1 1, .slice (some ⟨tA, 0, none⟩) 1 1, .slice (some ⟨gA, 0, none⟩) 1 1, .slice none 0 0, .slice none 0 0, .slice (some ⟨rm, 0, none⟩) 3 3, .int .i64 1, .slice (some ⟨rn, 0, none⟩) 3 3, .slice none 0 0, .slice none 0 0, .slice none 0 0, .slice none 0 0, .int .i64 0, .slice (some ⟨o, 0, none⟩) 3 3, .slice (some ⟨r, 0, none⟩) 3 rc, .slice none 0 0, .slice (some ⟨gt, 0, none⟩) 1 gc, .slice (some ⟨i, 0, none⟩) 2 ic, .slice (some ⟨u, 0, none⟩) 2 uc, .slice none 0 0, .slice (some ⟨pk, 0, none⟩) 3 3, .slice none 0 0] rfl)
  clear hW2 HM5
  clear vs
  have HM7 := Lib.hid (show MBR V1 W2 145 5 (.slice none 0 0) 0 []  [(hb, hc ob pb po pc lA tA gA rm rn o r rc gt gc i ic u uc pk (.slice none 0 0) (.slice none 0 0) (.slice none 0 0)), (o, [rowV a ac, rowV b bc, rowV c cc]), (a, ints [600, 300]), (b, ints [100, 0]), (c, ints [0, 0]), (r, ints [0, 0, 0]), (gt, gate0), (i, ints [0, 0]), (u, ints [0, 0]), (pk, ints [0, 0, 0])] by
    exact (HM6.out.pick [0, 9, 8, 7, 6, 5, 4, 3, 2, 1] (by decide) rfl).row _ _)
  clear HM6
  have CC := Lib.hid (hlinks_is pc ac bc cc rc gc ic uc V1 W2 HL.out HR.out HM7.out)
  go_wp2_with fail
  refine CC.out.mono ?_
  rintro e w3 ⟨rfl, hM⟩
  have HM8 := Lib.hid (show MBR V1 w3 145 5 (.slice none 0 0) 0 []  [(hb, hc ob pb po pc lA tA gA rm rn o r rc gt gc i ic u uc pk (.slice none 0 0) (.slice none 0 0) (.slice none 0 0)), (o, [rowV a ac, rowV b bc, rowV c cc]), (a, ints [600, 300]), (b, ints [100, 0]), (c, ints [0, 0]), (r, ints [0, 0, 0]), (gt, gate0), (i, ints [0, 0]), (u, ints [0, 0]), (pk, ints [0, 0, 0])] by
    exact hM)
  clear hM CC HM7
  have CC := Lib.hid (hswaps_is pc ac bc cc rc gc ic uc V1 w3 HL.out HR.out HM8.out)
  go_wp2_with fail
  refine CC.out.mono ?_
  rintro e w4 ⟨rfl, hM⟩
  have HM9 := Lib.hid (show MBR V1 w4 145 5 (.slice none 0 0) 0 []  [(hb, hc ob pb po pc lA tA gA rm rn o r rc gt gc i ic u uc pk (.slice none 0 0) (.slice none 0 0) (.slice none 0 0)), (o, [rowV a ac, rowV b bc, rowV c cc]), (a, ints [600, 300]), (b, ints [100, 0]), (c, ints [0, 0]), (r, ints [0, 0, 0]), (gt, gate0), (i, ints [0, 0]), (u, ints [0, 0]), (pk, ints [0, 0, 0])] by
    exact hM)
  clear hM CC HM8
  have CC := Lib.hid (hrain_is pc ac bc cc rc gc ic uc V1 w4 HL.out HR.out HM9.out)
  go_wp2_with fail
  refine CC.out.mono ?_
  rintro e w5 ⟨rfl, mv, xs, hM⟩
  have HM10 := Lib.hid (show MBR V1 w5 145 5 mv 1 xs  [(hb, hc ob pb po pc lA tA gA rm rn o r rc gt gc i ic u uc pk (.slice none 0 0) mv (.slice none 0 0)), (o, [rowV a ac, rowV b bc, rowV c cc]), (a, ints [650, 300]), (b, ints [100, 0]), (c, ints [0, 0]), (r, ints [0, 0, 0]), (gt, gate0), (i, ints [50, 0]), (u, ints [0, 0]), (pk, ints [0, 0, 0])] by
    exact hM)
  clear hM CC HM9
  have CC := Lib.hid (harr_is pc ac bc cc rc gc ic uc V1 w5 HL.out HR.out HM10.out)
  go_wp2_with fail
  refine CC.out.mono ?_
  rintro e w6 ⟨rfl, a', b', c', hM⟩
  have HM11 := Lib.hid (show MBR V1 w6 145 5 mv 1 xs  [(hb, hc ob pb po pc lA tA gA rm rn o r rc gt gc i ic u uc pk (.slice none 0 0) mv (.slice none 0 0)), (o, [rowV a' 2, rowV b' 2, rowV c' 2]), (a', ints [650, 300]), (b', ints [100, 0]), (c', ints [0, 0]), (r, ints [0, 0, 0]), (gt, gate0), (i, ints [50, 0]), (u, ints [0, 0]), (pk, ints [950, 100, 0])] by
    exact hM)
  clear hM CC HM10
  go_upto_region 6 with fail
  try simp only [Act.put]
  refine wp_rebase _ (fun V12 hV12 x13 => ?_)
  have HM14 := Lib.hid (show MBR V1 V12 145 5 mv 1 xs  [(hb, hc ob pb po pc lA tA gA rm rn o r rc gt gc i ic u uc pk (.slice none 0 0) mv (.slice none 0 0)), (o, [rowV a' 2, rowV b' 2, rowV c' 2]), (a', ints [650, 300]), (b', ints [100, 0]), (c', ints [0, 0]), (r, ints [0, 0, 0]), (gt, gate0), (i, ints [50, 0]), (u, ints [0, 0]), (pk, ints [950, 100, 0])] by
    rw [hV12]
    exact HM11.out)
  clear hV12
  have b15 := fun z : BelW V12 => (show z.w.cell? ⟨w.heap.size, 3, none⟩ = some (.slice (some ⟨pb, po, none⟩) 3 pc) from (HM3.out.box 3 rfl (below_next HM14.out.bel z.2)).cell 3 rfl)
  go_wp2_with fail
  refine wp_loop_rounds 4 ?_
  rw [rounds_succ]
  have CC := Lib.hid (hleave_0 pc 2 2 2 rc gc ic uc V1 x13.w HL.out (HM14.out.next x13.2))
  go_wp2_with fail
  refine CC.out.mono ?_
  rintro e w7 ⟨rfl, a2, hM⟩
  have HM16 := Lib.hid (show MBR V1 w7 145 5 mv 1 xs  [(hb, hc ob pb po pc lA tA gA rm rn o r rc gt gc i ic u uc pk (.slice none 0 0) mv (.slice none 0 0)), (o, [rowV a2 2, rowV b' 2, rowV c' 2]), (a2, ints [650, 300]), (b', ints [100, 0]), (c', ints [0, 0]), (r, ints [0, 0, 0]), (gt, gate0), (i, ints [50, 0]), (u, ints [0, 0]), (pk, ints [950, 100, 0])] by
    exact hM)
  clear hM CC HM14
  go_wp2_with fail
  rw [rounds_succ]
  clear b15
  have CC := Lib.hid (hleave_1 pc 2 2 2 rc gc ic uc V1 w7 HL.out HM16.out)
  go_wp2_with fail
  refine CC.out.mono ?_
  rintro e w8 ⟨rfl, b2, mv', xs', sn, snc, lp, lpc, hM⟩
  have HM17 := Lib.hid (show MBR V1 w8 145 5 mv' 2 xs'  [(hb, hc ob pb po pc lA tA gA rm rn o r rc gt gc i ic u uc pk (.slice none 0 0) mv' (.slice (some ⟨sn, 0, none⟩) 1 snc)), (o, [rowV a2 2, rowV b2 2, rowV c' 2]), (a2, ints [650, 300]), (b2, ints [50, 0]), (c', ints [0, 0]), (r, ints [0, 0, 0]), (gt, gate0), (i, ints [50, 0]), (u, ints [0, 0]), (pk, ints [950, 100, 0]), (sn, loadV 1 2 lp lpc)] by
    exact hM)
  clear hM CC HM16
  go_wp2_with fail
  rw [rounds_succ]
  have CC := Lib.hid (hleave_2 pc 2 2 2 rc gc ic uc V1 w8 HL.out HM17.out)
  go_wp2_with fail
  refine CC.out.mono ?_
  rintro e w9 ⟨rfl, c2, hM⟩
  have HM18 := Lib.hid (show MBR V1 w9 145 5 mv' 2 xs'  [(hb, hc ob pb po pc lA tA gA rm rn o r rc gt gc i ic u uc pk (.slice none 0 0) mv' (.slice (some ⟨sn, 0, none⟩) 1 snc)), (o, [rowV a2 2, rowV b2 2, rowV c2 2]), (a2, ints [650, 300]), (b2, ints [50, 0]), (c2, ints [0, 0]), (r, ints [0, 0, 0]), (gt, gate0), (i, ints [50, 0]), (u, ints [0, 0]), (pk, ints [950, 100, 0]), (sn, loadV 1 2 lp lpc)] by
    exact hM)
  clear hM CC HM17
  go_wp2_with fail
  rw [rounds_succ]
  go_upto_region 11 with fail
  try simp only [Act.put]
  refine wp_rebase _ (fun V19 hV19 x20 => ?_)
  have HM21 := Lib.hid (show MBR V1 V19 145 5 mv' 2 xs'  [(hb, hc ob pb po pc lA tA gA rm rn o r rc gt gc i ic u uc pk (.slice none 0 0) mv' (.slice (some ⟨sn, 0, none⟩) 1 snc)), (o, [rowV a2 2, rowV b2 2, rowV c2 2]), (a2, ints [650, 300]), (b2, ints [50, 0]), (c2, ints [0, 0]), (r, ints [0, 0, 0]), (gt, gate0), (i, ints [50, 0]), (u, ints [0, 0]), (pk, ints [950, 100, 0]), (sn, loadV 1 2 lp lpc)] by
    rw [hV19]
    exact HM18.out)
  clear hV19
  have b22 := fun z : BelW V19 => (show z.w.cell? ⟨hb, 19, none⟩ = some (.slice none 0 0) from (HM21.out.box 0 rfl z.2).cell 19 rfl)
  have b23 := fun z : BelW V19 => (show z.w.cell? ⟨hb, 25, none⟩ = some (.slice (some ⟨sn, 0, none⟩) 1 snc) from (HM21.out.box 0 rfl z.2).cell 25 rfl)
  obtain ⟨ild, hj0, hj1, hj2, hj3⟩ := info_parts info_load
  have INL := Lib.hid (And.intro hj0 (And.intro hj1 (And.intro hj2 hj3)))
  clear hj0 hj1 hj2 hj3
  go_wp2_with (first | (at_builtin; refine wpList_append_rd _ rfl _ _ _ (by rfl) x20.w.heap.size 120 ild _ 3 40 Tryz.underlying52 INL.out.1 INL.out.2.1 INL.out.2.2.1 INL.out.2.2.2 rfl (by omega) _ 0 [] (by rfl) (World.ownsRow_nil _ _ _ _) (some ⟨sn, 0, none⟩) 1 snc (loadV 1 2 lp lpc) (by rfl) (fun h => by cases h) (by rfl) (HM21.out.box 10 rfl x20.2).rd load_one (by unfold maxLen; omega) (by omega) (Nat.le_refl _) ?_))
  intro v10 w10 hown hgr hat
  obtain ⟨AQ, cq, rfl, -, -⟩ := own_slice hown
  have HM24 := Lib.hid (show MBR V1 w10 145 5 mv' 2 xs'  [(hb, hc ob pb po pc lA tA gA rm rn o r rc gt gc i ic u uc pk (.slice none 0 0) mv' (.slice (some ⟨sn, 0, none⟩) 1 snc)), (o, [rowV a2 2, rowV b2 2, rowV c2 2]), (a2, ints [650, 300]), (b2, ints [50, 0]), (c2, ints [0, 0]), (r, ints [0, 0, 0]), (gt, gate0), (i, ints [50, 0]), (u, ints [0, 0]), (pk, ints [950, 100, 0]), (sn, loadV 1 2 lp lpc)] by
    exact (HM21.out.next x20.2).next (below_grown (Below.refl _ _) hgr (fun k hk => by cases hk)))
  clear hown hgr hat HM21 b22 b23
  go_wp2_with (first | (refine wpList_store_cell rfl 52 _ _ (by with_reducible rfl) hb 19 (.slice AQ 1 cq) (by with_unfolding_all rfl) (by with_unfolding_all rfl) (HM24.out.row.mem.get 0 rfl) (by simp [hc]) (by kernel_rfl) rfl ?_))
  intro W11 hW11
  have HM25 := Lib.hid (show MBR V1 W11 145 5 mv' 2 xs'  [(hb, hc ob pb po pc lA tA gA rm rn o r rc gt gc i ic u uc pk (.slice AQ 1 cq) mv' (.slice (some ⟨sn, 0, none⟩) 1 snc)), (o, [rowV a2 2, rowV b2 2, rowV c2 2]), (a2, ints [650, 300]), (b2, ints [50, 0]), (c2, ints [0, 0]), (r, ints [0, 0, 0]), (gt, gate0), (i, ints [50, 0]), (u, ints [0, 0]), (pk, ints [950, 100, 0]), (sn, loadV 1 2 lp lpc)] by
    rw [hW11.out]
    exact HM24.out.put 0 rfl (j := 19) (by simp [hc]) (.slice AQ 1 cq))
  clear hW11 HM24
  have b26 : W11.cell? ⟨hb, 16, none⟩ = some (.int .i64 0) := (HM25.out.box 0 rfl (Below.refl _ _)).cell 16 rfl
  go_wp2_with (first | (refine wpList_store_cell rfl 3 _ _ (by with_reducible rfl) hb 16 (.int .i64 1) (by with_unfolding_all rfl) (by with_unfolding_all rfl) (HM25.out.row.mem.get 0 rfl) (by simp [hc]) (by kernel_rfl) rfl ?_))
  intro W12 hW12
  have HM27 := Lib.hid (show MBR V1 W12 145 5 mv' 2 xs'  [(hb, [.string demoN, .slice (some ⟨ob, 0, none⟩) 2 2, .int .i64 1, .slice (some ⟨pb, po, none⟩) 3 pc, .slice (some ⟨lA, 0, none⟩) 1 1, .slice (some ⟨tA, 0, none⟩) 1 1, .slice (some ⟨gA, 0, none⟩) 1 1, .slice none 0 0, .slice none 0 0, .slice (some ⟨rm, 0, none⟩) 3 3, .int .i64 1, .slice (some ⟨rn, 0, none⟩) 3 3, .slice none 0 0, .slice none 0 0, .slice none 0 0, .slice none 0 0, .int .i64 1, .slice (some ⟨o, 0, none⟩) 3 3, .slice (some ⟨r, 0, none⟩) 3 rc, .slice AQ 1 cq, .slice (some ⟨gt, 0, none⟩) 1 gc, .slice (some ⟨i, 0, none⟩) 2 ic, .slice (some ⟨u, 0, none⟩) 2 uc, mv', .slice (some ⟨pk, 0, none⟩) 3 3, .slice (some ⟨sn, 0, none⟩) 1 snc]), (o, [rowV a2 2, rowV b2 2, rowV c2 2]), (a2, ints [650, 300]), (b2, ints [50, 0]), (c2, ints [0, 0]), (r, ints [0, 0, 0]), (gt, gate0), (i, ints [50, 0]), (u, ints [0, 0]), (pk, ints [950, 100, 0]), (sn, loadV 1 2 lp lpc)] by
    rw [hW12.out]
    exact HM25.out.put 0 rfl (j := 16) (by simp [hc]) (.int .i64 1))
  clear hW12 HM25
  clear b26
  obtain ⟨AM, cm, rfl, -, -⟩ := own_slice HM27.out.row.own
  have HM28 := Lib.hid (show MB w W12 [(hb, [.string demoN, .slice (some ⟨ob, 0, none⟩) 2 2, .int .i64 1, .slice (some ⟨pb, po, none⟩) 3 pc, .slice (some ⟨lA, 0, none⟩) 1 1, .slice (some ⟨tA, 0, none⟩) 1 1, .slice (some ⟨gA, 0, none⟩) 1 1, .slice none 0 0, .slice none 0 0, .slice (some ⟨rm, 0, none⟩) 3 3, .int .i64 1, .slice (some ⟨rn, 0, none⟩) 3 3, .slice none 0 0, .slice none 0 0, .slice none 0 0, .slice none 0 0, .int .i64 1, .slice (some ⟨o, 0, none⟩) 3 3, .slice (some ⟨r, 0, none⟩) 3 rc, .slice AQ 1 cq, .slice (some ⟨gt, 0, none⟩) 1 gc, .slice (some ⟨i, 0, none⟩) 2 ic, .slice (some ⟨u, 0, none⟩) 2 uc, .slice AM 2 cm, .slice (some ⟨pk, 0, none⟩) 3 3, .slice (some ⟨sn, 0, none⟩) 1 snc]), (o, [rowV a2 2, rowV b2 2, rowV c2 2]), (a2, ints [650, 300]), (b2, ints [50, 0]), (c2, ints [0, 0]), (r, ints [0, 0, 0]), (gt, gate0), (i, ints [50, 0]), (u, ints [0, 0]), (pk, ints [950, 100, 0]), (sn, loadV 1 2 lp lpc), (w.heap.size + 1 + 1 + 1, [.int .i64 0, .slice none 0 0, .slice none 0 0, .slice none 0 0, .slice none 0 0, .slice none 0 0, .slice none 0 0]), (w.heap.size + 1 + 1, [.slice (some ⟨rn, 0, none⟩) 3 3, .slice none 0 0, .slice none 0 0, .slice none 0 0, .slice none 0 0]), (w.heap.size + 1, [.int .i64 0, .slice (some ⟨g4, 0, none⟩) 3 3, .slice (some ⟨g8, 0, none⟩) 3 3, .slice none 0 0, .slice (some ⟨g12, 0, none⟩) 1 1, .slice (some ⟨g16, 0, none⟩) 2 2, .slice (some ⟨g20, 0, none⟩) 2 2]), (w.heap.size, [.string demoN, .slice (some ⟨ob, 0, none⟩) 2 2, .int .i64 1, .slice (some ⟨pb, po, none⟩) 3 pc, .slice (some ⟨lA, 0, none⟩) 1 1, .slice (some ⟨tA, 0, none⟩) 1 1, .slice (some ⟨gA, 0, none⟩) 1 1, .slice none 0 0, .slice none 0 0, .slice (some ⟨rm, 0, none⟩) 3 3, .int .i64 1])] by
    exact HM3.out.join HM27.out.mb)
  clear HM27
  go_upto_region 13 with fail
  try simp only [Act.put]
  refine wp_rebase _ (fun V29 hV29 x30 => ?_)
  have HM31 := Lib.hid (show MB w V29 [(hb, [.string demoN, .slice (some ⟨ob, 0, none⟩) 2 2, .int .i64 1, .slice (some ⟨pb, po, none⟩) 3 pc, .slice (some ⟨lA, 0, none⟩) 1 1, .slice (some ⟨tA, 0, none⟩) 1 1, .slice (some ⟨gA, 0, none⟩) 1 1, .slice none 0 0, .slice none 0 0, .slice (some ⟨rm, 0, none⟩) 3 3, .int .i64 1, .slice (some ⟨rn, 0, none⟩) 3 3, .slice none 0 0, .slice none 0 0, .slice none 0 0, .slice none 0 0, .int .i64 1, .slice (some ⟨o, 0, none⟩) 3 3, .slice (some ⟨r, 0, none⟩) 3 rc, .slice AQ 1 cq, .slice (some ⟨gt, 0, none⟩) 1 gc, .slice (some ⟨i, 0, none⟩) 2 ic, .slice (some ⟨u, 0, none⟩) 2 uc, .slice AM 2 cm, .slice (some ⟨pk, 0, none⟩) 3 3, .slice (some ⟨sn, 0, none⟩) 1 snc]), (o, [rowV a2 2, rowV b2 2, rowV c2 2]), (a2, ints [650, 300]), (b2, ints [50, 0]), (c2, ints [0, 0]), (r, ints [0, 0, 0]), (gt, gate0), (i, ints [50, 0]), (u, ints [0, 0]), (pk, ints [950, 100, 0]), (sn, loadV 1 2 lp lpc), (w.heap.size + 1 + 1 + 1, [.int .i64 0, .slice none 0 0, .slice none 0 0, .slice none 0 0, .slice none 0 0, .slice none 0 0, .slice none 0 0]), (w.heap.size + 1 + 1, [.slice (some ⟨rn, 0, none⟩) 3 3, .slice none 0 0, .slice none 0 0, .slice none 0 0, .slice none 0 0]), (w.heap.size + 1, [.int .i64 0, .slice (some ⟨g4, 0, none⟩) 3 3, .slice (some ⟨g8, 0, none⟩) 3 3, .slice none 0 0, .slice (some ⟨g12, 0, none⟩) 1 1, .slice (some ⟨g16, 0, none⟩) 2 2, .slice (some ⟨g20, 0, none⟩) 2 2]), (w.heap.size, [.string demoN, .slice (some ⟨ob, 0, none⟩) 2 2, .int .i64 1, .slice (some ⟨pb, po, none⟩) 3 pc, .slice (some ⟨lA, 0, none⟩) 1 1, .slice (some ⟨tA, 0, none⟩) 1 1, .slice (some ⟨gA, 0, none⟩) 1 1, .slice none 0 0, .slice none 0 0, .slice (some ⟨rm, 0, none⟩) 3 3, .int .i64 1])] by
    rw [hV29]
    exact HM28.out)
  clear hV29
  clear HM28
  have ne : hb ≠ w.heap.size + 1 + 1 + 1 := HM31.out.mem.ne (i := 0) (j := 11) rfl rfl (by omega)
  have HS := Lib.hid (show (fun w' : World => w'.rangeAt hb 0 [.string demoN, .slice (some ⟨ob, 0, none⟩) 2 2, .int .i64 1, .slice (some ⟨pb, po, none⟩) 3 pc, .slice (some ⟨lA, 0, none⟩) 1 1, .slice (some ⟨tA, 0, none⟩) 1 1, .slice (some ⟨gA, 0, none⟩) 1 1, .slice none 0 0, .slice none 0 0, .slice (some ⟨rm, 0, none⟩) 3 3, .int .i64 1, .slice (some ⟨rn, 0, none⟩) 3 3, .slice none 0 0, .slice none 0 0, .slice none 0 0, .slice none 0 0, .int .i64 1, .slice (some ⟨o, 0, none⟩) 3 3, .slice (some ⟨r, 0, none⟩) 3 rc, .slice AQ 1 cq, .slice (some ⟨gt, 0, none⟩) 1 gc, .slice (some ⟨i, 0, none⟩) 2 ic, .slice (some ⟨u, 0, none⟩) 2 uc, .slice AM 2 cm, .slice (some ⟨pk, 0, none⟩) 3 3, .slice (some ⟨sn, 0, none⟩) 1 snc]) x30.w.drew from (HM31.out.box 0 rfl x30.2.drew).rng)
  have HT := Lib.hid (show MB w x30.w.drew [(hb, [.string demoN, .slice (some ⟨ob, 0, none⟩) 2 2, .int .i64 1, .slice (some ⟨pb, po, none⟩) 3 pc, .slice (some ⟨lA, 0, none⟩) 1 1, .slice (some ⟨tA, 0, none⟩) 1 1, .slice (some ⟨gA, 0, none⟩) 1 1, .slice none 0 0, .slice none 0 0, .slice (some ⟨rm, 0, none⟩) 3 3, .int .i64 1, .slice (some ⟨rn, 0, none⟩) 3 3, .slice none 0 0, .slice none 0 0, .slice none 0 0, .slice none 0 0, .int .i64 1, .slice (some ⟨o, 0, none⟩) 3 3, .slice (some ⟨r, 0, none⟩) 3 rc, .slice AQ 1 cq, .slice (some ⟨gt, 0, none⟩) 1 gc, .slice (some ⟨i, 0, none⟩) 2 ic, .slice (some ⟨u, 0, none⟩) 2 uc, .slice AM 2 cm, .slice (some ⟨pk, 0, none⟩) 3 3, .slice (some ⟨sn, 0, none⟩) 1 snc]), (o, [rowV a2 2, rowV b2 2, rowV c2 2]), (a2, ints [650, 300]), (b2, ints [50, 0]), (c2, ints [0, 0]), (r, ints [0, 0, 0]), (gt, gate0), (i, ints [50, 0]), (u, ints [0, 0]), (pk, ints [950, 100, 0]), (sn, loadV 1 2 lp lpc), (w.heap.size + 1 + 1 + 1, [.int .i64 0, .slice none 0 0, .slice none 0 0, .slice none 0 0, .slice none 0 0, .slice none 0 0, .slice none 0 0]), (w.heap.size + 1 + 1, [.slice (some ⟨rn, 0, none⟩) 3 3, .slice none 0 0, .slice none 0 0, .slice none 0 0, .slice none 0 0]), (w.heap.size + 1, [.int .i64 0, .slice (some ⟨g4, 0, none⟩) 3 3, .slice (some ⟨g8, 0, none⟩) 3 3, .slice none 0 0, .slice (some ⟨g12, 0, none⟩) 1 1, .slice (some ⟨g16, 0, none⟩) 2 2, .slice (some ⟨g20, 0, none⟩) 2 2]), (w.heap.size, [.string demoN, .slice (some ⟨ob, 0, none⟩) 2 2, .int .i64 1, .slice (some ⟨pb, po, none⟩) 3 pc, .slice (some ⟨lA, 0, none⟩) 1 1, .slice (some ⟨tA, 0, none⟩) 1 1, .slice (some ⟨gA, 0, none⟩) 1 1, .slice none 0 0, .slice none 0 0, .slice (some ⟨rm, 0, none⟩) 3 3, .int .i64 1])] from (HM31.out.next x30.2.drew))
  refine wp_region_tl 8 9 (fun w' => w'.rangeAt hb 0 [.string demoN, .slice (some ⟨ob, 0, none⟩) 2 2, .int .i64 1, .slice (some ⟨pb, po, none⟩) 3 pc, .slice (some ⟨lA, 0, none⟩) 1 1, .slice (some ⟨tA, 0, none⟩) 1 1, .slice (some ⟨gA, 0, none⟩) 1 1, .slice none 0 0, .slice none 0 0, .slice (some ⟨rm, 0, none⟩) 3 3, .int .i64 1, .slice (some ⟨rn, 0, none⟩) 3 3, .slice none 0 0, .slice none 0 0, .slice none 0 0, .slice none 0 0, .int .i64 1, .slice (some ⟨o, 0, none⟩) 3 3, .slice (some ⟨r, 0, none⟩) 3 rc, .slice AQ 1 cq, .slice (some ⟨gt, 0, none⟩) 1 gc, .slice (some ⟨i, 0, none⟩) 2 ic, .slice (some ⟨u, 0, none⟩) 2 uc, .slice AM 2 cm, .slice (some ⟨pk, 0, none⟩) 3 3, .slice (some ⟨sn, 0, none⟩) 1 snc]) HS.out ?_
  refine wpK_nx rfl rfl HS.out (Or.inl ⟨by rfl, fun w1 hS => by first | (go_simp <;> with_reducible rfl) | (have k0 := hS 23 _ rfl; have k1 := hS 24 _ rfl; simp only [Nat.zero_add] at k0 k1; (go_simp <;> with_reducible rfl))⟩) ?_; simp only [Act.put, List.setIfInBounds_toArray, List.set_cons_zero, List.set_cons_succ]
  refine wpK_nl 55 hb 16 [.int .i64 1, .slice (some ⟨o, 0, none⟩) 3 3, .slice (some ⟨r, 0, none⟩) 3 rc, .slice AQ 1 cq, .slice (some ⟨gt, 0, none⟩) 1 gc, .slice (some ⟨i, 0, none⟩) 2 ic, .slice (some ⟨u, 0, none⟩) 2 uc] _ _ rfl rfl (by with_reducible rfl) (by with_unfolding_all rfl) (by rfl) HS.out (fun w h => range_part 16 7 h) Tryz.underlying55 ?_; simp only [Act.put, List.setIfInBounds_toArray, List.set_cons_zero, List.set_cons_succ]
  iterate 4 (refine wpK_nx rfl rfl HS.out (Or.inl ⟨by rfl, fun w1 hS => by first | (go_simp <;> with_reducible rfl) | (have k0 := hS 23 _ rfl; have k1 := hS 24 _ rfl; simp only [Nat.zero_add] at k0 k1; (go_simp <;> with_reducible rfl))⟩) ?_; simp only [Act.put, List.setIfInBounds_toArray, List.set_cons_zero, List.set_cons_succ])
  refine wpK_ne rfl ?_
  go_wp2_with (first | (with_reducible refine wpList_store_named rfl 55 _ _ (by with_reducible rfl) (w.heap.size + 1 + 1 + 1) 0 #[.int .i64 1, .slice (some ⟨o, 0, none⟩) 3 3, .slice (some ⟨r, 0, none⟩) 3 rc, .slice AQ 1 cq, .slice (some ⟨gt, 0, none⟩) 1 gc, .slice (some ⟨i, 0, none⟩) 2 ic, .slice (some ⟨u, 0, none⟩) 2 uc] (by with_unfolding_all rfl) (by with_unfolding_all rfl) (by with_unfolding_all exact (HT.out.get 11 rfl).there) (by kernel_rfl) (by with_unfolding_all rfl) ?_))
  intro W13 hW13
  have HM32 := Lib.hid (show MB w W13 [(hb, [.string demoN, .slice (some ⟨ob, 0, none⟩) 2 2, .int .i64 1, .slice (some ⟨pb, po, none⟩) 3 pc, .slice (some ⟨lA, 0, none⟩) 1 1, .slice (some ⟨tA, 0, none⟩) 1 1, .slice (some ⟨gA, 0, none⟩) 1 1, .slice none 0 0, .slice none 0 0, .slice (some ⟨rm, 0, none⟩) 3 3, .int .i64 1, .slice (some ⟨rn, 0, none⟩) 3 3, .slice none 0 0, .slice none 0 0, .slice none 0 0, .slice none 0 0, .int .i64 1, .slice (some ⟨o, 0, none⟩) 3 3, .slice (some ⟨r, 0, none⟩) 3 rc, .slice AQ 1 cq, .slice (some ⟨gt, 0, none⟩) 1 gc, .slice (some ⟨i, 0, none⟩) 2 ic, .slice (some ⟨u, 0, none⟩) 2 uc, .slice AM 2 cm, .slice (some ⟨pk, 0, none⟩) 3 3, .slice (some ⟨sn, 0, none⟩) 1 snc]), (o, [rowV a2 2, rowV b2 2, rowV c2 2]), (a2, ints [650, 300]), (b2, ints [50, 0]), (c2, ints [0, 0]), (r, ints [0, 0, 0]), (gt, gate0), (i, ints [50, 0]), (u, ints [0, 0]), (pk, ints [950, 100, 0]), (sn, loadV 1 2 lp lpc), (w.heap.size + 1 + 1 + 1, [.int .i64 1, .slice (some ⟨o, 0, none⟩) 3 3, .slice (some ⟨r, 0, none⟩) 3 rc, .slice AQ 1 cq, .slice (some ⟨gt, 0, none⟩) 1 gc, .slice (some ⟨i, 0, none⟩) 2 ic, .slice (some ⟨u, 0, none⟩) 2 uc]), (w.heap.size + 1 + 1, [.slice (some ⟨rn, 0, none⟩) 3 3, .slice none 0 0, .slice none 0 0, .slice none 0 0, .slice none 0 0]), (w.heap.size + 1, [.int .i64 0, .slice (some ⟨g4, 0, none⟩) 3 3, .slice (some ⟨g8, 0, none⟩) 3 3, .slice none 0 0, .slice (some ⟨g12, 0, none⟩) 1 1, .slice (some ⟨g16, 0, none⟩) 2 2, .slice (some ⟨g20, 0, none⟩) 2 2]), (w.heap.size, [.string demoN, .slice (some ⟨ob, 0, none⟩) 2 2, .int .i64 1, .slice (some ⟨pb, po, none⟩) 3 pc, .slice (some ⟨lA, 0, none⟩) 1 1, .slice (some ⟨tA, 0, none⟩) 1 1, .slice (some ⟨gA, 0, none⟩) 1 1, .slice none 0 0, .slice none 0 0, .slice (some ⟨rm, 0, none⟩) 3 3, .int .i64 1])] by
    rw [hW13.out]
    exact HT.out.fill 11 rfl [.int .i64 1, .slice (some ⟨o, 0, none⟩) 3 3, .slice (some ⟨r, 0, none⟩) 3 rc, .slice AQ 1 cq, .slice (some ⟨gt, 0, none⟩) 1 gc, .slice (some ⟨i, 0, none⟩) 2 ic, .slice (some ⟨u, 0, none⟩) 2 uc] rfl)
  have HS2 := Lib.hid (show (fun w' : World => w'.rangeAt hb 0 [.string demoN, .slice (some ⟨ob, 0, none⟩) 2 2, .int .i64 1, .slice (some ⟨pb, po, none⟩) 3 pc, .slice (some ⟨lA, 0, none⟩) 1 1, .slice (some ⟨tA, 0, none⟩) 1 1, .slice (some ⟨gA, 0, none⟩) 1 1, .slice none 0 0, .slice none 0 0, .slice (some ⟨rm, 0, none⟩) 3 3, .int .i64 1, .slice (some ⟨rn, 0, none⟩) 3 3, .slice none 0 0, .slice none 0 0, .slice none 0 0, .slice none 0 0, .int .i64 1, .slice (some ⟨o, 0, none⟩) 3 3, .slice (some ⟨r, 0, none⟩) 3 rc, .slice AQ 1 cq, .slice (some ⟨gt, 0, none⟩) 1 gc, .slice (some ⟨i, 0, none⟩) 2 ic, .slice (some ⟨u, 0, none⟩) 2 uc, .slice AM 2 cm, .slice (some ⟨pk, 0, none⟩) 3 3, .slice (some ⟨sn, 0, none⟩) 1 snc]) W13 from (HM32.out.get 0 rfl).rng)
  clear hW13 HT HM31
  try simp only [Act.put, List.setIfInBounds_toArray, List.set_cons_zero, List.set_cons_succ]
  refine ⟨HS2.out, ?_⟩
  refine wpK_nx rfl rfl HS2.out (Or.inl ⟨by rfl, fun w1 hS => by first | (go_simp <;> with_reducible rfl) | (have k0 := hS 23 _ rfl; have k1 := hS 24 _ rfl; simp only [Nat.zero_add] at k0 k1; (go_simp <;> with_reducible rfl))⟩) ?_; simp only [Act.put, List.setIfInBounds_toArray, List.set_cons_zero, List.set_cons_succ]
  refine wpK_done (by kernel_rfl) ?_
  simp only [List.drop_succ_cons, List.drop_zero]
  clear HS HS2 ne
  have b33 : W13.cell? ⟨w.heap.size + 1 + 1 + 1, 0, none⟩ = some (.int .i64 1) := (HM32.out.box 11 rfl (Below.refl _ _)).cell 0 rfl
  have b34 : W13.cell? ⟨w.heap.size + 1 + 1 + 1, 1, none⟩ = some (.slice (some ⟨o, 0, none⟩) 3 3) := (HM32.out.box 11 rfl (Below.refl _ _)).cell 1 rfl
  have b35 : W13.cell? ⟨w.heap.size + 1 + 1 + 1, 2, none⟩ = some (.slice (some ⟨r, 0, none⟩) 3 rc) := (HM32.out.box 11 rfl (Below.refl _ _)).cell 2 rfl
  have b36 : W13.cell? ⟨w.heap.size + 1 + 1 + 1, 3, none⟩ = some (.slice AQ 1 cq) := (HM32.out.box 11 rfl (Below.refl _ _)).cell 3 rfl
  have b37 : W13.cell? ⟨w.heap.size + 1 + 1 + 1, 4, none⟩ = some (.slice (some ⟨gt, 0, none⟩) 1 gc) := (HM32.out.box 11 rfl (Below.refl _ _)).cell 4 rfl
  have b38 : W13.cell? ⟨w.heap.size + 1 + 1 + 1, 5, none⟩ = some (.slice (some ⟨i, 0, none⟩) 2 ic) := (HM32.out.box 11 rfl (Below.refl _ _)).cell 5 rfl
  have b39 : W13.cell? ⟨w.heap.size + 1 + 1 + 1, 6, none⟩ = some (.slice (some ⟨u, 0, none⟩) 2 uc) := (HM32.out.box 11 rfl (Below.refl _ _)).cell 6 rfl
  have HQ := Lib.hid (show StepQ w (.returned (.tuple #[.agg #[.int .i64 1, .slice (some ⟨o, 0, none⟩) 3 3, .slice (some ⟨r, 0, none⟩) 3 rc, .slice AQ 1 cq, .slice (some ⟨gt, 0, none⟩) 1 gc, .slice (some ⟨i, 0, none⟩) 2 ic, .slice (some ⟨u, 0, none⟩) 2 uc], .slice AM 2 cm, .slice (some ⟨pk, 0, none⟩) 3 3])) W13 from ⟨⟨o, r, rc, AQ, cq, gt, gc, i, ic, u, uc, AM, 2, cm, pk, rfl, HM32.out.get 9 rfl, HM32.out.bel⟩⟩)
  go_wp2_with fail
  refine bodyPost_ret (v := .tuple #[.agg #[.int .i64 1, .slice (some ⟨o, 0, none⟩) 3 3, .slice (some ⟨r, 0, none⟩) 3 rc, .slice AQ 1 cq, .slice (some ⟨gt, 0, none⟩) 1 gc, .slice (some ⟨i, 0, none⟩) 2 ic, .slice (some ⟨u, 0, none⟩) 2 uc], .slice AM 2 cm, .slice (some ⟨pk, 0, none⟩) 3 3]) ?_ rfl HQ.out
  simp [results, Tryz.results15, go_sem, b33, b34, b35, b36, b37, b38, b39]
end Go.Proofs.YtngjakahanmepaaGreatDoor
namespace Go.Proofs.YtngjakahanmepaaGreatDoor
open Go.RowKit
set_option linter.unusedVariables false
set_option linter.unusedSimpArgs false
theorem MBR.shut {w0 w : World} {e : TypeId} {size g n c : Nat} {xs : List Value} {m : List (Nat × List Value)} (h : MBR w0 w e size (.slice (some ⟨g, 0, none⟩) n c) n xs m) : MB w0 w ((g, xs) :: m) :=
  ⟨h.bel, ⟨fun p hp => by
    rcases List.mem_cons.1 hp with rfl | hp
    · exact Bo.of_own h.row.own
    · exact h.row.mem.box p hp, by
    show (g :: m.map Prod.fst).Nodup
    rw [List.nodup_cons]
    refine ⟨fun hm => ?_, h.row.mem.nd⟩
    obtain ⟨p, hp, e⟩ := List.mem_map.1 hm
    exact h.row.out g rfl p hp e⟩, ge_cons h.ge (World.ownsRow.lt h.row.own g rfl).1⟩
theorem info_span : (Tryz.prog.info? 109).map (fun i => (i.zero, i.size, i.bytes)) = some (some (.agg #[.int .i64 0, .int .i64 0]), 2, 16) := by kernel_rfl
theorem info_known : (Tryz.prog.info? 113).map (fun i => (i.zero, i.size, i.bytes)) = some (some (.agg #[.int .i64 0, .int .i64 0, .int .i64 0, .int .i64 0, .int .i64 0]), 5, 40) := by kernel_rfl
end Go.Proofs.YtngjakahanmepaaGreatDoor
