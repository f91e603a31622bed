/- Part 37 of the proof of TopRights: step.Start at the lake. Printed by wip/tools/mkstart.py. -/
import Derived.Test.YtngjakahanmepaaGreatDoorM35
import Derived.Test.YtngjakahanmepaaGreatDoorM36
import Derived.Test.YtngjakahanmepaaGreatDoorM30
namespace Go.Proofs.YtngjakahanmepaaGreatDoor
open Go.RowKit
set_option linter.unusedVariables false
set_option linter.unusedSimpArgs false
theorem info_rows : (Tryz.prog.info? 29).map (fun i => (i.zero, i.size, i.bytes)) = some (some (.slice none 0 0), 1, 24) := by kernel_rfl
theorem info_gate : (Tryz.prog.info? 115).map (fun i => (i.zero, i.size, i.bytes)) = some (some (.agg #[.int .i64 0, .int .i64 0, .bool false, .bool false]), 4, 24) := by kernel_rfl
def lkB (pA : Option Addr) (ob pc lA tA gA rm : Nat) : List Value := [.string demoN, .slice (bk ob) 2 2, .int .i64 1, .slice pA 3 pc, .slice (bk lA) 1 1, .slice (bk tA) 1 1, .slice (bk gA) 1 1, .slice none 0 0, .slice none 0 0, .slice (bk rm) 3 3, .int .i64 1]
def stZ : List Value := [.int .i64 0, .slice none 0 0, .slice none 0 0, .slice none 0 0, .slice none 0 0, .slice none 0 0, .slice none 0 0]
def stL (g4 g8 g12 g16 g20 : Nat) : List Value := [.int .i64 0, .slice (some ⟨g4, 0, none⟩) 3 3, .slice (some ⟨g8, 0, none⟩) 3 3, .slice none 0 0, .slice (some ⟨g12, 0, none⟩) 1 1, .slice (some ⟨g16, 0, none⟩) 2 2, .slice (some ⟨g20, 0, none⟩) 2 2]
def stD : Nat → Nat
  | 4 => 12
  | 8 => 16
  | 12 => 20
  | 16 => 24
  | 20 => 28
  | _ => 5
def stV : Nat → Nat → Value
  | 4, g => .slice (some ⟨g, 0, none⟩) 3 3
  | 8, g => .slice (some ⟨g, 0, none⟩) 3 3
  | 12, g => .slice (some ⟨g, 0, none⟩) 1 1
  | 16, g => .slice (some ⟨g, 0, none⟩) 2 2
  | 20, g => .slice (some ⟨g, 0, none⟩) 2 2
  | _, g => .pointer (some ⟨g, 0, none⟩)
def stC : Nat → List Value
  | 4 => [.slice none 0 0, .slice none 0 0, .slice none 0 0]
  | 8 => [.int .i64 0, .int .i64 0, .int .i64 0]
  | 12 => [.int .i64 0, .int .i64 0, .bool false, .bool false]
  | 16 => [.int .i64 0, .int .i64 0]
  | 20 => [.int .i64 0, .int .i64 0]
  | _ => [.int .i64 0, .slice none 0 0, .slice none 0 0, .slice none 0 0, .slice none 0 0, .slice none 0 0, .slice none 0 0]
def rowV (g c : Nat) : Value := .slice (some ⟨g, 0, none⟩) 2 c
structure StQ (w : World) (e : Ending) (w' : World) : Prop where
  ex : ∃ g4 g8 g12 g16 g20 a ac b bc c cc, e = .returned (.agg #[.int .i64 0, .slice (some ⟨g4, 0, none⟩) 3 3, .slice (some ⟨g8, 0, none⟩) 3 3, .slice none 0 0, .slice (some ⟨g12, 0, none⟩) 1 1, .slice (some ⟨g16, 0, none⟩) 2 2, .slice (some ⟨g20, 0, none⟩) 2 2]) ∧ Mem w' [(c, ints [0, 0]), (b, ints [100, 0]), (a, ints [600, 300]), (g4, [rowV a ac, rowV b bc, rowV c cc]), (g8, ints [0, 0, 0]), (g12, [.int .i64 0, .int .i64 0, .bool false, .bool false]), (g16, ints [0, 0]), (g20, ints [0, 0])]
  bel : Below w.heap.size w w'
set_option maxHeartbeats 64000000 in
set_option maxRecDepth 100000 in
theorem start_any {lv rt ob rm s0 r0 s1 r1 s2 lA tA gA : Nat} {pA : Option Addr} (pc : Nat) (w : World) (hL : LakeR w lv rt ob rm s0 r0 s1 r1 s2 lA tA gA pA) : Calls Tryz.prog 14 #[lakeB ob rm lA tA gA pA pc, .int .i64 0] w (StQ w) := by
  obtain ⟨ir, hr0, hr1, hr2, hr3⟩ := info_parts info_rows
  obtain ⟨ii, hi0, hi1, hi2, hi3⟩ := info_parts info_int2
  obtain ⟨ig, hg0, hg1, hg2, hg3⟩ := info_parts info_gate
  have hml : 3 ≤ maxLen ∧ 2 ≤ maxLen ∧ 1 ≤ maxLen := by unfold maxLen; omega
  have INF := Lib.hid (And.intro hr0 (And.intro hr1 (And.intro hr2 hr3)))
  have INI := Lib.hid (And.intro hi0 (And.intro hi1 (And.intro hi2 hi3)))
  have ING := Lib.hid (And.intro hg0 (And.intro hg1 (And.intro hg2 hg3)))
  have HML := Lib.hid hml
  have HL := Lib.hid hL
  clear hr0 hr1 hr2 hr3 hi0 hi1 hi2 hi3 hg0 hg1 hg2 hg3 hml hL
  show Calls Tryz.prog 14 #[.agg #[.string demoN, .slice (bk ob) 2 2, .int .i64 1, .slice pA 3 pc, .slice (bk lA) 1 1, .slice (bk tA) 1 1, .slice (bk gA) 1 1, .slice none 0 0, .slice none 0 0, .slice (bk rm) 3 3, .int .i64 1], .int .i64 0] w (StQ w)
  go_enter Tryz.func14, Tryz.ntmps14
  go_upto_region 1 with fail
  refine wp_rebase _ (fun V hV x0 => ?_)
  have HM0 := Lib.hid (show MB w V [(w.heap.size + 1, stZ), (w.heap.size, lkB pA ob pc lA tA gA rm)] by
    rw [hV]
    exact ((MB.nil w).new 31 [.string demoN, .slice (bk ob) 2 2, .int .i64 1, .slice pA 3 pc, .slice (bk lA) 1 1, .slice (bk tA) 1 1, .slice (bk gA) 1 1, .slice none 0 0, .slice none 0 0, .slice (bk rm) 3 3, .int .i64 1]).newAt (by rw [World.size_alloc]) 55 [.int .i64 0, .slice none 0 0, .slice none 0 0, .slice none 0 0, .slice none 0 0, .slice none 0 0, .slice none 0 0])
  clear hV
  have b1 := fun z : BelW V => (show z.w.cell? ⟨w.heap.size, 1, none⟩ = some (.slice (bk ob) 2 2) from (HM0.out.box 1 rfl z.2).cell 1 rfl)
  have b3 := fun z : BelW V => (show z.w.cell? ⟨w.heap.size, 3, none⟩ = some (.slice pA 3 pc) from (HM0.out.box 1 rfl z.2).cell 3 rfl)
  have b4 := fun z : BelW V => (show z.w.cell? ⟨w.heap.size, 4, none⟩ = some (.slice (bk lA) 1 1) from (HM0.out.box 1 rfl z.2).cell 4 rfl)
  have HS0 := Lib.hid (show ∃ z : BelW V, x0.w.drew = z.w from ⟨⟨_, x0.2.drew⟩, rfl⟩)
  refine wp_region_tail 23 (fun w' => ∃ z : BelW V, w' = z.w) (by kernel_rfl) (by kernel_rfl) HS0.out ?_
  refine wpK_takeD (i := 0) (v := ?v1) (some 8) (by kernel_rfl) rfl (by with_unfolding_all rfl) (by omega) (by kernel_rfl) (by kernel_rfl) (fun _ _ _ h => h) (Or.inl ⟨by rfl, ?y1⟩) HS0.out ?_
  case y1 => intro w1 hS; first | (go_simp <;> with_reducible rfl) | (obtain ⟨z, rfl⟩ := hS; (go_simp <;> with_reducible rfl))
  simp only [Act.put, List.setIfInBounds_toArray, List.set_cons_zero, List.set_cons_succ]
  refine wpK_takeD (i := 1) (v := ?v2) (some 9) (by kernel_rfl) rfl (by with_unfolding_all rfl) (by omega) (by kernel_rfl) (by kernel_rfl) (fun _ _ _ h => h) (Or.inl ⟨by rfl, ?y2⟩) HS0.out ?_
  case y2 => intro w1 hS; first | (go_simp <;> with_reducible rfl) | (obtain ⟨z, rfl⟩ := hS; (go_simp <;> with_reducible rfl))
  simp only [Act.put, List.setIfInBounds_toArray, List.set_cons_zero, List.set_cons_succ]
  refine wpK_takeD (i := 2) (v := ?v3) (some 10) (by kernel_rfl) rfl (by with_unfolding_all rfl) (by omega) (by kernel_rfl) (by kernel_rfl) (fun _ _ _ h => h) (Or.inl ⟨by rfl, ?y3⟩) HS0.out ?_
  case y3 => intro w1 hS; first | (go_simp <;> with_reducible rfl) | (obtain ⟨z, rfl⟩ := hS; (go_simp <;> with_reducible rfl))
  simp only [Act.put, List.setIfInBounds_toArray, List.set_cons_zero, List.set_cons_succ]
  refine wpK_takeD (i := 3) (v := ?v4) (some 11) (by kernel_rfl) rfl (by with_unfolding_all rfl) (by omega) (by kernel_rfl) (by kernel_rfl) (fun _ _ _ h => h) (Or.inl ⟨by rfl, ?y4⟩) HS0.out ?_
  case y4 => intro w1 hS; first | (go_simp <;> with_reducible rfl) | (obtain ⟨z, rfl⟩ := hS; (go_simp <;> with_reducible rfl))
  simp only [Act.put, List.setIfInBounds_toArray, List.set_cons_zero, List.set_cons_succ]
  refine wpK_takeD (i := 5) (v := ?v5) (some 13) (by kernel_rfl) rfl (by with_unfolding_all rfl) (by omega) (by kernel_rfl) (by kernel_rfl) (fun _ _ _ h => h) (Or.inl ⟨by rfl, ?y5⟩) HS0.out ?_
  case y5 => intro w1 hS; first | (go_simp <;> with_reducible rfl) | (obtain ⟨z, rfl⟩ := hS; (go_simp <;> with_reducible rfl))
  simp only [Act.put, List.setIfInBounds_toArray, List.set_cons_zero, List.set_cons_succ]
  refine wpK_takeD (i := 6) (v := ?v6) (some 14) (by kernel_rfl) rfl (by with_unfolding_all rfl) (by omega) (by kernel_rfl) (by kernel_rfl) (fun _ _ _ h => h) (Or.inl ⟨by rfl, ?y6⟩) HS0.out ?_
  case y6 => intro w1 hS; first | (go_simp <;> with_reducible rfl) | (obtain ⟨z, rfl⟩ := hS; (go_simp <;> with_reducible rfl))
  simp only [Act.put, List.setIfInBounds_toArray, List.set_cons_zero, List.set_cons_succ]
  refine wpK_takeD (i := 7) (v := ?v7) (some 15) (by kernel_rfl) rfl (by with_unfolding_all rfl) (by omega) (by kernel_rfl) (by kernel_rfl) (fun _ _ _ h => h) (Or.inl ⟨by rfl, ?y7⟩) HS0.out ?_
  case y7 => intro w1 hS; first | (go_simp <;> with_reducible rfl) | (obtain ⟨z, rfl⟩ := hS; (go_simp <;> with_reducible rfl))
  simp only [Act.put, List.setIfInBounds_toArray, List.set_cons_zero, List.set_cons_succ]
  refine wpK_takeD (i := 9) (v := ?v8) (some 17) (by kernel_rfl) rfl (by with_unfolding_all rfl) (by omega) (by kernel_rfl) (by kernel_rfl) (fun _ _ _ h => h) (Or.inl ⟨by rfl, ?y8⟩) HS0.out ?_
  case y8 => intro w1 hS; first | (go_simp <;> with_reducible rfl) | (obtain ⟨z, rfl⟩ := hS; (go_simp <;> with_reducible rfl))
  simp only [Act.put, List.setIfInBounds_toArray, List.set_cons_zero, List.set_cons_succ]
  refine wpK_takeD (i := 10) (v := ?v9) (some 18) (by kernel_rfl) rfl (by with_unfolding_all rfl) (by omega) (by kernel_rfl) (by kernel_rfl) (fun _ _ _ h => h) (Or.inl ⟨by rfl, ?y9⟩) HS0.out ?_
  case y9 => intro w1 hS; first | (go_simp <;> with_reducible rfl) | (obtain ⟨z, rfl⟩ := hS; (go_simp <;> with_reducible rfl))
  simp only [Act.put, List.setIfInBounds_toArray, List.set_cons_zero, List.set_cons_succ]
  refine wpK_takeD (i := 11) (v := ?v10) (some 19) (by kernel_rfl) rfl (by with_unfolding_all rfl) (by omega) (by kernel_rfl) (by kernel_rfl) (fun _ _ _ h => h) (Or.inl ⟨by rfl, ?y10⟩) HS0.out ?_
  case y10 => intro w1 hS; first | (go_simp <;> with_reducible rfl) | (obtain ⟨z, rfl⟩ := hS; (go_simp <;> with_reducible rfl))
  simp only [Act.put, List.setIfInBounds_toArray, List.set_cons_zero, List.set_cons_succ]
  refine wpK_takeD (i := 13) (v := ?v11) (some 21) (by kernel_rfl) rfl (by with_unfolding_all rfl) (by omega) (by kernel_rfl) (by kernel_rfl) (fun _ _ _ h => h) (Or.inl ⟨by rfl, ?y11⟩) HS0.out ?_
  case y11 => intro w1 hS; first | (go_simp <;> with_reducible rfl) | (obtain ⟨z, rfl⟩ := hS; (go_simp <;> with_reducible rfl))
  simp only [Act.put, List.setIfInBounds_toArray, List.set_cons_zero, List.set_cons_succ]
  refine wpK_takeD (i := 14) (v := ?v12) (some 22) (by kernel_rfl) rfl (by with_unfolding_all rfl) (by omega) (by kernel_rfl) (by kernel_rfl) (fun _ _ _ h => h) (Or.inl ⟨by rfl, ?y12⟩) HS0.out ?_
  case y12 => intro w1 hS; first | (go_simp <;> with_reducible rfl) | (obtain ⟨z, rfl⟩ := hS; (go_simp <;> with_reducible rfl))
  simp only [Act.put, List.setIfInBounds_toArray, List.set_cons_zero, List.set_cons_succ]
  refine wpK_takeD (i := 15) (v := ?v13) (some 23) (by kernel_rfl) rfl (by with_unfolding_all rfl) (by omega) (by kernel_rfl) (by kernel_rfl) (fun _ _ _ h => h) (Or.inl ⟨by rfl, ?y13⟩) HS0.out ?_
  case y13 => intro w1 hS; first | (go_simp <;> with_reducible rfl) | (obtain ⟨z, rfl⟩ := hS; (go_simp <;> with_reducible rfl))
  simp only [Act.put, List.setIfInBounds_toArray, List.set_cons_zero, List.set_cons_succ]
  refine wpK_takeD (i := 17) (v := ?v14) (some 25) (by kernel_rfl) rfl (by with_unfolding_all rfl) (by omega) (by kernel_rfl) (by kernel_rfl) (fun _ _ _ h => h) (Or.inl ⟨by rfl, ?y14⟩) HS0.out ?_
  case y14 => intro w1 hS; first | (go_simp <;> with_reducible rfl) | (obtain ⟨z, rfl⟩ := hS; (go_simp <;> with_reducible rfl))
  simp only [Act.put, List.setIfInBounds_toArray, List.set_cons_zero, List.set_cons_succ]
  refine wpK_takeD (i := 18) (v := ?v15) (some 26) (by kernel_rfl) rfl (by with_unfolding_all rfl) (by omega) (by kernel_rfl) (by kernel_rfl) (fun _ _ _ h => h) (Or.inl ⟨by rfl, ?y15⟩) HS0.out ?_
  case y15 => intro w1 hS; first | (go_simp <;> with_reducible rfl) | (obtain ⟨z, rfl⟩ := hS; (go_simp <;> with_reducible rfl))
  simp only [Act.put, List.setIfInBounds_toArray, List.set_cons_zero, List.set_cons_succ]
  refine wpK_takeD (i := 19) (v := ?v16) (some 27) (by kernel_rfl) rfl (by with_unfolding_all rfl) (by omega) (by kernel_rfl) (by kernel_rfl) (fun _ _ _ h => h) (Or.inl ⟨by rfl, ?y16⟩) HS0.out ?_
  case y16 => intro w1 hS; first | (go_simp <;> with_reducible rfl) | (obtain ⟨z, rfl⟩ := hS; (go_simp <;> with_reducible rfl))
  simp only [Act.put, List.setIfInBounds_toArray, List.set_cons_zero, List.set_cons_succ]
  have hsz : V.heap.size ≤ x0.w.drew.heap.size := x0.2.drew.size
  refine wpK_makersX (f := 0) [4, 8, 12, 16, 20] 22 21 (by decide) (by decide) stD (by decide) 29 (by decide) (fun vs => .agg #[.int .i64 0, vs 4, vs 8, .slice none 0 0, vs 12, vs 16, vs 20]) (FB stV stC) (by kernel_rfl) (by kernel_rfl) (by decide) (by omega) ?run ?runx FB.next (fun W hW => ⟨⟨W, below_next (show Below V.heap.size V x0.w.drew from x0.2.drew) hW⟩, rfl⟩) ?bld (fun _ _ => rfl) ?_
  case run =>
    intro i hi
    simp only [List.mem_append, List.mem_cons, List.not_mem_nil, or_false] at hi
    rcases hi with (rfl | rfl | rfl | rfl | rfl) | rfl
    · exact maker_slice (M := [4, 8, 12, 16, 20] ++ [22]) (d := stD) (mkv := stV) (cs := stC) 4 rfl rfl 11 51 29 rfl rfl (by decide) ir (.slice none 0 0) 1 Tryz.underlying51 INF.out.1 INF.out.2.1 INF.out.2.2.1 3 (by kernel_rfl) (by rw [INF.out.2.2.2]; omega) HML.out.1 (fun _ => rfl) (by kernel_rfl)
    · exact maker_slice (M := [4, 8, 12, 16, 20] ++ [22]) (d := stD) (mkv := stV) (cs := stC) 8 rfl rfl 15 29 3 rfl rfl (by decide) ii (.int .i64 0) 1 Tryz.underlying29 INI.out.1 INI.out.2.1 INI.out.2.2.1 3 (by kernel_rfl) (by rw [INI.out.2.2.2]; omega) HML.out.1 (fun _ => rfl) (by kernel_rfl)
    · exact maker_slice (M := [4, 8, 12, 16, 20] ++ [22]) (d := stD) (mkv := stV) (cs := stC) 12 rfl rfl 19 53 115 rfl rfl (by decide) ig (.agg #[.int .i64 0, .int .i64 0, .bool false, .bool false]) 4 Tryz.underlying53 ING.out.1 ING.out.2.1 ING.out.2.2.1 1 (by kernel_rfl) (by rw [ING.out.2.2.2]; omega) HML.out.2.2 (fun _ => rfl) (by kernel_rfl)
    · exact maker_slice (M := [4, 8, 12, 16, 20] ++ [22]) (d := stD) (mkv := stV) (cs := stC) 16 rfl rfl 23 29 3 rfl rfl (by decide) ii (.int .i64 0) 1 Tryz.underlying29 INI.out.1 INI.out.2.1 INI.out.2.2.1 2 (by kernel_rfl) (by rw [INI.out.2.2.2]; omega) HML.out.2.1 (fun _ => rfl) (by kernel_rfl)
    · exact maker_slice (M := [4, 8, 12, 16, 20] ++ [22]) (d := stD) (mkv := stV) (cs := stC) 20 rfl rfl 27 29 3 rfl rfl (by decide) ii (.int .i64 0) 1 Tryz.underlying29 INI.out.1 INI.out.2.1 INI.out.2.2.1 2 (by kernel_rfl) (by rw [INI.out.2.2.2]; omega) HML.out.2.1 (fun _ => rfl) (by kernel_rfl)
    · exact maker_alloc (M := [4, 8, 12, 16, 20] ++ [22]) (d := stD) (mkv := stV) (cs := stC) 22 rfl rfl rfl 55 (fun a w => by kernel_rfl) (fun _ => rfl)
  case runx => exact maker_allocX (d := stD) (mkv := stV) (cs := stC) 22 rfl rfl rfl 55 (fun a w => by kernel_rfl) (fun _ => rfl)
  case bld =>
    refine ⟨_, rfl, rfl, fun _ _ _ _ h => h, fun vs lo hi W hm => ?_⟩
    have h4 := (hm.at' 4 (by decide)).1
    obtain ⟨g4, e4, x4⟩ := h4
    have h8 := (hm.at' 8 (by decide)).1
    obtain ⟨g8, e8, x8⟩ := h8
    have h12 := (hm.at' 12 (by decide)).1
    obtain ⟨g12, e12, x12⟩ := h12
    have h16 := (hm.at' 16 (by decide)).1
    obtain ⟨g16, e16, x16⟩ := h16
    have h20 := (hm.at' 20 (by decide)).1
    obtain ⟨g20, e20, x20⟩ := h20
    simp only [putAll, List.foldl_cons, List.foldl_nil, e4, e8, e12, e16, e20, stV]
    exact ⟨Or.inl ⟨by rfl, fun w1 _ => by kernel_rfl⟩, fun v => Or.inl ⟨by rfl, fun w1 _ => by kernel_rfl⟩⟩
  intro vs lo hi w1 hm
  have h4 := hm.at' 4 (by decide)
  obtain ⟨⟨g4, e4, l4, u4, B4⟩, s4, t4⟩ := h4
  have h8 := hm.at' 8 (by decide)
  obtain ⟨⟨g8, e8, l8, u8, B8⟩, s8, t8⟩ := h8
  have h12 := hm.at' 12 (by decide)
  obtain ⟨⟨g12, e12, l12, u12, B12⟩, s12, t12⟩ := h12
  have h16 := hm.at' 16 (by decide)
  obtain ⟨⟨g16, e16, l16, u16, B16⟩, s16, t16⟩ := h16
  have h20 := hm.at' 20 (by decide)
  obtain ⟨⟨g20, e20, l20, u20, B20⟩, s20, t20⟩ := h20
  have h22 := hm.at' 22 (by decide)
  obtain ⟨⟨g22, e22, l22, u22, B22⟩, s22, t22⟩ := h22
  have hb1 := hm.bel
  have n22_4 : g22 ≠ g4 := dis_ne ⟨l22, u22⟩ ⟨l4, u4⟩ (hm.dis 22 (by decide) 4 (by decide) (by decide))
  have n22_8 : g22 ≠ g8 := dis_ne ⟨l22, u22⟩ ⟨l8, u8⟩ (hm.dis 22 (by decide) 8 (by decide) (by decide))
  have n22_12 : g22 ≠ g12 := dis_ne ⟨l22, u22⟩ ⟨l12, u12⟩ (hm.dis 22 (by decide) 12 (by decide) (by decide))
  have n22_16 : g22 ≠ g16 := dis_ne ⟨l22, u22⟩ ⟨l16, u16⟩ (hm.dis 22 (by decide) 16 (by decide) (by decide))
  have n22_20 : g22 ≠ g20 := dis_ne ⟨l22, u22⟩ ⟨l20, u20⟩ (hm.dis 22 (by decide) 20 (by decide) (by decide))
  have n4_8 : g4 ≠ g8 := dis_ne ⟨l4, u4⟩ ⟨l8, u8⟩ (hm.dis 4 (by decide) 8 (by decide) (by decide))
  have n4_12 : g4 ≠ g12 := dis_ne ⟨l4, u4⟩ ⟨l12, u12⟩ (hm.dis 4 (by decide) 12 (by decide) (by decide))
  have n4_16 : g4 ≠ g16 := dis_ne ⟨l4, u4⟩ ⟨l16, u16⟩ (hm.dis 4 (by decide) 16 (by decide) (by decide))
  have n4_20 : g4 ≠ g20 := dis_ne ⟨l4, u4⟩ ⟨l20, u20⟩ (hm.dis 4 (by decide) 20 (by decide) (by decide))
  have n8_12 : g8 ≠ g12 := dis_ne ⟨l8, u8⟩ ⟨l12, u12⟩ (hm.dis 8 (by decide) 12 (by decide) (by decide))
  have n8_16 : g8 ≠ g16 := dis_ne ⟨l8, u8⟩ ⟨l16, u16⟩ (hm.dis 8 (by decide) 16 (by decide) (by decide))
  have n8_20 : g8 ≠ g20 := dis_ne ⟨l8, u8⟩ ⟨l20, u20⟩ (hm.dis 8 (by decide) 20 (by decide) (by decide))
  have n12_16 : g12 ≠ g16 := dis_ne ⟨l12, u12⟩ ⟨l16, u16⟩ (hm.dis 12 (by decide) 16 (by decide) (by decide))
  have n12_20 : g12 ≠ g20 := dis_ne ⟨l12, u12⟩ ⟨l20, u20⟩ (hm.dis 12 (by decide) 20 (by decide) (by decide))
  have n16_20 : g16 ≠ g20 := dis_ne ⟨l16, u16⟩ ⟨l20, u20⟩ (hm.dis 16 (by decide) 20 (by decide) (by decide))
  have HM1 := Lib.hid (show MB w w1 [(g22, stC 22), (g4, stC 4), (g8, stC 8), (g12, stC 12), (g16, stC 16), (g20, stC 20), (w.heap.size + 1, stZ), (w.heap.size, lkB pA ob pc lA tA gA rm)] from by
    have hbV : Below V.heap.size V w1 := below_next (show Below V.heap.size V x0.w.drew from x0.2.drew) hb1
    have h0 := HM0.out.next hbV
    have hge : w.heap.size + 1 < V.heap.size := (HM0.out.get 0 rfl).lt
    refine ⟨h0.bel, ⟨?_, ?_⟩, ?_⟩
    · intro p hp
      simp only [List.mem_cons, List.not_mem_nil, or_false] at hp
      rcases hp with rfl | rfl | rfl | rfl | rfl | rfl | rfl | rfl
      · exact B22
      · exact B4
      · exact B8
      · exact B12
      · exact B16
      · exact B20
      · exact h0.get 0 rfl
      · exact h0.get 1 rfl
    · simp only [List.map_cons, List.map_nil, List.nodup_cons, List.mem_cons, List.not_mem_nil, or_false, not_or]
      repeat' apply And.intro
      all_goals (first | assumption | omega | trivial | simp)
    · intro p hp
      simp only [List.mem_cons, List.not_mem_nil, or_false] at hp
      have hv : w.heap.size ≤ V.heap.size := HM0.out.bel.size
      rcases hp with rfl | rfl | rfl | rfl | rfl | rfl | rfl | rfl
      all_goals (show w.heap.size ≤ _)
      all_goals omega)
  have HB1 := Lib.hid (show ∃ z : BelW V, w1 = z.w from ⟨⟨w1, below_next (show Below V.heap.size V x0.w.drew from x0.2.drew) hb1⟩, rfl⟩)
  simp only [putAll, List.cons_append, List.nil_append, List.foldl_cons, List.foldl_nil, stD, e4, e8, e12, e16, e20, e22, stV, Act.put, List.setIfInBounds_toArray, List.set_cons_zero, List.set_cons_succ]
  clear hm hb1 B4 B8 B12 B16 B20 B22 b1 b3 b4 e4 e8 e12 e16 e20 e22 l4 l8 l12 l16 l20 l22 u4 u8 u12 u16 u20 u22 s4 s8 s12 s16 s20 s22 t4 t8 t12 t16 t20 t22 hsz
  clear n22_4 n22_8 n22_12 n22_16 n22_20 n4_8 n4_12 n4_16 n4_20 n8_12 n8_16 n8_20 n12_16 n12_20 n16_20
  refine wpK_done (by kernel_rfl) ?_
  simp only [List.drop_succ_cons, List.drop_zero]
  go_wp2_with (first | (with_reducible refine wpList_store_named rfl 55 _ _ (by with_reducible rfl) g22 0 #[.int .i64 0, .slice (some ⟨g4, 0, none⟩) 3 3, .slice (some ⟨g8, 0, none⟩) 3 3, .slice none 0 0, .slice (some ⟨g12, 0, none⟩) 1 1, .slice (some ⟨g16, 0, none⟩) 2 2, .slice (some ⟨g20, 0, none⟩) 2 2] (by with_unfolding_all rfl) (by with_unfolding_all rfl) (by with_unfolding_all exact (HM1.out.get 0 rfl).there) (by kernel_rfl) (by with_unfolding_all rfl) ?_))
  intro W2 hW2
  have HM2 := Lib.hid (show MB w W2 ([(g22, stL g4 g8 g12 g16 g20), (g4, stC 4), (g8, stC 8), (g12, stC 12), (g16, stC 16), (g20, stC 20), (w.heap.size + 1, stZ), (w.heap.size, lkB pA ob pc lA tA gA rm)]) by
    rw [hW2.out]
    exact HM1.out.fill 0 rfl [.int .i64 0, .slice (some ⟨g4, 0, none⟩) 3 3, .slice (some ⟨g8, 0, none⟩) 3 3, .slice none 0 0, .slice (some ⟨g12, 0, none⟩) 1 1, .slice (some ⟨g16, 0, none⟩) 2 2, .slice (some ⟨g20, 0, none⟩) 2 2] rfl)
  clear hW2 HM1 HB1 HS0 HM0
  obtain ⟨pb, po, rfl, -, HP0, HP1, HP2⟩ := lake_pl HL.out
  have HPL := Lib.hid (And.intro HP0 (And.intro HP1 HP2))
  clear HP0 HP1 HP2
  go_upto_region 2 with fail
  refine wp_rebase _ (fun V1 hV1 x2 => ?_)
  have HM3 := Lib.hid (show MB w V1 [(g22, stL g4 g8 g12 g16 g20), (g4, [.slice none 0 0, .slice none 0 0, .slice none 0 0]), (g8, [.int .i64 0, .int .i64 0, .int .i64 0]), (g12, [.int .i64 0, .int .i64 0, .bool false, .bool false]), (g16, [.int .i64 0, .int .i64 0]), (g20, [.int .i64 0, .int .i64 0]), (w.heap.size + 1, stZ), (w.heap.size, lkB (some ⟨pb, po, none⟩) ob pc lA tA gA rm)] by
    rw [hV1]
    exact HM2.out)
  clear hV1
  clear HM2
  have b4 := fun z : BelW V1 => (show z.w.cell? ⟨w.heap.size, 3, none⟩ = some (.slice (some ⟨pb, po, none⟩) 3 pc) from (HM3.out.box 7 rfl z.2).cell 3 rfl)
  go_wp2_with fail
  refine wp_loop_rounds 4 ?_
  rw [rounds_succ]
  obtain ⟨nb0, hnb0⟩ : ∃ n, x2.w.heap.size = n := ⟨_, rfl⟩
  have HPk := Lib.hid (show ∀ z : BelW V1, z.w.rangeAt pb po (plc (lakeP lv s0 r0)) from fun z => range_bel HPL.out.1 ⟨z.w, below_next HM3.out.bel z.2⟩)
  go_upto_region 5 with (first | (with_reducible refine wpList_load_g 90 _ (by with_reducible rfl) pb po (by with_unfolding_all rfl) (by with_unfolding_all rfl) _ _ (HPk.out _) Tryz.underlying90 (by with_unfolding_all rfl) (by kernel_rfl) ?_) | (with_reducible refine wpList_store_new (z := [.string ⟨#[]⟩, .int .i64 0, .int .i64 0, .int .i64 0, .slice none 0 0, .slice none 0 0, .int .i64 0, .int .i64 0, .int .i64 0, .int .i64 0, .int .i64 0, .slice none 0 0]) (cs := plc (lakeP lv s0 r0)) 90 _ _ (by with_reducible rfl) (by with_unfolding_all rfl) nb0 (by exact hnb0.symm) _ (by with_unfolding_all rfl) (by with_unfolding_all rfl) (by with_unfolding_all rfl) (by kernel_rfl) (by with_unfolding_all rfl) ?_))
  simp only [Act.put]
  refine wp_rebase _ (fun V5 hV5 x6 => ?_)
  have HM7 := Lib.hid (show MB w V5 [(nb0, plc (lakeP lv s0 r0)), (g22, stL g4 g8 g12 g16 g20), (g4, [.slice none 0 0, .slice none 0 0, .slice none 0 0]), (g8, [.int .i64 0, .int .i64 0, .int .i64 0]), (g12, [.int .i64 0, .int .i64 0, .bool false, .bool false]), (g16, [.int .i64 0, .int .i64 0]), (g20, [.int .i64 0, .int .i64 0]), (w.heap.size + 1, stZ), (w.heap.size, lkB (some ⟨pb, po, none⟩) ob pc lA tA gA rm)] by
    rw [hV5]
    exact (HM3.out.next x2.2).newAt hnb0 90 (plc (lakeP lv s0 r0)))
  clear hV5
  clear HPk hnb0 b4
  clear HM3
  have b8 := fun z : BelW V5 => (show z.w.cell? ⟨g22, 1, none⟩ = some (.slice (some ⟨g4, 0, none⟩) 3 3) from (HM7.out.box 1 rfl z.2).cell 1 rfl)
  have b9 := fun z : BelW V5 => (show z.w.cell? ⟨nb0, 5, none⟩ = some (.slice (bk s0) 2 2) from (HM7.out.box 0 rfl z.2).cell 5 rfl)
  have HS := Lib.hid (show ∃ z : BelW V5, x6.w.drew = z.w from ⟨⟨_, x6.2.drew⟩, rfl⟩)
  refine wp_region_tl 6 8 (fun w' => ∃ z : BelW V5, w' = z.w) HS.out ?_
  iterate 5 (refine wpK_nx rfl rfl HS.out (Or.inl ⟨by rfl, fun w1 hS => by first | (go_simp <;> with_reducible rfl) | (obtain ⟨z, rfl⟩ := hS; (go_simp <;> with_reducible rfl))⟩) ?_; simp only [Act.put, List.setIfInBounds_toArray, List.set_cons_zero, List.set_cons_succ])
  have HC := Lib.hid (clone_bo s0 2 2 [600, 300] rfl (by omega) (by omega) x6.w.drew (((HL.out.mem.get 7 rfl).next (below_next HM7.out.bel x6.2.drew)).rd))
  refine wpK_ne rfl ?_
  go_wp2_with fail
  refine HC.out.mono ?_
  rintro e w2 ⟨a, ac, rfl, hbo, hge, hB⟩
  have HB := Lib.hid (show ∃ z : BelW V5, w2 = z.w from ⟨⟨w2, below_next x6.2.drew hB⟩, rfl⟩)
  have HM10 := Lib.hid (show MB w w2 [(a, ints [600, 300]), (nb0, plc (lakeP lv s0 r0)), (g22, stL g4 g8 g12 g16 g20), (g4, [.slice none 0 0, .slice none 0 0, .slice none 0 0]), (g8, [.int .i64 0, .int .i64 0, .int .i64 0]), (g12, [.int .i64 0, .int .i64 0, .bool false, .bool false]), (g16, [.int .i64 0, .int .i64 0]), (g20, [.int .i64 0, .int .i64 0]), (w.heap.size + 1, stZ), (w.heap.size, lkB (some ⟨pb, po, none⟩) ob pc lA tA gA rm)] by
    exact (HM7.out.next x6.2.drew).add hB hbo hge)
  clear hbo hge hB HC HM7
  go_wp2_with fail
  refine ⟨HB.out, wpK_done (by kernel_rfl) ?_⟩
  simp only [List.drop_succ_cons, List.drop_zero]
  clear HB HS b8 b9
  go_wp2_with (first | (refine wpList_store_cell rfl 29 _ _ (by with_reducible rfl) g4 0 (.slice (some ⟨a, 0, none⟩) 2 ac) (by with_unfolding_all rfl) (by with_unfolding_all rfl) (HM10.out.get 3 rfl) (by simp) (by kernel_rfl) rfl ?_))
  intro W3 hW3
  have HM11 := Lib.hid (show MB w W3 [(a, ints [600, 300]), (nb0, plc (lakeP lv s0 r0)), (g22, stL g4 g8 g12 g16 g20), (g4, [.slice (some ⟨a, 0, none⟩) 2 ac, .slice none 0 0, .slice none 0 0]), (g8, [.int .i64 0, .int .i64 0, .int .i64 0]), (g12, [.int .i64 0, .int .i64 0, .bool false, .bool false]), (g16, [.int .i64 0, .int .i64 0]), (g20, [.int .i64 0, .int .i64 0]), (w.heap.size + 1, stZ), (w.heap.size, lkB (some ⟨pb, po, none⟩) ob pc lA tA gA rm)] by
    rw [hW3.out]
    exact HM10.out.put 3 rfl (j := 0) (by simp) (.slice (some ⟨a, 0, none⟩) 2 ac))
  clear hW3 HM10
  go_wp2_with fail
  rw [rounds_succ]
  refine wp_rebase _ (fun V12 hV12 x13 => ?_)
  have HM14 := Lib.hid (show MB w V12 [(a, ints [600, 300]), (nb0, plc (lakeP lv s0 r0)), (g22, stL g4 g8 g12 g16 g20), (g4, [.slice (some ⟨a, 0, none⟩) 2 ac, .slice none 0 0, .slice none 0 0]), (g8, [.int .i64 0, .int .i64 0, .int .i64 0]), (g12, [.int .i64 0, .int .i64 0, .bool false, .bool false]), (g16, [.int .i64 0, .int .i64 0]), (g20, [.int .i64 0, .int .i64 0]), (w.heap.size + 1, stZ), (w.heap.size, lkB (some ⟨pb, po, none⟩) ob pc lA tA gA rm)] by
    rw [hV12]
    exact HM11.out)
  clear hV12
  obtain ⟨nb1, hnb1⟩ : ∃ n, x13.w.heap.size = n := ⟨_, rfl⟩
  have HPk := Lib.hid (show ∀ z : BelW V12, z.w.rangeAt pb (po + 12) (plc (upperP lv s1 r1)) from fun z => range_bel HPL.out.2.1 ⟨z.w, below_next HM14.out.bel z.2⟩)
  go_upto_region 5 with (first | (with_reducible refine wpList_load_g 90 _ (by with_reducible rfl) pb (po + 12) (by with_unfolding_all rfl) (by with_unfolding_all rfl) _ _ (HPk.out _) Tryz.underlying90 (by with_unfolding_all rfl) (by kernel_rfl) ?_) | (with_reducible refine wpList_store_new (z := [.string ⟨#[]⟩, .int .i64 0, .int .i64 0, .int .i64 0, .slice none 0 0, .slice none 0 0, .int .i64 0, .int .i64 0, .int .i64 0, .int .i64 0, .int .i64 0, .slice none 0 0]) (cs := plc (upperP lv s1 r1)) 90 _ _ (by with_reducible rfl) (by with_unfolding_all rfl) nb1 (by exact hnb1.symm) _ (by with_unfolding_all rfl) (by with_unfolding_all rfl) (by with_unfolding_all rfl) (by kernel_rfl) (by with_unfolding_all rfl) ?_))
  simp only [Act.put]
  refine wp_rebase _ (fun V15 hV15 x16 => ?_)
  have HM17 := Lib.hid (show MB w V15 [(nb1, plc (upperP lv s1 r1)), (a, ints [600, 300]), (nb0, plc (lakeP lv s0 r0)), (g22, stL g4 g8 g12 g16 g20), (g4, [.slice (some ⟨a, 0, none⟩) 2 ac, .slice none 0 0, .slice none 0 0]), (g8, [.int .i64 0, .int .i64 0, .int .i64 0]), (g12, [.int .i64 0, .int .i64 0, .bool false, .bool false]), (g16, [.int .i64 0, .int .i64 0]), (g20, [.int .i64 0, .int .i64 0]), (w.heap.size + 1, stZ), (w.heap.size, lkB (some ⟨pb, po, none⟩) ob pc lA tA gA rm)] by
    rw [hV15]
    exact (HM14.out.next x13.2).newAt hnb1 90 (plc (upperP lv s1 r1)))
  clear hV15
  clear HPk hnb1
  clear HM14
  have b18 := fun z : BelW V15 => (show z.w.cell? ⟨g22, 1, none⟩ = some (.slice (some ⟨g4, 0, none⟩) 3 3) from (HM17.out.box 3 rfl z.2).cell 1 rfl)
  have b19 := fun z : BelW V15 => (show z.w.cell? ⟨nb1, 5, none⟩ = some (.slice (bk s1) 2 2) from (HM17.out.box 0 rfl z.2).cell 5 rfl)
  have HS := Lib.hid (show ∃ z : BelW V15, x16.w.drew = z.w from ⟨⟨_, x16.2.drew⟩, rfl⟩)
  refine wp_region_tl 6 8 (fun w' => ∃ z : BelW V15, w' = z.w) HS.out ?_
  iterate 5 (refine wpK_nx rfl rfl HS.out (Or.inl ⟨by rfl, fun w1 hS => by first | (go_simp <;> with_reducible rfl) | (obtain ⟨z, rfl⟩ := hS; (go_simp <;> with_reducible rfl))⟩) ?_; simp only [Act.put, List.setIfInBounds_toArray, List.set_cons_zero, List.set_cons_succ])
  have HC := Lib.hid (clone_bo s1 2 2 [100, 0] rfl (by omega) (by omega) x16.w.drew (((HL.out.mem.get 5 rfl).next (below_next HM17.out.bel x16.2.drew)).rd))
  refine wpK_ne rfl ?_
  go_wp2_with fail
  refine HC.out.mono ?_
  rintro e w2 ⟨b, bc, rfl, hbo, hge, hB⟩
  have HB := Lib.hid (show ∃ z : BelW V15, w2 = z.w from ⟨⟨w2, below_next x16.2.drew hB⟩, rfl⟩)
  have HM20 := Lib.hid (show MB w w2 [(b, ints [100, 0]), (nb1, plc (upperP lv s1 r1)), (a, ints [600, 300]), (nb0, plc (lakeP lv s0 r0)), (g22, stL g4 g8 g12 g16 g20), (g4, [.slice (some ⟨a, 0, none⟩) 2 ac, .slice none 0 0, .slice none 0 0]), (g8, [.int .i64 0, .int .i64 0, .int .i64 0]), (g12, [.int .i64 0, .int .i64 0, .bool false, .bool false]), (g16, [.int .i64 0, .int .i64 0]), (g20, [.int .i64 0, .int .i64 0]), (w.heap.size + 1, stZ), (w.heap.size, lkB (some ⟨pb, po, none⟩) ob pc lA tA gA rm)] by
    exact (HM17.out.next x16.2.drew).add hB hbo hge)
  clear hbo hge hB HC HM17
  go_wp2_with fail
  refine ⟨HB.out, wpK_done (by kernel_rfl) ?_⟩
  simp only [List.drop_succ_cons, List.drop_zero]
  clear HB HS b18 b19
  go_wp2_with (first | (refine wpList_store_cell rfl 29 _ _ (by with_reducible rfl) g4 1 (.slice (some ⟨b, 0, none⟩) 2 bc) (by with_unfolding_all rfl) (by with_unfolding_all rfl) (HM20.out.get 5 rfl) (by simp) (by kernel_rfl) rfl ?_))
  intro W4 hW4
  have HM21 := Lib.hid (show MB w W4 [(b, ints [100, 0]), (nb1, plc (upperP lv s1 r1)), (a, ints [600, 300]), (nb0, plc (lakeP lv s0 r0)), (g22, stL g4 g8 g12 g16 g20), (g4, [.slice (some ⟨a, 0, none⟩) 2 ac, .slice (some ⟨b, 0, none⟩) 2 bc, .slice none 0 0]), (g8, [.int .i64 0, .int .i64 0, .int .i64 0]), (g12, [.int .i64 0, .int .i64 0, .bool false, .bool false]), (g16, [.int .i64 0, .int .i64 0]), (g20, [.int .i64 0, .int .i64 0]), (w.heap.size + 1, stZ), (w.heap.size, lkB (some ⟨pb, po, none⟩) ob pc lA tA gA rm)] by
    rw [hW4.out]
    exact HM20.out.put 5 rfl (j := 1) (by simp) (.slice (some ⟨b, 0, none⟩) 2 bc))
  clear hW4 HM20
  go_wp2_with fail
  rw [rounds_succ]
  refine wp_rebase _ (fun V22 hV22 x23 => ?_)
  have HM24 := Lib.hid (show MB w V22 [(b, ints [100, 0]), (nb1, plc (upperP lv s1 r1)), (a, ints [600, 300]), (nb0, plc (lakeP lv s0 r0)), (g22, stL g4 g8 g12 g16 g20), (g4, [.slice (some ⟨a, 0, none⟩) 2 ac, .slice (some ⟨b, 0, none⟩) 2 bc, .slice none 0 0]), (g8, [.int .i64 0, .int .i64 0, .int .i64 0]), (g12, [.int .i64 0, .int .i64 0, .bool false, .bool false]), (g16, [.int .i64 0, .int .i64 0]), (g20, [.int .i64 0, .int .i64 0]), (w.heap.size + 1, stZ), (w.heap.size, lkB (some ⟨pb, po, none⟩) ob pc lA tA gA rm)] by
    rw [hV22]
    exact HM21.out)
  clear hV22
  obtain ⟨nb2, hnb2⟩ : ∃ n, x23.w.heap.size = n := ⟨_, rfl⟩
  have HPk := Lib.hid (show ∀ z : BelW V22, z.w.rangeAt pb (po + 24) (plc (lowerP lv s2)) from fun z => range_bel HPL.out.2.2 ⟨z.w, below_next HM24.out.bel z.2⟩)
  go_upto_region 5 with (first | (with_reducible refine wpList_load_g 90 _ (by with_reducible rfl) pb (po + 24) (by with_unfolding_all rfl) (by with_unfolding_all rfl) _ _ (HPk.out _) Tryz.underlying90 (by with_unfolding_all rfl) (by kernel_rfl) ?_) | (with_reducible refine wpList_store_new (z := [.string ⟨#[]⟩, .int .i64 0, .int .i64 0, .int .i64 0, .slice none 0 0, .slice none 0 0, .int .i64 0, .int .i64 0, .int .i64 0, .int .i64 0, .int .i64 0, .slice none 0 0]) (cs := plc (lowerP lv s2)) 90 _ _ (by with_reducible rfl) (by with_unfolding_all rfl) nb2 (by exact hnb2.symm) _ (by with_unfolding_all rfl) (by with_unfolding_all rfl) (by with_unfolding_all rfl) (by kernel_rfl) (by with_unfolding_all rfl) ?_))
  simp only [Act.put]
  refine wp_rebase _ (fun V25 hV25 x26 => ?_)
  have HM27 := Lib.hid (show MB w V25 [(nb2, plc (lowerP lv s2)), (b, ints [100, 0]), (nb1, plc (upperP lv s1 r1)), (a, ints [600, 300]), (nb0, plc (lakeP lv s0 r0)), (g22, stL g4 g8 g12 g16 g20), (g4, [.slice (some ⟨a, 0, none⟩) 2 ac, .slice (some ⟨b, 0, none⟩) 2 bc, .slice none 0 0]), (g8, [.int .i64 0, .int .i64 0, .int .i64 0]), (g12, [.int .i64 0, .int .i64 0, .bool false, .bool false]), (g16, [.int .i64 0, .int .i64 0]), (g20, [.int .i64 0, .int .i64 0]), (w.heap.size + 1, stZ), (w.heap.size, lkB (some ⟨pb, po, none⟩) ob pc lA tA gA rm)] by
    rw [hV25]
    exact (HM24.out.next x23.2).newAt hnb2 90 (plc (lowerP lv s2)))
  clear hV25
  clear HPk hnb2
  clear HM24
  have b28 := fun z : BelW V25 => (show z.w.cell? ⟨g22, 1, none⟩ = some (.slice (some ⟨g4, 0, none⟩) 3 3) from (HM27.out.box 5 rfl z.2).cell 1 rfl)
  have b29 := fun z : BelW V25 => (show z.w.cell? ⟨nb2, 5, none⟩ = some (.slice (bk s2) 2 2) from (HM27.out.box 0 rfl z.2).cell 5 rfl)
  have HS := Lib.hid (show ∃ z : BelW V25, x26.w.drew = z.w from ⟨⟨_, x26.2.drew⟩, rfl⟩)
  refine wp_region_tl 6 8 (fun w' => ∃ z : BelW V25, w' = z.w) HS.out ?_
  iterate 5 (refine wpK_nx rfl rfl HS.out (Or.inl ⟨by rfl, fun w1 hS => by first | (go_simp <;> with_reducible rfl) | (obtain ⟨z, rfl⟩ := hS; (go_simp <;> with_reducible rfl))⟩) ?_; simp only [Act.put, List.setIfInBounds_toArray, List.set_cons_zero, List.set_cons_succ])
  have HC := Lib.hid (clone_bo s2 2 2 [0, 0] rfl (by omega) (by omega) x26.w.drew (((HL.out.mem.get 3 rfl).next (below_next HM27.out.bel x26.2.drew)).rd))
  refine wpK_ne rfl ?_
  go_wp2_with fail
  refine HC.out.mono ?_
  rintro e w2 ⟨c, cc, rfl, hbo, hge, hB⟩
  have HB := Lib.hid (show ∃ z : BelW V25, w2 = z.w from ⟨⟨w2, below_next x26.2.drew hB⟩, rfl⟩)
  have HM30 := Lib.hid (show MB w w2 [(c, ints [0, 0]), (nb2, plc (lowerP lv s2)), (b, ints [100, 0]), (nb1, plc (upperP lv s1 r1)), (a, ints [600, 300]), (nb0, plc (lakeP lv s0 r0)), (g22, stL g4 g8 g12 g16 g20), (g4, [.slice (some ⟨a, 0, none⟩) 2 ac, .slice (some ⟨b, 0, none⟩) 2 bc, .slice none 0 0]), (g8, [.int .i64 0, .int .i64 0, .int .i64 0]), (g12, [.int .i64 0, .int .i64 0, .bool false, .bool false]), (g16, [.int .i64 0, .int .i64 0]), (g20, [.int .i64 0, .int .i64 0]), (w.heap.size + 1, stZ), (w.heap.size, lkB (some ⟨pb, po, none⟩) ob pc lA tA gA rm)] by
    exact (HM27.out.next x26.2.drew).add hB hbo hge)
  clear hbo hge hB HC HM27
  go_wp2_with fail
  refine ⟨HB.out, wpK_done (by kernel_rfl) ?_⟩
  simp only [List.drop_succ_cons, List.drop_zero]
  clear HB HS b28 b29
  go_wp2_with (first | (refine wpList_store_cell rfl 29 _ _ (by with_reducible rfl) g4 2 (.slice (some ⟨c, 0, none⟩) 2 cc) (by with_unfolding_all rfl) (by with_unfolding_all rfl) (HM30.out.get 7 rfl) (by simp) (by kernel_rfl) rfl ?_))
  intro W5 hW5
  have HM31 := Lib.hid (show MB w W5 [(c, ints [0, 0]), (nb2, plc (lowerP lv s2)), (b, ints [100, 0]), (nb1, plc (upperP lv s1 r1)), (a, ints [600, 300]), (nb0, plc (lakeP lv s0 r0)), (g22, stL g4 g8 g12 g16 g20), (g4, [.slice (some ⟨a, 0, none⟩) 2 ac, .slice (some ⟨b, 0, none⟩) 2 bc, .slice (some ⟨c, 0, none⟩) 2 cc]), (g8, [.int .i64 0, .int .i64 0, .int .i64 0]), (g12, [.int .i64 0, .int .i64 0, .bool false, .bool false]), (g16, [.int .i64 0, .int .i64 0]), (g20, [.int .i64 0, .int .i64 0]), (w.heap.size + 1, stZ), (w.heap.size, lkB (some ⟨pb, po, none⟩) ob pc lA tA gA rm)] by
    rw [hW5.out]
    exact HM30.out.put 7 rfl (j := 2) (by simp) (.slice (some ⟨c, 0, none⟩) 2 cc))
  clear hW5 HM30
  go_wp2_with fail
  rw [rounds_succ]
  go_wp2_with (first | (with_reducible refine wpList_load_g 55 _ (by with_reducible rfl) g22 0 (by with_unfolding_all rfl) (by with_unfolding_all rfl) _ _ (HM31.out.box 6 rfl (Below.refl _ _)).rng Tryz.underlying55 (by with_unfolding_all rfl) (by kernel_rfl) ?_) | (with_reducible refine wpList_store_named rfl 55 _ _ (by with_reducible rfl) (w.heap.size + 1) 0 #[.int .i64 0, .slice (some ⟨g4, 0, none⟩) 3 3, .slice (some ⟨g8, 0, none⟩) 3 3, .slice none 0 0, .slice (some ⟨g12, 0, none⟩) 1 1, .slice (some ⟨g16, 0, none⟩) 2 2, .slice (some ⟨g20, 0, none⟩) 2 2] (by with_unfolding_all rfl) (by with_unfolding_all rfl) (by with_unfolding_all exact (HM31.out.get 12 rfl).there) (by kernel_rfl) (by with_unfolding_all rfl) ?_))
  intro WF hWF
  have HM32 := Lib.hid (show MB w WF [(c, ints [0, 0]), (nb2, plc (lowerP lv s2)), (b, ints [100, 0]), (nb1, plc (upperP lv s1 r1)), (a, ints [600, 300]), (nb0, plc (lakeP lv s0 r0)), (g22, stL g4 g8 g12 g16 g20), (g4, [.slice (some ⟨a, 0, none⟩) 2 ac, .slice (some ⟨b, 0, none⟩) 2 bc, .slice (some ⟨c, 0, none⟩) 2 cc]), (g8, [.int .i64 0, .int .i64 0, .int .i64 0]), (g12, [.int .i64 0, .int .i64 0, .bool false, .bool false]), (g16, [.int .i64 0, .int .i64 0]), (g20, [.int .i64 0, .int .i64 0]), (w.heap.size + 1, [.int .i64 0, .slice (some ⟨g4, 0, none⟩) 3 3, .slice (some ⟨g8, 0, none⟩) 3 3, .slice none 0 0, .slice (some ⟨g12, 0, none⟩) 1 1, .slice (some ⟨g16, 0, none⟩) 2 2, .slice (some ⟨g20, 0, none⟩) 2 2]), (w.heap.size, lkB (some ⟨pb, po, none⟩) ob pc lA tA gA rm)] by
    rw [hWF.out]
    exact HM31.out.fill 12 rfl [.int .i64 0, .slice (some ⟨g4, 0, none⟩) 3 3, .slice (some ⟨g8, 0, none⟩) 3 3, .slice none 0 0, .slice (some ⟨g12, 0, none⟩) 1 1, .slice (some ⟨g16, 0, none⟩) 2 2, .slice (some ⟨g20, 0, none⟩) 2 2] rfl)
  clear hWF HM31
  have b33 : WF.cell? ⟨w.heap.size + 1, 0, none⟩ = some (.int .i64 0) := (HM32.out.box 12 rfl (Below.refl _ _)).cell 0 rfl
  have b34 : WF.cell? ⟨w.heap.size + 1, 1, none⟩ = some (.slice (some ⟨g4, 0, none⟩) 3 3) := (HM32.out.box 12 rfl (Below.refl _ _)).cell 1 rfl
  have b35 : WF.cell? ⟨w.heap.size + 1, 2, none⟩ = some (.slice (some ⟨g8, 0, none⟩) 3 3) := (HM32.out.box 12 rfl (Below.refl _ _)).cell 2 rfl
  have b36 : WF.cell? ⟨w.heap.size + 1, 3, none⟩ = some (.slice none 0 0) := (HM32.out.box 12 rfl (Below.refl _ _)).cell 3 rfl
  have b37 : WF.cell? ⟨w.heap.size + 1, 4, none⟩ = some (.slice (some ⟨g12, 0, none⟩) 1 1) := (HM32.out.box 12 rfl (Below.refl _ _)).cell 4 rfl
  have b38 : WF.cell? ⟨w.heap.size + 1, 5, none⟩ = some (.slice (some ⟨g16, 0, none⟩) 2 2) := (HM32.out.box 12 rfl (Below.refl _ _)).cell 5 rfl
  have b39 : WF.cell? ⟨w.heap.size + 1, 6, none⟩ = some (.slice (some ⟨g20, 0, none⟩) 2 2) := (HM32.out.box 12 rfl (Below.refl _ _)).cell 6 rfl
  have HQ := Lib.hid (show StQ w (.returned (.agg #[.int .i64 0, .slice (some ⟨g4, 0, none⟩) 3 3, .slice (some ⟨g8, 0, none⟩) 3 3, .slice none 0 0, .slice (some ⟨g12, 0, none⟩) 1 1, .slice (some ⟨g16, 0, none⟩) 2 2, .slice (some ⟨g20, 0, none⟩) 2 2])) WF from ⟨⟨g4, g8, g12, g16, g20, a, ac, b, bc, c, cc, rfl, HM32.out.mem.sub (by repeat (first | exact List.Sublist.refl _ | apply List.Sublist.cons_cons | apply List.Sublist.cons))⟩, HM32.out.bel⟩)
  go_wp2_with fail
  refine bodyPost_ret (v := .agg #[.int .i64 0, .slice (some ⟨g4, 0, none⟩) 3 3, .slice (some ⟨g8, 0, none⟩) 3 3, .slice none 0 0, .slice (some ⟨g12, 0, none⟩) 1 1, .slice (some ⟨g16, 0, none⟩) 2 2, .slice (some ⟨g20, 0, none⟩) 2 2]) ?_ rfl HQ.out
  simp [results, Tryz.results14, go_sem, b33, b34, b35, b36, b37, b38, b39]
end Go.Proofs.YtngjakahanmepaaGreatDoor
