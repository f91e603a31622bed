/- Part 52 of the proof of TopRights: hull.hasQueue where nothing is under way. hull.Has at the lake's beginning. Printed by wip/tools/mkhas.py. small(): the lake's step shows that no law holds for nothing. Printed by wip/tools/mksmall.py. -/
import Derived.Test.YtngjakahanmepaaGreatDoorM51
import Derived.Laws.IdiomRangeMap
import Derived.Test.YtngjakahanmepaaGreatDoorM32
namespace Go.Proofs.YtngjakahanmepaaGreatDoor
open Go.RowKit
set_option linter.unusedVariables false
set_option linter.unusedSimpArgs false
theorem next_empty {P : Program} (w : World) (ty : TypeId) (bm : Nat) (hb : w.heap[bm]? = some (.map #[] 0)) :
    (Instr.next (.pointer (some ⟨w.heap.size, 0, none⟩)) false ty).run P (w.alloc (.mapIter (some bm) 0 #[] 0)) = .ok (.tuple #[.bool false]) (w.alloc (.mapIter (some bm) 0 #[] 0)) := by
  rcases run_next_map (P := P) w ty bm 0 0 #[] #[] 0 hb (fun x hx => by simp at hx) (Nat.le_refl _) with ⟨_, h⟩ | ⟨e, he, _⟩
  · exact h
  · simp [leftOf] at he
set_option maxHeartbeats 8000000 in
set_option maxRecDepth 100000 in
theorem hasq_is (vo vc li lc : Nat) (g4 g8 g12 g16 g20 : Nat) (w : World) :
    Calls Tryz.prog 47 #[.agg #[.int .i64 0, .slice (some ⟨vo, 0, none⟩) 3 vc, .slice none 0 0, .slice (some ⟨li, 0, none⟩) 1 lc], stB g4 g8 g12 g16 g20] w fun e w' => e = .returned (.bool true) ∧ Below w.heap.size w w' := by
  show Calls Tryz.prog 47 #[.agg #[.int .i64 0, .slice (some ⟨vo, 0, none⟩) 3 vc, .slice none 0 0, .slice (some ⟨li, 0, none⟩) 1 lc], .agg #[.int .i64 0, .slice (some ⟨g4, 0, none⟩) 3 3, .slice (some ⟨g8, 0, none⟩) 3 3, .slice none 0 0, .slice (some ⟨g12, 0, none⟩) 1 1, .slice (some ⟨g16, 0, none⟩) 2 2, .slice (some ⟨g20, 0, none⟩) 2 2]] w fun e w' => e = .returned (.bool true) ∧ Below w.heap.size w w'
  have hmm := @run_makeMap Tryz.prog
  go_enter Tryz.func47, Tryz.ntmps47
  go_upto_region 2 with fail
  refine wp_rebase _ (fun V hV x => ?_)
  have HM := Lib.hid (show MB w V [(w.heap.size + 1, stL g4 g8 g12 g16 g20), (w.heap.size, [.int .i64 0, .slice (some ⟨vo, 0, none⟩) 3 vc, .slice none 0 0, .slice (some ⟨li, 0, none⟩) 1 lc])] by
    rw [hV]
    exact (((MB.nil w).new 71 [.int .i64 0, .slice (some ⟨vo, 0, none⟩) 3 vc, .slice none 0 0, .slice (some ⟨li, 0, none⟩) 1 lc]).newAt (by rw [World.size_alloc]) 55 (stL g4 g8 g12 g16 g20)).next (bel_alloc (Below.refl _ _) _))
  have HE := Lib.hid (show V.heap[w.heap.size + 1 + 1]? = some (.map #[] 0) by
    rw [hV]
    have := heap_alloc_new ((w.alloc (.cells #[.int .i64 0, .slice (some ⟨vo, 0, none⟩) 3 vc, .slice none 0 0, .slice (some ⟨li, 0, none⟩) 1 lc] 71)).alloc (.cells (stL g4 g8 g12 g16 g20).toArray 55)) (.map #[] 0)
    rw [World.size_alloc, World.size_alloc] at this
    exact this)
  have HZ := Lib.hid (show w.heap.size + 1 + 1 < V.heap.size by
    rw [hV]
    simp only [World.size_alloc]
    omega)
  clear hV
  have b1 := fun z : BelW V => (show z.w.cell? ⟨w.heap.size + 1, 3, none⟩ = some (.slice none 0 0) from (HM.out.box 0 rfl z.2).cell 3 rfl)
  have b2 := fun z : BelW V => (show z.w.cell? ⟨w.heap.size, 2, none⟩ = some (.slice none 0 0) from (HM.out.box 1 rfl z.2).cell 2 rfl)
  go_wp2_with fail
  refine wp_loop_rounds 1 ?_
  rw [rounds_succ]
  go_upto_region 9 with fail
  refine wp_rebase _ (fun V2 hV2 x2 => ?_)
  have HB2 := Lib.hid (show Below V.heap.size V V2 by
    rw [hV2]
    exact below_next x.2 (bel_alloc (Below.refl _ _) _))
  clear hV2 b1 b2
  have b2 := fun z : BelW V2 => (show z.w.cell? ⟨w.heap.size, 2, none⟩ = some (.slice none 0 0) from (HM.out.box 1 rfl (below_next HB2.out z.2)).cell 2 rfl)
  go_wp2_with fail
  refine wp_loop_rounds 1 ?_
  rw [rounds_succ]
  have he : x2.w.heap[w.heap.size + 1 + 1]? = some (.map #[] 0) := ((below_next HB2.out x2.2).block _ HZ.out).trans HE.out
  have hrg := fun t k e ht => run_range_map (P := Tryz.prog) x2.w t k e (w.heap.size + 1 + 1) #[] 0 ht he
  have hr1 := hrg _ _ _ Tryz.underlying172
  have hn1 := fun ty => next_empty (P := Tryz.prog) x2.w ty (w.heap.size + 1 + 1) he
  have HF := Lib.hid (show Below w.heap.size w (x2.w.alloc (.mapIter (some (w.heap.size + 1 + 1)) 0 #[] 0)) from bel_alloc (below_next (below_next HM.out.bel HB2.out) x2.2) _)
  clear hrg he
  go_wp2_with fail
  refine wp_loop_rounds 1 ?_
  rw [rounds_succ]
  go_wp2_with fail
  go_ret
  exact ⟨rfl, HF.out⟩
end Go.Proofs.YtngjakahanmepaaGreatDoor
namespace Go.Proofs.YtngjakahanmepaaGreatDoor
open Go.RowKit
set_option linter.unusedVariables false
set_option linter.unusedSimpArgs false
def lkL (ob pb po pc lA tA gA rm : Nat) : List Value := [.string demoN, .slice (some ⟨ob, 0, none⟩) 2 2, .int .i64 1, .slice (some ⟨pb, po, none⟩) 3 pc, .slice (some ⟨lA, 0, none⟩) 1 1, .slice (some ⟨tA, 0, none⟩) 1 1, .slice (some ⟨gA, 0, none⟩) 1 1, .slice none 0 0, .slice none 0 0, .slice (some ⟨rm, 0, none⟩) 3 3, .int .i64 1]
set_option maxHeartbeats 32000000 in
set_option maxRecDepth 100000 in
theorem hullhas_is {ob pb po lA tA gA rm : Nat} (pc g4 g8 g12 g16 g20 a ac b bc c cc vo vc li lc : Nat) (w : World) (hm : Mem w (stMem g4 g8 g12 g16 g20 a ac b bc c cc)) (hh : Mem w [(li, [.int .i64 0, .int .i64 0, .int .i64 0, .int .i64 0, .int .i64 0]), (vo, [.int .i64 900, .int .i64 900, .int .i64 100, .int .i64 100, .int .i64 0, .int .i64 0])]) :
    Calls Tryz.prog 17 #[lakeB ob rm lA tA gA (some ⟨pb, po, none⟩) pc, .agg #[.int .i64 0, .slice (some ⟨vo, 0, none⟩) 3 vc, .slice none 0 0, .slice (some ⟨li, 0, none⟩) 1 lc], stB g4 g8 g12 g16 g20] w fun e w' => e = .returned (.bool true) ∧ Below w.heap.size w w' := by
  have HS0 := Lib.hid hm
  have HH0 := Lib.hid hh
  clear hm hh
  show Calls Tryz.prog 17 #[.agg #[.string demoN, .slice (some ⟨ob, 0, none⟩) 2 2, .int .i64 1, .slice (some ⟨pb, po, none⟩) 3 pc, .slice (some ⟨lA, 0, none⟩) 1 1, .slice (some ⟨tA, 0, none⟩) 1 1, .slice (some ⟨gA, 0, none⟩) 1 1, .slice none 0 0, .slice none 0 0, .slice (some ⟨rm, 0, none⟩) 3 3, .int .i64 1], .agg #[.int .i64 0, .slice (some ⟨vo, 0, none⟩) 3 vc, .slice none 0 0, .slice (some ⟨li, 0, none⟩) 1 lc], .agg #[.int .i64 0, .slice (some ⟨g4, 0, none⟩) 3 3, .slice (some ⟨g8, 0, none⟩) 3 3, .slice none 0 0, .slice (some ⟨g12, 0, none⟩) 1 1, .slice (some ⟨g16, 0, none⟩) 2 2, .slice (some ⟨g20, 0, none⟩) 2 2]] w fun e w' => e = .returned (.bool true) ∧ Below w.heap.size w w'
  go_enter Tryz.func17, Tryz.ntmps17
  go_upto_region 1 with fail
  refine wp_rebase _ (fun V1 hV1 x2 => ?_)
  have HM3 := Lib.hid (show MB w V1 [(w.heap.size + 1 + 1, stL g4 g8 g12 g16 g20), (w.heap.size + 1, [.int .i64 0, .slice (some ⟨vo, 0, none⟩) 3 vc, .slice none 0 0, .slice (some ⟨li, 0, none⟩) 1 lc]), (w.heap.size, lkL ob pb po pc lA tA gA rm)] by
    rw [hV1]
    exact (((MB.nil w).new 31 (lkL ob pb po pc lA tA gA rm)).newAt (by rw [World.size_alloc]) 71 [.int .i64 0, .slice (some ⟨vo, 0, none⟩) 3 vc, .slice none 0 0, .slice (some ⟨li, 0, none⟩) 1 lc]).newAt (by rw [World.size_alloc, World.size_alloc]) 55 (stL g4 g8 g12 g16 g20))
  clear hV1
  have b4 := fun z : BelW V1 => (show z.w.cell? ⟨w.heap.size + 1, 0, none⟩ = some (.int .i64 0) from (HM3.out.box 1 rfl z.2).cell 0 rfl)
  have b5 := fun z : BelW V1 => (show z.w.cell? ⟨w.heap.size + 1, 1, none⟩ = some (.slice (some ⟨vo, 0, none⟩) 3 vc) from (HM3.out.box 1 rfl z.2).cell 1 rfl)
  have b6 := fun z : BelW V1 => (show z.w.cell? ⟨w.heap.size + 1, 3, none⟩ = some (.slice (some ⟨li, 0, none⟩) 1 lc) from (HM3.out.box 1 rfl z.2).cell 3 rfl)
  have b7 := fun z : BelW V1 => (show z.w.cell? ⟨w.heap.size + 1 + 1, 0, none⟩ = some (.int .i64 0) from (HM3.out.box 0 rfl z.2).cell 0 rfl)
  have b8 := fun z : BelW V1 => (show z.w.cell? ⟨w.heap.size + 1 + 1, 1, none⟩ = some (.slice (some ⟨g4, 0, none⟩) 3 3) from (HM3.out.box 0 rfl z.2).cell 1 rfl)
  have b9 := fun z : BelW V1 => (show z.w.cell? ⟨w.heap.size + 1 + 1, 4, none⟩ = some (.slice (some ⟨g12, 0, none⟩) 1 1) from (HM3.out.box 0 rfl z.2).cell 4 rfl)
  have b10 := fun z : BelW V1 => (show z.w.cell? ⟨w.heap.size, 3, none⟩ = some (.slice (some ⟨pb, po, none⟩) 3 pc) from (HM3.out.box 2 rfl z.2).cell 3 rfl)
  have b11 := fun z : BelW V1 => (show z.w.cell? ⟨w.heap.size, 4, none⟩ = some (.slice (some ⟨lA, 0, none⟩) 1 1) from (HM3.out.box 2 rfl z.2).cell 4 rfl)
  go_wp2_with fail
  refine wp_loop_rounds 4 ?_
  rw [rounds_succ]
  obtain ⟨nb0, hnb⟩ : ∃ n, x2.w.heap.size = n := ⟨_, rfl⟩
  have HV := Lib.hid (show ∀ z : BelW V1, z.w.rangeAt vo 0 [.int .i64 900, .int .i64 900] from fun z => range_part 0 2 (((HH0.out.get 1 rfl).next HM3.out.bel).next z.2).rng)
  go_upto_region 6 with (first | (with_reducible refine wpList_load_g 109 _ (by with_reducible rfl) vo 0 (by with_unfolding_all rfl) (by with_unfolding_all rfl) _ _ (HV.out _) Tryz.underlying109 (by with_unfolding_all rfl) (by kernel_rfl) ?_) | (with_reducible refine wpList_store_new (z := [.int .i64 0, .int .i64 0]) (cs := [.int .i64 900, .int .i64 900]) 109 _ _ (by with_reducible rfl) (by with_unfolding_all rfl) nb0 (by exact hnb.symm) _ (by with_unfolding_all rfl) (by with_unfolding_all rfl) (by with_unfolding_all rfl) (by kernel_rfl) (by with_unfolding_all rfl) ?_))
  try simp only [Act.put]
  refine wp_rebase _ (fun V12 hV12 x13 => ?_)
  have HM14 := Lib.hid (show MB w V12 [(nb0, [.int .i64 900, .int .i64 900]), (w.heap.size + 1 + 1, stL g4 g8 g12 g16 g20), (w.heap.size + 1, [.int .i64 0, .slice (some ⟨vo, 0, none⟩) 3 vc, .slice none 0 0, .slice (some ⟨li, 0, none⟩) 1 lc]), (w.heap.size, lkL ob pb po pc lA tA gA rm)] by
    rw [hV12]
    exact ((HM3.out.next x2.2).sub (by repeat (first | exact List.Sublist.refl _ | apply List.Sublist.cons_cons | apply List.Sublist.cons))).newAt hnb 109 [.int .i64 900, .int .i64 900])
  clear hV12
  clear HV hnb HM3 b4 b5 b6 b7 b8 b9 b10 b11
  have b15 := fun z : BelW V12 => (show z.w.cell? ⟨w.heap.size + 1 + 1, 1, none⟩ = some (.slice (some ⟨g4, 0, none⟩) 3 3) from (HM14.out.box 1 rfl z.2).cell 1 rfl)
  have b16 := fun z : BelW V12 => (show z.w.cell? ⟨g4, 0, none⟩ = some (.slice (some ⟨a, 0, none⟩) 2 ac) from (((HS0.out.get 3 rfl).next HM14.out.bel).next z.2).cell 0 rfl)
  have HB := Lib.hid (HM14.out.get 0 rfl).rng
  have CT := Lib.hid (fun z : BelW V12 => bel_of (x := z) (tot_c a ac 2 [600, 300] 900 rfl (by kernel_rfl) (by kernel_rfl) (by omega) z.w (((HS0.out.get 2 rfl).next HM14.out.bel).next z.2).rd))
  have CS := Lib.hid (fun z : BelW V12 => bel_of (x := z) (sphas_is 900 900 900 (by omega) (by omega) z.w))
  refine wp_region_belx (by kernel_rfl) (by kernel_rfl) ?_
  repeat (first
    | (with_reducible refine wpQuiet_load_g 109 _ (by with_reducible rfl) _ _ (by with_unfolding_all rfl) (by with_unfolding_all rfl) _ _ (rangeX HB.out) Tryz.underlying109 (by with_unfolding_all rfl) (by kernel_rfl) ?_; simp only [Act.put, List.setIfInBounds_toArray, List.set_cons_succ, List.set_cons_zero])
    | go_big_quiet_step ((first | (go_at_call 45; with_reducible exact CT.out _) | (go_at_call 44; with_reducible exact CS.out _))))
  refine wpQuiet_nil ?_
  intro y0
  go_wp2_with fail
  clear CT CS HB b15 b16
  rw [rounds_succ]
  obtain ⟨nb1, hnb⟩ : ∃ n, y0.w.heap.size = n := ⟨_, rfl⟩
  have HV := Lib.hid (show ∀ z : BelW V12, z.w.rangeAt vo 2 [.int .i64 100, .int .i64 100] from fun z => range_part 2 2 (((HH0.out.get 1 rfl).next HM14.out.bel).next z.2).rng)
  go_upto_region 6 with (first | (with_reducible refine wpList_load_g 109 _ (by with_reducible rfl) vo 2 (by with_unfolding_all rfl) (by with_unfolding_all rfl) _ _ (HV.out _) Tryz.underlying109 (by with_unfolding_all rfl) (by kernel_rfl) ?_) | (with_reducible refine wpList_store_new (z := [.int .i64 0, .int .i64 0]) (cs := [.int .i64 100, .int .i64 100]) 109 _ _ (by with_reducible rfl) (by with_unfolding_all rfl) nb1 (by exact hnb.symm) _ (by with_unfolding_all rfl) (by with_unfolding_all rfl) (by with_unfolding_all rfl) (by kernel_rfl) (by with_unfolding_all rfl) ?_))
  try simp only [Act.put]
  refine wp_rebase _ (fun V17 hV17 x18 => ?_)
  have HM19 := Lib.hid (show MB w V17 [(nb1, [.int .i64 100, .int .i64 100]), (w.heap.size + 1 + 1, stL g4 g8 g12 g16 g20), (w.heap.size + 1, [.int .i64 0, .slice (some ⟨vo, 0, none⟩) 3 vc, .slice none 0 0, .slice (some ⟨li, 0, none⟩) 1 lc]), (w.heap.size, lkL ob pb po pc lA tA gA rm)] by
    rw [hV17]
    exact ((HM14.out.next y0.2).sub (by repeat (first | exact List.Sublist.refl _ | apply List.Sublist.cons_cons | apply List.Sublist.cons))).newAt hnb 109 [.int .i64 100, .int .i64 100])
  clear hV17
  clear HV hnb HM14
  have b20 := fun z : BelW V17 => (show z.w.cell? ⟨w.heap.size + 1 + 1, 1, none⟩ = some (.slice (some ⟨g4, 0, none⟩) 3 3) from (HM19.out.box 1 rfl z.2).cell 1 rfl)
  have b21 := fun z : BelW V17 => (show z.w.cell? ⟨g4, 1, none⟩ = some (.slice (some ⟨b, 0, none⟩) 2 bc) from (((HS0.out.get 3 rfl).next HM19.out.bel).next z.2).cell 1 rfl)
  have HB := Lib.hid (HM19.out.get 0 rfl).rng
  have CT := Lib.hid (fun z : BelW V17 => bel_of (x := z) (tot_c b bc 2 [100, 0] 100 rfl (by kernel_rfl) (by kernel_rfl) (by omega) z.w (((HS0.out.get 1 rfl).next HM19.out.bel).next z.2).rd))
  have CS := Lib.hid (fun z : BelW V17 => bel_of (x := z) (sphas_is 100 100 100 (by omega) (by omega) z.w))
  refine wp_region_belx (by kernel_rfl) (by kernel_rfl) ?_
  repeat (first
    | (with_reducible refine wpQuiet_load_g 109 _ (by with_reducible rfl) _ _ (by with_unfolding_all rfl) (by with_unfolding_all rfl) _ _ (rangeX HB.out) Tryz.underlying109 (by with_unfolding_all rfl) (by kernel_rfl) ?_; simp only [Act.put, List.setIfInBounds_toArray, List.set_cons_succ, List.set_cons_zero])
    | go_big_quiet_step ((first | (go_at_call 45; with_reducible exact CT.out _) | (go_at_call 44; with_reducible exact CS.out _))))
  refine wpQuiet_nil ?_
  intro y1
  go_wp2_with fail
  clear CT CS HB b20 b21
  rw [rounds_succ]
  obtain ⟨nb2, hnb⟩ : ∃ n, y1.w.heap.size = n := ⟨_, rfl⟩
  have HV := Lib.hid (show ∀ z : BelW V17, z.w.rangeAt vo 4 [.int .i64 0, .int .i64 0] from fun z => range_part 4 2 (((HH0.out.get 1 rfl).next HM19.out.bel).next z.2).rng)
  go_upto_region 6 with (first | (with_reducible refine wpList_load_g 109 _ (by with_reducible rfl) vo 4 (by with_unfolding_all rfl) (by with_unfolding_all rfl) _ _ (HV.out _) Tryz.underlying109 (by with_unfolding_all rfl) (by kernel_rfl) ?_) | (with_reducible refine wpList_store_new (z := [.int .i64 0, .int .i64 0]) (cs := [.int .i64 0, .int .i64 0]) 109 _ _ (by with_reducible rfl) (by with_unfolding_all rfl) nb2 (by exact hnb.symm) _ (by with_unfolding_all rfl) (by with_unfolding_all rfl) (by with_unfolding_all rfl) (by kernel_rfl) (by with_unfolding_all rfl) ?_))
  try simp only [Act.put]
  refine wp_rebase _ (fun V22 hV22 x23 => ?_)
  have HM24 := Lib.hid (show MB w V22 [(nb2, [.int .i64 0, .int .i64 0]), (w.heap.size + 1 + 1, stL g4 g8 g12 g16 g20), (w.heap.size + 1, [.int .i64 0, .slice (some ⟨vo, 0, none⟩) 3 vc, .slice none 0 0, .slice (some ⟨li, 0, none⟩) 1 lc]), (w.heap.size, lkL ob pb po pc lA tA gA rm)] by
    rw [hV22]
    exact ((HM19.out.next y1.2).sub (by repeat (first | exact List.Sublist.refl _ | apply List.Sublist.cons_cons | apply List.Sublist.cons))).newAt hnb 109 [.int .i64 0, .int .i64 0])
  clear hV22
  clear HV hnb HM19
  have b25 := fun z : BelW V22 => (show z.w.cell? ⟨w.heap.size + 1 + 1, 1, none⟩ = some (.slice (some ⟨g4, 0, none⟩) 3 3) from (HM24.out.box 1 rfl z.2).cell 1 rfl)
  have b26 := fun z : BelW V22 => (show z.w.cell? ⟨g4, 2, none⟩ = some (.slice (some ⟨c, 0, none⟩) 2 cc) from (((HS0.out.get 3 rfl).next HM24.out.bel).next z.2).cell 2 rfl)
  have HB := Lib.hid (HM24.out.get 0 rfl).rng
  have CT := Lib.hid (fun z : BelW V22 => bel_of (x := z) (tot_c c cc 2 [0, 0] 0 rfl (by kernel_rfl) (by kernel_rfl) (by omega) z.w (((HS0.out.get 0 rfl).next HM24.out.bel).next z.2).rd))
  have CS := Lib.hid (fun z : BelW V22 => bel_of (x := z) (sphas_is 0 0 0 (by omega) (by omega) z.w))
  refine wp_region_belx (by kernel_rfl) (by kernel_rfl) ?_
  repeat (first
    | (with_reducible refine wpQuiet_load_g 109 _ (by with_reducible rfl) _ _ (by with_unfolding_all rfl) (by with_unfolding_all rfl) _ _ (rangeX HB.out) Tryz.underlying109 (by with_unfolding_all rfl) (by kernel_rfl) ?_; simp only [Act.put, List.setIfInBounds_toArray, List.set_cons_succ, List.set_cons_zero])
    | go_big_quiet_step ((first | (go_at_call 45; with_reducible exact CT.out _) | (go_at_call 44; with_reducible exact CS.out _))))
  refine wpQuiet_nil ?_
  intro y2
  go_wp2_with fail
  clear CT CS HB b25 b26
  have b27 := fun z : BelW V22 => (show z.w.cell? ⟨w.heap.size + 1, 3, none⟩ = some (.slice (some ⟨li, 0, none⟩) 1 lc) from (HM24.out.box 2 rfl z.2).cell 3 rfl)
  rw [rounds_succ]
  go_wp2_with fail
  refine wp_loop_rounds 2 ?_
  rw [rounds_succ]
  obtain ⟨kb, hkb⟩ : ∃ n, y2.w.heap.size = n := ⟨_, rfl⟩
  have HK := Lib.hid (show ∀ z : BelW V22, z.w.rangeAt li 0 [.int .i64 0, .int .i64 0, .int .i64 0, .int .i64 0, .int .i64 0] from fun z => (((HH0.out.get 0 rfl).next HM24.out.bel).next z.2).rng)
  go_upto_region 12 with (first | (with_reducible refine wpList_load_g 113 _ (by with_reducible rfl) li 0 (by with_unfolding_all rfl) (by with_unfolding_all rfl) _ _ (HK.out _) Tryz.underlying113 (by with_unfolding_all rfl) (by kernel_rfl) ?_) | (with_reducible refine wpList_store_new (z := [.int .i64 0, .int .i64 0, .int .i64 0, .int .i64 0, .int .i64 0]) (cs := [.int .i64 0, .int .i64 0, .int .i64 0, .int .i64 0, .int .i64 0]) 113 _ _ (by with_reducible rfl) (by with_unfolding_all rfl) kb (by exact hkb.symm) _ (by with_unfolding_all rfl) (by with_unfolding_all rfl) (by with_unfolding_all rfl) (by kernel_rfl) (by with_unfolding_all rfl) ?_))
  try simp only [Act.put]
  refine wp_rebase _ (fun V28 hV28 x29 => ?_)
  have HM30 := Lib.hid (show MB w V28 [(kb, [.int .i64 0, .int .i64 0, .int .i64 0, .int .i64 0, .int .i64 0]), (w.heap.size + 1 + 1, stL g4 g8 g12 g16 g20), (w.heap.size + 1, [.int .i64 0, .slice (some ⟨vo, 0, none⟩) 3 vc, .slice none 0 0, .slice (some ⟨li, 0, none⟩) 1 lc]), (w.heap.size, lkL ob pb po pc lA tA gA rm)] by
    rw [hV28]
    exact ((HM24.out.next y2.2).sub (by repeat (first | exact List.Sublist.refl _ | apply List.Sublist.cons_cons | apply List.Sublist.cons))).newAt hkb 113 [.int .i64 0, .int .i64 0, .int .i64 0, .int .i64 0, .int .i64 0])
  clear hV28
  clear HK hkb HM24 b27
  have b31 := fun z : BelW V28 => (show z.w.cell? ⟨w.heap.size + 1 + 1, 4, none⟩ = some (.slice (some ⟨g12, 0, none⟩) 1 1) from (HM30.out.box 1 rfl z.2).cell 4 rfl)
  have HG := Lib.hid (show ∀ z : BelW V28, z.w.rangeAt g12 0 [.int .i64 0, .int .i64 0, .bool false, .bool false] from fun z => (((HS0.out.get 5 rfl).next HM30.out.bel).next z.2).rng)
  obtain ⟨gb, hgb⟩ : ∃ n, x29.w.heap.size = n := ⟨_, rfl⟩
  go_upto_region 13 with (first | (with_reducible refine wpList_load_g 115 _ (by with_reducible rfl) g12 0 (by with_unfolding_all rfl) (by with_unfolding_all rfl) _ _ (HG.out _) Tryz.underlying115 (by with_unfolding_all rfl) (by kernel_rfl) ?_) | (with_reducible refine wpList_store_new (z := [.int .i64 0, .int .i64 0, .bool false, .bool false]) (cs := [.int .i64 0, .int .i64 0, .bool false, .bool false]) 115 _ _ (by with_reducible rfl) (by with_unfolding_all rfl) gb (by exact hgb.symm) _ (by with_unfolding_all rfl) (by with_unfolding_all rfl) (by with_unfolding_all rfl) (by kernel_rfl) (by with_unfolding_all rfl) ?_))
  try simp only [Act.put]
  refine wp_rebase _ (fun V32 hV32 x33 => ?_)
  have HM34 := Lib.hid (show MB w V32 [(gb, [.int .i64 0, .int .i64 0, .bool false, .bool false]), (kb, [.int .i64 0, .int .i64 0, .int .i64 0, .int .i64 0, .int .i64 0]), (w.heap.size + 1 + 1, stL g4 g8 g12 g16 g20), (w.heap.size + 1, [.int .i64 0, .slice (some ⟨vo, 0, none⟩) 3 vc, .slice none 0 0, .slice (some ⟨li, 0, none⟩) 1 lc]), (w.heap.size, lkL ob pb po pc lA tA gA rm)] by
    rw [hV32]
    exact (HM30.out.next x29.2).newAt hgb 115 [.int .i64 0, .int .i64 0, .bool false, .bool false])
  clear hV32
  clear HG hgb HM30 b31
  have b35 := fun z : BelW V32 => (show z.w.cell? ⟨gb, 0, none⟩ = some (.int .i64 0) from (HM34.out.box 0 rfl z.2).cell 0 rfl)
  have b36 := fun z : BelW V32 => (show z.w.cell? ⟨gb, 3, none⟩ = some (.bool false) from (HM34.out.box 0 rfl z.2).cell 3 rfl)
  have HB0 := Lib.hid (show V32.rangeAt kb 0 [.int .i64 0, .int .i64 0] from range_part 0 2 (HM34.out.get 1 rfl).rng)
  have HB3 := Lib.hid (show V32.rangeAt kb 3 [.int .i64 0, .int .i64 0] from range_part 3 2 (HM34.out.get 1 rfl).rng)
  have CB := Lib.hid (fun z : BelW V32 => bel_of (x := z) (bit_is z.w))
  have CS := Lib.hid (fun z : BelW V32 => bel_of (x := z) (sphas_is 0 0 0 (by omega) (by omega) z.w))
  refine wp_region_belx (by kernel_rfl) (by kernel_rfl) ?_
  repeat (first
    | (with_reducible refine wpQuiet_load_g 109 _ (by with_reducible rfl) _ _ (by with_unfolding_all rfl) (by with_unfolding_all rfl) _ _ (rangeXo HB0.out) Tryz.underlying109 (by with_unfolding_all rfl) (by kernel_rfl) ?_; simp only [Act.put, List.setIfInBounds_toArray, List.set_cons_succ, List.set_cons_zero])
    | (with_reducible refine wpQuiet_load_g 109 _ (by with_reducible rfl) _ _ (by with_unfolding_all rfl) (by with_unfolding_all rfl) _ _ (rangeXo HB3.out) Tryz.underlying109 (by with_unfolding_all rfl) (by kernel_rfl) ?_; simp only [Act.put, List.setIfInBounds_toArray, List.set_cons_succ, List.set_cons_zero])
    | go_big_quiet_step ((first | (go_at_call 46; with_reducible exact CB.out _) | (go_at_call 44; with_reducible exact CS.out _))))
  refine wpQuiet_nil ?_
  intro y3
  clear CB CS HB0 HB3 b35 b36
  have RH := Lib.hid (fun z : BelW V32 => (show z.w.rangeAt (w.heap.size + 1) 0 [.int .i64 0, .slice (some ⟨vo, 0, none⟩) 3 vc, .slice none 0 0, .slice (some ⟨li, 0, none⟩) 1 lc] from (HM34.out.box 3 rfl z.2).rng))
  have RS := Lib.hid (fun z : BelW V32 => (show z.w.rangeAt (w.heap.size + 1 + 1) 0 [.int .i64 0, .slice (some ⟨g4, 0, none⟩) 3 3, .slice (some ⟨g8, 0, none⟩) 3 3, .slice none 0 0, .slice (some ⟨g12, 0, none⟩) 1 1, .slice (some ⟨g16, 0, none⟩) 2 2, .slice (some ⟨g20, 0, none⟩) 2 2] from (HM34.out.box 2 rfl z.2).rng))
  have CQ := Lib.hid (fun z : BelW V32 => bel_of (x := z) (show Calls Tryz.prog 47 #[.agg #[.int .i64 0, .slice (some ⟨vo, 0, none⟩) 3 vc, .slice none 0 0, .slice (some ⟨li, 0, none⟩) 1 lc], .agg #[.int .i64 0, .slice (some ⟨g4, 0, none⟩) 3 3, .slice (some ⟨g8, 0, none⟩) 3 3, .slice none 0 0, .slice (some ⟨g12, 0, none⟩) 1 1, .slice (some ⟨g16, 0, none⟩) 2 2, .slice (some ⟨g20, 0, none⟩) 2 2]] z.w (fun e w' => e = .returned (.bool true) ∧ Below z.w.heap.size z.w w') from hasq_is vo vc li lc g4 g8 g12 g16 g20 z.w))
  go_wp2_with fail
  rw [rounds_succ]
  go_wp2_with (first | (with_reducible refine wpList_load_g 71 _ (by with_reducible rfl) (w.heap.size + 1) 0 (by with_unfolding_all rfl) (by with_unfolding_all rfl) _ _ (RH.out _) Tryz.underlying71 (by with_unfolding_all rfl) (by kernel_rfl) ?_) | (with_reducible refine wpList_load_g 55 _ (by with_reducible rfl) (w.heap.size + 1 + 1) 0 (by with_unfolding_all rfl) (by with_unfolding_all rfl) _ _ (RS.out _) Tryz.underlying55 (by with_unfolding_all rfl) (by kernel_rfl) ?_) | (go_at_call 47; (with_reducible refine (CQ.out _).mono ?_); rintro e w1 ⟨rfl, zq, rfl⟩))
  go_ret
  exact ⟨rfl, below_next HM34.out.bel zq.2⟩
end Go.Proofs.YtngjakahanmepaaGreatDoor
namespace Go.Proofs.YtngjakahanmepaaGreatDoor
open Go.RowKit
set_option linter.unusedVariables false
set_option linter.unusedSimpArgs false
set_option maxHeartbeats 32000000 in
set_option maxRecDepth 100000 in
theorem small_is (w : World) : Calls Tryz.prog 4 #[] w (Yes w) := by
  go_enter Tryz.func4, Tryz.ntmps4
  go_wp2_with fail
  refine (lake_any _).mono ?_
  rintro e w1 ⟨lv, rt, ob, rm, s0, r0, s1, r1, s2, lA, tA, gA, pA, pc, rfl, hL, hB⟩
  obtain ⟨pb, po, rfl, -, -, -, -⟩ := lake_pl hL
  have HL0 := Lib.hid hL
  have HM0 := Lib.hid ((MB.nil w).next hB)
  clear hL hB
  obtain ⟨nB, hnB⟩ : ∃ n, w1.heap.size = n := ⟨_, rfl⟩
  go_upto_region 2 with (first | (with_reducible refine wpList_store_new (z := [.string ⟨#[]⟩, .slice none 0 0, .int .i64 0, .slice none 0 0, .slice none 0 0, .slice none 0 0, .slice none 0 0, .slice none 0 0, .slice none 0 0, .slice none 0 0, .int .i64 0]) (cs := [.string demoN, .slice (some ⟨ob, 0, none⟩) 2 2, .int .i64 1, .slice (some ⟨pb, po, none⟩) 3 pc, .slice (some ⟨lA, 0, none⟩) 1 1, .slice (some ⟨tA, 0, none⟩) 1 1, .slice (some ⟨gA, 0, none⟩) 1 1, .slice none 0 0, .slice none 0 0, .slice (some ⟨rm, 0, none⟩) 3 3, .int .i64 1]) 31 _ _ (by with_reducible rfl) (by with_unfolding_all rfl) nB (by exact hnB.symm) _ (by with_unfolding_all rfl) (by with_unfolding_all rfl) (by with_unfolding_all rfl) (by kernel_rfl) (by with_unfolding_all rfl) ?_))
  try simp only [Act.put]
  refine wp_rebase _ (fun V1 hV1 x1 => ?_)
  have HM1 := Lib.hid (show MB w V1 [(nB, (lkL ob pb po pc lA tA gA rm))] by
    rw [hV1]
    exact HM0.out.newAt hnB 31 [.string demoN, .slice (some ⟨ob, 0, none⟩) 2 2, .int .i64 1, .slice (some ⟨pb, po, none⟩) 3 pc, .slice (some ⟨lA, 0, none⟩) 1 1, .slice (some ⟨tA, 0, none⟩) 1 1, .slice (some ⟨gA, 0, none⟩) 1 1, .slice none 0 0, .slice none 0 0, .slice (some ⟨rm, 0, none⟩) 3 3, .int .i64 1])
  have HL1 := Lib.hid (show LakeR V1 lv rt ob rm s0 r0 s1 r1 s2 lA tA gA (some ⟨pb, po, none⟩) by rw [hV1]; exact HL0.out.next (bel_alloc (Below.refl _ _) _))
  clear hV1
  have HL := Lib.hid (show ∀ z : BelW V1, LakeR z.w lv rt ob rm s0 r0 s1 r1 s2 lA tA gA (some ⟨pb, po, none⟩) from fun z => HL1.out.next z.2)
  clear hnB HM0 HL0
  have RB := Lib.hid (show ∀ z : BelW V1, z.w.rangeAt nB 0 [.string demoN, .slice (some ⟨ob, 0, none⟩) 2 2, .int .i64 1, .slice (some ⟨pb, po, none⟩) 3 pc, .slice (some ⟨lA, 0, none⟩) 1 1, .slice (some ⟨tA, 0, none⟩) 1 1, .slice (some ⟨gA, 0, none⟩) 1 1, .slice none 0 0, .slice none 0 0, .slice (some ⟨rm, 0, none⟩) 3 3, .int .i64 1] from fun z => (HM1.out.box 0 rfl z.2).rng)
  go_wp2_with (first | (with_reducible refine wpList_load_g 31 _ (by with_reducible rfl) nB 0 (by with_unfolding_all rfl) (by with_unfolding_all rfl) _ _ (RB.out _) Tryz.underlying31 (by with_unfolding_all rfl) (by kernel_rfl) ?_))
  refine (start_any pc _ (HL.out _)).mono ?_
  rintro e w2 h
  obtain ⟨g4, g8, g12, g16, g20, a, ac, b, bc, c, cc, rfl, hS⟩ := h.ex
  have hB := h.bel
  clear h
  have HM2 := Lib.hid (show MB w w2 [(nB, (lkL ob pb po pc lA tA gA rm))] by
    exact (HM1.out.next x1.2).next hB)
  have HL2 := Lib.hid ((HL.out x1).next hB)
  have HS2 := Lib.hid hS
  clear hB hS RB HL HM1
  obtain ⟨nS, hnS⟩ : ∃ n, w2.heap.size = n := ⟨_, rfl⟩
  go_upto_region 3 with (first | (with_reducible refine wpList_store_new (z := [.int .i64 0, .slice none 0 0, .slice none 0 0, .slice none 0 0, .slice none 0 0, .slice none 0 0, .slice none 0 0]) (cs := [.int .i64 0, .slice (some ⟨g4, 0, none⟩) 3 3, .slice (some ⟨g8, 0, none⟩) 3 3, .slice none 0 0, .slice (some ⟨g12, 0, none⟩) 1 1, .slice (some ⟨g16, 0, none⟩) 2 2, .slice (some ⟨g20, 0, none⟩) 2 2]) 55 _ _ (by with_reducible rfl) (by with_unfolding_all rfl) nS (by exact hnS.symm) _ (by with_unfolding_all rfl) (by with_unfolding_all rfl) (by with_unfolding_all rfl) (by kernel_rfl) (by with_unfolding_all rfl) ?_))
  try simp only [Act.put]
  refine wp_rebase _ (fun V3 hV3 x3 => ?_)
  have HM3 := Lib.hid (show MB w V3 [(nS, (stL g4 g8 g12 g16 g20)), (nB, (lkL ob pb po pc lA tA gA rm))] by
    rw [hV3]
    exact HM2.out.newAt hnS 55 [.int .i64 0, .slice (some ⟨g4, 0, none⟩) 3 3, .slice (some ⟨g8, 0, none⟩) 3 3, .slice none 0 0, .slice (some ⟨g12, 0, none⟩) 1 1, .slice (some ⟨g16, 0, none⟩) 2 2, .slice (some ⟨g20, 0, none⟩) 2 2])
  have HV3 := Lib.hid (show Below w2.heap.size w2 V3 by rw [hV3]; exact bel_alloc (Below.refl _ _) _)
  clear hV3 hnS
  have HL := Lib.hid (show ∀ z : BelW V3, LakeR z.w lv rt ob rm s0 r0 s1 r1 s2 lA tA gA (some ⟨pb, po, none⟩) from fun z => HL2.out.next (below_next HV3.out z.2))
  have HS := Lib.hid (show ∀ z : BelW V3, Mem z.w (stMem g4 g8 g12 g16 g20 a ac b bc c cc) from fun z => HS2.out.next (below_next HV3.out z.2))
  clear HL2 HS2 HV3 HM2
  have RB := Lib.hid (show ∀ z : BelW V3, z.w.rangeAt nB 0 [.string demoN, .slice (some ⟨ob, 0, none⟩) 2 2, .int .i64 1, .slice (some ⟨pb, po, none⟩) 3 pc, .slice (some ⟨lA, 0, none⟩) 1 1, .slice (some ⟨tA, 0, none⟩) 1 1, .slice (some ⟨gA, 0, none⟩) 1 1, .slice none 0 0, .slice none 0 0, .slice (some ⟨rm, 0, none⟩) 3 3, .int .i64 1] from fun z => (HM3.out.box 1 rfl z.2).rng)
  have RS := Lib.hid (show ∀ z : BelW V3, z.w.rangeAt nS 0 [.int .i64 0, .slice (some ⟨g4, 0, none⟩) 3 3, .slice (some ⟨g8, 0, none⟩) 3 3, .slice none 0 0, .slice (some ⟨g12, 0, none⟩) 1 1, .slice (some ⟨g16, 0, none⟩) 2 2, .slice (some ⟨g20, 0, none⟩) 2 2] from fun z => (HM3.out.box 0 rfl z.2).rng)
  obtain ⟨rn, hrn⟩ : ∃ n, x3.w.heap.size = n := ⟨_, rfl⟩
  have CS := Lib.hid (show Calls Tryz.prog 15 #[.agg #[.string demoN, .slice (some ⟨ob, 0, none⟩) 2 2, .int .i64 1, .slice (some ⟨pb, po, none⟩) 3 pc, .slice (some ⟨lA, 0, none⟩) 1 1, .slice (some ⟨tA, 0, none⟩) 1 1, .slice (some ⟨gA, 0, none⟩) 1 1, .slice none 0 0, .slice none 0 0, .slice (some ⟨rm, 0, none⟩) 3 3, .int .i64 1], .agg #[.int .i64 0, .slice (some ⟨g4, 0, none⟩) 3 3, .slice (some ⟨g8, 0, none⟩) 3 3, .slice none 0 0, .slice (some ⟨g12, 0, none⟩) 1 1, .slice (some ⟨g16, 0, none⟩) 2 2, .slice (some ⟨g20, 0, none⟩) 2 2], .agg #[.slice (some ⟨rn, 0, none⟩) 3 3, .slice none 0 0, .slice none 0 0, .slice none 0 0, .slice none 0 0]] (x3.w.alloc (.cells ([.int .i64 50, .int .i64 0, .int .i64 0] : List Value).toArray 3)) (StepQ (x3.w.alloc (.cells ([.int .i64 50, .int .i64 0, .int .i64 0] : List Value).toArray 3))) from step_is pc g4 g8 g12 g16 g20 a ac b bc c cc (x3.w.alloc (.cells ([.int .i64 50, .int .i64 0, .int .i64 0] : List Value).toArray 3)) (HL.out ⟨_, bel_alloc x3.2 _⟩) ((Bo.newAt hrn 3 [.int .i64 50, .int .i64 0, .int .i64 0]).rd) (HS.out ⟨_, bel_alloc x3.2 _⟩))
  go_wp2_with (first | (with_reducible refine wpList_load_g 31 _ (by with_reducible rfl) nB 0 (by with_unfolding_all rfl) (by with_unfolding_all rfl) _ _ (RB.out _) Tryz.underlying31 (by with_unfolding_all rfl) (by kernel_rfl) ?_) | (with_reducible refine wpList_load_g 55 _ (by with_reducible rfl) nS 0 (by with_unfolding_all rfl) (by with_unfolding_all rfl) _ _ (RS.out _) Tryz.underlying55 (by with_unfolding_all rfl) (by kernel_rfl) ?_) | (refine Go.Great.wpList_buildSliceTo rfl 29 3 3 _ rfl (rn) hrn _ rfl (by kernel_rfl) #[.int .i64 50, .int .i64 0, .int .i64 0] (by kernel_rfl) ?_))
  refine CS.out.mono ?_
  rintro e w4 h
  obtain ⟨o, r, rc, AQ, cq, gt, gc, i, ic, u, uc, AM, nm, cm, pk, rfl, hP, hB⟩ := h.ex
  clear h
  have HB4 := Lib.hid (show Below V3.heap.size V3 w4 from below_next (bel_alloc x3.2 _) hB)
  have HP4 := Lib.hid hP
  have HM4 := Lib.hid (show MB w w4 [(nS, (stL g4 g8 g12 g16 g20)), (nB, (lkL ob pb po pc lA tA gA rm))] by
    exact HM3.out.next HB4.out)
  clear hP hB CS RB RS hrn HM3
  obtain ⟨nN, hnN⟩ : ∃ n, w4.heap.size = n := ⟨_, rfl⟩
  go_upto_region 4 with (first | (with_reducible refine wpList_store_new (z := [.int .i64 0, .slice none 0 0, .slice none 0 0, .slice none 0 0, .slice none 0 0, .slice none 0 0, .slice none 0 0]) (cs := [.int .i64 1, .slice (some ⟨o, 0, none⟩) 3 3, .slice (some ⟨r, 0, none⟩) 3 rc, .slice AQ 1 cq, .slice (some ⟨gt, 0, none⟩) 1 gc, .slice (some ⟨i, 0, none⟩) 2 ic, .slice (some ⟨u, 0, none⟩) 2 uc]) 55 _ _ (by with_reducible rfl) (by with_unfolding_all rfl) nN (by exact hnN.symm) _ (by with_unfolding_all rfl) (by with_unfolding_all rfl) (by with_unfolding_all rfl) (by kernel_rfl) (by with_unfolding_all rfl) ?_))
  try simp only [Act.put]
  refine wp_rebase _ (fun V5 hV5 x5 => ?_)
  have HM5 := Lib.hid (show MB w V5 [(nN, [.int .i64 1, .slice (some ⟨o, 0, none⟩) 3 3, .slice (some ⟨r, 0, none⟩) 3 rc, .slice AQ 1 cq, .slice (some ⟨gt, 0, none⟩) 1 gc, .slice (some ⟨i, 0, none⟩) 2 ic, .slice (some ⟨u, 0, none⟩) 2 uc]), (nS, (stL g4 g8 g12 g16 g20)), (nB, (lkL ob pb po pc lA tA gA rm))] by
    rw [hV5]
    exact HM4.out.newAt hnN 55 [.int .i64 1, .slice (some ⟨o, 0, none⟩) 3 3, .slice (some ⟨r, 0, none⟩) 3 rc, .slice AQ 1 cq, .slice (some ⟨gt, 0, none⟩) 1 gc, .slice (some ⟨i, 0, none⟩) 2 ic, .slice (some ⟨u, 0, none⟩) 2 uc])
  have HB5 := Lib.hid (show Below w4.heap.size w4 V5 by rw [hV5]; exact bel_alloc (Below.refl _ _) _)
  clear hV5 hnN
  have HLL := Lib.hid (show ∀ z : BelW V5, LakeR z.w lv rt ob rm s0 r0 s1 r1 s2 lA tA gA (some ⟨pb, po, none⟩) from fun z => HL.out ⟨z.w, below_next HB4.out (below_next HB5.out z.2)⟩)
  have HSS := Lib.hid (show ∀ z : BelW V5, Mem z.w (stMem g4 g8 g12 g16 g20 a ac b bc c cc) from fun z => HS.out ⟨z.w, below_next HB4.out (below_next HB5.out z.2)⟩)
  have bP := fun z : BelW V5 => (show z.w.cell? ⟨pk, 0, none⟩ = some (.int .i64 950) from (HP4.out.next (below_next HB5.out z.2)).cell 0 rfl)
  clear HL HS HM4
  have b6 := fun z : BelW V5 => (show z.w.cell? ⟨nN, 0, none⟩ = some (.int .i64 1) from (HM5.out.box 0 rfl z.2).cell 0 rfl)
  have RB := Lib.hid (HM5.out.get 2 rfl).rng
  have RS := Lib.hid (HM5.out.get 1 rfl).rng
  have HSa := Lib.hid (show ∃ z : BelW V5, x5.w.drew = z.w from ⟨⟨_, x5.2.drew⟩, rfl⟩)
  refine wp_region_tl 26 27 (fun w' => ∃ z : BelW V5, w' = z.w) HSa.out ?_
  refine wpK_nl 31 nB 0 [.string demoN, .slice (some ⟨ob, 0, none⟩) 2 2, .int .i64 1, .slice (some ⟨pb, po, none⟩) 3 pc, .slice (some ⟨lA, 0, none⟩) 1 1, .slice (some ⟨tA, 0, none⟩) 1 1, .slice (some ⟨gA, 0, none⟩) 1 1, .slice none 0 0, .slice none 0 0, .slice (some ⟨rm, 0, none⟩) 3 3, .int .i64 1] _ _ rfl rfl (by with_reducible rfl) (by with_unfolding_all rfl) (by rfl) HSa.out (rangeX RB.out) Tryz.underlying31 ?_; simp only [Act.put, List.setIfInBounds_toArray, List.set_cons_zero, List.set_cons_succ]
  have HC := Lib.hid (show Calls Tryz.prog 16 #[.agg #[.string demoN, .slice (some ⟨ob, 0, none⟩) 2 2, .int .i64 1, .slice (some ⟨pb, po, none⟩) 3 pc, .slice (some ⟨lA, 0, none⟩) 1 1, .slice (some ⟨tA, 0, none⟩) 1 1, .slice (some ⟨gA, 0, none⟩) 1 1, .slice none 0 0, .slice none 0 0, .slice (some ⟨rm, 0, none⟩) 3 3, .int .i64 1]] x5.w.drew (fun e w' => e = .returned (.bool true) ∧ Below x5.w.drew.heap.size x5.w.drew w') from lake_right pc (HLL.out ⟨_, x5.2.drew⟩))
  refine wpK_ne rfl ?_
  go_wp2_with fail
  refine HC.out.mono ?_
  rintro e w6 ⟨rfl, hB⟩
  have HB6 := Lib.hid (show Below V5.heap.size V5 w6 from below_next x5.2.drew hB)
  clear hB HC HSa
  have HSb := Lib.hid (show ∃ z : BelW V5, w6 = z.w from ⟨⟨w6, HB6.out⟩, rfl⟩)
  go_wp2_with fail
  refine ⟨HSb.out, ?_⟩
  iterate 17 (refine wpK_nx rfl rfl HSb.out (Or.inl ⟨by rfl, fun w1 hS => by first | (go_simp <;> with_reducible rfl) | (obtain ⟨z, rfl⟩ := hS; (go_simp <;> with_reducible rfl))⟩) ?_; simp only [Act.put, List.setIfInBounds_toArray, List.set_cons_zero, List.set_cons_succ])
  refine wpK_nl 31 nB 0 [.string demoN, .slice (some ⟨ob, 0, none⟩) 2 2, .int .i64 1, .slice (some ⟨pb, po, none⟩) 3 pc, .slice (some ⟨lA, 0, none⟩) 1 1, .slice (some ⟨tA, 0, none⟩) 1 1, .slice (some ⟨gA, 0, none⟩) 1 1, .slice none 0 0, .slice none 0 0, .slice (some ⟨rm, 0, none⟩) 3 3, .int .i64 1] _ _ rfl rfl (by with_reducible rfl) (by with_unfolding_all rfl) (by rfl) HSb.out (rangeX RB.out) Tryz.underlying31 ?_; simp only [Act.put, List.setIfInBounds_toArray, List.set_cons_zero, List.set_cons_succ]
  refine wpK_nl 31 nB 0 [.string demoN, .slice (some ⟨ob, 0, none⟩) 2 2, .int .i64 1, .slice (some ⟨pb, po, none⟩) 3 pc, .slice (some ⟨lA, 0, none⟩) 1 1, .slice (some ⟨tA, 0, none⟩) 1 1, .slice (some ⟨gA, 0, none⟩) 1 1, .slice none 0 0, .slice none 0 0, .slice (some ⟨rm, 0, none⟩) 3 3, .int .i64 1] _ _ rfl rfl (by with_reducible rfl) (by with_unfolding_all rfl) (by rfl) HSb.out (rangeX RB.out) Tryz.underlying31 ?_; simp only [Act.put, List.setIfInBounds_toArray, List.set_cons_zero, List.set_cons_succ]
  refine wpK_nl 55 nS 0 [.int .i64 0, .slice (some ⟨g4, 0, none⟩) 3 3, .slice (some ⟨g8, 0, none⟩) 3 3, .slice none 0 0, .slice (some ⟨g12, 0, none⟩) 1 1, .slice (some ⟨g16, 0, none⟩) 2 2, .slice (some ⟨g20, 0, none⟩) 2 2] _ _ rfl rfl (by with_reducible rfl) (by with_unfolding_all rfl) (by rfl) HSb.out (rangeX RS.out) Tryz.underlying55 ?_; simp only [Act.put, List.setIfInBounds_toArray, List.set_cons_zero, List.set_cons_succ]
  refine wpK_ld 23 55 nS 0 [.int .i64 0, .slice (some ⟨g4, 0, none⟩) 3 3, .slice (some ⟨g8, 0, none⟩) 3 3, .slice none 0 0, .slice (some ⟨g12, 0, none⟩) 1 1, .slice (some ⟨g16, 0, none⟩) 2 2, .slice (some ⟨g20, 0, none⟩) 2 2] _ _ rfl rfl (by with_reducible rfl) (by with_unfolding_all rfl) (by rfl) HSb.out (rangeX RS.out) Tryz.underlying55 ?_; simp only [Act.put, List.setIfInBounds_toArray, List.set_cons_zero, List.set_cons_succ]
  have HC := Lib.hid (show Calls Tryz.prog 18 #[.agg #[.string demoN, .slice (some ⟨ob, 0, none⟩) 2 2, .int .i64 1, .slice (some ⟨pb, po, none⟩) 3 pc, .slice (some ⟨lA, 0, none⟩) 1 1, .slice (some ⟨tA, 0, none⟩) 1 1, .slice (some ⟨gA, 0, none⟩) 1 1, .slice none 0 0, .slice none 0 0, .slice (some ⟨rm, 0, none⟩) 3 3, .int .i64 1], .agg #[.int .i64 0, .slice (some ⟨g4, 0, none⟩) 3 3, .slice (some ⟨g8, 0, none⟩) 3 3, .slice none 0 0, .slice (some ⟨g12, 0, none⟩) 1 1, .slice (some ⟨g16, 0, none⟩) 2 2, .slice (some ⟨g20, 0, none⟩) 2 2]] w6 (HullQ w6) from of_is pc g4 g8 g12 g16 g20 a ac b bc c cc w6 (HSS.out ⟨w6, HB6.out⟩))
  refine wpK_on 22 rfl ?_
  go_wp2_with fail
  refine HC.out.mono ?_
  rintro e w7 ⟨⟨vo, vc, li, lc, rfl, hM⟩⟩
  have HB7 := Lib.hid (show Below V5.heap.size V5 w7 from below_next HB6.out hM.bel)
  have HM7 := Lib.hid hM.mem
  clear hM HC
  have HSc := Lib.hid (show ∃ z : BelW V5, w7 = z.w from ⟨⟨w7, HB7.out⟩, rfl⟩)
  go_wp2_with fail
  refine ⟨HSc.out, ?_⟩
  have HC := Lib.hid (show Calls Tryz.prog 17 #[.agg #[.string demoN, .slice (some ⟨ob, 0, none⟩) 2 2, .int .i64 1, .slice (some ⟨pb, po, none⟩) 3 pc, .slice (some ⟨lA, 0, none⟩) 1 1, .slice (some ⟨tA, 0, none⟩) 1 1, .slice (some ⟨gA, 0, none⟩) 1 1, .slice none 0 0, .slice none 0 0, .slice (some ⟨rm, 0, none⟩) 3 3, .int .i64 1], .agg #[.int .i64 0, .slice (some ⟨vo, 0, none⟩) 3 vc, .slice none 0 0, .slice (some ⟨li, 0, none⟩) 1 lc], .agg #[.int .i64 0, .slice (some ⟨g4, 0, none⟩) 3 3, .slice (some ⟨g8, 0, none⟩) 3 3, .slice none 0 0, .slice (some ⟨g12, 0, none⟩) 1 1, .slice (some ⟨g16, 0, none⟩) 2 2, .slice (some ⟨g20, 0, none⟩) 2 2]] w7 (fun e w' => e = .returned (.bool true) ∧ Below w7.heap.size w7 w') from hullhas_is pc g4 g8 g12 g16 g20 a ac b bc c cc vo vc li lc w7 (HSS.out ⟨w7, HB7.out⟩) HM7.out)
  refine wpK_on 24 rfl ?_
  go_wp2_with fail
  refine HC.out.mono ?_
  rintro e w8 ⟨rfl, hB⟩
  have HB8 := Lib.hid (show Below V5.heap.size V5 w8 from below_next HB7.out hB)
  clear hB HC
  have HSd := Lib.hid (show ∃ z : BelW V5, w8 = z.w from ⟨⟨w8, HB8.out⟩, rfl⟩)
  go_wp2_with fail
  refine ⟨HSd.out, ?_⟩
  refine wpK_tk 25 rfl rfl HSd.out (Or.inl ⟨by rfl, fun w1 hS => by first | (go_simp <;> with_reducible rfl) | (obtain ⟨z, rfl⟩ := hS; (go_simp <;> with_reducible rfl))⟩) ?_; simp only [Act.put, List.setIfInBounds_toArray, List.set_cons_zero, List.set_cons_succ]
  refine wpK_done (by kernel_rfl) ?_
  simp only [List.drop_succ_cons, List.drop_zero]
  go_wp2_with fail
  go_ret
  exact ⟨rfl, below_next HM5.out.bel HB8.out⟩
end Go.Proofs.YtngjakahanmepaaGreatDoor
