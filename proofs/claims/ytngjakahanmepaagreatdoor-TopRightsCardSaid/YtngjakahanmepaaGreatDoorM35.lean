/- Part 35 of the proof of TopRights: bournelaw49.Lake. The lake is right. Makers whose work is one box each. No walk. small(): slices.Clone gives a box; the lake's rows in memory. No walk. -/
import Derived.Test.YtngjakahanmepaaGreatDoorM34
namespace Go.Proofs.YtngjakahanmepaaGreatDoor
open Go.RowKit
set_option linter.unusedVariables false
set_option linter.unusedSimpArgs false
def demoN : ByteArray := ⟨#[100, 101, 109, 111]⟩
def lakeN : ByteArray := ⟨#[108, 97, 107, 101]⟩
def upperN : ByteArray := ⟨#[117, 112, 112, 101, 114]⟩
def lowerN : ByteArray := ⟨#[108, 111, 119, 101, 114]⟩
def gateN : ByteArray := ⟨#[103, 97, 116, 101]⟩
def townN : ByteArray := ⟨#[116, 111, 119, 110]⟩
def staffN : ByteArray := ⟨#[115, 116, 97, 102, 102]⟩
def publicN : ByteArray := ⟨#[112, 117, 98, 108, 105, 99]⟩
def farmN : ByteArray := ⟨#[102, 97, 114, 109]⟩
def bk (g : Nat) : Option Addr := some ⟨g, 0, none⟩
def levelL : List Sp := [(0, 0), (1000, 1000)]
def rateL : List Sp := [(0, 0), (1000, 400)]
def lakeP (lv s r : Nat) : Pl := ⟨lakeN, 1, 0, 1000, bk lv, 2, levelL, bk s, 2, [600, 300], 0, 0, 1, 0, 0, bk r, 1, [(0, 10)]⟩
def upperP (lv s r : Nat) : Pl := ⟨upperN, 0, 1, 1000, bk lv, 2, levelL, bk s, 2, [100, 0], 1, 2, 2, 0, 0, bk r, 1, [(0, 5)]⟩
def lowerP (lv s : Nat) : Pl := ⟨lowerN, 0, 2, 1000, bk lv, 2, levelL, bk s, 2, [0, 0], 1, 2, -1, 0, 0, none, 0, []⟩
def gateL (rt : Nat) : Lk := ⟨gateN, 0, 0, 1, bk rt, 2, rateL, bk rt, 2, rateL, bk rt, 2, rateL, 4, 1, 0, 0, 0, 0, 0, 0, 0, 0, 0⟩
def townT : Tw := ⟨townN, 1, 700, 2, 10, 300, 1⟩
def staffG : Gg := ⟨staffN, 0, 0, 5, 3⟩
theorem info_place : (Tryz.prog.info? 90).map (fun i => (i.zero, i.size, i.bytes)) = some (some (.agg #[.string ⟨#[]⟩, .int .i64 0, .int .i64 0, .int .i64 0, .slice none 0 0, .slice none 0 0, .int .i64 0, .int .i64 0, .int .i64 0, .int .i64 0, .int .i64 0, .slice none 0 0]), 12, 152) := by kernel_rfl
theorem plc_one (l : List Pl) : ∀ u ∈ plCells l, u.oneCell' = true := fun u hu => by
  unfold plCells at hu
  obtain ⟨x, _, hx⟩ := List.mem_flatMap.1 hu
  simp only [plc, List.mem_cons, List.not_mem_nil, or_false] at hx
  rcases hx with rfl | rfl | rfl | rfl | rfl | rfl | rfl | rfl | rfl | rfl | rfl | rfl <;> rfl
def lakeB (ob rm lA tA gA : Nat) (pA : Option Addr) (pc : Nat) : Value := .agg #[.string demoN, .slice (bk ob) 2 2, .int .i64 1, .slice pA 3 pc, .slice (bk lA) 1 1, .slice (bk tA) 1 1, .slice (bk gA) 1 1, .slice none 0 0, .slice none 0 0, .slice (bk rm) 3 3, .int .i64 1]
def lakePs (lv s0 r0 s1 r1 s2 : Nat) : List Pl := [lakeP lv s0 r0, upperP lv s1 r1, lowerP lv s2]
structure LakeR (w' : World) (lv rt ob rm s0 r0 s1 r1 s2 lA tA gA : Nat) (pA : Option Addr) : Prop where
  row : Rd w' pA (plCells (lakePs lv s0 r0 s1 r1 s2))
  mem : Mem w' [(gA, ggc staffG), (tA, twc townT), (lA, lkc (gateL rt)), (s2, ints [0, 0]), (r1, spCells [(0, 5)]), (s1, ints [100, 0]), (r0, spCells [(0, 10)]), (s0, ints [600, 300]), (rm, ints [5000, 5000, 5000]), (ob, [.string publicN, .string farmN]), (rt, spCells rateL), (lv, spCells levelL)]
def LakeQ (w : World) (e : Ending) (w' : World) : Prop := ∃ lv rt ob rm s0 r0 s1 r1 s2 lA tA gA pA pc, e = .returned (lakeB ob rm lA tA gA pA pc) ∧ LakeR w' lv rt ob rm s0 r0 s1 r1 s2 lA tA gA pA ∧ Below w.heap.size w w'
set_option maxHeartbeats 32000000 in
set_option maxRecDepth 100000 in
theorem lake_any (w : World) : Calls Tryz.prog 13 #[] w (LakeQ w) := by
  obtain ⟨i1, hj0, hj1, hj2, hj3⟩ := info_parts info_place
  have hmx : (1 ≤ maxLen ∧ 2 ≤ maxLen ∧ 3 ≤ maxLen) ∧ (1 + 1 ≤ maxLen ∧ (1 + 1) * 152 ≤ 140737488355328) ∧ (2 + 1 ≤ maxLen ∧ (2 + 1) * 152 ≤ 140737488355328) := by unfold maxLen; omega
  have INF := Lib.hid (And.intro hj0 (And.intro hj1 (And.intro hj2 (And.intro hj3 hmx))))
  clear hj0 hj1 hj2 hj3 hmx
  go_enter Tryz.func13, Tryz.ntmps13
  go_upto_region 1 with fail
  refine wp_named _ (fun W1 hW1 => ?_)
  have HM1 := Lib.hid (show MB w W1 [(w.heap.size, [.string ⟨#[]⟩, .slice none 0 0, .int .i64 0, .slice none 0 0, .slice none 0 0, .slice none 0 0, .slice none 0 0, .slice none 0 0, .slice none 0 0, .slice none 0 0, .int .i64 0])] by rw [hW1]; exact (MB.nil w).new 31 [.string ⟨#[]⟩, .slice none 0 0, .int .i64 0, .slice none 0 0, .slice none 0 0, .slice none 0 0, .slice none 0 0, .slice none 0 0, .slice none 0 0, .slice none 0 0, .int .i64 0])
  clear hW1
  -- the level
  obtain ⟨lv, hlv⟩ : ∃ n, W1.heap.size = n := ⟨_, rfl⟩
  go_upto_region 2 with (first | (refine Go.Great.wpList_buildSliceTo rfl 87 92 2 _ rfl (lv) hlv _ rfl (by kernel_rfl) #[.int .i64 0, .int .i64 0, .int .i64 1000, .int .i64 1000] (by kernel_rfl) ?_))
  refine wp_named _ (fun W2 hW2 => ?_)
  have HM2 := Lib.hid (show MB w W2 [(lv, spCells levelL), (w.heap.size, [.string ⟨#[]⟩, .slice none 0 0, .int .i64 0, .slice none 0 0, .slice none 0 0, .slice none 0 0, .slice none 0 0, .slice none 0 0, .slice none 0 0, .slice none 0 0, .int .i64 0])] by rw [hW2]; exact HM1.out.newAt hlv 92 (spCells levelL))
  clear hW2 HM1 hlv W1
  -- the rate
  obtain ⟨rt, hrt⟩ : ∃ n, W2.heap.size = n := ⟨_, rfl⟩
  go_upto_region 3 with (first | (refine Go.Great.wpList_buildSliceTo rfl 87 92 2 _ rfl (rt) hrt _ rfl (by kernel_rfl) #[.int .i64 0, .int .i64 0, .int .i64 1000, .int .i64 400] (by kernel_rfl) ?_))
  refine wp_named _ (fun W3 hW3 => ?_)
  have HM3 := Lib.hid (show MB w W3 [(rt, spCells rateL), (lv, spCells levelL), (w.heap.size, [.string ⟨#[]⟩, .slice none 0 0, .int .i64 0, .slice none 0 0, .slice none 0 0, .slice none 0 0, .slice none 0 0, .slice none 0 0, .slice none 0 0, .slice none 0 0, .int .i64 0])] by rw [hW3]; exact HM2.out.newAt hrt 92 (spCells rateL))
  clear hW3 HM2 hrt W2
  -- the basin's head
  obtain ⟨n3, hn3⟩ : ∃ n, W3.heap.size = n := ⟨_, rfl⟩
  go_upto_region 4 with (first
    | (refine Go.Great.wpList_buildSliceTo rfl 22 9 2 _ rfl (n3) hn3 _ rfl (by kernel_rfl) #[.string publicN, .string farmN] (by kernel_rfl) ?_)
    | (refine Go.Great.wpList_buildSliceTo rfl 29 3 3 _ rfl (n3 + 1) (by rw [World.size_alloc, hn3]) _ rfl (by kernel_rfl) #[.int .i64 5000, .int .i64 5000, .int .i64 5000] (by kernel_rfl) ?_)
    | (refine wpList_build_as 31 _ (by with_reducible rfl) rfl #[.string demoN, .slice (some ⟨n3, 0, none⟩) 2 2, .int .i64 1, .slice none 0 0, .slice none 0 0, .slice none 0 0, .slice none 0 0, .slice none 0 0, .slice none 0 0, .slice (some ⟨n3 + 1, 0, none⟩) 3 3, .int .i64 1] (by kernel_rfl) ?_)
    | (with_reducible refine wpList_store_new (z := [.string ⟨#[]⟩, .slice none 0 0, .int .i64 0, .slice none 0 0, .slice none 0 0, .slice none 0 0, .slice none 0 0, .slice none 0 0, .slice none 0 0, .slice none 0 0, .int .i64 0]) (cs := [.string demoN, .slice (some ⟨n3, 0, none⟩) 2 2, .int .i64 1, .slice none 0 0, .slice none 0 0, .slice none 0 0, .slice none 0 0, .slice none 0 0, .slice none 0 0, .slice (some ⟨n3 + 1, 0, none⟩) 3 3, .int .i64 1]) 31 _ _ (by with_reducible rfl) (by with_unfolding_all rfl) (n3 + 1 + 1) (by simp only [World.size_alloc, hn3]) _ (by with_unfolding_all rfl) (by with_unfolding_all rfl) (by with_unfolding_all rfl) (by kernel_rfl) (by with_unfolding_all rfl) ?_))
  refine wp_named _ (fun W4 hW4 => ?_)
  have HM4 := Lib.hid (show MB w W4 [(n3 + 1 + 1, [.string demoN, .slice (some ⟨n3, 0, none⟩) 2 2, .int .i64 1, .slice none 0 0, .slice none 0 0, .slice none 0 0, .slice none 0 0, .slice none 0 0, .slice none 0 0, .slice (some ⟨n3 + 1, 0, none⟩) 3 3, .int .i64 1]), (n3 + 1, ints [5000, 5000, 5000]), (n3, [.string publicN, .string farmN]), (rt, spCells rateL), (lv, spCells levelL), (w.heap.size, [.string ⟨#[]⟩, .slice none 0 0, .int .i64 0, .slice none 0 0, .slice none 0 0, .slice none 0 0, .slice none 0 0, .slice none 0 0, .slice none 0 0, .slice none 0 0, .int .i64 0])] by
    rw [hW4]
    have h := ((HM3.out.new 9 [.string publicN, .string farmN]).new 3 (ints [5000, 5000, 5000])).new 31 [.string demoN, .slice (some ⟨n3, 0, none⟩) 2 2, .int .i64 1, .slice none 0 0, .slice none 0 0, .slice none 0 0, .slice none 0 0, .slice none 0 0, .slice none 0 0, .slice (some ⟨n3 + 1, 0, none⟩) 3 3, .int .i64 1]
    simp only [World.size_alloc, hn3] at h
    exact h)
  clear hW4 HM3 hn3 W3
  generalize n3 + 1 + 1 = bb at HM4 ⊢
  generalize n3 + 1 = rm at HM4 ⊢
  obtain ⟨ob, hob⟩ : ∃ n, n3 = n := ⟨_, rfl⟩
  rw [hob] at HM4 ⊢
  clear hob n3
  -- the first place
  obtain ⟨s0, hs0⟩ : ∃ n, W4.heap.size = n := ⟨_, rfl⟩
  go_wp2_with (first
    | (refine Go.Great.wpList_buildSliceTo rfl 29 3 2 _ rfl (s0) hs0 _ rfl (by kernel_rfl) #[.int .i64 600, .int .i64 300] (by kernel_rfl) ?_)
    | (refine Go.Great.wpList_buildSliceTo rfl 88 94 1 _ rfl (s0 + 1) (by rw [World.size_alloc, hs0]) _ rfl (by kernel_rfl) #[.int .i64 0, .int .i64 10] (by kernel_rfl) ?_)
    | (refine wpList_build_as 90 _ (by with_reducible rfl) rfl (plc (lakeP lv s0 (s0 + 1))).toArray (by kernel_rfl) ?_)
    | (refine Go.Great.wpList_buildSliceTo rfl 23 90 1 _ rfl (s0 + 1 + 1) (by simp only [World.size_alloc, hs0]) _ rfl (by kernel_rfl) (plc (lakeP lv s0 (s0 + 1))).toArray (by kernel_rfl) ?_)
    | (refine wpList_store_cell rfl 23 _ _ (by with_reducible rfl) bb 3 (.slice (some ⟨s0 + 1 + 1, 0, none⟩) 1 1) (by with_unfolding_all rfl) (by with_unfolding_all rfl) (HM4.out.box 0 rfl (by repeat (first | exact Below.refl _ _ | refine bel_alloc ?_ _))) (by simp) (by kernel_rfl) rfl ?_))
  intro W5 hW5
  have HM5 := Lib.hid (show MBR w W5 90 12 (.slice (some ⟨s0 + 1 + 1, 0, none⟩) 1 1) 1 (plCells [lakeP lv s0 (s0 + 1)]) [(s0 + 1, spCells [(0, 10)]), (s0, ints [600, 300]), (bb, [.string demoN, .slice (some ⟨ob, 0, none⟩) 2 2, .int .i64 1, .slice (some ⟨s0 + 1 + 1, 0, none⟩) 1 1, .slice none 0 0, .slice none 0 0, .slice none 0 0, .slice none 0 0, .slice none 0 0, .slice (some ⟨rm, 0, none⟩) 3 3, .int .i64 1]), (rm, ints [5000, 5000, 5000]), (ob, [.string publicN, .string farmN]), (rt, spCells rateL), (lv, spCells levelL), (w.heap.size, [.string ⟨#[]⟩, .slice none 0 0, .int .i64 0, .slice none 0 0, .slice none 0 0, .slice none 0 0, .slice none 0 0, .slice none 0 0, .slice none 0 0, .slice none 0 0, .int .i64 0])] by
    rw [hW5.out]
    have h := ((((HM4.out.newAt hs0 3 (ints [600, 300])).newAt (by rw [World.size_alloc, hs0]) 94 (spCells [(0, 10)])).start (g := s0 + 1 + 1) (by simp only [World.size_alloc, hs0]) 90 12 1 (plCells [lakeP lv s0 (s0 + 1)]) rfl INF.out.2.2.2.2.1.1).put 2 rfl (j := 3) (by simp) (.slice (some ⟨s0 + 1 + 1, 0, none⟩) 1 1))
    exact h)
  clear hW5 HM4 hs0 W4
  generalize s0 + 1 + 1 = g0 at HM5 ⊢
  generalize s0 + 1 = r0 at HM5 ⊢
  -- the second place
  obtain ⟨s1, hs1⟩ : ∃ n, W5.heap.size = n := ⟨_, rfl⟩
  have c3 : W5.cell? ⟨bb, 3, none⟩ = some (.slice (some ⟨g0, 0, none⟩) 1 1) := (HM5.out.box 2 rfl (Below.refl _ _)).cell 3 rfl
  go_wp2_with (first
    | (refine Go.Great.wpList_buildSliceTo rfl 29 3 2 _ rfl (s1) hs1 _ rfl (by kernel_rfl) #[.int .i64 100, .int .i64 0] (by kernel_rfl) ?_)
    | (refine Go.Great.wpList_buildSliceTo rfl 88 94 1 _ rfl (s1 + 1) (by simp only [World.size_alloc, hs1]) _ rfl (by kernel_rfl) #[.int .i64 0, .int .i64 5] (by kernel_rfl) ?_)
    | (refine wpList_build_as 90 _ (by with_reducible rfl) rfl (plc (upperP lv s1 (s1 + 1))).toArray (by kernel_rfl) ?_)
    | (refine Go.Great.wpList_buildSliceTo rfl 23 90 1 _ rfl (s1 + 1 + 1) (by simp only [World.size_alloc, hs1]) _ rfl (by kernel_rfl) (plc (upperP lv s1 (s1 + 1))).toArray (by kernel_rfl) ?_)
    | (at_builtin; refine wpList_append_own_at _ rfl _ _ _ (by rfl) w.heap.size 90 i1 _ 12 152 Tryz.underlying23 INF.out.1 INF.out.2.1 INF.out.2.2.1 INF.out.2.2.2.1 rfl (by omega) _ 1 (plCells [lakeP lv s0 r0]) (by rfl) (HM5.out.own (by repeat (first | exact Below.refl _ _ | refine bel_alloc ?_ _))) ⟨s1 + 1 + 1, 0, none⟩ 1 1 (plc (upperP lv s1 (s1 + 1))) (by rfl) (by rfl) (fun j u hu => by rw [add_row]; exact (Bo.newAt (n := s1 + 1 + 1) (by simp only [World.size_alloc, hs1]) 90 (plc (upperP lv s1 (s1 + 1)))).cell j hu) (fun u hu => plc_one [upperP lv s1 (s1 + 1)] u (by simpa [plCells] using hu)) INF.out.2.2.2.2.2.1.1 INF.out.2.2.2.2.2.1.2 (by have := HM5.out.bel.size; simp only [World.size_alloc]; omega) ?_))
  intro v6 W6 hown hgr hnil hat
  have HM6 := Lib.hid (show MBR w W6 90 12 v6 2 (plCells [lakeP lv s0 r0, upperP lv s1 (s1 + 1)]) [(s1 + 1, spCells [(0, 5)]), (s1, ints [100, 0]), (r0, spCells [(0, 10)]), (s0, ints [600, 300]), (bb, [.string demoN, .slice (some ⟨ob, 0, none⟩) 2 2, .int .i64 1, .slice (some ⟨g0, 0, none⟩) 1 1, .slice none 0 0, .slice none 0 0, .slice none 0 0, .slice none 0 0, .slice none 0 0, .slice (some ⟨rm, 0, none⟩) 3 3, .int .i64 1]), (rm, ints [5000, 5000, 5000]), (ob, [.string publicN, .string farmN]), (rt, spCells rateL), (lv, spCells levelL), (w.heap.size, [.string ⟨#[]⟩, .slice none 0 0, .int .i64 0, .slice none 0 0, .slice none 0 0, .slice none 0 0, .slice none 0 0, .slice none 0 0, .slice none 0 0, .slice none 0 0, .int .i64 0])] from
    (((HM5.out.newAt hs1 3 (ints [100, 0])).newAt (by rw [World.size_alloc, hs1]) 94 (spCells [(0, 5)])).next (bel_alloc (Below.refl _ _) _)).appended hown hgr (by simpa only [World.size_alloc, hs1] using hat))
  clear c3 hgr hnil hat
  obtain ⟨A6, c6, rfl, -, -⟩ := own_slice hown
  clear hown hs1
  go_wp2_with (first | (refine wpList_store_cell rfl 23 _ _ (by with_reducible rfl) bb 3 (.slice A6 2 c6) (by with_unfolding_all rfl) (by with_unfolding_all rfl) (HM6.out.box 4 rfl (Below.refl _ _)) (by simp) (by kernel_rfl) rfl ?_))
  intro W7 hW7
  have HM7 := Lib.hid (show MBR w W7 90 12 (.slice A6 2 c6) 2 (plCells [lakeP lv s0 r0, upperP lv s1 (s1 + 1)]) [(s1 + 1, spCells [(0, 5)]), (s1, ints [100, 0]), (r0, spCells [(0, 10)]), (s0, ints [600, 300]), (bb, [.string demoN, .slice (some ⟨ob, 0, none⟩) 2 2, .int .i64 1, .slice A6 2 c6, .slice none 0 0, .slice none 0 0, .slice none 0 0, .slice none 0 0, .slice none 0 0, .slice (some ⟨rm, 0, none⟩) 3 3, .int .i64 1]), (rm, ints [5000, 5000, 5000]), (ob, [.string publicN, .string farmN]), (rt, spCells rateL), (lv, spCells levelL), (w.heap.size, [.string ⟨#[]⟩, .slice none 0 0, .int .i64 0, .slice none 0 0, .slice none 0 0, .slice none 0 0, .slice none 0 0, .slice none 0 0, .slice none 0 0, .slice none 0 0, .int .i64 0])] by
    rw [hW7.out]; exact HM6.out.put 4 rfl (j := 3) (by simp) (.slice A6 2 c6))
  clear hW7 HM6 HM5 W5 W6
  generalize s1 + 1 + 1 = z1
  generalize s1 + 1 = r1 at HM7 ⊢
  -- the third place
  obtain ⟨s2, hs2⟩ : ∃ n, W7.heap.size = n := ⟨_, rfl⟩
  have c3 : W7.cell? ⟨bb, 3, none⟩ = some (.slice A6 2 c6) := (HM7.out.box 4 rfl (Below.refl _ _)).cell 3 rfl
  go_wp2_with (first
    | (refine Go.Great.wpList_buildSliceTo rfl 29 3 2 _ rfl (s2) hs2 _ rfl (by kernel_rfl) #[.int .i64 0, .int .i64 0] (by kernel_rfl) ?_)
    | (refine wpList_build_as 90 _ (by with_reducible rfl) rfl (plc (lowerP lv s2)).toArray (by kernel_rfl) ?_)
    | (refine Go.Great.wpList_buildSliceTo rfl 23 90 1 _ rfl (s2 + 1) (by simp only [World.size_alloc, hs2]) _ rfl (by kernel_rfl) (plc (lowerP lv s2)).toArray (by kernel_rfl) ?_)
    | (at_builtin; refine wpList_append_own_at _ rfl _ _ _ (by rfl) w.heap.size 90 i1 _ 12 152 Tryz.underlying23 INF.out.1 INF.out.2.1 INF.out.2.2.1 INF.out.2.2.2.1 rfl (by omega) _ 2 (plCells [lakeP lv s0 r0, upperP lv s1 r1]) (by rfl) (HM7.out.own (by repeat (first | exact Below.refl _ _ | refine bel_alloc ?_ _))) ⟨s2 + 1, 0, none⟩ 1 1 (plc (lowerP lv s2)) (by rfl) (by rfl) (fun j u hu => by rw [add_row]; exact (Bo.newAt (n := s2 + 1) (by simp only [World.size_alloc, hs2]) 90 (plc (lowerP lv s2))).cell j hu) (fun u hu => plc_one [lowerP lv s2] u (by simpa [plCells] using hu)) INF.out.2.2.2.2.2.2.1 INF.out.2.2.2.2.2.2.2 (by have := HM7.out.bel.size; simp only [World.size_alloc]; omega) ?_))
  intro v8 W8 hown hgr hnil hat
  have HM8 := Lib.hid (show MBR w W8 90 12 v8 3 (plCells (lakePs lv s0 r0 s1 r1 s2)) [(s2, ints [0, 0]), (r1, spCells [(0, 5)]), (s1, ints [100, 0]), (r0, spCells [(0, 10)]), (s0, ints [600, 300]), (bb, [.string demoN, .slice (some ⟨ob, 0, none⟩) 2 2, .int .i64 1, .slice A6 2 c6, .slice none 0 0, .slice none 0 0, .slice none 0 0, .slice none 0 0, .slice none 0 0, .slice (some ⟨rm, 0, none⟩) 3 3, .int .i64 1]), (rm, ints [5000, 5000, 5000]), (ob, [.string publicN, .string farmN]), (rt, spCells rateL), (lv, spCells levelL), (w.heap.size, [.string ⟨#[]⟩, .slice none 0 0, .int .i64 0, .slice none 0 0, .slice none 0 0, .slice none 0 0, .slice none 0 0, .slice none 0 0, .slice none 0 0, .slice none 0 0, .int .i64 0])] from
    ((HM7.out.newAt hs2 3 (ints [0, 0])).next (bel_alloc (Below.refl _ _) _)).appended hown hgr (by simpa only [World.size_alloc, hs2] using hat))
  clear c3 hgr hnil hat
  obtain ⟨A8, c8, rfl, -, -⟩ := own_slice hown
  clear hown hs2
  go_wp2_with (first | (refine wpList_store_cell rfl 23 _ _ (by with_reducible rfl) bb 3 (.slice A8 3 c8) (by with_unfolding_all rfl) (by with_unfolding_all rfl) (HM8.out.box 5 rfl (Below.refl _ _)) (by simp) (by kernel_rfl) rfl ?_))
  intro W9 hW9
  have HM9 := Lib.hid (show MBR w W9 90 12 (.slice A8 3 c8) 3 (plCells (lakePs lv s0 r0 s1 r1 s2)) [(s2, ints [0, 0]), (r1, spCells [(0, 5)]), (s1, ints [100, 0]), (r0, spCells [(0, 10)]), (s0, ints [600, 300]), (bb, [.string demoN, .slice (some ⟨ob, 0, none⟩) 2 2, .int .i64 1, .slice A8 3 c8, .slice none 0 0, .slice none 0 0, .slice none 0 0, .slice none 0 0, .slice none 0 0, .slice (some ⟨rm, 0, none⟩) 3 3, .int .i64 1]), (rm, ints [5000, 5000, 5000]), (ob, [.string publicN, .string farmN]), (rt, spCells rateL), (lv, spCells levelL), (w.heap.size, [.string ⟨#[]⟩, .slice none 0 0, .int .i64 0, .slice none 0 0, .slice none 0 0, .slice none 0 0, .slice none 0 0, .slice none 0 0, .slice none 0 0, .slice none 0 0, .int .i64 0])] by
    rw [hW9.out]; exact HM8.out.put 5 rfl (j := 3) (by simp) (.slice A8 3 c8))
  clear hW9 HM8 HM7 W7 W8
  generalize s2 + 1 = z2
  obtain ⟨lA, hlA⟩ : ∃ n, W9.heap.size = n := ⟨_, rfl⟩
  go_wp2_with (first
    | (refine wpList_build_as 98 _ (by with_reducible rfl) rfl (lkc (gateL rt)).toArray (by kernel_rfl) ?_)
    | (refine Go.Great.wpList_buildSliceTo rfl 24 98 1 _ rfl (lA) hlA _ rfl (by kernel_rfl) (lkc (gateL rt)).toArray (by kernel_rfl) ?_)
    | (refine wpList_store_cell rfl 24 _ _ (by with_reducible rfl) bb 4 (.slice (some ⟨lA, 0, none⟩) 1 1) (by with_unfolding_all rfl) (by with_unfolding_all rfl) (HM9.out.box 5 rfl (by repeat (first | exact Below.refl _ _ | refine bel_alloc ?_ _))) (by simp) (by kernel_rfl) rfl ?_))
  intro W10 hW10
  have HN0 := Lib.hid (show MBR w W10 90 12 (.slice A8 3 c8) 3 (plCells (lakePs lv s0 r0 s1 r1 s2)) [(lA, lkc (gateL rt)), (s2, ints [0, 0]), (r1, spCells [(0, 5)]), (s1, ints [100, 0]), (r0, spCells [(0, 10)]), (s0, ints [600, 300]), (bb, [.string demoN, .slice (some ⟨ob, 0, none⟩) 2 2, .int .i64 1, .slice A8 3 c8, .slice (some ⟨lA, 0, none⟩) 1 1, .slice none 0 0, .slice none 0 0, .slice none 0 0, .slice none 0 0, .slice (some ⟨rm, 0, none⟩) 3 3, .int .i64 1]), (rm, ints [5000, 5000, 5000]), (ob, [.string publicN, .string farmN]), (rt, spCells rateL), (lv, spCells levelL), (w.heap.size, [.string ⟨#[]⟩, .slice none 0 0, .int .i64 0, .slice none 0 0, .slice none 0 0, .slice none 0 0, .slice none 0 0, .slice none 0 0, .slice none 0 0, .slice none 0 0, .int .i64 0])] by
    rw [hW10.out]; exact (HM9.out.newAt hlA 98 (lkc (gateL rt))).put 6 rfl (j := 4) (by simp) (.slice (some ⟨lA, 0, none⟩) 1 1))
  clear hW10 HM9 hlA W9
  obtain ⟨tA, htA⟩ : ∃ n, W10.heap.size = n := ⟨_, rfl⟩
  go_wp2_with (first
    | (refine wpList_build_as 100 _ (by with_reducible rfl) rfl (twc townT).toArray (by kernel_rfl) ?_)
    | (refine Go.Great.wpList_buildSliceTo rfl 25 100 1 _ rfl (tA) htA _ rfl (by kernel_rfl) (twc townT).toArray (by kernel_rfl) ?_)
    | (refine wpList_store_cell rfl 25 _ _ (by with_reducible rfl) bb 5 (.slice (some ⟨tA, 0, none⟩) 1 1) (by with_unfolding_all rfl) (by with_unfolding_all rfl) (HN0.out.box 6 rfl (by repeat (first | exact Below.refl _ _ | refine bel_alloc ?_ _))) (by simp) (by kernel_rfl) rfl ?_))
  intro W11 hW11
  have HN1 := Lib.hid (show MBR w W11 90 12 (.slice A8 3 c8) 3 (plCells (lakePs lv s0 r0 s1 r1 s2)) [(tA, twc townT), (lA, lkc (gateL rt)), (s2, ints [0, 0]), (r1, spCells [(0, 5)]), (s1, ints [100, 0]), (r0, spCells [(0, 10)]), (s0, ints [600, 300]), (bb, [.string demoN, .slice (some ⟨ob, 0, none⟩) 2 2, .int .i64 1, .slice A8 3 c8, .slice (some ⟨lA, 0, none⟩) 1 1, .slice (some ⟨tA, 0, none⟩) 1 1, .slice none 0 0, .slice none 0 0, .slice none 0 0, .slice (some ⟨rm, 0, none⟩) 3 3, .int .i64 1]), (rm, ints [5000, 5000, 5000]), (ob, [.string publicN, .string farmN]), (rt, spCells rateL), (lv, spCells levelL), (w.heap.size, [.string ⟨#[]⟩, .slice none 0 0, .int .i64 0, .slice none 0 0, .slice none 0 0, .slice none 0 0, .slice none 0 0, .slice none 0 0, .slice none 0 0, .slice none 0 0, .int .i64 0])] by
    rw [hW11.out]; exact (HN0.out.newAt htA 100 (twc townT)).put 7 rfl (j := 5) (by simp) (.slice (some ⟨tA, 0, none⟩) 1 1))
  clear hW11 HN0 htA W10
  obtain ⟨gA, hgA⟩ : ∃ n, W11.heap.size = n := ⟨_, rfl⟩
  go_wp2_with (first
    | (refine wpList_build_as 102 _ (by with_reducible rfl) rfl (ggc staffG).toArray (by kernel_rfl) ?_)
    | (refine Go.Great.wpList_buildSliceTo rfl 26 102 1 _ rfl (gA) hgA _ rfl (by kernel_rfl) (ggc staffG).toArray (by kernel_rfl) ?_)
    | (refine wpList_store_cell rfl 26 _ _ (by with_reducible rfl) bb 6 (.slice (some ⟨gA, 0, none⟩) 1 1) (by with_unfolding_all rfl) (by with_unfolding_all rfl) (HN1.out.box 7 rfl (by repeat (first | exact Below.refl _ _ | refine bel_alloc ?_ _))) (by simp) (by kernel_rfl) rfl ?_))
  intro W12 hW12
  have HN2 := Lib.hid (show MBR w W12 90 12 (.slice A8 3 c8) 3 (plCells (lakePs lv s0 r0 s1 r1 s2)) [(gA, ggc staffG), (tA, twc townT), (lA, lkc (gateL rt)), (s2, ints [0, 0]), (r1, spCells [(0, 5)]), (s1, ints [100, 0]), (r0, spCells [(0, 10)]), (s0, ints [600, 300]), (bb, [.string demoN, .slice (some ⟨ob, 0, none⟩) 2 2, .int .i64 1, .slice A8 3 c8, .slice (some ⟨lA, 0, none⟩) 1 1, .slice (some ⟨tA, 0, none⟩) 1 1, .slice (some ⟨gA, 0, none⟩) 1 1, .slice none 0 0, .slice none 0 0, .slice (some ⟨rm, 0, none⟩) 3 3, .int .i64 1]), (rm, ints [5000, 5000, 5000]), (ob, [.string publicN, .string farmN]), (rt, spCells rateL), (lv, spCells levelL), (w.heap.size, [.string ⟨#[]⟩, .slice none 0 0, .int .i64 0, .slice none 0 0, .slice none 0 0, .slice none 0 0, .slice none 0 0, .slice none 0 0, .slice none 0 0, .slice none 0 0, .int .i64 0])] by
    rw [hW12.out]; exact (HN1.out.newAt hgA 102 (ggc staffG)).put 8 rfl (j := 6) (by simp) (.slice (some ⟨gA, 0, none⟩) 1 1))
  clear hW12 HN1 hgA W11
  go_wp2_with (first
    | (with_reducible refine wpList_load_g 31 _ (by with_reducible rfl) bb 0 (by with_unfolding_all rfl) (by with_unfolding_all rfl) _ _ (HN2.out.box 8 rfl (Below.refl _ _)).rng Tryz.underlying31 (by with_unfolding_all rfl) (by kernel_rfl) ?_)
    | (with_reducible refine wpList_store_named rfl 31 _ _ (by with_reducible rfl) w.heap.size 0 #[.string demoN, .slice (some ⟨ob, 0, none⟩) 2 2, .int .i64 1, .slice A8 3 c8, .slice (some ⟨lA, 0, none⟩) 1 1, .slice (some ⟨tA, 0, none⟩) 1 1, .slice (some ⟨gA, 0, none⟩) 1 1, .slice none 0 0, .slice none 0 0, .slice (some ⟨rm, 0, none⟩) 3 3, .int .i64 1] (by with_unfolding_all rfl) (by with_unfolding_all rfl) (by with_unfolding_all exact (HN2.out.box 13 rfl (Below.refl _ _)).there) (by kernel_rfl) (by with_unfolding_all rfl) ?_))
  intro WF hWF
  have HF := Lib.hid (show MBR w WF 90 12 (.slice A8 3 c8) 3 (plCells (lakePs lv s0 r0 s1 r1 s2)) [(gA, ggc staffG), (tA, twc townT), (lA, lkc (gateL rt)), (s2, ints [0, 0]), (r1, spCells [(0, 5)]), (s1, ints [100, 0]), (r0, spCells [(0, 10)]), (s0, ints [600, 300]), (bb, [.string demoN, .slice (some ⟨ob, 0, none⟩) 2 2, .int .i64 1, .slice A8 3 c8, .slice (some ⟨lA, 0, none⟩) 1 1, .slice (some ⟨tA, 0, none⟩) 1 1, .slice (some ⟨gA, 0, none⟩) 1 1, .slice none 0 0, .slice none 0 0, .slice (some ⟨rm, 0, none⟩) 3 3, .int .i64 1]), (rm, ints [5000, 5000, 5000]), (ob, [.string publicN, .string farmN]), (rt, spCells rateL), (lv, spCells levelL), (w.heap.size, [.string demoN, .slice (some ⟨ob, 0, none⟩) 2 2, .int .i64 1, .slice A8 3 c8, .slice (some ⟨lA, 0, none⟩) 1 1, .slice (some ⟨tA, 0, none⟩) 1 1, .slice (some ⟨gA, 0, none⟩) 1 1, .slice none 0 0, .slice none 0 0, .slice (some ⟨rm, 0, none⟩) 3 3, .int .i64 1])] by
    rw [hWF.out]
    exact HN2.out.fill 13 rfl [.string demoN, .slice (some ⟨ob, 0, none⟩) 2 2, .int .i64 1, .slice A8 3 c8, .slice (some ⟨lA, 0, none⟩) 1 1, .slice (some ⟨tA, 0, none⟩) 1 1, .slice (some ⟨gA, 0, none⟩) 1 1, .slice none 0 0, .slice none 0 0, .slice (some ⟨rm, 0, none⟩) 3 3, .int .i64 1] rfl)
  clear hWF HN2
  obtain ⟨A', c', e', -, hrd⟩ := own_slice HF.out.row.own
  cases e'
  have HQ := Lib.hid (show LakeQ w (.returned (lakeB ob rm lA tA gA A8 c8)) WF from ⟨lv, rt, ob, rm, s0, r0, s1, r1, s2, lA, tA, gA, A8, c8, rfl, ⟨hrd, HF.out.mb.mem.sub (by
    repeat (first | exact List.nil_sublist _ | refine List.Sublist.cons_cons _ ?_ | refine List.Sublist.cons _ ?_))⟩, HF.out.bel⟩)
  have hz := HF.out.box 13 rfl (Below.refl _ _)
  have zc0 := hz.cell 0 rfl
  have zc1 := hz.cell 1 rfl
  have zc2 := hz.cell 2 rfl
  have zc3 := hz.cell 3 rfl
  have zc4 := hz.cell 4 rfl
  have zc5 := hz.cell 5 rfl
  have zc6 := hz.cell 6 rfl
  have zc7 := hz.cell 7 rfl
  have zc8 := hz.cell 8 rfl
  have zc9 := hz.cell 9 rfl
  have zc10 := hz.cell 10 rfl
  clear hz hrd
  go_wp2_with fail
  refine bodyPost_ret (v := lakeB ob rm lA tA gA A8 c8) ?_ rfl HQ.out
  simp [results, Tryz.results13, go_sem, zc0, zc1, zc2, zc3, zc4, zc5, zc6, zc7, zc8, zc9, zc10, lakeB, bk]
end Go.Proofs.YtngjakahanmepaaGreatDoor
namespace Go.Proofs.YtngjakahanmepaaGreatDoor
open Go.RowKit
set_option linter.unusedVariables false
set_option linter.unusedSimpArgs false
theorem level_right : RightP levelL := ⟨by decide, by decide, fun k hk => by
  have h : k = 0 ∨ k = 1 := by have : levelL.length = 2 := rfl; omega
  rcases h with rfl | rfl
  · exact ⟨by decide, by decide, by decide, by decide, fun h => absurd h (by decide)⟩
  · exact ⟨by decide, by decide, by decide, by decide, fun _ => ⟨by decide, by decide⟩⟩⟩
theorem rate_right : RightP rateL := ⟨by decide, by decide, fun k hk => by
  have h : k = 0 ∨ k = 1 := by have : rateL.length = 2 := rfl; omega
  rcases h with rfl | rfl
  · exact ⟨by decide, by decide, by decide, by decide, fun h => absurd h (by decide)⟩
  · exact ⟨by decide, by decide, by decide, by decide, fun _ => ⟨by decide, by decide⟩⟩⟩
theorem rate_idx0 : IsIdx rateL 0 1 := ⟨by decide, (fun t ht => by
  obtain rfl : t = 0 := by omega
  decide), fun t h1 h2 => by
  have : rateL.length = 2 := rfl
  obtain rfl : t = 1 := by omega
  decide⟩
theorem rate_idx1 : IsIdx rateL 1000 2 := ⟨by decide, (fun t ht => by
  have h : t = 0 ∨ t = 1 := by omega
  rcases h with rfl | rfl <;> decide), fun t h1 h2 => by
  have : rateL.length = 2 := rfl
  omega⟩
theorem rate_cv0 : cv rateL 0 = (0, false) := by unfold cv; rw [idx_eq rate_idx0]; decide
theorem rate_cv1 : cv rateL 1000 = (400, false) := by unfold cv; rw [idx_eq rate_idx1]; decide
theorem rate_under : UnderP rateL rateL := ⟨rate_right, rate_right, (fun k hk => by
  have h : k = 0 ∨ k = 1 := by have : rateL.length = 2 := rfl; omega
  rcases h with rfl | rfl
  · show (0 : Int) ≤ (cv rateL 0).1
    rw [rate_cv0]; decide
  · show (400 : Int) ≤ (cv rateL 1000).1
    rw [rate_cv1]; decide), fun k hk => by
  have h : k = 0 ∨ k = 1 := by have : rateL.length = 2 := rfl; omega
  rcases h with rfl | rfl
  · show (cv rateL 0).1 ≤ 0 ∧ ¬ ((cv rateL 0).1 = 0 ∧ (cv rateL 0).2 = true)
    rw [rate_cv0]; decide
  · show (cv rateL 1000).1 ≤ 400 ∧ ¬ ((cv rateL 1000).1 = 400 ∧ (cv rateL 1000).2 = true)
    rw [rate_cv1]; decide⟩
theorem place_right {n on : Nat} {cells : Int} {i : Nat} {x : Pl} (h : RightP x.level)
    (h2 : (inB x.kind 0 3 && inB x.office 0 2 && inB x.delay 0 240 && volB x.cap && volB x.floor && decide (x.start.length = on) && fracB x.num x.den && targB n (i : Int) x.down && x.start.all volB && rainGo cells (-1) x.rain) = true) : placeB n on cells i x = true := by
  unfold placeB
  rw [rightB_iff.2 h, Bool.and_true]
  exact h2
set_option maxRecDepth 100000 in
theorem lake_basinB (lv s0 r0 s1 r1 s2 rt : Nat) : basinB demoN [publicN, farmN] 1 (lakePs lv s0 r0 s1 r1 s2) [gateL rt] [townT] [staffG] [] [] [5000, 5000, 5000] 1 = true := by
  unfold basinB
  have h1 : headB demoN [publicN, farmN].length 1 (lakePs lv s0 r0 s1 r1 s2).length ([] : List Rv).length ([] : List Sh).length [5000, 5000, 5000] 1 = true := by kernel_rfl
  have h2 : namesB [publicN, farmN] (lakePs lv s0 r0 s1 r1 s2) [gateL rt] [townT] [] [staffG] [] = true := by kernel_rfl
  have h3 : placesB [publicN, farmN].length 1 (lakePs lv s0 r0 s1 r1 s2) = true := by
    unfold placesB
    rw [placeGo_all (fun k hk => by
      have h : k = 0 ∨ k = 1 ∨ k = 2 := by have : (lakePs lv s0 r0 s1 r1 s2).length = 3 := rfl; omega
      rcases h with rfl | rfl | rfl
      · exact place_right level_right (by kernel_rfl)
      · exact place_right level_right (by kernel_rfl)
      · exact place_right level_right (by kernel_rfl))]
    kernel_rfl
  have h4 : [gateL rt].all (linkB (lakePs lv s0 r0 s1 r1 s2).length) = true := by
    simp only [List.all_cons, List.all_nil, Bool.and_true]
    unfold linkB
    have hf : fieldsB (gateL rt) = true := by
      unfold fieldsB
      rw [if_pos (show (gateL rt).kind = 0 from rfl)]
      have a1 : rightB (gateL rt).rate = true := rightB_iff.2 rate_right
      have a2 : rightB (gateL rt).lo = true := rightB_iff.2 rate_right
      have a3 : rightB (gateL rt).hi = true := rightB_iff.2 rate_right
      have a4 : underB (gateL rt).lo (gateL rt).rate = true := underB_iff.2 rate_under
      have a5 : underB (gateL rt).rate (gateL rt).hi = true := underB_iff.2 rate_under
      rw [a1, a2, a3, a4, a5]
      rfl
    rw [hf]
    rfl
  have h5 : ((lakePs lv s0 r0 s1 r1 s2).all (offP (lakePs lv s0 r0 s1 r1 s2)) && [gateL rt].all (offL (lakePs lv s0 r0 s1 r1 s2))) = true := by kernel_rfl
  have h6 : slopesB (lakePs lv s0 r0 s1 r1 s2) [gateL rt] = true := by kernel_rfl
  have h7 : ([townT].all (townB (lakePs lv s0 r0 s1 r1 s2).length) && ([] : List Sh).all shelB) = true := by kernel_rfl
  have h8 : [staffG].all (gaugB (lakePs lv s0 r0 s1 r1 s2).length (1 : Int).toNat [gateL rt].length) = true := by kernel_rfl
  have h9 : ([] : List Rv).all (roadB [townT].length ([] : List Sh).length (lakePs lv s0 r0 s1 r1 s2).length) = true := rfl
  rw [h1, h2, h3, h4, h5, h6, h7, h8, h9]
  rfl
theorem lake_ok (OA B LA TA GA RDA SA MA : Option Addr) (lv s0 r0 s1 r1 s2 rt : Nat) : BasOk demoN OA B LA TA GA RDA SA MA [publicN, farmN] (lakePs lv s0 r0 s1 r1 s2) [gateL rt] [townT] [staffG] [] [] [5000, 5000, 5000] where
  nmz := by decide
  oz := by simp only [List.mem_cons, List.not_mem_nil, or_false]; rintro x (rfl | rfl) <;> decide
  pz := by simp only [lakePs, List.mem_cons, List.not_mem_nil, or_false]; rintro x (rfl | rfl | rfl) <;> (show _ ≤ _; exact Nat.le_of_ble_eq_true rfl)
  lz := by simp only [List.mem_cons, List.not_mem_nil, or_false]; rintro x rfl; exact Nat.le_of_ble_eq_true rfl
  tz := by simp only [List.mem_cons, List.not_mem_nil, or_false]; rintro x rfl; decide
  sz := by rintro x h; cases h
  gz := by simp only [List.mem_cons, List.not_mem_nil, or_false]; rintro x rfl; decide
  rz := by rintro x h; cases h
  pl := by simp only [lakePs, List.mem_cons, List.not_mem_nil, or_false]; rintro x (rfl | rfl | rfl) <;> simp [lakeP, upperP, lowerP, levelL]
  ll := by simp only [List.mem_cons, List.not_mem_nil, or_false]; rintro x rfl; simp [gateL, rateL]
  rl := by simp
  sl := by simp
  ml := by simp
theorem lake_rd {w : World} {lv rt ob rm s0 r0 s1 r1 s2 lA tA gA : Nat} {pA : Option Addr} (h : LakeR w lv rt ob rm s0 r0 s1 r1 s2 lA tA gA pA) : BasRd (bk ob) pA (bk lA) (bk tA) (bk gA) none none (bk rm) [publicN, farmN] (lakePs lv s0 r0 s1 r1 s2) [gateL rt] [townT] [staffG] [] [] [5000, 5000, 5000] w where
  o := (h.mem.get 9 rfl).rd
  p := ⟨h.row, (by simp only [lakePs, List.mem_cons, List.not_mem_nil, or_false]; rintro x (rfl | rfl | rfl) <;> exact (h.mem.get 11 rfl).rd),
    (by simp only [lakePs, List.mem_cons, List.not_mem_nil, or_false]; rintro x (rfl | rfl | rfl); exact (h.mem.get 7 rfl).rd; exact (h.mem.get 5 rfl).rd; exact (h.mem.get 3 rfl).rd),
    (by simp only [lakePs, List.mem_cons, List.not_mem_nil, or_false]; rintro x (rfl | rfl | rfl); exact (h.mem.get 6 rfl).rd; exact (h.mem.get 4 rfl).rd; exact Rd.nil _ _)⟩
  l := ⟨(h.mem.get 2 rfl).rd, (by simp only [List.mem_cons, List.not_mem_nil, or_false]; rintro x rfl; exact (h.mem.get 10 rfl).rd), (by simp only [List.mem_cons, List.not_mem_nil, or_false]; rintro x rfl; exact (h.mem.get 10 rfl).rd), (by simp only [List.mem_cons, List.not_mem_nil, or_false]; rintro x rfl; exact (h.mem.get 10 rfl).rd)⟩
  t := (h.mem.get 1 rfl).rd
  g := (h.mem.get 0 rfl).rd
  r := Rd.nil _ _
  s := Rd.nil _ _
  m := (h.mem.get 8 rfl).rd
theorem LakeR.next {w w' : World} {lv rt ob rm s0 r0 s1 r1 s2 lA tA gA : Nat} {pA : Option Addr} (h : LakeR w lv rt ob rm s0 r0 s1 r1 s2 lA tA gA pA) (hb : Below w.heap.size w w') : LakeR w' lv rt ob rm s0 r0 s1 r1 s2 lA tA gA pA := ⟨h.row.below (Nat.le_refl _) hb, h.mem.next hb⟩
theorem lake_right {w : World} {lv rt ob rm s0 r0 s1 r1 s2 lA tA gA : Nat} {pA : Option Addr} (pc : Nat) (h : LakeR w lv rt ob rm s0 r0 s1 r1 s2 lA tA gA pA) : Calls Tryz.prog 16 #[lakeB ob rm lA tA gA pA pc] w fun e w' => e = .returned (.bool true) ∧ Below w.heap.size w w' := by
  have hc := bright_is demoN (bk ob) pA (bk lA) (bk tA) (bk gA) none none (bk rm) 2 pc 1 1 1 0 0 3 [publicN, farmN] 1 (lakePs lv s0 r0 s1 r1 s2) [gateL rt] [townT] [staffG] [] [] [5000, 5000, 5000] 1 (by decide) (by show 3 ≤ 5; decide) (by show 1 ≤ 4; decide) (by decide) (by decide) (lake_ok _ _ _ _ _ _ _ _ lv s0 r0 s1 r1 s2 rt) w (lake_rd h)
  rw [lake_basinB] at hc
  exact hc
end Go.Proofs.YtngjakahanmepaaGreatDoor
namespace Go.Proofs.YtngjakahanmepaaGreatDoor
open Go.RowKit
set_option linter.unusedVariables false
set_option linter.unusedSimpArgs false
theorem Bo.of_own {w : World} {B : Nat} {e : TypeId} {size n c g : Nat} {xs : List Value} (h : w.ownsRow B e size (.slice (some ⟨g, 0, none⟩) n c) n xs) : Bo w g xs :=
  ⟨fun j u hu => by
    have := World.ownsRow.cells h rfl j u hu
    rw [add_row] at this
    rw [Nat.zero_add]
    exact this, fun o => World.ownsRow.frozenAt h o, (World.ownsRow.lt h g rfl).2⟩
theorem eval_putAll {d : Nat → Nat} {vs : Nat → Value} {k : Nat} : ∀ {D : List Nat} {a : Act}, (∀ j ∈ D, d j ≠ k) → (putAll d vs D a).eval (.tmp k) = a.eval (.tmp k)
  | [], _, _ => rfl
  | x :: r, a, h => by
    show (putAll d vs r (a.put (some (d x)) (vs x))).eval (.tmp k) = _
    rw [eval_putAll (fun j hj => h j (by simp [hj]))]
    have hx : d x ≠ k := h x (by simp)
    unfold Act.eval Act.put
    simp only [Array.getD_eq_getD_getElem?, Array.getElem?_setIfInBounds_ne hx]
def FB (mkv : Nat → Nat → Value) (cs : Nat → List Value) (i : Nat) (v : Value) (lo hi : Nat) (w' : World) : Prop := ∃ g, v = mkv i g ∧ lo ≤ g ∧ g < hi ∧ Bo w' g (cs i)
theorem FB.next {mkv : Nat → Nat → Value} {cs : Nat → List Value} (i : Nat) (v : Value) (lo hi : Nat) (w w' : World) (h : FB mkv cs i v lo hi w) (hb : Below w.heap.size w w') : FB mkv cs i v lo hi w' := by
  obtain ⟨g, h1, h2, h3, h4⟩ := h
  exact ⟨g, h1, h2, h3, h4.next hb⟩
section
variable {P : Program} {l : List Oper} {Q : Exit → Act → World → Prop}
theorem maker_slice {M : List Nat} {d : Nat → Nat} {a0 : Act} {w0 : World} {mkv : Nat → Nat → Value} {cs : Nat → List Value} (i : Nat) {o : Oper} (ho : l.toArray[i]? = some o) (hg : o.guard = none) (k : Nat) (t e : TypeId) (hop : o.op = Op.makeSlice t (.tmp k) (.tmp k)) (hdst : o.dst = some (d i))
    (hk : ∀ j ∈ M, d j ≠ k) (ie : TypeInfo) (z : Value) (size : Nat) (h1 : P.underlying t = some (.slice e)) (h2 : P.info? e = some ie) (h3 : ie.zero = some z) (h4 : ie.size = size) (N : Nat) (hl : a0.eval (.tmp k) = .int .i64 (N : Int))
    (b2 : ie.bytes * N ≤ 281474976710656) (b3 : N ≤ maxLen) (hv : ∀ g, mkv i g = .slice (some ⟨g, 0, none⟩) N N) (hcs : cs i = (madeCells z.cells (N * size)).toList) :
    ∃ o, l.toArray[i]? = some o ∧ ∀ D vs w K', (∀ j ∈ D, j ∈ M) → Below w0.heap.size w0 w →
      (∀ v w', FB mkv cs i v w.heap.size w'.heap.size w' → Below w.heap.size w w' → K' ((putAll d vs D a0).put (some (d i)) v) w') → wpList P l.toArray (onNormal Q K') [o] (putAll d vs D a0) w :=
  ⟨o, ho, fun D vs w K' hD _ hK => by
    have he : (putAll d vs D a0).eval (.tmp k) = .int .i64 (N : Int) := (eval_putAll (fun j hj => hk j (hD j hj))).trans hl
    refine wpList_make_full w hg _ _ t hop w.heap.size e ie z size h1 h2 h3 h4 .i64 .i64 _ _ N he he rfl rfl b2 b3 (Nat.le_refl _) (fun w' hown hgr => ?_)
    show onNormal Q K' .normal _ w'
    rw [hdst]
    exact hK _ _ ⟨w.heap.size, (hv _).symm, Nat.le_refl _, (World.ownsRow.lt hown _ rfl).2, hcs ▸ Bo.of_own hown⟩ (below_grown (Below.refl _ _) hgr (fun k hk => by cases hk))⟩
theorem maker_alloc {M : List Nat} {d : Nat → Nat} {a0 : Act} {w0 : World} {mkv : Nat → Nat → Value} {cs : Nat → List Value} (i : Nat) {o : Oper} (ho : l.toArray[i]? = some o) (hg : o.guard = none) (hdst : o.dst = some (d i)) (t : TypeId)
    (hrun : ∀ (a : Act) (w : World), (execOp a.eval o).run P w = .ok (.value (.pointer (some ⟨w.heap.size, 0, none⟩))) (w.alloc (.cells (cs i).toArray t))) (hv : ∀ g, mkv i g = .pointer (some ⟨g, 0, none⟩)) :
    ∃ o, l.toArray[i]? = some o ∧ ∀ D vs w K', (∀ j ∈ D, j ∈ M) → Below w0.heap.size w0 w →
      (∀ v w', FB mkv cs i v w.heap.size w'.heap.size w' → Below w.heap.size w w' → K' ((putAll d vs D a0).put (some (d i)) v) w') → wpList P l.toArray (onNormal Q K') [o] (putAll d vs D a0) w :=
  ⟨o, ho, fun D vs w K' hD _ hK => by
    refine Go.Great.wpList_allocTo hg (some (d i)) hdst _ _ (hrun _ _) ?_
    show onNormal Q K' .normal _ _
    exact hK _ _ ⟨w.heap.size, (hv _).symm, Nat.le_refl _, by rw [World.size_alloc]; exact Nat.lt_succ_self _, Bo.new w t (cs i)⟩ (bel_alloc (Below.refl _ _) _)⟩
end
section
variable {P : Program} {l : List Oper} {Q : Exit → Act → World → Prop} {S : World → Prop} {n : Nat}
end
theorem dis_ne {a b c d g h : Nat} (h1 : a ≤ g ∧ g < b) (h2 : c ≤ h ∧ h < d) (hd : b ≤ c ∨ d ≤ a) : g ≠ h := by omega
end Go.Proofs.YtngjakahanmepaaGreatDoor
namespace Go.Proofs.YtngjakahanmepaaGreatDoor
open Go.RowKit
set_option linter.unusedVariables false
set_option linter.unusedSimpArgs false
/-- the row that slices.Clone gives back -/
def ClB (n : Nat) (p : List Int) (w : World) (e : Ending) (w' : World) : Prop := ∃ g c, e = .returned (.slice (some ⟨g, 0, none⟩) n c) ∧ Bo w' g (ints p) ∧ w.heap.size ≤ g ∧ Below w.heap.size w w'
theorem clone_bo (b c n : Nat) (p : List Int) (hp : p.length = n) (h0 : 0 < n) (hn : n ≤ 1000) (w : World) (hr : Rd w (some ⟨b, 0, none⟩) (ints p)) :
    Calls Tryz.prog 28 #[.slice (some ⟨b, 0, none⟩) n c] w (ClB n p w) := by
  refine (clone_any (some ⟨b, 0, none⟩) c p n hp (fun h => by cases h) hn w hr).mono ?_
  rintro e w' ⟨A, c', rfl, _, _, hown, _, hb⟩
  rw [hp] at hown ⊢
  obtain ⟨g, cap, e1, _, _, hge, _, _⟩ := own_rd2 hown h0
  cases e1
  exact ⟨g, _, rfl, Bo.of_own hown, hge, hb⟩
theorem lake_pl {w : World} {lv rt ob rm s0 r0 s1 r1 s2 lA tA gA : Nat} {pA : Option Addr} (h : LakeR w lv rt ob rm s0 r0 s1 r1 s2 lA tA gA pA) :
    ∃ pb po, pA = some ⟨pb, po, none⟩ ∧ pb < w.heap.size ∧ w.rangeAt pb po (plc (lakeP lv s0 r0)) ∧ w.rangeAt pb (po + 12) (plc (upperP lv s1 r1)) ∧ w.rangeAt pb (po + 24) (plc (lowerP lv s2)) := by
  have hr : Rd w pA ((lakePs lv s0 r0 s1 r1 s2).flatMap plc) := h.row
  obtain ⟨ad, b, o, e, hb, h1, h2⟩ := Rd.row plc 12 plc_length (by omega) hr (k := 0) (by show 0 < 3; omega)
  obtain ⟨ad1, b1, o1, e1, _, h3, h4⟩ := Rd.row plc 12 plc_length (by omega) hr (k := 1) (by show 1 < 3; omega)
  obtain ⟨ad2, b2, o2, e2, _, h5, h6⟩ := Rd.row plc 12 plc_length (by omega) hr (k := 2) (by show 2 < 3; omega)
  cases e.symm.trans e1
  cases e.symm.trans e2
  have h1' : ad = ⟨b, o, none⟩ := h1
  subst h1'
  have h3' : (⟨b, o + 12, none⟩ : Addr) = ⟨b1, o1, none⟩ := h3
  have h5' : (⟨b, o + 24, none⟩ : Addr) = ⟨b2, o2, none⟩ := h5
  cases h3'
  cases h5'
  exact ⟨b, o, e, hb, h2, h4, h6⟩
end Go.Proofs.YtngjakahanmepaaGreatDoor
