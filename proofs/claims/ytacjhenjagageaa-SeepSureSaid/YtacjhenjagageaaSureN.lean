/- SeepSure: the walk. -/
import Derived.Test.YtacjhenjagageaaEnc20
import Derived.Test.YtacjhenjagageaaHolds
import Derived.Test.YtacjhenjagageaaKtwo
namespace Go.Proofs.Ytacjhenjagageaa
open Go.RowKit
set_option linter.unusedVariables false
set_option linter.unusedSimpArgs false

theorem five {V w2 V5 : World} {g : Nat} {z0 z1 z2 z3 z4 a0 a1 a2 a3 a4 : Value} {l : List (Addr × Value)} (hb : Below V.heap.size V w2) (hg : V.heap.size ≤ g)
    (n0 : w2.cell? ⟨g, 0, none⟩ = some z0) (n1 : w2.cell? ⟨g, 1, none⟩ = some z1) (n2 : w2.cell? ⟨g, 2, none⟩ = some z2) (n3 : w2.cell? ⟨g, 3, none⟩ = some z3) (n4 : w2.cell? ⟨g, 4, none⟩ = some z4) (hc : Cs V l)
    (hV : V5 = ((((w2.setCell ⟨g, 0, none⟩ a0).setCell ⟨g, 1, none⟩ a1).setCell ⟨g, 2, none⟩ a2).setCell ⟨g, 3, none⟩ a3).setCell ⟨g, 4, none⟩ a4) :
    Below V.heap.size V V5 ∧ Cs V5 (join (newCells g 0 [a0, a1, a2, a3, a4]) l) := by
  have hB : Below V.heap.size V V5 := by
    rw [hV]
    exact ((((hb.setCell (p := ⟨g, 0, none⟩) hg _).setCell (p := ⟨g, 1, none⟩) hg _).setCell (p := ⟨g, 2, none⟩) hg _).setCell (p := ⟨g, 3, none⟩) hg _).setCell (p := ⟨g, 4, none⟩) hg _
  refine ⟨hB, Cs.join (hc.below ⟨V5, hB⟩) ?_⟩
  show Cs V5 [(⟨g, 0, none⟩, a0), (⟨g, 1, none⟩, a1), (⟨g, 2, none⟩, a2), (⟨g, 3, none⟩, a3), (⟨g, 4, none⟩, a4)]
  rw [hV]
  refine ⟨?_, ?_, ?_, ?_, ?_, trivial⟩
  · exact cell_set (cell_set (cell_set (cell_set (World.cell?_setCell_same' _ _ _ (by rw [n0]; rfl)) _ (by simp) _) _ (by simp) _) _ (by simp) _) _ (by simp) _
  · exact cell_set (cell_set (cell_set (World.cell?_setCell_same' _ _ _ (by rw [cell_set n1 _ (by simp) _]; rfl)) _ (by simp) _) _ (by simp) _) _ (by simp) _
  · exact cell_set (cell_set (World.cell?_setCell_same' _ _ _ (by rw [cell_set (cell_set n2 _ (by simp) _) _ (by simp) _]; rfl)) _ (by simp) _) _ (by simp) _
  · exact cell_set (World.cell?_setCell_same' _ _ _ (by rw [cell_set (cell_set (cell_set n3 _ (by simp) _) _ (by simp) _) _ (by simp) _]; rfl)) _ (by simp) _
  · exact World.cell?_setCell_same' _ _ _ (by rw [cell_set (cell_set (cell_set (cell_set n4 _ (by simp) _) _ (by simp) _) _ (by simp) _) _ (by simp) _]; rfl)

set_option maxHeartbeats 32000000 in
set_option maxRecDepth 100000 in
theorem sure_walk (nm : ByteArray) (kind from' to' : Int) (r0 r1 r2 : Option Addr) (n0 n1 n2 c0 c1 c2 : Nat) (pos sp leak crest num den prime brk bnum bden delay : Int) (brk1 : -9223372036854775808 ≤ brk) (brk2 : brk ≤ 9223372036854775807) (op : Bool) (v1 v2 x : Int) (hv9 : v2 ≤ 9223372036854775807) (w : World) :
    Calls Try.prog 8 #[.agg #[.string nm, .int .i64 kind, .int .i64 from', .int .i64 to', .slice r0 n0 c0, .slice r1 n1 c1, .slice r2 n2 c2, .int .i64 pos, .int .i64 sp, .int .i64 leak, .int .i64 crest, .int .i64 num, .int .i64 den, .int .i64 prime, .int .i64 brk, .int .i64 bnum, .int .i64 bden, .int .i64 delay], .bool op, .agg #[.int .i64 v1, .int .i64 v2], .int .i64 x] w fun e w' => e = .returned (.bool true) ∧ Below w.heap.size w w' := by
  have hgt := span_guardType
  have hst := span_stood
  have hgo := gate_open
  obtain ⟨u, hu⟩ : ∃ u, Xa.clamp x v1 v2 = u := ⟨_, rfl⟩
  have HU := Lib.hid hu
  clear hu
  have CU := Lib.hid (fun w => HU.out ▸ inside20_any v1 v2 x w)
  go_enter Try.func8, Try.ntmps8
  go_wp2_with fail
  refine rebase _ (fun V1 hV x1 => ?_)
  have HB1 := Lib.hid (bel_at hV (bel_alloc (bel_alloc (Below.refl w.heap.size w) _) _))
  have HR1 := Lib.hid (show V1.rangeAt w.heap.size 0 [.string nm, .int .i64 kind, .int .i64 from', .int .i64 to', .slice r0 n0 c0, .slice r1 n1 c1, .slice r2 n2 c2, .int .i64 pos, .int .i64 sp, .int .i64 leak, .int .i64 crest, .int .i64 num, .int .i64 den, .int .i64 prime, .int .i64 brk, .int .i64 bnum, .int .i64 bden, .int .i64 delay] by rw [hV]; exact World.rangeAt_alloc (range_new _ _ _) _)
  have HC1 := Lib.hid (Cs.at hV (((Cs.nil (w.alloc (.cells #[.string nm, .int .i64 kind, .int .i64 from', .int .i64 to', .slice r0 n0 c0, .slice r1 n1 c1, .slice r2 n2 c2, .int .i64 pos, .int .i64 sp, .int .i64 leak, .int .i64 crest, .int .i64 num, .int .i64 den, .int .i64 prime, .int .i64 brk, .int .i64 bnum, .int .i64 bden, .int .i64 delay] 26))).alloc 30 [.int .i64 v1, .int .i64 v2])))
  have HF1 := Lib.hid (show Fz V1 w.heap.size by rw [hV]; exact (Fz.new _ _ _ rfl).old _)
  clear hV
  refine (bel_of (small_any _)).mono ?_
  rintro e w' ⟨rfl, y1, rfl⟩
  have f1 := BelW.range HR1.out y1 1 _ rfl
  have g1 := HF1.out.bel y1 1
  simp only [Nat.zero_add] at f1
  go_upto_region 3 with fail
  refine wp_rebase _ (fun V2 hV x2 => ?_)
  have HB2 := Lib.hid (show Below w.heap.size w V2 by rw [hV]; exact (below_next HB1.out y1.2).setCell (by simp) _)
  have HR2 := Lib.hid (show V2.rangeAt w.heap.size 0 [.string nm, .int .i64 3, .int .i64 from', .int .i64 to', .slice r0 n0 c0, .slice r1 n1 c1, .slice r2 n2 c2, .int .i64 pos, .int .i64 sp, .int .i64 leak, .int .i64 crest, .int .i64 num, .int .i64 den, .int .i64 prime, .int .i64 brk, .int .i64 bnum, .int .i64 bden, .int .i64 delay] by rw [hV]; exact range_put (BelW.range HR1.out y1) 1 (by simp) _)
  have hu0 := (HC1.out.below y1)
  simp only [Cs, newCells, join, World.size_alloc] at hu0
  have HC2 := Lib.hid (show Cs V2 [(⟨w.heap.size + 1, 0, none⟩, .int .i64 v1), (⟨w.heap.size + 1, 1, none⟩, .int .i64 v2)] by
    rw [hV]
    exact ⟨cell_set hu0.1 _ (by simp) _, cell_set hu0.2.1 _ (by simp) _, trivial⟩)
  have hu2 := HC2.out.bx
  simp only [Bx] at hu2
  clear hV f1 g1 HR1 HF1 HC1 HB1 hu0
  have HR1 := HR2
  clear HR2
  have f12 := fun z : BelW V2 => BelW.range HR1.out z 13 _ rfl
  have f13 := fun z : BelW V2 => BelW.range HR1.out z 14 _ rfl
  simp only [Nat.zero_add] at f12 f13
  by_cases hp : prime ≤ brk
  · have t1 : decide (prime ≤ brk) = true := decide_eq_true hp
    go_wp2_with fail
    go_ret
    exact ⟨rfl, below_next HB2.out x2.2⟩
  have t1 : decide (prime ≤ brk) = false := decide_eq_false hp
  by_cases hv : v1 ≤ v2
  · have t2 : decide (v1 ≤ v2) = true := decide_eq_true hv
    have huu := clamp_in (n := x) hv
    rw [HU.out] at huu
    obtain ⟨hu1, hu2'⟩ := huu
    have hu9 : u ≤ 9223372036854775807 := by omega
    go_wp2_with (go_at_call 23; (with_reducible refine (bel_of (right_any _ _ _)).mono ?_); rintro e w' ⟨rfl, z, rfl⟩)
    refine (bel_of (CU.out _)).mono ?_
    rintro e w' ⟨rfl, y3, rfl⟩
    cases op with
    | false =>
      obtain ⟨s, hs⟩ : ∃ s, sipOpen 3 prime brk u false = s := ⟨_, rfl⟩
      have hhas : hasB 0 0 false = true := by decide
      have hone : ∀ b, hasB 0 0 b = true → b = false := by decide
      have hm1 := maybe_is (prime := prime) (brk := brk) (klo := 0) (khi := 0) (lo := u) (hi := u) hu9 ⟨_, u, Int.le_refl _, Int.le_refl _, false, hhas, rfl⟩
      have hm2 := maybe_is (prime := prime) (brk := brk) (klo := 0) (khi := 0) (lo := v1) (hi := v2) hv9 ⟨_, u, hu1, hu2', false, hhas, rfl⟩
      have hm3 := maybe_is (prime := prime) (brk := brk) (klo := 0) (khi := 1) (lo := v1) (hi := v2) hv9 ⟨_, u, hu1, hu2', false, by decide, rfl⟩
      have E1 : maybeOpen 3 prime brk 0 0 u u = (oneB s, oneB s) := by
        have g1 : ∀ r, InV prime brk 0 0 u u r → r = oneB s := by
          rintro r ⟨z, z1, z2, b, hb, rfl⟩
          obtain rfl : z = u := by omega
          rw [hone b hb, hs]
        exact Prod.ext (g1 _ hm1.1) (g1 _ hm1.2.1)
      obtain ⟨n1', n2', hm⟩ : ∃ o1 o2, maybeOpen 3 prime brk 0 0 v1 v2 = (o1, o2) := ⟨_, _, rfl⟩
      obtain ⟨t1', t2', ht⟩ : ∃ o1 o2, maybeOpen 3 prime brk 0 1 v1 v2 = (o1, o2) := ⟨_, _, rfl⟩
      rw [hm] at hm2
      rw [ht] at hm3
      have in2 : ∀ r, InV prime brk 0 0 v1 v2 r → InV prime brk 0 1 v1 v2 r := by
        rintro r ⟨z, z1, z2, b, hb, rfl⟩
        exact ⟨z, z1, z2, b, by cases b <;> decide, rfl⟩
      have i0 := hm2.2.2 (oneB s) ⟨u, hu1, hu2', false, hhas, by rw [hs]⟩
      have i1 := hm3.2.2 _ (in2 _ hm2.1)
      have i2 := hm3.2.2 _ (in2 _ hm2.2.1)
      simp only at i0 i1 i2
      have j1 : decide (n1' ≤ oneB s) = true := decide_eq_true i0.1
      have j2 : decide (oneB s ≤ n2') = true := decide_eq_true i0.2
      have j3 : decide (t1' ≤ n1') = true := decide_eq_true i1.1
      have j4 : decide (n2' ≤ t2') = true := decide_eq_true i2.2
      have HS := Lib.hid hs
      have H1 := Lib.hid E1
      have H2 := Lib.hid hm
      have H3 := Lib.hid ht
      clear hm1 hm2 hm3 hone in2 i0 i1 i2 hs E1 hm ht
      cases s with
      | false =>
        have J1 : decide (n1' ≤ 0) = true := j1
        have J2 : decide (0 ≤ n2') = true := j2
        have H1' := Lib.hid (show maybeOpen 3 prime brk 0 0 u u = (0, 0) from H1.out)
        clear j1 j2 H1
        go_upto_region 10 with fail
        refine wp_rebase _ (fun V4 hV x4 => ?_)
        have HB4 := Lib.hid (bel_at hV (bel_alloc (below_next HB2.out y3.2) _))
        have HRm := Lib.hid (show V4.rangeAt w.heap.size 0 [.string nm, .int .i64 3, .int .i64 from', .int .i64 to', .slice r0 n0 c0, .slice r1 n1 c1, .slice r2 n2 c2, .int .i64 pos, .int .i64 sp, .int .i64 leak, .int .i64 crest, .int .i64 num, .int .i64 den, .int .i64 prime, .int .i64 brk, .int .i64 bnum, .int .i64 bden, .int .i64 delay] by rw [hV]; exact World.rangeAt_alloc (BelW.range HR1.out y3) _)
        have HC4' := Cs.at hV ((HC2.out.below y3).alloc 32 [.int .i64 0, .int .i64 0, .int .i64 0, .int .i64 0, .int .i64 0])
        obtain ⟨K, hK⟩ : ∃ K, y3.w.heap.size = K := ⟨_, rfl⟩
        rw [hK] at HC4' ⊢
        simp only [newCells, join, Nat.zero_add, Nat.reduceAdd] at HC4'
        have HC4 := Lib.hid HC4'
        clear hV HC4' HR1 hK
        have HR1 := HRm
        clear HRm
        have hu4 := HC4.out.bx
        simp only [Bx] at hu4
        clear hu2
        go_wp2_with (with_reducible refine wpList_load_g 26 _ (by with_reducible rfl) _ _ (by with_unfolding_all rfl) (by with_unfolding_all rfl) _ _ (BelW.range HR1.out _) Try.underlying26 (by with_unfolding_all rfl) (by kernel_rfl) ?_)
        refine (bel_of (sip_tell3 _ _ _ _ _ _ _ _ _ _ _ _ _ _ _ _ _ _ _ _ _ _ _ _ _ _ _ _ _ _ HS.out _)).mono ?_
        rintro e w' ⟨rfl, y4, rfl⟩
        go_upto_region 12 with fail
        have HS0 := Lib.hid (show ∃ y : BelW V4, y4.w.drew = y.w from ⟨⟨_, y4.2.drew⟩, rfl⟩)
        have HKr := Lib.hid (show ∀ w', (∃ y : BelW V4, w' = y.w) → w'.rangeAt K 0 [.int .i64 0, .int .i64 0, .int .i64 0, .int .i64 0, .int .i64 0] from fun w' hw' => by
          obtain ⟨y, rfl⟩ := hw'
          intro j v hv
          rw [Nat.zero_add]
          have hc := HC4.out.below y
          simp only [Cs] at hc
          match j, hv with
          | 0, hv => cases hv; exact hc.1
          | 1, hv => cases hv; exact hc.2.1
          | 2, hv => cases hv; exact hc.2.2.1
          | 3, hv => cases hv; exact hc.2.2.2.1
          | 4, hv => cases hv; exact hc.2.2.2.2.1)
        clear hu4
        refine wp_region_tail 6 (fun w' => ∃ y : BelW V4, w' = y.w) (by kernel_rfl) (by kernel_rfl) HS0.out ?_
        refine wpK_take (i := 0) (by kernel_rfl) rfl (by omega) (by kernel_rfl) (by kernel_rfl) (fun _ _ _ h => h) (yields_load 26 _ (by rfl) _ _ (by with_unfolding_all rfl) (by with_unfolding_all rfl) _ _ (rangeX HR1.out) Try.underlying26 (by with_unfolding_all rfl) (by kernel_rfl)) HS0.out ?_
        simp only [Act.put, List.setIfInBounds_toArray, List.set_cons_zero, List.set_cons_succ]
        refine wpK_take (i := 1) (by kernel_rfl) rfl (by omega) (by kernel_rfl) (by kernel_rfl) (fun _ _ _ h => h) (yields_load 32 _ (by rfl) _ _ (by with_unfolding_all rfl) (by with_unfolding_all rfl) _ _ (HKr.out) Try.underlying32 (by with_unfolding_all rfl) (by kernel_rfl)) HS0.out ?_
        simp only [Act.put, List.setIfInBounds_toArray, List.set_cons_zero, List.set_cons_succ]
        refine wpK_take (i := 2) (v := ?v2) (by kernel_rfl) rfl (by omega) (by kernel_rfl) (by kernel_rfl) (fun _ _ _ h => h) (Or.inl ⟨by rfl, ?y2⟩) HS0.out ?_
        case y2 => intro w' hS; (go_simp <;> with_reducible rfl)
        simp only [Act.put, List.setIfInBounds_toArray, List.set_cons_zero, List.set_cons_succ]
        refine wpK_two 3 5 rfl rfl (by omega) (by omega) (by kernel_rfl) ?p3 ?p5
        case p3 =>
          go_wp2_with fail
          refine (bel_of (x := (⟨_, y4.2.drew⟩ : BelW V4)) (of_any _ _)).mono ?_
          rintro e w' ⟨rfl, ya, rfl⟩
          go_wp2_with fail
          refine ⟨⟨ya, rfl⟩, ?_⟩
          refine wpK_two 4 5 rfl rfl (by omega) (by omega) (by kernel_rfl) ?q4 ?q5
          case q4 =>
            go_wp2_with fail
            refine (bel_of (maybe_tell _ _ _ _ _ _ _ _ _ _ _ _ _ _ _ _ _ _ _ _ _ _ _ _ brk1 brk2 _ _ _ _ _ _ _ H1'.out _)).mono ?_
            rintro e w' ⟨rfl, y5, rfl⟩
            go_wp2_with fail
            refine ⟨⟨y5, rfl⟩, ?_⟩
            refine wpK_one 5 rfl (by omega) (by kernel_rfl) ?_
            go_wp2_with fail
            refine ⟨⟨⟨_, bel_alloc y5.2 _⟩, rfl⟩, wpK_done (by kernel_rfl) ?_⟩
            simp only [List.drop_succ_cons, List.drop_zero]
            go_upto_region 13 with fail
            refine wp_rebase _ (fun V5 hV x5 => ?_)
            have HB5 := Lib.hid (bel_at hV (bel_alloc (below_next HB4.out y5.2) _))
            have HC5 := Lib.hid (Cs.at hV ((HC4.out.below y5).alloc _ _))
            have HRm := Lib.hid (show V5.rangeAt w.heap.size 0 [.string nm, .int .i64 3, .int .i64 from', .int .i64 to', .slice r0 n0 c0, .slice r1 n1 c1, .slice r2 n2 c2, .int .i64 pos, .int .i64 sp, .int .i64 leak, .int .i64 crest, .int .i64 num, .int .i64 den, .int .i64 prime, .int .i64 brk, .int .i64 bnum, .int .i64 bden, .int .i64 delay] by rw [hV]; exact World.rangeAt_alloc (BelW.range HR1.out y5) _)
            have hu5 := HC5.out.bx
            simp only [Bx, newCells, join, World.size_alloc] at hu5
            clear hV HR1
            have HR1 := HRm
            clear HRm
            go_wp2_with (with_reducible refine wpList_load_g 26 _ (by with_reducible rfl) _ _ (by with_unfolding_all rfl) (by with_unfolding_all rfl) _ _ (BelW.range HR1.out _) Try.underlying26 (by with_unfolding_all rfl) (by kernel_rfl) ?_)
            refine (bel_of (maybe_tell _ _ _ _ _ _ _ _ _ _ _ _ _ _ _ _ _ _ _ _ _ _ _ _ brk1 brk2 _ _ _ _ _ _ _ H2.out _)).mono ?_
            rintro e w' ⟨rfl, y6, rfl⟩
            go_upto_region 14 with fail
            refine wp_rebase _ (fun V6 hV x6 => ?_)
            have HB6 := Lib.hid (bel_at hV (bel_alloc (below_next HB5.out y6.2) _))
            have HC6 := Lib.hid (Cs.at hV ((HC5.out.below y6).alloc _ _))
            have HRm := Lib.hid (show V6.rangeAt w.heap.size 0 [.string nm, .int .i64 3, .int .i64 from', .int .i64 to', .slice r0 n0 c0, .slice r1 n1 c1, .slice r2 n2 c2, .int .i64 pos, .int .i64 sp, .int .i64 leak, .int .i64 crest, .int .i64 num, .int .i64 den, .int .i64 prime, .int .i64 brk, .int .i64 bnum, .int .i64 bden, .int .i64 delay] by rw [hV]; exact World.rangeAt_alloc (BelW.range HR1.out y6) _)
            have hu6 := HC6.out.bx
            simp only [Bx, newCells, join, World.size_alloc] at hu6
            clear hV hu5 HR1
            have HR1 := HRm
            clear HRm
            go_wp2_with (with_reducible refine wpList_load_g 26 _ (by with_reducible rfl) _ _ (by with_unfolding_all rfl) (by with_unfolding_all rfl) _ _ (BelW.range HR1.out _) Try.underlying26 (by with_unfolding_all rfl) (by kernel_rfl) ?_)
            refine (bel_of (maybe_tell _ _ _ _ _ _ _ _ _ _ _ _ _ _ _ _ _ _ _ _ _ _ _ _ brk1 brk2 _ _ _ _ _ _ _ H3.out _)).mono ?_
            rintro e w' ⟨rfl, y7, rfl⟩
            go_upto_region 15 with fail
            refine wp_rebase _ (fun V7 hV x7 => ?_)
            have HB7 := Lib.hid (bel_at hV (bel_alloc (below_next HB6.out y7.2) _))
            have HC7 := Lib.hid (Cs.at hV ((HC6.out.below y7).alloc _ _))
            have hu7 := HC7.out.bx
            simp only [Bx, newCells, join, World.size_alloc] at hu7
            clear hV hu6
            refine wp_region_belx (by kernel_rfl) (by kernel_rfl) ?_
            repeat (go_big_quiet_step ((first | (go_at_call 24; with_reducible exact bel_of (of_any _ _)) | (go_at_call 20; with_reducible exact bel_of (within_any _ _ _ _ _)))))
            refine wpQuiet_nil ?_
            intro y8
            go_wp2_with fail
            go_ret
            exact ⟨rfl, below_next HB7.out y8.2⟩
          case q5 =>
            go_wp2_with fail
            refine ⟨⟨⟨_, bel_alloc ya.2 _⟩, rfl⟩, ?_⟩
            refine wpK_one 4 rfl (by omega) (by kernel_rfl) ?_
            go_wp2_with fail
            refine (maybe_tell _ _ _ _ _ _ _ _ _ _ _ _ _ _ _ _ _ _ _ _ _ _ _ _ brk1 brk2 _ _ _ _ _ _ _ H1'.out _).mono ?_
            rintro e w2 ⟨rfl, hb⟩
            have hg : ya.w.heap.size < (ya.w.alloc (.cells #[.int .i64 0, .int .i64 0, .int .i64 0, .int .i64 0, .int .i64 0] 32)).heap.size := by rw [World.size_alloc]; exact Nat.lt_succ_self _
            have zc0 : w2.cell? ⟨ya.w.heap.size, 0, none⟩ = some (.int .i64 0) := (hb.cell (p := ⟨ya.w.heap.size, 0, none⟩) hg).trans (World.cell?_alloc_at _ _ _ _ rfl)
            have zc1 : w2.cell? ⟨ya.w.heap.size, 1, none⟩ = some (.int .i64 0) := (hb.cell (p := ⟨ya.w.heap.size, 1, none⟩) hg).trans (World.cell?_alloc_at _ _ _ _ rfl)
            have zc2 : w2.cell? ⟨ya.w.heap.size, 2, none⟩ = some (.int .i64 0) := (hb.cell (p := ⟨ya.w.heap.size, 2, none⟩) hg).trans (World.cell?_alloc_at _ _ _ _ rfl)
            have zc3 : w2.cell? ⟨ya.w.heap.size, 3, none⟩ = some (.int .i64 0) := (hb.cell (p := ⟨ya.w.heap.size, 3, none⟩) hg).trans (World.cell?_alloc_at _ _ _ _ rfl)
            have zc4 : w2.cell? ⟨ya.w.heap.size, 4, none⟩ = some (.int .i64 0) := (hb.cell (p := ⟨ya.w.heap.size, 4, none⟩) hg).trans (World.cell?_alloc_at _ _ _ _ rfl)
            have nz : ∀ o, w2.frozen? ⟨ya.w.heap.size, o, none⟩ = false := fun o => (hb.frozen (p := ⟨ya.w.heap.size, o, none⟩) hg).trans (World.frozen?_alloc_at _ _ _ _ rfl)
            have HBB := Lib.hid (below_next (bel_alloc ya.2 _) hb)
            have HGG := Lib.hid (show V4.heap.size ≤ ya.w.heap.size from ya.2.size)
            clear hb hg
            go_wp2_with fail
            refine ⟨⟨⟨w2, HBB.out⟩, rfl⟩, wpK_done (by kernel_rfl) ?_⟩
            simp only [List.drop_succ_cons, List.drop_zero]
            go_upto_region 13 with fail
            refine wp_rebase _ (fun V5 hV x5 => ?_)
            have hF := five HBB.out HGG.out zc0 zc1 zc2 zc3 zc4 HC4.out hV
            have HB5 := Lib.hid (below_next HB4.out hF.1)
            have HC5 := Lib.hid hF.2
            have HRm := Lib.hid (show V5.rangeAt w.heap.size 0 [.string nm, .int .i64 3, .int .i64 from', .int .i64 to', .slice r0 n0 c0, .slice r1 n1 c1, .slice r2 n2 c2, .int .i64 pos, .int .i64 sp, .int .i64 leak, .int .i64 crest, .int .i64 num, .int .i64 den, .int .i64 prime, .int .i64 brk, .int .i64 bnum, .int .i64 bden, .int .i64 delay] from BelW.range HR1.out ⟨V5, hF.1⟩)
            have hu5 := HC5.out.bx
            simp only [Bx, newCells, join] at hu5
            clear hF zc0 zc1 zc2 zc3 zc4 nz
            clear hV HR1
            have HR1 := HRm
            clear HRm
            go_wp2_with (with_reducible refine wpList_load_g 26 _ (by with_reducible rfl) _ _ (by with_unfolding_all rfl) (by with_unfolding_all rfl) _ _ (BelW.range HR1.out _) Try.underlying26 (by with_unfolding_all rfl) (by kernel_rfl) ?_)
            refine (bel_of (maybe_tell _ _ _ _ _ _ _ _ _ _ _ _ _ _ _ _ _ _ _ _ _ _ _ _ brk1 brk2 _ _ _ _ _ _ _ H2.out _)).mono ?_
            rintro e w' ⟨rfl, y6, rfl⟩
            go_upto_region 14 with fail
            refine wp_rebase _ (fun V6 hV x6 => ?_)
            have HB6 := Lib.hid (bel_at hV (bel_alloc (below_next HB5.out y6.2) _))
            have HC6 := Lib.hid (Cs.at hV ((HC5.out.below y6).alloc _ _))
            have HRm := Lib.hid (show V6.rangeAt w.heap.size 0 [.string nm, .int .i64 3, .int .i64 from', .int .i64 to', .slice r0 n0 c0, .slice r1 n1 c1, .slice r2 n2 c2, .int .i64 pos, .int .i64 sp, .int .i64 leak, .int .i64 crest, .int .i64 num, .int .i64 den, .int .i64 prime, .int .i64 brk, .int .i64 bnum, .int .i64 bden, .int .i64 delay] by rw [hV]; exact World.rangeAt_alloc (BelW.range HR1.out y6) _)
            have hu6 := HC6.out.bx
            simp only [Bx, newCells, join, World.size_alloc] at hu6
            clear hV hu5 HR1
            have HR1 := HRm
            clear HRm
            go_wp2_with (with_reducible refine wpList_load_g 26 _ (by with_reducible rfl) _ _ (by with_unfolding_all rfl) (by with_unfolding_all rfl) _ _ (BelW.range HR1.out _) Try.underlying26 (by with_unfolding_all rfl) (by kernel_rfl) ?_)
            refine (bel_of (maybe_tell _ _ _ _ _ _ _ _ _ _ _ _ _ _ _ _ _ _ _ _ _ _ _ _ brk1 brk2 _ _ _ _ _ _ _ H3.out _)).mono ?_
            rintro e w' ⟨rfl, y7, rfl⟩
            go_upto_region 15 with fail
            refine wp_rebase _ (fun V7 hV x7 => ?_)
            have HB7 := Lib.hid (bel_at hV (bel_alloc (below_next HB6.out y7.2) _))
            have HC7 := Lib.hid (Cs.at hV ((HC6.out.below y7).alloc _ _))
            have hu7 := HC7.out.bx
            simp only [Bx, newCells, join, World.size_alloc] at hu7
            clear hV hu6
            refine wp_region_belx (by kernel_rfl) (by kernel_rfl) ?_
            repeat (go_big_quiet_step ((first | (go_at_call 24; with_reducible exact bel_of (of_any _ _)) | (go_at_call 20; with_reducible exact bel_of (within_any _ _ _ _ _)))))
            refine wpQuiet_nil ?_
            intro y8
            go_wp2_with fail
            go_ret
            exact ⟨rfl, below_next HB7.out y8.2⟩
        case p5 =>
            go_wp2_with fail
            refine ⟨⟨⟨_, bel_alloc y4.2.drew _⟩, rfl⟩, ?_⟩
            refine wpK_one 3 rfl (by omega) (by kernel_rfl) ?_
            go_wp2_with fail
            refine (of_any _ _).mono ?_
            rintro e w1 ⟨rfl, hb1⟩
            go_wp2_with fail
            refine ⟨⟨⟨w1, below_next (bel_alloc y4.2.drew _) hb1⟩, rfl⟩, ?_⟩
            refine wpK_one 4 rfl (by omega) (by kernel_rfl) ?_
            go_wp2_with fail
            refine (maybe_tell _ _ _ _ _ _ _ _ _ _ _ _ _ _ _ _ _ _ _ _ _ _ _ _ brk1 brk2 _ _ _ _ _ _ _ H1'.out _).mono ?_
            rintro e w2 ⟨rfl, hb2⟩
            have hb := below_next hb1 hb2
            clear hb1 hb2
            have hg : y4.w.heap.size < (y4.w.drew.alloc (.cells #[.int .i64 0, .int .i64 0, .int .i64 0, .int .i64 0, .int .i64 0] 32)).heap.size := by rw [World.size_alloc]; exact Nat.lt_succ_self _
            have zc0 : w2.cell? ⟨y4.w.heap.size, 0, none⟩ = some (.int .i64 0) := (hb.cell (p := ⟨y4.w.heap.size, 0, none⟩) hg).trans (World.cell?_alloc_at _ _ _ _ rfl)
            have zc1 : w2.cell? ⟨y4.w.heap.size, 1, none⟩ = some (.int .i64 0) := (hb.cell (p := ⟨y4.w.heap.size, 1, none⟩) hg).trans (World.cell?_alloc_at _ _ _ _ rfl)
            have zc2 : w2.cell? ⟨y4.w.heap.size, 2, none⟩ = some (.int .i64 0) := (hb.cell (p := ⟨y4.w.heap.size, 2, none⟩) hg).trans (World.cell?_alloc_at _ _ _ _ rfl)
            have zc3 : w2.cell? ⟨y4.w.heap.size, 3, none⟩ = some (.int .i64 0) := (hb.cell (p := ⟨y4.w.heap.size, 3, none⟩) hg).trans (World.cell?_alloc_at _ _ _ _ rfl)
            have zc4 : w2.cell? ⟨y4.w.heap.size, 4, none⟩ = some (.int .i64 0) := (hb.cell (p := ⟨y4.w.heap.size, 4, none⟩) hg).trans (World.cell?_alloc_at _ _ _ _ rfl)
            have nz : ∀ o, w2.frozen? ⟨y4.w.heap.size, o, none⟩ = false := fun o => (hb.frozen (p := ⟨y4.w.heap.size, o, none⟩) hg).trans (World.frozen?_alloc_at _ _ _ _ rfl)
            have HBB := Lib.hid (below_next (bel_alloc y4.2.drew _) hb)
            have HGG := Lib.hid (show V4.heap.size ≤ y4.w.heap.size from y4.2.size)
            clear hb hg
            go_wp2_with fail
            refine ⟨⟨⟨w2, HBB.out⟩, rfl⟩, wpK_done (by kernel_rfl) ?_⟩
            simp only [List.drop_succ_cons, List.drop_zero]
            go_upto_region 13 with fail
            refine wp_rebase _ (fun V5 hV x5 => ?_)
            have hF := five HBB.out HGG.out zc0 zc1 zc2 zc3 zc4 HC4.out hV
            have HB5 := Lib.hid (below_next HB4.out hF.1)
            have HC5 := Lib.hid hF.2
            have HRm := Lib.hid (show V5.rangeAt w.heap.size 0 [.string nm, .int .i64 3, .int .i64 from', .int .i64 to', .slice r0 n0 c0, .slice r1 n1 c1, .slice r2 n2 c2, .int .i64 pos, .int .i64 sp, .int .i64 leak, .int .i64 crest, .int .i64 num, .int .i64 den, .int .i64 prime, .int .i64 brk, .int .i64 bnum, .int .i64 bden, .int .i64 delay] from BelW.range HR1.out ⟨V5, hF.1⟩)
            have hu5 := HC5.out.bx
            simp only [Bx, newCells, join] at hu5
            clear hF zc0 zc1 zc2 zc3 zc4 nz
            clear hV HR1
            have HR1 := HRm
            clear HRm
            go_wp2_with (with_reducible refine wpList_load_g 26 _ (by with_reducible rfl) _ _ (by with_unfolding_all rfl) (by with_unfolding_all rfl) _ _ (BelW.range HR1.out _) Try.underlying26 (by with_unfolding_all rfl) (by kernel_rfl) ?_)
            refine (bel_of (maybe_tell _ _ _ _ _ _ _ _ _ _ _ _ _ _ _ _ _ _ _ _ _ _ _ _ brk1 brk2 _ _ _ _ _ _ _ H2.out _)).mono ?_
            rintro e w' ⟨rfl, y6, rfl⟩
            go_upto_region 14 with fail
            refine wp_rebase _ (fun V6 hV x6 => ?_)
            have HB6 := Lib.hid (bel_at hV (bel_alloc (below_next HB5.out y6.2) _))
            have HC6 := Lib.hid (Cs.at hV ((HC5.out.below y6).alloc _ _))
            have HRm := Lib.hid (show V6.rangeAt w.heap.size 0 [.string nm, .int .i64 3, .int .i64 from', .int .i64 to', .slice r0 n0 c0, .slice r1 n1 c1, .slice r2 n2 c2, .int .i64 pos, .int .i64 sp, .int .i64 leak, .int .i64 crest, .int .i64 num, .int .i64 den, .int .i64 prime, .int .i64 brk, .int .i64 bnum, .int .i64 bden, .int .i64 delay] by rw [hV]; exact World.rangeAt_alloc (BelW.range HR1.out y6) _)
            have hu6 := HC6.out.bx
            simp only [Bx, newCells, join, World.size_alloc] at hu6
            clear hV hu5 HR1
            have HR1 := HRm
            clear HRm
            go_wp2_with (with_reducible refine wpList_load_g 26 _ (by with_reducible rfl) _ _ (by with_unfolding_all rfl) (by with_unfolding_all rfl) _ _ (BelW.range HR1.out _) Try.underlying26 (by with_unfolding_all rfl) (by kernel_rfl) ?_)
            refine (bel_of (maybe_tell _ _ _ _ _ _ _ _ _ _ _ _ _ _ _ _ _ _ _ _ _ _ _ _ brk1 brk2 _ _ _ _ _ _ _ H3.out _)).mono ?_
            rintro e w' ⟨rfl, y7, rfl⟩
            go_upto_region 15 with fail
            refine wp_rebase _ (fun V7 hV x7 => ?_)
            have HB7 := Lib.hid (bel_at hV (bel_alloc (below_next HB6.out y7.2) _))
            have HC7 := Lib.hid (Cs.at hV ((HC6.out.below y7).alloc _ _))
            have hu7 := HC7.out.bx
            simp only [Bx, newCells, join, World.size_alloc] at hu7
            clear hV hu6
            refine wp_region_belx (by kernel_rfl) (by kernel_rfl) ?_
            repeat (go_big_quiet_step ((first | (go_at_call 24; with_reducible exact bel_of (of_any _ _)) | (go_at_call 20; with_reducible exact bel_of (within_any _ _ _ _ _)))))
            refine wpQuiet_nil ?_
            intro y8
            go_wp2_with fail
            go_ret
            exact ⟨rfl, below_next HB7.out y8.2⟩
      | true =>
        have J1 : decide (n1' ≤ 1) = true := j1
        have J2 : decide (1 ≤ n2') = true := j2
        have H1' := Lib.hid (show maybeOpen 3 prime brk 0 0 u u = (1, 1) from H1.out)
        clear j1 j2 H1
        go_upto_region 10 with fail
        refine wp_rebase _ (fun V4 hV x4 => ?_)
        have HB4 := Lib.hid (bel_at hV (bel_alloc (below_next HB2.out y3.2) _))
        have HRm := Lib.hid (show V4.rangeAt w.heap.size 0 [.string nm, .int .i64 3, .int .i64 from', .int .i64 to', .slice r0 n0 c0, .slice r1 n1 c1, .slice r2 n2 c2, .int .i64 pos, .int .i64 sp, .int .i64 leak, .int .i64 crest, .int .i64 num, .int .i64 den, .int .i64 prime, .int .i64 brk, .int .i64 bnum, .int .i64 bden, .int .i64 delay] by rw [hV]; exact World.rangeAt_alloc (BelW.range HR1.out y3) _)
        have HC4' := Cs.at hV ((HC2.out.below y3).alloc 32 [.int .i64 0, .int .i64 0, .int .i64 0, .int .i64 0, .int .i64 0])
        obtain ⟨K, hK⟩ : ∃ K, y3.w.heap.size = K := ⟨_, rfl⟩
        rw [hK] at HC4' ⊢
        simp only [newCells, join, Nat.zero_add, Nat.reduceAdd] at HC4'
        have HC4 := Lib.hid HC4'
        clear hV HC4' HR1 hK
        have HR1 := HRm
        clear HRm
        have hu4 := HC4.out.bx
        simp only [Bx] at hu4
        clear hu2
        go_wp2_with (with_reducible refine wpList_load_g 26 _ (by with_reducible rfl) _ _ (by with_unfolding_all rfl) (by with_unfolding_all rfl) _ _ (BelW.range HR1.out _) Try.underlying26 (by with_unfolding_all rfl) (by kernel_rfl) ?_)
        refine (bel_of (sip_tell3 _ _ _ _ _ _ _ _ _ _ _ _ _ _ _ _ _ _ _ _ _ _ _ _ _ _ _ _ _ _ HS.out _)).mono ?_
        rintro e w' ⟨rfl, y4, rfl⟩
        go_upto_region 12 with fail
        have HS0 := Lib.hid (show ∃ y : BelW V4, y4.w.drew = y.w from ⟨⟨_, y4.2.drew⟩, rfl⟩)
        have HKr := Lib.hid (show ∀ w', (∃ y : BelW V4, w' = y.w) → w'.rangeAt K 0 [.int .i64 0, .int .i64 0, .int .i64 0, .int .i64 0, .int .i64 0] from fun w' hw' => by
          obtain ⟨y, rfl⟩ := hw'
          intro j v hv
          rw [Nat.zero_add]
          have hc := HC4.out.below y
          simp only [Cs] at hc
          match j, hv with
          | 0, hv => cases hv; exact hc.1
          | 1, hv => cases hv; exact hc.2.1
          | 2, hv => cases hv; exact hc.2.2.1
          | 3, hv => cases hv; exact hc.2.2.2.1
          | 4, hv => cases hv; exact hc.2.2.2.2.1)
        clear hu4
        refine wp_region_tail 6 (fun w' => ∃ y : BelW V4, w' = y.w) (by kernel_rfl) (by kernel_rfl) HS0.out ?_
        refine wpK_take (i := 0) (by kernel_rfl) rfl (by omega) (by kernel_rfl) (by kernel_rfl) (fun _ _ _ h => h) (yields_load 26 _ (by rfl) _ _ (by with_unfolding_all rfl) (by with_unfolding_all rfl) _ _ (rangeX HR1.out) Try.underlying26 (by with_unfolding_all rfl) (by kernel_rfl)) HS0.out ?_
        simp only [Act.put, List.setIfInBounds_toArray, List.set_cons_zero, List.set_cons_succ]
        refine wpK_take (i := 1) (by kernel_rfl) rfl (by omega) (by kernel_rfl) (by kernel_rfl) (fun _ _ _ h => h) (yields_load 32 _ (by rfl) _ _ (by with_unfolding_all rfl) (by with_unfolding_all rfl) _ _ (HKr.out) Try.underlying32 (by with_unfolding_all rfl) (by kernel_rfl)) HS0.out ?_
        simp only [Act.put, List.setIfInBounds_toArray, List.set_cons_zero, List.set_cons_succ]
        refine wpK_take (i := 2) (v := ?v2) (by kernel_rfl) rfl (by omega) (by kernel_rfl) (by kernel_rfl) (fun _ _ _ h => h) (Or.inl ⟨by rfl, ?y2⟩) HS0.out ?_
        case y2 => intro w' hS; (go_simp <;> with_reducible rfl)
        simp only [Act.put, List.setIfInBounds_toArray, List.set_cons_zero, List.set_cons_succ]
        refine wpK_two 3 5 rfl rfl (by omega) (by omega) (by kernel_rfl) ?p3 ?p5
        case p3 =>
          go_wp2_with fail
          refine (bel_of (x := (⟨_, y4.2.drew⟩ : BelW V4)) (of_any _ _)).mono ?_
          rintro e w' ⟨rfl, ya, rfl⟩
          go_wp2_with fail
          refine ⟨⟨ya, rfl⟩, ?_⟩
          refine wpK_two 4 5 rfl rfl (by omega) (by omega) (by kernel_rfl) ?q4 ?q5
          case q4 =>
            go_wp2_with fail
            refine (bel_of (maybe_tell _ _ _ _ _ _ _ _ _ _ _ _ _ _ _ _ _ _ _ _ _ _ _ _ brk1 brk2 _ _ _ _ _ _ _ H1'.out _)).mono ?_
            rintro e w' ⟨rfl, y5, rfl⟩
            go_wp2_with fail
            refine ⟨⟨y5, rfl⟩, ?_⟩
            refine wpK_one 5 rfl (by omega) (by kernel_rfl) ?_
            go_wp2_with fail
            refine ⟨⟨⟨_, bel_alloc y5.2 _⟩, rfl⟩, wpK_done (by kernel_rfl) ?_⟩
            simp only [List.drop_succ_cons, List.drop_zero]
            go_upto_region 13 with fail
            refine wp_rebase _ (fun V5 hV x5 => ?_)
            have HB5 := Lib.hid (bel_at hV (bel_alloc (below_next HB4.out y5.2) _))
            have HC5 := Lib.hid (Cs.at hV ((HC4.out.below y5).alloc _ _))
            have HRm := Lib.hid (show V5.rangeAt w.heap.size 0 [.string nm, .int .i64 3, .int .i64 from', .int .i64 to', .slice r0 n0 c0, .slice r1 n1 c1, .slice r2 n2 c2, .int .i64 pos, .int .i64 sp, .int .i64 leak, .int .i64 crest, .int .i64 num, .int .i64 den, .int .i64 prime, .int .i64 brk, .int .i64 bnum, .int .i64 bden, .int .i64 delay] by rw [hV]; exact World.rangeAt_alloc (BelW.range HR1.out y5) _)
            have hu5 := HC5.out.bx
            simp only [Bx, newCells, join, World.size_alloc] at hu5
            clear hV HR1
            have HR1 := HRm
            clear HRm
            go_wp2_with (with_reducible refine wpList_load_g 26 _ (by with_reducible rfl) _ _ (by with_unfolding_all rfl) (by with_unfolding_all rfl) _ _ (BelW.range HR1.out _) Try.underlying26 (by with_unfolding_all rfl) (by kernel_rfl) ?_)
            refine (bel_of (maybe_tell _ _ _ _ _ _ _ _ _ _ _ _ _ _ _ _ _ _ _ _ _ _ _ _ brk1 brk2 _ _ _ _ _ _ _ H2.out _)).mono ?_
            rintro e w' ⟨rfl, y6, rfl⟩
            go_upto_region 14 with fail
            refine wp_rebase _ (fun V6 hV x6 => ?_)
            have HB6 := Lib.hid (bel_at hV (bel_alloc (below_next HB5.out y6.2) _))
            have HC6 := Lib.hid (Cs.at hV ((HC5.out.below y6).alloc _ _))
            have HRm := Lib.hid (show V6.rangeAt w.heap.size 0 [.string nm, .int .i64 3, .int .i64 from', .int .i64 to', .slice r0 n0 c0, .slice r1 n1 c1, .slice r2 n2 c2, .int .i64 pos, .int .i64 sp, .int .i64 leak, .int .i64 crest, .int .i64 num, .int .i64 den, .int .i64 prime, .int .i64 brk, .int .i64 bnum, .int .i64 bden, .int .i64 delay] by rw [hV]; exact World.rangeAt_alloc (BelW.range HR1.out y6) _)
            have hu6 := HC6.out.bx
            simp only [Bx, newCells, join, World.size_alloc] at hu6
            clear hV hu5 HR1
            have HR1 := HRm
            clear HRm
            go_wp2_with (with_reducible refine wpList_load_g 26 _ (by with_reducible rfl) _ _ (by with_unfolding_all rfl) (by with_unfolding_all rfl) _ _ (BelW.range HR1.out _) Try.underlying26 (by with_unfolding_all rfl) (by kernel_rfl) ?_)
            refine (bel_of (maybe_tell _ _ _ _ _ _ _ _ _ _ _ _ _ _ _ _ _ _ _ _ _ _ _ _ brk1 brk2 _ _ _ _ _ _ _ H3.out _)).mono ?_
            rintro e w' ⟨rfl, y7, rfl⟩
            go_upto_region 15 with fail
            refine wp_rebase _ (fun V7 hV x7 => ?_)
            have HB7 := Lib.hid (bel_at hV (bel_alloc (below_next HB6.out y7.2) _))
            have HC7 := Lib.hid (Cs.at hV ((HC6.out.below y7).alloc _ _))
            have hu7 := HC7.out.bx
            simp only [Bx, newCells, join, World.size_alloc] at hu7
            clear hV hu6
            refine wp_region_belx (by kernel_rfl) (by kernel_rfl) ?_
            repeat (go_big_quiet_step ((first | (go_at_call 24; with_reducible exact bel_of (of_any _ _)) | (go_at_call 20; with_reducible exact bel_of (within_any _ _ _ _ _)))))
            refine wpQuiet_nil ?_
            intro y8
            go_wp2_with fail
            go_ret
            exact ⟨rfl, below_next HB7.out y8.2⟩
          case q5 =>
            go_wp2_with fail
            refine ⟨⟨⟨_, bel_alloc ya.2 _⟩, rfl⟩, ?_⟩
            refine wpK_one 4 rfl (by omega) (by kernel_rfl) ?_
            go_wp2_with fail
            refine (maybe_tell _ _ _ _ _ _ _ _ _ _ _ _ _ _ _ _ _ _ _ _ _ _ _ _ brk1 brk2 _ _ _ _ _ _ _ H1'.out _).mono ?_
            rintro e w2 ⟨rfl, hb⟩
            have hg : ya.w.heap.size < (ya.w.alloc (.cells #[.int .i64 0, .int .i64 0, .int .i64 0, .int .i64 0, .int .i64 0] 32)).heap.size := by rw [World.size_alloc]; exact Nat.lt_succ_self _
            have zc0 : w2.cell? ⟨ya.w.heap.size, 0, none⟩ = some (.int .i64 0) := (hb.cell (p := ⟨ya.w.heap.size, 0, none⟩) hg).trans (World.cell?_alloc_at _ _ _ _ rfl)
            have zc1 : w2.cell? ⟨ya.w.heap.size, 1, none⟩ = some (.int .i64 0) := (hb.cell (p := ⟨ya.w.heap.size, 1, none⟩) hg).trans (World.cell?_alloc_at _ _ _ _ rfl)
            have zc2 : w2.cell? ⟨ya.w.heap.size, 2, none⟩ = some (.int .i64 0) := (hb.cell (p := ⟨ya.w.heap.size, 2, none⟩) hg).trans (World.cell?_alloc_at _ _ _ _ rfl)
            have zc3 : w2.cell? ⟨ya.w.heap.size, 3, none⟩ = some (.int .i64 0) := (hb.cell (p := ⟨ya.w.heap.size, 3, none⟩) hg).trans (World.cell?_alloc_at _ _ _ _ rfl)
            have zc4 : w2.cell? ⟨ya.w.heap.size, 4, none⟩ = some (.int .i64 0) := (hb.cell (p := ⟨ya.w.heap.size, 4, none⟩) hg).trans (World.cell?_alloc_at _ _ _ _ rfl)
            have nz : ∀ o, w2.frozen? ⟨ya.w.heap.size, o, none⟩ = false := fun o => (hb.frozen (p := ⟨ya.w.heap.size, o, none⟩) hg).trans (World.frozen?_alloc_at _ _ _ _ rfl)
            have HBB := Lib.hid (below_next (bel_alloc ya.2 _) hb)
            have HGG := Lib.hid (show V4.heap.size ≤ ya.w.heap.size from ya.2.size)
            clear hb hg
            go_wp2_with fail
            refine ⟨⟨⟨w2, HBB.out⟩, rfl⟩, wpK_done (by kernel_rfl) ?_⟩
            simp only [List.drop_succ_cons, List.drop_zero]
            go_upto_region 13 with fail
            refine wp_rebase _ (fun V5 hV x5 => ?_)
            have hF := five HBB.out HGG.out zc0 zc1 zc2 zc3 zc4 HC4.out hV
            have HB5 := Lib.hid (below_next HB4.out hF.1)
            have HC5 := Lib.hid hF.2
            have HRm := Lib.hid (show V5.rangeAt w.heap.size 0 [.string nm, .int .i64 3, .int .i64 from', .int .i64 to', .slice r0 n0 c0, .slice r1 n1 c1, .slice r2 n2 c2, .int .i64 pos, .int .i64 sp, .int .i64 leak, .int .i64 crest, .int .i64 num, .int .i64 den, .int .i64 prime, .int .i64 brk, .int .i64 bnum, .int .i64 bden, .int .i64 delay] from BelW.range HR1.out ⟨V5, hF.1⟩)
            have hu5 := HC5.out.bx
            simp only [Bx, newCells, join] at hu5
            clear hF zc0 zc1 zc2 zc3 zc4 nz
            clear hV HR1
            have HR1 := HRm
            clear HRm
            go_wp2_with (with_reducible refine wpList_load_g 26 _ (by with_reducible rfl) _ _ (by with_unfolding_all rfl) (by with_unfolding_all rfl) _ _ (BelW.range HR1.out _) Try.underlying26 (by with_unfolding_all rfl) (by kernel_rfl) ?_)
            refine (bel_of (maybe_tell _ _ _ _ _ _ _ _ _ _ _ _ _ _ _ _ _ _ _ _ _ _ _ _ brk1 brk2 _ _ _ _ _ _ _ H2.out _)).mono ?_
            rintro e w' ⟨rfl, y6, rfl⟩
            go_upto_region 14 with fail
            refine wp_rebase _ (fun V6 hV x6 => ?_)
            have HB6 := Lib.hid (bel_at hV (bel_alloc (below_next HB5.out y6.2) _))
            have HC6 := Lib.hid (Cs.at hV ((HC5.out.below y6).alloc _ _))
            have HRm := Lib.hid (show V6.rangeAt w.heap.size 0 [.string nm, .int .i64 3, .int .i64 from', .int .i64 to', .slice r0 n0 c0, .slice r1 n1 c1, .slice r2 n2 c2, .int .i64 pos, .int .i64 sp, .int .i64 leak, .int .i64 crest, .int .i64 num, .int .i64 den, .int .i64 prime, .int .i64 brk, .int .i64 bnum, .int .i64 bden, .int .i64 delay] by rw [hV]; exact World.rangeAt_alloc (BelW.range HR1.out y6) _)
            have hu6 := HC6.out.bx
            simp only [Bx, newCells, join, World.size_alloc] at hu6
            clear hV hu5 HR1
            have HR1 := HRm
            clear HRm
            go_wp2_with (with_reducible refine wpList_load_g 26 _ (by with_reducible rfl) _ _ (by with_unfolding_all rfl) (by with_unfolding_all rfl) _ _ (BelW.range HR1.out _) Try.underlying26 (by with_unfolding_all rfl) (by kernel_rfl) ?_)
            refine (bel_of (maybe_tell _ _ _ _ _ _ _ _ _ _ _ _ _ _ _ _ _ _ _ _ _ _ _ _ brk1 brk2 _ _ _ _ _ _ _ H3.out _)).mono ?_
            rintro e w' ⟨rfl, y7, rfl⟩
            go_upto_region 15 with fail
            refine wp_rebase _ (fun V7 hV x7 => ?_)
            have HB7 := Lib.hid (bel_at hV (bel_alloc (below_next HB6.out y7.2) _))
            have HC7 := Lib.hid (Cs.at hV ((HC6.out.below y7).alloc _ _))
            have hu7 := HC7.out.bx
            simp only [Bx, newCells, join, World.size_alloc] at hu7
            clear hV hu6
            refine wp_region_belx (by kernel_rfl) (by kernel_rfl) ?_
            repeat (go_big_quiet_step ((first | (go_at_call 24; with_reducible exact bel_of (of_any _ _)) | (go_at_call 20; with_reducible exact bel_of (within_any _ _ _ _ _)))))
            refine wpQuiet_nil ?_
            intro y8
            go_wp2_with fail
            go_ret
            exact ⟨rfl, below_next HB7.out y8.2⟩
        case p5 =>
            go_wp2_with fail
            refine ⟨⟨⟨_, bel_alloc y4.2.drew _⟩, rfl⟩, ?_⟩
            refine wpK_one 3 rfl (by omega) (by kernel_rfl) ?_
            go_wp2_with fail
            refine (of_any _ _).mono ?_
            rintro e w1 ⟨rfl, hb1⟩
            go_wp2_with fail
            refine ⟨⟨⟨w1, below_next (bel_alloc y4.2.drew _) hb1⟩, rfl⟩, ?_⟩
            refine wpK_one 4 rfl (by omega) (by kernel_rfl) ?_
            go_wp2_with fail
            refine (maybe_tell _ _ _ _ _ _ _ _ _ _ _ _ _ _ _ _ _ _ _ _ _ _ _ _ brk1 brk2 _ _ _ _ _ _ _ H1'.out _).mono ?_
            rintro e w2 ⟨rfl, hb2⟩
            have hb := below_next hb1 hb2
            clear hb1 hb2
            have hg : y4.w.heap.size < (y4.w.drew.alloc (.cells #[.int .i64 0, .int .i64 0, .int .i64 0, .int .i64 0, .int .i64 0] 32)).heap.size := by rw [World.size_alloc]; exact Nat.lt_succ_self _
            have zc0 : w2.cell? ⟨y4.w.heap.size, 0, none⟩ = some (.int .i64 0) := (hb.cell (p := ⟨y4.w.heap.size, 0, none⟩) hg).trans (World.cell?_alloc_at _ _ _ _ rfl)
            have zc1 : w2.cell? ⟨y4.w.heap.size, 1, none⟩ = some (.int .i64 0) := (hb.cell (p := ⟨y4.w.heap.size, 1, none⟩) hg).trans (World.cell?_alloc_at _ _ _ _ rfl)
            have zc2 : w2.cell? ⟨y4.w.heap.size, 2, none⟩ = some (.int .i64 0) := (hb.cell (p := ⟨y4.w.heap.size, 2, none⟩) hg).trans (World.cell?_alloc_at _ _ _ _ rfl)
            have zc3 : w2.cell? ⟨y4.w.heap.size, 3, none⟩ = some (.int .i64 0) := (hb.cell (p := ⟨y4.w.heap.size, 3, none⟩) hg).trans (World.cell?_alloc_at _ _ _ _ rfl)
            have zc4 : w2.cell? ⟨y4.w.heap.size, 4, none⟩ = some (.int .i64 0) := (hb.cell (p := ⟨y4.w.heap.size, 4, none⟩) hg).trans (World.cell?_alloc_at _ _ _ _ rfl)
            have nz : ∀ o, w2.frozen? ⟨y4.w.heap.size, o, none⟩ = false := fun o => (hb.frozen (p := ⟨y4.w.heap.size, o, none⟩) hg).trans (World.frozen?_alloc_at _ _ _ _ rfl)
            have HBB := Lib.hid (below_next (bel_alloc y4.2.drew _) hb)
            have HGG := Lib.hid (show V4.heap.size ≤ y4.w.heap.size from y4.2.size)
            clear hb hg
            go_wp2_with fail
            refine ⟨⟨⟨w2, HBB.out⟩, rfl⟩, wpK_done (by kernel_rfl) ?_⟩
            simp only [List.drop_succ_cons, List.drop_zero]
            go_upto_region 13 with fail
            refine wp_rebase _ (fun V5 hV x5 => ?_)
            have hF := five HBB.out HGG.out zc0 zc1 zc2 zc3 zc4 HC4.out hV
            have HB5 := Lib.hid (below_next HB4.out hF.1)
            have HC5 := Lib.hid hF.2
            have HRm := Lib.hid (show V5.rangeAt w.heap.size 0 [.string nm, .int .i64 3, .int .i64 from', .int .i64 to', .slice r0 n0 c0, .slice r1 n1 c1, .slice r2 n2 c2, .int .i64 pos, .int .i64 sp, .int .i64 leak, .int .i64 crest, .int .i64 num, .int .i64 den, .int .i64 prime, .int .i64 brk, .int .i64 bnum, .int .i64 bden, .int .i64 delay] from BelW.range HR1.out ⟨V5, hF.1⟩)
            have hu5 := HC5.out.bx
            simp only [Bx, newCells, join] at hu5
            clear hF zc0 zc1 zc2 zc3 zc4 nz
            clear hV HR1
            have HR1 := HRm
            clear HRm
            go_wp2_with (with_reducible refine wpList_load_g 26 _ (by with_reducible rfl) _ _ (by with_unfolding_all rfl) (by with_unfolding_all rfl) _ _ (BelW.range HR1.out _) Try.underlying26 (by with_unfolding_all rfl) (by kernel_rfl) ?_)
            refine (bel_of (maybe_tell _ _ _ _ _ _ _ _ _ _ _ _ _ _ _ _ _ _ _ _ _ _ _ _ brk1 brk2 _ _ _ _ _ _ _ H2.out _)).mono ?_
            rintro e w' ⟨rfl, y6, rfl⟩
            go_upto_region 14 with fail
            refine wp_rebase _ (fun V6 hV x6 => ?_)
            have HB6 := Lib.hid (bel_at hV (bel_alloc (below_next HB5.out y6.2) _))
            have HC6 := Lib.hid (Cs.at hV ((HC5.out.below y6).alloc _ _))
            have HRm := Lib.hid (show V6.rangeAt w.heap.size 0 [.string nm, .int .i64 3, .int .i64 from', .int .i64 to', .slice r0 n0 c0, .slice r1 n1 c1, .slice r2 n2 c2, .int .i64 pos, .int .i64 sp, .int .i64 leak, .int .i64 crest, .int .i64 num, .int .i64 den, .int .i64 prime, .int .i64 brk, .int .i64 bnum, .int .i64 bden, .int .i64 delay] by rw [hV]; exact World.rangeAt_alloc (BelW.range HR1.out y6) _)
            have hu6 := HC6.out.bx
            simp only [Bx, newCells, join, World.size_alloc] at hu6
            clear hV hu5 HR1
            have HR1 := HRm
            clear HRm
            go_wp2_with (with_reducible refine wpList_load_g 26 _ (by with_reducible rfl) _ _ (by with_unfolding_all rfl) (by with_unfolding_all rfl) _ _ (BelW.range HR1.out _) Try.underlying26 (by with_unfolding_all rfl) (by kernel_rfl) ?_)
            refine (bel_of (maybe_tell _ _ _ _ _ _ _ _ _ _ _ _ _ _ _ _ _ _ _ _ _ _ _ _ brk1 brk2 _ _ _ _ _ _ _ H3.out _)).mono ?_
            rintro e w' ⟨rfl, y7, rfl⟩
            go_upto_region 15 with fail
            refine wp_rebase _ (fun V7 hV x7 => ?_)
            have HB7 := Lib.hid (bel_at hV (bel_alloc (below_next HB6.out y7.2) _))
            have HC7 := Lib.hid (Cs.at hV ((HC6.out.below y7).alloc _ _))
            have hu7 := HC7.out.bx
            simp only [Bx, newCells, join, World.size_alloc] at hu7
            clear hV hu6
            refine wp_region_belx (by kernel_rfl) (by kernel_rfl) ?_
            repeat (go_big_quiet_step ((first | (go_at_call 24; with_reducible exact bel_of (of_any _ _)) | (go_at_call 20; with_reducible exact bel_of (within_any _ _ _ _ _)))))
            refine wpQuiet_nil ?_
            intro y8
            go_wp2_with fail
            go_ret
            exact ⟨rfl, below_next HB7.out y8.2⟩
    | true =>
      obtain ⟨s, hs⟩ : ∃ s, sipOpen 3 prime brk u true = s := ⟨_, rfl⟩
      have hhas : hasB 1 1 true = true := by decide
      have hone : ∀ b, hasB 1 1 b = true → b = true := by decide
      have hm1 := maybe_is (prime := prime) (brk := brk) (klo := 1) (khi := 1) (lo := u) (hi := u) hu9 ⟨_, u, Int.le_refl _, Int.le_refl _, true, hhas, rfl⟩
      have hm2 := maybe_is (prime := prime) (brk := brk) (klo := 1) (khi := 1) (lo := v1) (hi := v2) hv9 ⟨_, u, hu1, hu2', true, hhas, rfl⟩
      have hm3 := maybe_is (prime := prime) (brk := brk) (klo := 0) (khi := 1) (lo := v1) (hi := v2) hv9 ⟨_, u, hu1, hu2', true, by decide, rfl⟩
      have E1 : maybeOpen 3 prime brk 1 1 u u = (oneB s, oneB s) := by
        have g1 : ∀ r, InV prime brk 1 1 u u r → r = oneB s := by
          rintro r ⟨z, z1, z2, b, hb, rfl⟩
          obtain rfl : z = u := by omega
          rw [hone b hb, hs]
        exact Prod.ext (g1 _ hm1.1) (g1 _ hm1.2.1)
      obtain ⟨n1', n2', hm⟩ : ∃ o1 o2, maybeOpen 3 prime brk 1 1 v1 v2 = (o1, o2) := ⟨_, _, rfl⟩
      obtain ⟨t1', t2', ht⟩ : ∃ o1 o2, maybeOpen 3 prime brk 0 1 v1 v2 = (o1, o2) := ⟨_, _, rfl⟩
      rw [hm] at hm2
      rw [ht] at hm3
      have in2 : ∀ r, InV prime brk 1 1 v1 v2 r → InV prime brk 0 1 v1 v2 r := by
        rintro r ⟨z, z1, z2, b, hb, rfl⟩
        exact ⟨z, z1, z2, b, by cases b <;> decide, rfl⟩
      have i0 := hm2.2.2 (oneB s) ⟨u, hu1, hu2', true, hhas, by rw [hs]⟩
      have i1 := hm3.2.2 _ (in2 _ hm2.1)
      have i2 := hm3.2.2 _ (in2 _ hm2.2.1)
      simp only at i0 i1 i2
      have j1 : decide (n1' ≤ oneB s) = true := decide_eq_true i0.1
      have j2 : decide (oneB s ≤ n2') = true := decide_eq_true i0.2
      have j3 : decide (t1' ≤ n1') = true := decide_eq_true i1.1
      have j4 : decide (n2' ≤ t2') = true := decide_eq_true i2.2
      have HS := Lib.hid hs
      have H1 := Lib.hid E1
      have H2 := Lib.hid hm
      have H3 := Lib.hid ht
      clear hm1 hm2 hm3 hone in2 i0 i1 i2 hs E1 hm ht
      cases s with
      | false =>
        have J1 : decide (n1' ≤ 0) = true := j1
        have J2 : decide (0 ≤ n2') = true := j2
        have H1' := Lib.hid (show maybeOpen 3 prime brk 1 1 u u = (0, 0) from H1.out)
        clear j1 j2 H1
        go_upto_region 8 with fail
        refine wp_rebase _ (fun V3 hV x3 => ?_)
        have HB3 := Lib.hid (bel_at hV (bel_alloc (below_next HB2.out y3.2) _))
        have HR3 := Lib.hid (show V3.rangeAt w.heap.size 0 [.string nm, .int .i64 3, .int .i64 from', .int .i64 to', .slice r0 n0 c0, .slice r1 n1 c1, .slice r2 n2 c2, .int .i64 pos, .int .i64 sp, .int .i64 leak, .int .i64 crest, .int .i64 num, .int .i64 den, .int .i64 prime, .int .i64 brk, .int .i64 bnum, .int .i64 bden, .int .i64 delay] by rw [hV]; exact World.rangeAt_alloc (BelW.range HR1.out y3) _)
        have HC3' := Cs.at hV ((HC2.out.below y3).alloc 32 [.int .i64 0, .int .i64 0, .int .i64 0, .int .i64 0, .int .i64 0])
        have HF3 := Lib.hid (show Fz V3 y3.w.heap.size by rw [hV]; exact Fz.new _ _ _ rfl)
        have hKg : w.heap.size + 1 < y3.w.heap.size := World.block_lt_of_cell? _ _ (hu2.1 y3)
        obtain ⟨K, hK⟩ : ∃ K, y3.w.heap.size = K := ⟨_, rfl⟩
        rw [hK] at HC3' HF3 hKg ⊢
        simp only [newCells, join, Nat.zero_add, Nat.reduceAdd] at HC3'
        have HC3 := Lib.hid HC3'
        clear hV HC3' HR1 hK hu2
        go_wp2_with fail
        refine (bel_of (of_any _ _)).mono ?_
        rintro e w' ⟨rfl, yo, rfl⟩
        have ho := HC3.out.below yo
        simp only [Cs] at ho
        obtain ⟨ho0, ho1, ho2, ho3, ho4, ho5, ho6, _⟩ := ho
        have gz := HF3.out.bel yo
        go_upto_region 10 with fail
        refine wp_rebase _ (fun V4 hV x4 => ?_)
        have hB3 : Below w.heap.size w yo.w := below_next HB3.out yo.2
        have HB4 := Lib.hid (show Below w.heap.size w V4 by rw [hV]; repeat (first | with_reducible exact hB3 | refine Below.setCell ?_ (by simp <;> omega) _))
        have HRm := Lib.hid (show V4.rangeAt w.heap.size 0 [.string nm, .int .i64 3, .int .i64 from', .int .i64 to', .slice r0 n0 c0, .slice r1 n1 c1, .slice r2 n2 c2, .int .i64 pos, .int .i64 sp, .int .i64 leak, .int .i64 crest, .int .i64 num, .int .i64 den, .int .i64 prime, .int .i64 brk, .int .i64 bnum, .int .i64 bden, .int .i64 delay] by rw [hV]; exact range_set (range_set (BelW.range HR3.out yo) _ (by simp <;> omega) _) _ (by simp <;> omega) _)
        have HC4 := Lib.hid (show Cs V4 [(⟨K, 0, none⟩, .int .i64 0), (⟨K, 1, none⟩, .int .i64 0), (⟨K, 2, none⟩, .int .i64 0), (⟨K, 3, none⟩, .int .i64 1), (⟨K, 4, none⟩, .int .i64 1), (⟨w.heap.size + 1, 0, none⟩, .int .i64 v1), (⟨w.heap.size + 1, 1, none⟩, .int .i64 v2)] by
          rw [hV]
          refine ⟨cell_set (cell_set ho0 _ (by simp) _) _ (by simp) _, cell_set (cell_set ho1 _ (by simp) _) _ (by simp) _, cell_set (cell_set ho2 _ (by simp) _) _ (by simp) _, ?_, ?_, cell_set (cell_set ho5 _ (by simp <;> omega) _) _ (by simp <;> omega) _, cell_set (cell_set ho6 _ (by simp <;> omega) _) _ (by simp <;> omega) _, trivial⟩
          · exact cell_set (World.cell?_setCell_same' _ _ _ (by rw [ho3]; rfl)) _ (by simp) _
          · exact World.cell?_setCell_same' _ _ _ (by rw [cell_set ho4 _ (by simp) _]; rfl))
        clear hV ho0 ho1 ho2 ho3 ho4 ho5 ho6 gz
        have HR1 := HRm
        clear HRm
        have hu4 := HC4.out.bx
        simp only [Bx] at hu4
        go_wp2_with (with_reducible refine wpList_load_g 26 _ (by with_reducible rfl) _ _ (by with_unfolding_all rfl) (by with_unfolding_all rfl) _ _ (BelW.range HR1.out _) Try.underlying26 (by with_unfolding_all rfl) (by kernel_rfl) ?_)
        refine (bel_of (sip_tell3 _ _ _ _ _ _ _ _ _ _ _ _ _ _ _ _ _ _ _ _ _ _ _ _ _ _ _ _ _ _ HS.out _)).mono ?_
        rintro e w' ⟨rfl, y4, rfl⟩
        go_upto_region 12 with fail
        have HS0 := Lib.hid (show ∃ y : BelW V4, y4.w.drew = y.w from ⟨⟨_, y4.2.drew⟩, rfl⟩)
        have HKr := Lib.hid (show ∀ w', (∃ y : BelW V4, w' = y.w) → w'.rangeAt K 0 [.int .i64 0, .int .i64 0, .int .i64 0, .int .i64 1, .int .i64 1] from fun w' hw' => by
          obtain ⟨y, rfl⟩ := hw'
          intro j v hv
          rw [Nat.zero_add]
          have hc := HC4.out.below y
          simp only [Cs] at hc
          match j, hv with
          | 0, hv => cases hv; exact hc.1
          | 1, hv => cases hv; exact hc.2.1
          | 2, hv => cases hv; exact hc.2.2.1
          | 3, hv => cases hv; exact hc.2.2.2.1
          | 4, hv => cases hv; exact hc.2.2.2.2.1)
        clear hu4
        refine wp_region_tail 6 (fun w' => ∃ y : BelW V4, w' = y.w) (by kernel_rfl) (by kernel_rfl) HS0.out ?_
        refine wpK_take (i := 0) (by kernel_rfl) rfl (by omega) (by kernel_rfl) (by kernel_rfl) (fun _ _ _ h => h) (yields_load 26 _ (by rfl) _ _ (by with_unfolding_all rfl) (by with_unfolding_all rfl) _ _ (rangeX HR1.out) Try.underlying26 (by with_unfolding_all rfl) (by kernel_rfl)) HS0.out ?_
        simp only [Act.put, List.setIfInBounds_toArray, List.set_cons_zero, List.set_cons_succ]
        refine wpK_take (i := 1) (by kernel_rfl) rfl (by omega) (by kernel_rfl) (by kernel_rfl) (fun _ _ _ h => h) (yields_load 32 _ (by rfl) _ _ (by with_unfolding_all rfl) (by with_unfolding_all rfl) _ _ (HKr.out) Try.underlying32 (by with_unfolding_all rfl) (by kernel_rfl)) HS0.out ?_
        simp only [Act.put, List.setIfInBounds_toArray, List.set_cons_zero, List.set_cons_succ]
        refine wpK_take (i := 2) (v := ?v2) (by kernel_rfl) rfl (by omega) (by kernel_rfl) (by kernel_rfl) (fun _ _ _ h => h) (Or.inl ⟨by rfl, ?y2⟩) HS0.out ?_
        case y2 => intro w' hS; (go_simp <;> with_reducible rfl)
        simp only [Act.put, List.setIfInBounds_toArray, List.set_cons_zero, List.set_cons_succ]
        refine wpK_two 3 5 rfl rfl (by omega) (by omega) (by kernel_rfl) ?p3 ?p5
        case p3 =>
          go_wp2_with fail
          refine (bel_of (x := (⟨_, y4.2.drew⟩ : BelW V4)) (of_any _ _)).mono ?_
          rintro e w' ⟨rfl, ya, rfl⟩
          go_wp2_with fail
          refine ⟨⟨ya, rfl⟩, ?_⟩
          refine wpK_two 4 5 rfl rfl (by omega) (by omega) (by kernel_rfl) ?q4 ?q5
          case q4 =>
            go_wp2_with fail
            refine (bel_of (maybe_tell _ _ _ _ _ _ _ _ _ _ _ _ _ _ _ _ _ _ _ _ _ _ _ _ brk1 brk2 _ _ _ _ _ _ _ H1'.out _)).mono ?_
            rintro e w' ⟨rfl, y5, rfl⟩
            go_wp2_with fail
            refine ⟨⟨y5, rfl⟩, ?_⟩
            refine wpK_one 5 rfl (by omega) (by kernel_rfl) ?_
            go_wp2_with fail
            refine ⟨⟨⟨_, bel_alloc y5.2 _⟩, rfl⟩, wpK_done (by kernel_rfl) ?_⟩
            simp only [List.drop_succ_cons, List.drop_zero]
            go_upto_region 13 with fail
            refine wp_rebase _ (fun V5 hV x5 => ?_)
            have HB5 := Lib.hid (bel_at hV (bel_alloc (below_next HB4.out y5.2) _))
            have HC5 := Lib.hid (Cs.at hV ((HC4.out.below y5).alloc _ _))
            have HRm := Lib.hid (show V5.rangeAt w.heap.size 0 [.string nm, .int .i64 3, .int .i64 from', .int .i64 to', .slice r0 n0 c0, .slice r1 n1 c1, .slice r2 n2 c2, .int .i64 pos, .int .i64 sp, .int .i64 leak, .int .i64 crest, .int .i64 num, .int .i64 den, .int .i64 prime, .int .i64 brk, .int .i64 bnum, .int .i64 bden, .int .i64 delay] by rw [hV]; exact World.rangeAt_alloc (BelW.range HR1.out y5) _)
            have hu5 := HC5.out.bx
            simp only [Bx, newCells, join, World.size_alloc] at hu5
            clear hV HR1
            have HR1 := HRm
            clear HRm
            go_wp2_with (with_reducible refine wpList_load_g 26 _ (by with_reducible rfl) _ _ (by with_unfolding_all rfl) (by with_unfolding_all rfl) _ _ (BelW.range HR1.out _) Try.underlying26 (by with_unfolding_all rfl) (by kernel_rfl) ?_)
            refine (bel_of (maybe_tell _ _ _ _ _ _ _ _ _ _ _ _ _ _ _ _ _ _ _ _ _ _ _ _ brk1 brk2 _ _ _ _ _ _ _ H2.out _)).mono ?_
            rintro e w' ⟨rfl, y6, rfl⟩
            go_upto_region 14 with fail
            refine wp_rebase _ (fun V6 hV x6 => ?_)
            have HB6 := Lib.hid (bel_at hV (bel_alloc (below_next HB5.out y6.2) _))
            have HC6 := Lib.hid (Cs.at hV ((HC5.out.below y6).alloc _ _))
            have HRm := Lib.hid (show V6.rangeAt w.heap.size 0 [.string nm, .int .i64 3, .int .i64 from', .int .i64 to', .slice r0 n0 c0, .slice r1 n1 c1, .slice r2 n2 c2, .int .i64 pos, .int .i64 sp, .int .i64 leak, .int .i64 crest, .int .i64 num, .int .i64 den, .int .i64 prime, .int .i64 brk, .int .i64 bnum, .int .i64 bden, .int .i64 delay] by rw [hV]; exact World.rangeAt_alloc (BelW.range HR1.out y6) _)
            have hu6 := HC6.out.bx
            simp only [Bx, newCells, join, World.size_alloc] at hu6
            clear hV hu5 HR1
            have HR1 := HRm
            clear HRm
            go_wp2_with (with_reducible refine wpList_load_g 26 _ (by with_reducible rfl) _ _ (by with_unfolding_all rfl) (by with_unfolding_all rfl) _ _ (BelW.range HR1.out _) Try.underlying26 (by with_unfolding_all rfl) (by kernel_rfl) ?_)
            refine (bel_of (maybe_tell _ _ _ _ _ _ _ _ _ _ _ _ _ _ _ _ _ _ _ _ _ _ _ _ brk1 brk2 _ _ _ _ _ _ _ H3.out _)).mono ?_
            rintro e w' ⟨rfl, y7, rfl⟩
            go_upto_region 15 with fail
            refine wp_rebase _ (fun V7 hV x7 => ?_)
            have HB7 := Lib.hid (bel_at hV (bel_alloc (below_next HB6.out y7.2) _))
            have HC7 := Lib.hid (Cs.at hV ((HC6.out.below y7).alloc _ _))
            have hu7 := HC7.out.bx
            simp only [Bx, newCells, join, World.size_alloc] at hu7
            clear hV hu6
            refine wp_region_belx (by kernel_rfl) (by kernel_rfl) ?_
            repeat (go_big_quiet_step ((first | (go_at_call 24; with_reducible exact bel_of (of_any _ _)) | (go_at_call 20; with_reducible exact bel_of (within_any _ _ _ _ _)))))
            refine wpQuiet_nil ?_
            intro y8
            go_wp2_with fail
            go_ret
            exact ⟨rfl, below_next HB7.out y8.2⟩
          case q5 =>
            go_wp2_with fail
            refine ⟨⟨⟨_, bel_alloc ya.2 _⟩, rfl⟩, ?_⟩
            refine wpK_one 4 rfl (by omega) (by kernel_rfl) ?_
            go_wp2_with fail
            refine (maybe_tell _ _ _ _ _ _ _ _ _ _ _ _ _ _ _ _ _ _ _ _ _ _ _ _ brk1 brk2 _ _ _ _ _ _ _ H1'.out _).mono ?_
            rintro e w2 ⟨rfl, hb⟩
            have hg : ya.w.heap.size < (ya.w.alloc (.cells #[.int .i64 0, .int .i64 0, .int .i64 0, .int .i64 0, .int .i64 0] 32)).heap.size := by rw [World.size_alloc]; exact Nat.lt_succ_self _
            have zc0 : w2.cell? ⟨ya.w.heap.size, 0, none⟩ = some (.int .i64 0) := (hb.cell (p := ⟨ya.w.heap.size, 0, none⟩) hg).trans (World.cell?_alloc_at _ _ _ _ rfl)
            have zc1 : w2.cell? ⟨ya.w.heap.size, 1, none⟩ = some (.int .i64 0) := (hb.cell (p := ⟨ya.w.heap.size, 1, none⟩) hg).trans (World.cell?_alloc_at _ _ _ _ rfl)
            have zc2 : w2.cell? ⟨ya.w.heap.size, 2, none⟩ = some (.int .i64 0) := (hb.cell (p := ⟨ya.w.heap.size, 2, none⟩) hg).trans (World.cell?_alloc_at _ _ _ _ rfl)
            have zc3 : w2.cell? ⟨ya.w.heap.size, 3, none⟩ = some (.int .i64 0) := (hb.cell (p := ⟨ya.w.heap.size, 3, none⟩) hg).trans (World.cell?_alloc_at _ _ _ _ rfl)
            have zc4 : w2.cell? ⟨ya.w.heap.size, 4, none⟩ = some (.int .i64 0) := (hb.cell (p := ⟨ya.w.heap.size, 4, none⟩) hg).trans (World.cell?_alloc_at _ _ _ _ rfl)
            have nz : ∀ o, w2.frozen? ⟨ya.w.heap.size, o, none⟩ = false := fun o => (hb.frozen (p := ⟨ya.w.heap.size, o, none⟩) hg).trans (World.frozen?_alloc_at _ _ _ _ rfl)
            have HBB := Lib.hid (below_next (bel_alloc ya.2 _) hb)
            have HGG := Lib.hid (show V4.heap.size ≤ ya.w.heap.size from ya.2.size)
            clear hb hg
            go_wp2_with fail
            refine ⟨⟨⟨w2, HBB.out⟩, rfl⟩, wpK_done (by kernel_rfl) ?_⟩
            simp only [List.drop_succ_cons, List.drop_zero]
            go_upto_region 13 with fail
            refine wp_rebase _ (fun V5 hV x5 => ?_)
            have hF := five HBB.out HGG.out zc0 zc1 zc2 zc3 zc4 HC4.out hV
            have HB5 := Lib.hid (below_next HB4.out hF.1)
            have HC5 := Lib.hid hF.2
            have HRm := Lib.hid (show V5.rangeAt w.heap.size 0 [.string nm, .int .i64 3, .int .i64 from', .int .i64 to', .slice r0 n0 c0, .slice r1 n1 c1, .slice r2 n2 c2, .int .i64 pos, .int .i64 sp, .int .i64 leak, .int .i64 crest, .int .i64 num, .int .i64 den, .int .i64 prime, .int .i64 brk, .int .i64 bnum, .int .i64 bden, .int .i64 delay] from BelW.range HR1.out ⟨V5, hF.1⟩)
            have hu5 := HC5.out.bx
            simp only [Bx, newCells, join] at hu5
            clear hF zc0 zc1 zc2 zc3 zc4 nz
            clear hV HR1
            have HR1 := HRm
            clear HRm
            go_wp2_with (with_reducible refine wpList_load_g 26 _ (by with_reducible rfl) _ _ (by with_unfolding_all rfl) (by with_unfolding_all rfl) _ _ (BelW.range HR1.out _) Try.underlying26 (by with_unfolding_all rfl) (by kernel_rfl) ?_)
            refine (bel_of (maybe_tell _ _ _ _ _ _ _ _ _ _ _ _ _ _ _ _ _ _ _ _ _ _ _ _ brk1 brk2 _ _ _ _ _ _ _ H2.out _)).mono ?_
            rintro e w' ⟨rfl, y6, rfl⟩
            go_upto_region 14 with fail
            refine wp_rebase _ (fun V6 hV x6 => ?_)
            have HB6 := Lib.hid (bel_at hV (bel_alloc (below_next HB5.out y6.2) _))
            have HC6 := Lib.hid (Cs.at hV ((HC5.out.below y6).alloc _ _))
            have HRm := Lib.hid (show V6.rangeAt w.heap.size 0 [.string nm, .int .i64 3, .int .i64 from', .int .i64 to', .slice r0 n0 c0, .slice r1 n1 c1, .slice r2 n2 c2, .int .i64 pos, .int .i64 sp, .int .i64 leak, .int .i64 crest, .int .i64 num, .int .i64 den, .int .i64 prime, .int .i64 brk, .int .i64 bnum, .int .i64 bden, .int .i64 delay] by rw [hV]; exact World.rangeAt_alloc (BelW.range HR1.out y6) _)
            have hu6 := HC6.out.bx
            simp only [Bx, newCells, join, World.size_alloc] at hu6
            clear hV hu5 HR1
            have HR1 := HRm
            clear HRm
            go_wp2_with (with_reducible refine wpList_load_g 26 _ (by with_reducible rfl) _ _ (by with_unfolding_all rfl) (by with_unfolding_all rfl) _ _ (BelW.range HR1.out _) Try.underlying26 (by with_unfolding_all rfl) (by kernel_rfl) ?_)
            refine (bel_of (maybe_tell _ _ _ _ _ _ _ _ _ _ _ _ _ _ _ _ _ _ _ _ _ _ _ _ brk1 brk2 _ _ _ _ _ _ _ H3.out _)).mono ?_
            rintro e w' ⟨rfl, y7, rfl⟩
            go_upto_region 15 with fail
            refine wp_rebase _ (fun V7 hV x7 => ?_)
            have HB7 := Lib.hid (bel_at hV (bel_alloc (below_next HB6.out y7.2) _))
            have HC7 := Lib.hid (Cs.at hV ((HC6.out.below y7).alloc _ _))
            have hu7 := HC7.out.bx
            simp only [Bx, newCells, join, World.size_alloc] at hu7
            clear hV hu6
            refine wp_region_belx (by kernel_rfl) (by kernel_rfl) ?_
            repeat (go_big_quiet_step ((first | (go_at_call 24; with_reducible exact bel_of (of_any _ _)) | (go_at_call 20; with_reducible exact bel_of (within_any _ _ _ _ _)))))
            refine wpQuiet_nil ?_
            intro y8
            go_wp2_with fail
            go_ret
            exact ⟨rfl, below_next HB7.out y8.2⟩
        case p5 =>
            go_wp2_with fail
            refine ⟨⟨⟨_, bel_alloc y4.2.drew _⟩, rfl⟩, ?_⟩
            refine wpK_one 3 rfl (by omega) (by kernel_rfl) ?_
            go_wp2_with fail
            refine (of_any _ _).mono ?_
            rintro e w1 ⟨rfl, hb1⟩
            go_wp2_with fail
            refine ⟨⟨⟨w1, below_next (bel_alloc y4.2.drew _) hb1⟩, rfl⟩, ?_⟩
            refine wpK_one 4 rfl (by omega) (by kernel_rfl) ?_
            go_wp2_with fail
            refine (maybe_tell _ _ _ _ _ _ _ _ _ _ _ _ _ _ _ _ _ _ _ _ _ _ _ _ brk1 brk2 _ _ _ _ _ _ _ H1'.out _).mono ?_
            rintro e w2 ⟨rfl, hb2⟩
            have hb := below_next hb1 hb2
            clear hb1 hb2
            have hg : y4.w.heap.size < (y4.w.drew.alloc (.cells #[.int .i64 0, .int .i64 0, .int .i64 0, .int .i64 0, .int .i64 0] 32)).heap.size := by rw [World.size_alloc]; exact Nat.lt_succ_self _
            have zc0 : w2.cell? ⟨y4.w.heap.size, 0, none⟩ = some (.int .i64 0) := (hb.cell (p := ⟨y4.w.heap.size, 0, none⟩) hg).trans (World.cell?_alloc_at _ _ _ _ rfl)
            have zc1 : w2.cell? ⟨y4.w.heap.size, 1, none⟩ = some (.int .i64 0) := (hb.cell (p := ⟨y4.w.heap.size, 1, none⟩) hg).trans (World.cell?_alloc_at _ _ _ _ rfl)
            have zc2 : w2.cell? ⟨y4.w.heap.size, 2, none⟩ = some (.int .i64 0) := (hb.cell (p := ⟨y4.w.heap.size, 2, none⟩) hg).trans (World.cell?_alloc_at _ _ _ _ rfl)
            have zc3 : w2.cell? ⟨y4.w.heap.size, 3, none⟩ = some (.int .i64 0) := (hb.cell (p := ⟨y4.w.heap.size, 3, none⟩) hg).trans (World.cell?_alloc_at _ _ _ _ rfl)
            have zc4 : w2.cell? ⟨y4.w.heap.size, 4, none⟩ = some (.int .i64 0) := (hb.cell (p := ⟨y4.w.heap.size, 4, none⟩) hg).trans (World.cell?_alloc_at _ _ _ _ rfl)
            have nz : ∀ o, w2.frozen? ⟨y4.w.heap.size, o, none⟩ = false := fun o => (hb.frozen (p := ⟨y4.w.heap.size, o, none⟩) hg).trans (World.frozen?_alloc_at _ _ _ _ rfl)
            have HBB := Lib.hid (below_next (bel_alloc y4.2.drew _) hb)
            have HGG := Lib.hid (show V4.heap.size ≤ y4.w.heap.size from y4.2.size)
            clear hb hg
            go_wp2_with fail
            refine ⟨⟨⟨w2, HBB.out⟩, rfl⟩, wpK_done (by kernel_rfl) ?_⟩
            simp only [List.drop_succ_cons, List.drop_zero]
            go_upto_region 13 with fail
            refine wp_rebase _ (fun V5 hV x5 => ?_)
            have hF := five HBB.out HGG.out zc0 zc1 zc2 zc3 zc4 HC4.out hV
            have HB5 := Lib.hid (below_next HB4.out hF.1)
            have HC5 := Lib.hid hF.2
            have HRm := Lib.hid (show V5.rangeAt w.heap.size 0 [.string nm, .int .i64 3, .int .i64 from', .int .i64 to', .slice r0 n0 c0, .slice r1 n1 c1, .slice r2 n2 c2, .int .i64 pos, .int .i64 sp, .int .i64 leak, .int .i64 crest, .int .i64 num, .int .i64 den, .int .i64 prime, .int .i64 brk, .int .i64 bnum, .int .i64 bden, .int .i64 delay] from BelW.range HR1.out ⟨V5, hF.1⟩)
            have hu5 := HC5.out.bx
            simp only [Bx, newCells, join] at hu5
            clear hF zc0 zc1 zc2 zc3 zc4 nz
            clear hV HR1
            have HR1 := HRm
            clear HRm
            go_wp2_with (with_reducible refine wpList_load_g 26 _ (by with_reducible rfl) _ _ (by with_unfolding_all rfl) (by with_unfolding_all rfl) _ _ (BelW.range HR1.out _) Try.underlying26 (by with_unfolding_all rfl) (by kernel_rfl) ?_)
            refine (bel_of (maybe_tell _ _ _ _ _ _ _ _ _ _ _ _ _ _ _ _ _ _ _ _ _ _ _ _ brk1 brk2 _ _ _ _ _ _ _ H2.out _)).mono ?_
            rintro e w' ⟨rfl, y6, rfl⟩
            go_upto_region 14 with fail
            refine wp_rebase _ (fun V6 hV x6 => ?_)
            have HB6 := Lib.hid (bel_at hV (bel_alloc (below_next HB5.out y6.2) _))
            have HC6 := Lib.hid (Cs.at hV ((HC5.out.below y6).alloc _ _))
            have HRm := Lib.hid (show V6.rangeAt w.heap.size 0 [.string nm, .int .i64 3, .int .i64 from', .int .i64 to', .slice r0 n0 c0, .slice r1 n1 c1, .slice r2 n2 c2, .int .i64 pos, .int .i64 sp, .int .i64 leak, .int .i64 crest, .int .i64 num, .int .i64 den, .int .i64 prime, .int .i64 brk, .int .i64 bnum, .int .i64 bden, .int .i64 delay] by rw [hV]; exact World.rangeAt_alloc (BelW.range HR1.out y6) _)
            have hu6 := HC6.out.bx
            simp only [Bx, newCells, join, World.size_alloc] at hu6
            clear hV hu5 HR1
            have HR1 := HRm
            clear HRm
            go_wp2_with (with_reducible refine wpList_load_g 26 _ (by with_reducible rfl) _ _ (by with_unfolding_all rfl) (by with_unfolding_all rfl) _ _ (BelW.range HR1.out _) Try.underlying26 (by with_unfolding_all rfl) (by kernel_rfl) ?_)
            refine (bel_of (maybe_tell _ _ _ _ _ _ _ _ _ _ _ _ _ _ _ _ _ _ _ _ _ _ _ _ brk1 brk2 _ _ _ _ _ _ _ H3.out _)).mono ?_
            rintro e w' ⟨rfl, y7, rfl⟩
            go_upto_region 15 with fail
            refine wp_rebase _ (fun V7 hV x7 => ?_)
            have HB7 := Lib.hid (bel_at hV (bel_alloc (below_next HB6.out y7.2) _))
            have HC7 := Lib.hid (Cs.at hV ((HC6.out.below y7).alloc _ _))
            have hu7 := HC7.out.bx
            simp only [Bx, newCells, join, World.size_alloc] at hu7
            clear hV hu6
            refine wp_region_belx (by kernel_rfl) (by kernel_rfl) ?_
            repeat (go_big_quiet_step ((first | (go_at_call 24; with_reducible exact bel_of (of_any _ _)) | (go_at_call 20; with_reducible exact bel_of (within_any _ _ _ _ _)))))
            refine wpQuiet_nil ?_
            intro y8
            go_wp2_with fail
            go_ret
            exact ⟨rfl, below_next HB7.out y8.2⟩
      | true =>
        have J1 : decide (n1' ≤ 1) = true := j1
        have J2 : decide (1 ≤ n2') = true := j2
        have H1' := Lib.hid (show maybeOpen 3 prime brk 1 1 u u = (1, 1) from H1.out)
        clear j1 j2 H1
        go_upto_region 8 with fail
        refine wp_rebase _ (fun V3 hV x3 => ?_)
        have HB3 := Lib.hid (bel_at hV (bel_alloc (below_next HB2.out y3.2) _))
        have HR3 := Lib.hid (show V3.rangeAt w.heap.size 0 [.string nm, .int .i64 3, .int .i64 from', .int .i64 to', .slice r0 n0 c0, .slice r1 n1 c1, .slice r2 n2 c2, .int .i64 pos, .int .i64 sp, .int .i64 leak, .int .i64 crest, .int .i64 num, .int .i64 den, .int .i64 prime, .int .i64 brk, .int .i64 bnum, .int .i64 bden, .int .i64 delay] by rw [hV]; exact World.rangeAt_alloc (BelW.range HR1.out y3) _)
        have HC3' := Cs.at hV ((HC2.out.below y3).alloc 32 [.int .i64 0, .int .i64 0, .int .i64 0, .int .i64 0, .int .i64 0])
        have HF3 := Lib.hid (show Fz V3 y3.w.heap.size by rw [hV]; exact Fz.new _ _ _ rfl)
        have hKg : w.heap.size + 1 < y3.w.heap.size := World.block_lt_of_cell? _ _ (hu2.1 y3)
        obtain ⟨K, hK⟩ : ∃ K, y3.w.heap.size = K := ⟨_, rfl⟩
        rw [hK] at HC3' HF3 hKg ⊢
        simp only [newCells, join, Nat.zero_add, Nat.reduceAdd] at HC3'
        have HC3 := Lib.hid HC3'
        clear hV HC3' HR1 hK hu2
        go_wp2_with fail
        refine (bel_of (of_any _ _)).mono ?_
        rintro e w' ⟨rfl, yo, rfl⟩
        have ho := HC3.out.below yo
        simp only [Cs] at ho
        obtain ⟨ho0, ho1, ho2, ho3, ho4, ho5, ho6, _⟩ := ho
        have gz := HF3.out.bel yo
        go_upto_region 10 with fail
        refine wp_rebase _ (fun V4 hV x4 => ?_)
        have hB3 : Below w.heap.size w yo.w := below_next HB3.out yo.2
        have HB4 := Lib.hid (show Below w.heap.size w V4 by rw [hV]; repeat (first | with_reducible exact hB3 | refine Below.setCell ?_ (by simp <;> omega) _))
        have HRm := Lib.hid (show V4.rangeAt w.heap.size 0 [.string nm, .int .i64 3, .int .i64 from', .int .i64 to', .slice r0 n0 c0, .slice r1 n1 c1, .slice r2 n2 c2, .int .i64 pos, .int .i64 sp, .int .i64 leak, .int .i64 crest, .int .i64 num, .int .i64 den, .int .i64 prime, .int .i64 brk, .int .i64 bnum, .int .i64 bden, .int .i64 delay] by rw [hV]; exact range_set (range_set (BelW.range HR3.out yo) _ (by simp <;> omega) _) _ (by simp <;> omega) _)
        have HC4 := Lib.hid (show Cs V4 [(⟨K, 0, none⟩, .int .i64 0), (⟨K, 1, none⟩, .int .i64 0), (⟨K, 2, none⟩, .int .i64 0), (⟨K, 3, none⟩, .int .i64 1), (⟨K, 4, none⟩, .int .i64 1), (⟨w.heap.size + 1, 0, none⟩, .int .i64 v1), (⟨w.heap.size + 1, 1, none⟩, .int .i64 v2)] by
          rw [hV]
          refine ⟨cell_set (cell_set ho0 _ (by simp) _) _ (by simp) _, cell_set (cell_set ho1 _ (by simp) _) _ (by simp) _, cell_set (cell_set ho2 _ (by simp) _) _ (by simp) _, ?_, ?_, cell_set (cell_set ho5 _ (by simp <;> omega) _) _ (by simp <;> omega) _, cell_set (cell_set ho6 _ (by simp <;> omega) _) _ (by simp <;> omega) _, trivial⟩
          · exact cell_set (World.cell?_setCell_same' _ _ _ (by rw [ho3]; rfl)) _ (by simp) _
          · exact World.cell?_setCell_same' _ _ _ (by rw [cell_set ho4 _ (by simp) _]; rfl))
        clear hV ho0 ho1 ho2 ho3 ho4 ho5 ho6 gz
        have HR1 := HRm
        clear HRm
        have hu4 := HC4.out.bx
        simp only [Bx] at hu4
        go_wp2_with (with_reducible refine wpList_load_g 26 _ (by with_reducible rfl) _ _ (by with_unfolding_all rfl) (by with_unfolding_all rfl) _ _ (BelW.range HR1.out _) Try.underlying26 (by with_unfolding_all rfl) (by kernel_rfl) ?_)
        refine (bel_of (sip_tell3 _ _ _ _ _ _ _ _ _ _ _ _ _ _ _ _ _ _ _ _ _ _ _ _ _ _ _ _ _ _ HS.out _)).mono ?_
        rintro e w' ⟨rfl, y4, rfl⟩
        go_upto_region 12 with fail
        have HS0 := Lib.hid (show ∃ y : BelW V4, y4.w.drew = y.w from ⟨⟨_, y4.2.drew⟩, rfl⟩)
        have HKr := Lib.hid (show ∀ w', (∃ y : BelW V4, w' = y.w) → w'.rangeAt K 0 [.int .i64 0, .int .i64 0, .int .i64 0, .int .i64 1, .int .i64 1] from fun w' hw' => by
          obtain ⟨y, rfl⟩ := hw'
          intro j v hv
          rw [Nat.zero_add]
          have hc := HC4.out.below y
          simp only [Cs] at hc
          match j, hv with
          | 0, hv => cases hv; exact hc.1
          | 1, hv => cases hv; exact hc.2.1
          | 2, hv => cases hv; exact hc.2.2.1
          | 3, hv => cases hv; exact hc.2.2.2.1
          | 4, hv => cases hv; exact hc.2.2.2.2.1)
        clear hu4
        refine wp_region_tail 6 (fun w' => ∃ y : BelW V4, w' = y.w) (by kernel_rfl) (by kernel_rfl) HS0.out ?_
        refine wpK_take (i := 0) (by kernel_rfl) rfl (by omega) (by kernel_rfl) (by kernel_rfl) (fun _ _ _ h => h) (yields_load 26 _ (by rfl) _ _ (by with_unfolding_all rfl) (by with_unfolding_all rfl) _ _ (rangeX HR1.out) Try.underlying26 (by with_unfolding_all rfl) (by kernel_rfl)) HS0.out ?_
        simp only [Act.put, List.setIfInBounds_toArray, List.set_cons_zero, List.set_cons_succ]
        refine wpK_take (i := 1) (by kernel_rfl) rfl (by omega) (by kernel_rfl) (by kernel_rfl) (fun _ _ _ h => h) (yields_load 32 _ (by rfl) _ _ (by with_unfolding_all rfl) (by with_unfolding_all rfl) _ _ (HKr.out) Try.underlying32 (by with_unfolding_all rfl) (by kernel_rfl)) HS0.out ?_
        simp only [Act.put, List.setIfInBounds_toArray, List.set_cons_zero, List.set_cons_succ]
        refine wpK_take (i := 2) (v := ?v2) (by kernel_rfl) rfl (by omega) (by kernel_rfl) (by kernel_rfl) (fun _ _ _ h => h) (Or.inl ⟨by rfl, ?y2⟩) HS0.out ?_
        case y2 => intro w' hS; (go_simp <;> with_reducible rfl)
        simp only [Act.put, List.setIfInBounds_toArray, List.set_cons_zero, List.set_cons_succ]
        refine wpK_two 3 5 rfl rfl (by omega) (by omega) (by kernel_rfl) ?p3 ?p5
        case p3 =>
          go_wp2_with fail
          refine (bel_of (x := (⟨_, y4.2.drew⟩ : BelW V4)) (of_any _ _)).mono ?_
          rintro e w' ⟨rfl, ya, rfl⟩
          go_wp2_with fail
          refine ⟨⟨ya, rfl⟩, ?_⟩
          refine wpK_two 4 5 rfl rfl (by omega) (by omega) (by kernel_rfl) ?q4 ?q5
          case q4 =>
            go_wp2_with fail
            refine (bel_of (maybe_tell _ _ _ _ _ _ _ _ _ _ _ _ _ _ _ _ _ _ _ _ _ _ _ _ brk1 brk2 _ _ _ _ _ _ _ H1'.out _)).mono ?_
            rintro e w' ⟨rfl, y5, rfl⟩
            go_wp2_with fail
            refine ⟨⟨y5, rfl⟩, ?_⟩
            refine wpK_one 5 rfl (by omega) (by kernel_rfl) ?_
            go_wp2_with fail
            refine ⟨⟨⟨_, bel_alloc y5.2 _⟩, rfl⟩, wpK_done (by kernel_rfl) ?_⟩
            simp only [List.drop_succ_cons, List.drop_zero]
            go_upto_region 13 with fail
            refine wp_rebase _ (fun V5 hV x5 => ?_)
            have HB5 := Lib.hid (bel_at hV (bel_alloc (below_next HB4.out y5.2) _))
            have HC5 := Lib.hid (Cs.at hV ((HC4.out.below y5).alloc _ _))
            have HRm := Lib.hid (show V5.rangeAt w.heap.size 0 [.string nm, .int .i64 3, .int .i64 from', .int .i64 to', .slice r0 n0 c0, .slice r1 n1 c1, .slice r2 n2 c2, .int .i64 pos, .int .i64 sp, .int .i64 leak, .int .i64 crest, .int .i64 num, .int .i64 den, .int .i64 prime, .int .i64 brk, .int .i64 bnum, .int .i64 bden, .int .i64 delay] by rw [hV]; exact World.rangeAt_alloc (BelW.range HR1.out y5) _)
            have hu5 := HC5.out.bx
            simp only [Bx, newCells, join, World.size_alloc] at hu5
            clear hV HR1
            have HR1 := HRm
            clear HRm
            go_wp2_with (with_reducible refine wpList_load_g 26 _ (by with_reducible rfl) _ _ (by with_unfolding_all rfl) (by with_unfolding_all rfl) _ _ (BelW.range HR1.out _) Try.underlying26 (by with_unfolding_all rfl) (by kernel_rfl) ?_)
            refine (bel_of (maybe_tell _ _ _ _ _ _ _ _ _ _ _ _ _ _ _ _ _ _ _ _ _ _ _ _ brk1 brk2 _ _ _ _ _ _ _ H2.out _)).mono ?_
            rintro e w' ⟨rfl, y6, rfl⟩
            go_upto_region 14 with fail
            refine wp_rebase _ (fun V6 hV x6 => ?_)
            have HB6 := Lib.hid (bel_at hV (bel_alloc (below_next HB5.out y6.2) _))
            have HC6 := Lib.hid (Cs.at hV ((HC5.out.below y6).alloc _ _))
            have HRm := Lib.hid (show V6.rangeAt w.heap.size 0 [.string nm, .int .i64 3, .int .i64 from', .int .i64 to', .slice r0 n0 c0, .slice r1 n1 c1, .slice r2 n2 c2, .int .i64 pos, .int .i64 sp, .int .i64 leak, .int .i64 crest, .int .i64 num, .int .i64 den, .int .i64 prime, .int .i64 brk, .int .i64 bnum, .int .i64 bden, .int .i64 delay] by rw [hV]; exact World.rangeAt_alloc (BelW.range HR1.out y6) _)
            have hu6 := HC6.out.bx
            simp only [Bx, newCells, join, World.size_alloc] at hu6
            clear hV hu5 HR1
            have HR1 := HRm
            clear HRm
            go_wp2_with (with_reducible refine wpList_load_g 26 _ (by with_reducible rfl) _ _ (by with_unfolding_all rfl) (by with_unfolding_all rfl) _ _ (BelW.range HR1.out _) Try.underlying26 (by with_unfolding_all rfl) (by kernel_rfl) ?_)
            refine (bel_of (maybe_tell _ _ _ _ _ _ _ _ _ _ _ _ _ _ _ _ _ _ _ _ _ _ _ _ brk1 brk2 _ _ _ _ _ _ _ H3.out _)).mono ?_
            rintro e w' ⟨rfl, y7, rfl⟩
            go_upto_region 15 with fail
            refine wp_rebase _ (fun V7 hV x7 => ?_)
            have HB7 := Lib.hid (bel_at hV (bel_alloc (below_next HB6.out y7.2) _))
            have HC7 := Lib.hid (Cs.at hV ((HC6.out.below y7).alloc _ _))
            have hu7 := HC7.out.bx
            simp only [Bx, newCells, join, World.size_alloc] at hu7
            clear hV hu6
            refine wp_region_belx (by kernel_rfl) (by kernel_rfl) ?_
            repeat (go_big_quiet_step ((first | (go_at_call 24; with_reducible exact bel_of (of_any _ _)) | (go_at_call 20; with_reducible exact bel_of (within_any _ _ _ _ _)))))
            refine wpQuiet_nil ?_
            intro y8
            go_wp2_with fail
            go_ret
            exact ⟨rfl, below_next HB7.out y8.2⟩
          case q5 =>
            go_wp2_with fail
            refine ⟨⟨⟨_, bel_alloc ya.2 _⟩, rfl⟩, ?_⟩
            refine wpK_one 4 rfl (by omega) (by kernel_rfl) ?_
            go_wp2_with fail
            refine (maybe_tell _ _ _ _ _ _ _ _ _ _ _ _ _ _ _ _ _ _ _ _ _ _ _ _ brk1 brk2 _ _ _ _ _ _ _ H1'.out _).mono ?_
            rintro e w2 ⟨rfl, hb⟩
            have hg : ya.w.heap.size < (ya.w.alloc (.cells #[.int .i64 0, .int .i64 0, .int .i64 0, .int .i64 0, .int .i64 0] 32)).heap.size := by rw [World.size_alloc]; exact Nat.lt_succ_self _
            have zc0 : w2.cell? ⟨ya.w.heap.size, 0, none⟩ = some (.int .i64 0) := (hb.cell (p := ⟨ya.w.heap.size, 0, none⟩) hg).trans (World.cell?_alloc_at _ _ _ _ rfl)
            have zc1 : w2.cell? ⟨ya.w.heap.size, 1, none⟩ = some (.int .i64 0) := (hb.cell (p := ⟨ya.w.heap.size, 1, none⟩) hg).trans (World.cell?_alloc_at _ _ _ _ rfl)
            have zc2 : w2.cell? ⟨ya.w.heap.size, 2, none⟩ = some (.int .i64 0) := (hb.cell (p := ⟨ya.w.heap.size, 2, none⟩) hg).trans (World.cell?_alloc_at _ _ _ _ rfl)
            have zc3 : w2.cell? ⟨ya.w.heap.size, 3, none⟩ = some (.int .i64 0) := (hb.cell (p := ⟨ya.w.heap.size, 3, none⟩) hg).trans (World.cell?_alloc_at _ _ _ _ rfl)
            have zc4 : w2.cell? ⟨ya.w.heap.size, 4, none⟩ = some (.int .i64 0) := (hb.cell (p := ⟨ya.w.heap.size, 4, none⟩) hg).trans (World.cell?_alloc_at _ _ _ _ rfl)
            have nz : ∀ o, w2.frozen? ⟨ya.w.heap.size, o, none⟩ = false := fun o => (hb.frozen (p := ⟨ya.w.heap.size, o, none⟩) hg).trans (World.frozen?_alloc_at _ _ _ _ rfl)
            have HBB := Lib.hid (below_next (bel_alloc ya.2 _) hb)
            have HGG := Lib.hid (show V4.heap.size ≤ ya.w.heap.size from ya.2.size)
            clear hb hg
            go_wp2_with fail
            refine ⟨⟨⟨w2, HBB.out⟩, rfl⟩, wpK_done (by kernel_rfl) ?_⟩
            simp only [List.drop_succ_cons, List.drop_zero]
            go_upto_region 13 with fail
            refine wp_rebase _ (fun V5 hV x5 => ?_)
            have hF := five HBB.out HGG.out zc0 zc1 zc2 zc3 zc4 HC4.out hV
            have HB5 := Lib.hid (below_next HB4.out hF.1)
            have HC5 := Lib.hid hF.2
            have HRm := Lib.hid (show V5.rangeAt w.heap.size 0 [.string nm, .int .i64 3, .int .i64 from', .int .i64 to', .slice r0 n0 c0, .slice r1 n1 c1, .slice r2 n2 c2, .int .i64 pos, .int .i64 sp, .int .i64 leak, .int .i64 crest, .int .i64 num, .int .i64 den, .int .i64 prime, .int .i64 brk, .int .i64 bnum, .int .i64 bden, .int .i64 delay] from BelW.range HR1.out ⟨V5, hF.1⟩)
            have hu5 := HC5.out.bx
            simp only [Bx, newCells, join] at hu5
            clear hF zc0 zc1 zc2 zc3 zc4 nz
            clear hV HR1
            have HR1 := HRm
            clear HRm
            go_wp2_with (with_reducible refine wpList_load_g 26 _ (by with_reducible rfl) _ _ (by with_unfolding_all rfl) (by with_unfolding_all rfl) _ _ (BelW.range HR1.out _) Try.underlying26 (by with_unfolding_all rfl) (by kernel_rfl) ?_)
            refine (bel_of (maybe_tell _ _ _ _ _ _ _ _ _ _ _ _ _ _ _ _ _ _ _ _ _ _ _ _ brk1 brk2 _ _ _ _ _ _ _ H2.out _)).mono ?_
            rintro e w' ⟨rfl, y6, rfl⟩
            go_upto_region 14 with fail
            refine wp_rebase _ (fun V6 hV x6 => ?_)
            have HB6 := Lib.hid (bel_at hV (bel_alloc (below_next HB5.out y6.2) _))
            have HC6 := Lib.hid (Cs.at hV ((HC5.out.below y6).alloc _ _))
            have HRm := Lib.hid (show V6.rangeAt w.heap.size 0 [.string nm, .int .i64 3, .int .i64 from', .int .i64 to', .slice r0 n0 c0, .slice r1 n1 c1, .slice r2 n2 c2, .int .i64 pos, .int .i64 sp, .int .i64 leak, .int .i64 crest, .int .i64 num, .int .i64 den, .int .i64 prime, .int .i64 brk, .int .i64 bnum, .int .i64 bden, .int .i64 delay] by rw [hV]; exact World.rangeAt_alloc (BelW.range HR1.out y6) _)
            have hu6 := HC6.out.bx
            simp only [Bx, newCells, join, World.size_alloc] at hu6
            clear hV hu5 HR1
            have HR1 := HRm
            clear HRm
            go_wp2_with (with_reducible refine wpList_load_g 26 _ (by with_reducible rfl) _ _ (by with_unfolding_all rfl) (by with_unfolding_all rfl) _ _ (BelW.range HR1.out _) Try.underlying26 (by with_unfolding_all rfl) (by kernel_rfl) ?_)
            refine (bel_of (maybe_tell _ _ _ _ _ _ _ _ _ _ _ _ _ _ _ _ _ _ _ _ _ _ _ _ brk1 brk2 _ _ _ _ _ _ _ H3.out _)).mono ?_
            rintro e w' ⟨rfl, y7, rfl⟩
            go_upto_region 15 with fail
            refine wp_rebase _ (fun V7 hV x7 => ?_)
            have HB7 := Lib.hid (bel_at hV (bel_alloc (below_next HB6.out y7.2) _))
            have HC7 := Lib.hid (Cs.at hV ((HC6.out.below y7).alloc _ _))
            have hu7 := HC7.out.bx
            simp only [Bx, newCells, join, World.size_alloc] at hu7
            clear hV hu6
            refine wp_region_belx (by kernel_rfl) (by kernel_rfl) ?_
            repeat (go_big_quiet_step ((first | (go_at_call 24; with_reducible exact bel_of (of_any _ _)) | (go_at_call 20; with_reducible exact bel_of (within_any _ _ _ _ _)))))
            refine wpQuiet_nil ?_
            intro y8
            go_wp2_with fail
            go_ret
            exact ⟨rfl, below_next HB7.out y8.2⟩
        case p5 =>
            go_wp2_with fail
            refine ⟨⟨⟨_, bel_alloc y4.2.drew _⟩, rfl⟩, ?_⟩
            refine wpK_one 3 rfl (by omega) (by kernel_rfl) ?_
            go_wp2_with fail
            refine (of_any _ _).mono ?_
            rintro e w1 ⟨rfl, hb1⟩
            go_wp2_with fail
            refine ⟨⟨⟨w1, below_next (bel_alloc y4.2.drew _) hb1⟩, rfl⟩, ?_⟩
            refine wpK_one 4 rfl (by omega) (by kernel_rfl) ?_
            go_wp2_with fail
            refine (maybe_tell _ _ _ _ _ _ _ _ _ _ _ _ _ _ _ _ _ _ _ _ _ _ _ _ brk1 brk2 _ _ _ _ _ _ _ H1'.out _).mono ?_
            rintro e w2 ⟨rfl, hb2⟩
            have hb := below_next hb1 hb2
            clear hb1 hb2
            have hg : y4.w.heap.size < (y4.w.drew.alloc (.cells #[.int .i64 0, .int .i64 0, .int .i64 0, .int .i64 0, .int .i64 0] 32)).heap.size := by rw [World.size_alloc]; exact Nat.lt_succ_self _
            have zc0 : w2.cell? ⟨y4.w.heap.size, 0, none⟩ = some (.int .i64 0) := (hb.cell (p := ⟨y4.w.heap.size, 0, none⟩) hg).trans (World.cell?_alloc_at _ _ _ _ rfl)
            have zc1 : w2.cell? ⟨y4.w.heap.size, 1, none⟩ = some (.int .i64 0) := (hb.cell (p := ⟨y4.w.heap.size, 1, none⟩) hg).trans (World.cell?_alloc_at _ _ _ _ rfl)
            have zc2 : w2.cell? ⟨y4.w.heap.size, 2, none⟩ = some (.int .i64 0) := (hb.cell (p := ⟨y4.w.heap.size, 2, none⟩) hg).trans (World.cell?_alloc_at _ _ _ _ rfl)
            have zc3 : w2.cell? ⟨y4.w.heap.size, 3, none⟩ = some (.int .i64 0) := (hb.cell (p := ⟨y4.w.heap.size, 3, none⟩) hg).trans (World.cell?_alloc_at _ _ _ _ rfl)
            have zc4 : w2.cell? ⟨y4.w.heap.size, 4, none⟩ = some (.int .i64 0) := (hb.cell (p := ⟨y4.w.heap.size, 4, none⟩) hg).trans (World.cell?_alloc_at _ _ _ _ rfl)
            have nz : ∀ o, w2.frozen? ⟨y4.w.heap.size, o, none⟩ = false := fun o => (hb.frozen (p := ⟨y4.w.heap.size, o, none⟩) hg).trans (World.frozen?_alloc_at _ _ _ _ rfl)
            have HBB := Lib.hid (below_next (bel_alloc y4.2.drew _) hb)
            have HGG := Lib.hid (show V4.heap.size ≤ y4.w.heap.size from y4.2.size)
            clear hb hg
            go_wp2_with fail
            refine ⟨⟨⟨w2, HBB.out⟩, rfl⟩, wpK_done (by kernel_rfl) ?_⟩
            simp only [List.drop_succ_cons, List.drop_zero]
            go_upto_region 13 with fail
            refine wp_rebase _ (fun V5 hV x5 => ?_)
            have hF := five HBB.out HGG.out zc0 zc1 zc2 zc3 zc4 HC4.out hV
            have HB5 := Lib.hid (below_next HB4.out hF.1)
            have HC5 := Lib.hid hF.2
            have HRm := Lib.hid (show V5.rangeAt w.heap.size 0 [.string nm, .int .i64 3, .int .i64 from', .int .i64 to', .slice r0 n0 c0, .slice r1 n1 c1, .slice r2 n2 c2, .int .i64 pos, .int .i64 sp, .int .i64 leak, .int .i64 crest, .int .i64 num, .int .i64 den, .int .i64 prime, .int .i64 brk, .int .i64 bnum, .int .i64 bden, .int .i64 delay] from BelW.range HR1.out ⟨V5, hF.1⟩)
            have hu5 := HC5.out.bx
            simp only [Bx, newCells, join] at hu5
            clear hF zc0 zc1 zc2 zc3 zc4 nz
            clear hV HR1
            have HR1 := HRm
            clear HRm
            go_wp2_with (with_reducible refine wpList_load_g 26 _ (by with_reducible rfl) _ _ (by with_unfolding_all rfl) (by with_unfolding_all rfl) _ _ (BelW.range HR1.out _) Try.underlying26 (by with_unfolding_all rfl) (by kernel_rfl) ?_)
            refine (bel_of (maybe_tell _ _ _ _ _ _ _ _ _ _ _ _ _ _ _ _ _ _ _ _ _ _ _ _ brk1 brk2 _ _ _ _ _ _ _ H2.out _)).mono ?_
            rintro e w' ⟨rfl, y6, rfl⟩
            go_upto_region 14 with fail
            refine wp_rebase _ (fun V6 hV x6 => ?_)
            have HB6 := Lib.hid (bel_at hV (bel_alloc (below_next HB5.out y6.2) _))
            have HC6 := Lib.hid (Cs.at hV ((HC5.out.below y6).alloc _ _))
            have HRm := Lib.hid (show V6.rangeAt w.heap.size 0 [.string nm, .int .i64 3, .int .i64 from', .int .i64 to', .slice r0 n0 c0, .slice r1 n1 c1, .slice r2 n2 c2, .int .i64 pos, .int .i64 sp, .int .i64 leak, .int .i64 crest, .int .i64 num, .int .i64 den, .int .i64 prime, .int .i64 brk, .int .i64 bnum, .int .i64 bden, .int .i64 delay] by rw [hV]; exact World.rangeAt_alloc (BelW.range HR1.out y6) _)
            have hu6 := HC6.out.bx
            simp only [Bx, newCells, join, World.size_alloc] at hu6
            clear hV hu5 HR1
            have HR1 := HRm
            clear HRm
            go_wp2_with (with_reducible refine wpList_load_g 26 _ (by with_reducible rfl) _ _ (by with_unfolding_all rfl) (by with_unfolding_all rfl) _ _ (BelW.range HR1.out _) Try.underlying26 (by with_unfolding_all rfl) (by kernel_rfl) ?_)
            refine (bel_of (maybe_tell _ _ _ _ _ _ _ _ _ _ _ _ _ _ _ _ _ _ _ _ _ _ _ _ brk1 brk2 _ _ _ _ _ _ _ H3.out _)).mono ?_
            rintro e w' ⟨rfl, y7, rfl⟩
            go_upto_region 15 with fail
            refine wp_rebase _ (fun V7 hV x7 => ?_)
            have HB7 := Lib.hid (bel_at hV (bel_alloc (below_next HB6.out y7.2) _))
            have HC7 := Lib.hid (Cs.at hV ((HC6.out.below y7).alloc _ _))
            have hu7 := HC7.out.bx
            simp only [Bx, newCells, join, World.size_alloc] at hu7
            clear hV hu6
            refine wp_region_belx (by kernel_rfl) (by kernel_rfl) ?_
            repeat (go_big_quiet_step ((first | (go_at_call 24; with_reducible exact bel_of (of_any _ _)) | (go_at_call 20; with_reducible exact bel_of (within_any _ _ _ _ _)))))
            refine wpQuiet_nil ?_
            intro y8
            go_wp2_with fail
            go_ret
            exact ⟨rfl, below_next HB7.out y8.2⟩
  · have t2 : decide (v1 ≤ v2) = false := decide_eq_false hv
    go_wp2_with (go_at_call 23; (with_reducible refine (bel_of (right_any _ _ _)).mono ?_); rintro e w' ⟨rfl, z, rfl⟩)
    go_ret
    exact ⟨rfl, below_next HB2.out z.2⟩

end Go.Proofs.Ytacjhenjagageaa
