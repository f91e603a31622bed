/- RainTells: the walk. -/
import Derived.Test.YtafnmaojpheppaaOpen26
import Derived.Test.YtafnmaojpheppaaRCell26
import Derived.Test.YtafnmaojpheppaaSmall26
namespace Go.Proofs.Ytafnmaojpheppaa
open Go.RowKit
set_option linter.unusedVariables false
set_option linter.unusedSimpArgs false

theorem same_self {A B : Option Addr} {ca cb : Nat} (l : List Sp) (hln : l.length ≤ 9223372036854775807) (w : World) (hl : Rd w A (spCells l)) (hm : Rd w B (spCells l)) :
    Calls Try.prog 10 #[.slice A l.length ca, .slice B l.length cb] w fun e w' => e = .returned (.bool true) ∧ Below w.heap.size w w' := by
  have h := sameall_any A B ca cb l l hln hln w hl hm
  rwa [decide_eq_true (rfl : l = l)] at h

set_option maxHeartbeats 32000000 in
set_option maxRecDepth 100000 in
theorem tel26_any (d0 d1 : Value) (cn : Int) (B : Option Addr) (cb : Nat) (ps : List Pr) (d4 d5 : Value) (GA : Option Addr) (gc : Nat) (G : List Gg) (d7 d8 d9 d10 : Value) (RA : Option Addr) (rc : Nat) (radar : List Int) (p : Int) (SA : Option Addr) (sc : Nat) (rs : List Rg) (CA : Option Addr) (cc : Nat) (cs : List Sp)
    (hp : Fit p) (hrn : radar.length ≤ 9223372036854775807) (hsn : rs.length ≤ 9223372036854775807) (hcn : cs.length ≤ 9223372036854775807) (hok : ∀ r ∈ rs, RgOk r) (hcf : ∀ x ∈ cs, Fit2 x) (w : World) (hB : Bas w cn B ps GA G) (hR : Rd w RA (ints radar)) (hS : Rd w SA (rgCells rs)) (hC : Rd w CA (spCells cs)) :
    Calls Try.prog 3 #[.agg #[d0, d1, .int .i64 cn, .slice B ps.length cb, d4, d5, .slice GA G.length gc, d7, d8, d9, d10], .slice RA radar.length rc, .int .i64 p, .slice SA rs.length sc, .slice CA cs.length cc] w fun e w' => e = .returned (.bool true) ∧ Below w.heap.size w w' := by
  have hgt := span_guardType
  have hst := span_stood
  go_enter Try.func3, Try.ntmps3
  go_upto_region 1 with fail
  refine wp_rebase _ (fun V hV x0 => ?_)
  have HB0 := Lib.hid (show Below w.heap.size w V by rw [hV]; exact bel_alloc (Below.refl _ _) _)
  have HBAS := Lib.hid (show V.rangeAt w.heap.size 0 [d0, d1, .int .i64 cn, .slice B ps.length cb, d4, d5, .slice GA G.length gc, d7, d8, d9, d10] by rw [hV]; exact range_new _ _ [d0, d1, .int .i64 cn, .slice B ps.length cb, d4, d5, .slice GA G.length gc, d7, d8, d9, d10])
  have HB := Lib.hid (hB.below (Nat.le_refl _) HB0.out)
  have HR := Lib.hid (hR.below (Nat.le_refl _) HB0.out)
  have HS := Lib.hid (hS.below (Nat.le_refl _) HB0.out)
  have HC := Lib.hid (hC.below (Nat.le_refl _) HB0.out)
  have HF := Lib.hid (And.intro hok hcf)
  have CSm := Lib.hid (fun z : BelW V => bel_of (small_any z.w))
  have CFew := Lib.hid (fun z : BelW V => bel_of (few_any B SA CA cb sc cc rs.length cs.length ps d0 d1 (.int .i64 cn) d4 d5 (.slice GA G.length gc) d7 d8 d9 d10 HB.out.pn z.w (HB.out.bel z).psm))
  clear hV hB hR hS hC hok hcf
  by_cases hf : fewP ps rs.length cs.length
  case neg =>
    rw [fewB_no hf] at CFew
    clear hf
    go_upto_region 2 with (first | (go_at_call 8; (with_reducible refine (CSm.out _).mono ?_); rintro e w' ⟨rfl, y1, rfl⟩))
    have HRX := Lib.hid (BelW.range HBAS.out y1)
    go_wp2_with (first | (with_reducible refine wpList_load_g 31 _ (by with_reducible rfl) _ _ (by with_unfolding_all rfl) (by with_unfolding_all rfl) _ _ HRX.out Try.underlying31 (by with_unfolding_all rfl) (by kernel_rfl) ?_) | (go_at_call 9; (with_reducible refine (CFew.out _).mono ?_); rintro e w' ⟨rfl, y2, rfl⟩))
    go_ret
    exact ⟨rfl, below_next HB0.out y2.2⟩
  rw [fewB_iff.2 hf] at CFew
  have HFW := Lib.hid hf
  clear hf
  go_upto_region 2 with (first | (go_at_call 8; (with_reducible refine (CSm.out _).mono ?_); rintro e w' ⟨rfl, y1, rfl⟩))
  have HRX := Lib.hid (BelW.range HBAS.out y1)
  go_upto_region 5 with (first | (with_reducible refine wpList_load_g 31 _ (by with_reducible rfl) _ _ (by with_unfolding_all rfl) (by with_unfolding_all rfl) _ _ HRX.out Try.underlying31 (by with_unfolding_all rfl) (by kernel_rfl) ?_) | (go_at_call 9; (with_reducible refine (CFew.out _).mono ?_); rintro e w' ⟨rfl, y2, rfl⟩))
  clear CSm CFew HRX
  refine wp_rebase _ (fun U hU x1 => ?_)
  have HBU := Lib.hid (show Below V.heap.size V U by rw [hU]; exact y2.2)
  have HRX := Lib.hid (show U.rangeAt w.heap.size 0 [d0, d1, .int .i64 cn, .slice B ps.length cb, d4, d5, .slice GA G.length gc, d7, d8, d9, d10] from BelW.range HBAS.out ⟨U, HBU.out⟩)
  have HB1 := Lib.hid (HB.out.below (Nat.le_refl _) HBU.out)
  have HR1 := Lib.hid (HR.out.below (Nat.le_refl _) HBU.out)
  have HS1 := Lib.hid (HS.out.below (Nat.le_refl _) HBU.out)
  have HC1 := Lib.hid (HC.out.below (Nat.le_refl _) HBU.out)
  clear hU HB HR HS HC
  have HCn := Lib.hid (cellN_clamp cn).2
  have C1 := Lib.hid (fun (W : World) (hb : Below U.heap.size U W) => cells_any GA RA SA gc rc sc G radar rs cn p d0 d1 (.slice B ps.length cb) d4 d5 d7 d8 d9 d10 hrn hsn HB1.out.gn hp HF.out.1 HB1.out.gok W (HB1.out.gm.below (Nat.le_refl _) hb) (HR1.out.below (Nat.le_refl _) hb) (HS1.out.below (Nat.le_refl _) hb))
  have C2 := Lib.hid (fun (W : World) (hb : Below U.heap.size U W) => refcells_any GA RA SA gc rc sc G radar rs cn p d0 d1 (.slice B ps.length cb) d4 d5 d7 d8 d9 d10 hrn hsn HB1.out.gn hp W (HB1.out.gm.below (Nat.le_refl _) hb) (HR1.out.below (Nat.le_refl _) hb) (HS1.out.below (Nat.le_refl _) hb))
  have HL := Lib.hid (show (cellsL G radar p rs (cellN cn)).length ≤ 9223372036854775807 by rw [cellsL_length]; have := HCn.out; omega)
  obtain ⟨L, hL⟩ : ∃ L, cellsL G radar p rs (cellN cn) = L := ⟨_, rfl⟩
  rw [hL] at C1 C2 HL
  have HPN := Lib.hid (show ps.length ≤ 1000 ∧ (∀ x ∈ ps, x.rain.length ≤ 1000) from ⟨by have := HFW.out.1; omega, fun x hx => by have := HFW.out.2.2.2 x hx; omega⟩)
  have D1 := Lib.hid (fun (W : World) (hb : Below U.heap.size U W) => mesh_any B CA cb cc ps cs d0 d1 (.int .i64 cn) d4 d5 (.slice GA G.length gc) d7 d8 d9 d10 HPN.out.1 HPN.out.2 hcn (fun x hx => (HB1.out.pok x hx).2) W (HB1.out.psm.below (Nat.le_refl _) hb) (HC1.out.below (Nat.le_refl _) hb))
  have D2 := Lib.hid (fun (W : World) (hb : Below U.heap.size U W) => refmesh_any B CA cb cc ps cs d0 d1 (.int .i64 cn) d4 d5 (.slice GA G.length gc) d7 d8 d9 d10 HPN.out.1 HPN.out.2 hcn W (HB1.out.psm.below (Nat.le_refl _) hb) (HC1.out.below (Nat.le_refl _) hb))
  have HM := Lib.hid (show (meshL cs ps).length ≤ 9223372036854775807 by rw [meshL_length]; have := HPN.out.1; omega)
  obtain ⟨M, hM⟩ : ∃ M, meshL cs ps = M := ⟨_, rfl⟩
  rw [hM] at D1 D2 HM
  clear hL hM
  have HS0 := Lib.hid (show ∃ z : BelW U, x1.w.drew = z.w from ⟨⟨_, x1.2.drew⟩, rfl⟩)
  refine wp_region_tail 11 (fun w' => ∃ z : BelW U, w' = z.w) (by kernel_rfl) (by kernel_rfl) HS0.out ?_
  refine wpK_take (i := 0) (by kernel_rfl) rfl (by omega) (by kernel_rfl) (by kernel_rfl) (fun _ _ _ h => h) (yields_load 31 _ (by rfl) _ _ (by with_unfolding_all rfl) (by with_unfolding_all rfl) _ _ (rangeX HRX.out) Try.underlying31 (by with_unfolding_all rfl) (by kernel_rfl)) HS0.out ?_
  simp only [Act.put, List.setIfInBounds_toArray, List.set_cons_zero, List.set_cons_succ]
  refine wpK_take (i := 1) (v := ?v1) (by kernel_rfl) rfl (by omega) (by kernel_rfl) (by kernel_rfl) (fun _ _ _ h => h) (Or.inl ⟨by rfl, ?y1⟩) HS0.out ?_
  case y1 => intro w1 hS; (go_simp <;> with_reducible rfl)
  simp only [Act.put, List.setIfInBounds_toArray, List.set_cons_zero, List.set_cons_succ]
  refine wpK_take (i := 2) (v := ?v2) (by kernel_rfl) rfl (by omega) (by kernel_rfl) (by kernel_rfl) (fun _ _ _ h => h) (Or.inl ⟨by rfl, ?y2⟩) HS0.out ?_
  case y2 => intro w1 hS; (go_simp <;> with_reducible rfl)
  simp only [Act.put, List.setIfInBounds_toArray, List.set_cons_zero, List.set_cons_succ]
  refine wpK_take (i := 3) (v := ?v3) (by kernel_rfl) rfl (by omega) (by kernel_rfl) (by kernel_rfl) (fun _ _ _ h => h) (Or.inl ⟨by rfl, ?y3⟩) HS0.out ?_
  case y3 => intro w1 hS; (go_simp <;> with_reducible rfl)
  simp only [Act.put, List.setIfInBounds_toArray, List.set_cons_zero, List.set_cons_succ]
  refine wpK_take (i := 5) (by kernel_rfl) rfl (by omega) (by kernel_rfl) (by kernel_rfl) (fun _ _ _ h => h) (yields_load 31 _ (by rfl) _ _ (by with_unfolding_all rfl) (by with_unfolding_all rfl) _ _ (rangeX HRX.out) Try.underlying31 (by with_unfolding_all rfl) (by kernel_rfl)) HS0.out ?_
  simp only [Act.put, List.setIfInBounds_toArray, List.set_cons_zero, List.set_cons_succ]
  refine wpK_take (i := 6) (v := ?v6) (by kernel_rfl) rfl (by omega) (by kernel_rfl) (by kernel_rfl) (fun _ _ _ h => h) (Or.inl ⟨by rfl, ?y6⟩) HS0.out ?_
  case y6 => intro w1 hS; (go_simp <;> with_reducible rfl)
  simp only [Act.put, List.setIfInBounds_toArray, List.set_cons_zero, List.set_cons_succ]
  refine wpK_take (i := 7) (v := ?v7) (by kernel_rfl) rfl (by omega) (by kernel_rfl) (by kernel_rfl) (fun _ _ _ h => h) (Or.inl ⟨by rfl, ?y7⟩) HS0.out ?_
  case y7 => intro w1 hS; (go_simp <;> with_reducible rfl)
  simp only [Act.put, List.setIfInBounds_toArray, List.set_cons_zero, List.set_cons_succ]
  refine wpK_take (i := 8) (v := ?v8) (by kernel_rfl) rfl (by omega) (by kernel_rfl) (by kernel_rfl) (fun _ _ _ h => h) (Or.inl ⟨by rfl, ?y8⟩) HS0.out ?_
  case y8 => intro w1 hS; (go_simp <;> with_reducible rfl)
  simp only [Act.put, List.setIfInBounds_toArray, List.set_cons_zero, List.set_cons_succ]
  refine wpK_one 4 rfl (by omega) (by kernel_rfl) ?_
  go_wp2_with fail
  refine (C1.out _ x1.2.drew).mono ?_
  rintro e w1 ⟨A1, c1, rfl, -, -, hr1, hb1⟩
  have HB4 := Lib.hid (below_next x1.2.drew hb1)
  go_wp2_with fail
  refine ⟨⟨⟨w1, HB4.out⟩, rfl⟩, ?_⟩
  refine wpK_one 9 rfl (by omega) (by kernel_rfl) ?_
  go_wp2_with fail
  refine (C2.out _ HB4.out).mono ?_
  rintro e w2 ⟨A2, c2, rfl, -, -, hr2, hb2⟩
  have HB5 := Lib.hid (below_next HB4.out hb2)
  have hr1' := hr1.below (Nat.le_refl _) hb2
  have S1 := Lib.hid (same_self (ca := c1) (cb := c2) L HL.out w2 hr1' hr2)
  clear hr1 hr1' hr2 hb1 hb2
  go_wp2_with fail
  refine ⟨⟨⟨w2, HB5.out⟩, rfl⟩, ?_⟩
  refine wpK_one 10 rfl (by omega) (by kernel_rfl) ?_
  go_wp2_with fail
  refine S1.out.mono ?_
  rintro e w3 ⟨rfl, hb3⟩
  have HB6 := Lib.hid (below_next HB5.out hb3)
  clear hb3
  go_wp2_with fail
  refine ⟨⟨⟨w3, HB6.out⟩, rfl⟩, wpK_done (by kernel_rfl) ?_⟩
  simp only [List.drop_succ_cons, List.drop_zero]
  go_upto_region 6 with fail
  clear HB4 HB5 S1
  have HS2 := Lib.hid (show ∃ z : BelW U, w3.drew = z.w from ⟨⟨_, HB6.out.drew⟩, rfl⟩)
  refine wp_region_tail 7 (fun w' => ∃ z : BelW U, w' = z.w) (by kernel_rfl) (by kernel_rfl) HS2.out ?_
  refine wpK_take (i := 0) (by kernel_rfl) rfl (by omega) (by kernel_rfl) (by kernel_rfl) (fun _ _ _ h => h) (yields_load 31 _ (by rfl) _ _ (by with_unfolding_all rfl) (by with_unfolding_all rfl) _ _ (rangeX HRX.out) Try.underlying31 (by with_unfolding_all rfl) (by kernel_rfl)) HS2.out ?_
  simp only [Act.put, List.setIfInBounds_toArray, List.set_cons_zero, List.set_cons_succ]
  refine wpK_take (i := 1) (v := ?u1) (by kernel_rfl) rfl (by omega) (by kernel_rfl) (by kernel_rfl) (fun _ _ _ h => h) (Or.inl ⟨by rfl, ?z1⟩) HS2.out ?_
  case z1 => intro w1 hS; (go_simp <;> with_reducible rfl)
  simp only [Act.put, List.setIfInBounds_toArray, List.set_cons_zero, List.set_cons_succ]
  refine wpK_take (i := 3) (by kernel_rfl) rfl (by omega) (by kernel_rfl) (by kernel_rfl) (fun _ _ _ h => h) (yields_load 31 _ (by rfl) _ _ (by with_unfolding_all rfl) (by with_unfolding_all rfl) _ _ (rangeX HRX.out) Try.underlying31 (by with_unfolding_all rfl) (by kernel_rfl)) HS2.out ?_
  simp only [Act.put, List.setIfInBounds_toArray, List.set_cons_zero, List.set_cons_succ]
  refine wpK_take (i := 4) (v := ?u4) (by kernel_rfl) rfl (by omega) (by kernel_rfl) (by kernel_rfl) (fun _ _ _ h => h) (Or.inl ⟨by rfl, ?z4⟩) HS2.out ?_
  case z4 => intro w1 hS; (go_simp <;> with_reducible rfl)
  simp only [Act.put, List.setIfInBounds_toArray, List.set_cons_zero, List.set_cons_succ]
  refine wpK_one 2 rfl (by omega) (by kernel_rfl) ?_
  go_wp2_with fail
  refine (D1.out _ HB6.out.drew).mono ?_
  rintro e w4 ⟨A3, c3, rfl, -, -, hr3, hb4⟩
  have HB7 := Lib.hid (below_next HB6.out.drew hb4)
  go_wp2_with fail
  refine ⟨⟨⟨w4, HB7.out⟩, rfl⟩, ?_⟩
  refine wpK_one 5 rfl (by omega) (by kernel_rfl) ?_
  go_wp2_with fail
  refine (D2.out _ HB7.out).mono ?_
  rintro e w5 ⟨A4, c4, rfl, -, -, hr4, hb5⟩
  have HB8 := Lib.hid (below_next HB7.out hb5)
  have hr3' := hr3.below (Nat.le_refl _) hb5
  have S2 := Lib.hid (same_self (ca := c3) (cb := c4) M HM.out w5 hr3' hr4)
  clear hr3 hr3' hr4 hb4 hb5
  go_wp2_with fail
  refine ⟨⟨⟨w5, HB8.out⟩, rfl⟩, ?_⟩
  refine wpK_one 6 rfl (by omega) (by kernel_rfl) ?_
  go_wp2_with fail
  refine S2.out.mono ?_
  rintro e w6 ⟨rfl, hb6⟩
  have HB9 := Lib.hid (below_next HB8.out hb6)
  clear hb6
  go_wp2_with fail
  refine ⟨⟨⟨w6, HB9.out⟩, rfl⟩, wpK_done (by kernel_rfl) ?_⟩
  simp only [List.drop_succ_cons, List.drop_zero]
  go_upto_region 7 with fail
  refine wp_rebase _ (fun X hX x2 => ?_)
  have HBX := Lib.hid (show Below U.heap.size U X by rw [hX]; exact HB9.out)
  have E1 := Lib.hid (fun z : BelW X => bel_of (sum_any CA cc cs hcn HF.out.2 z.w ((HC1.out.below (Nat.le_refl _) HBX.out).bel z)))
  have E2 := Lib.hid (fun z : BelW X => bel_of (refsum_any CA cc cs hcn HF.out.2 z.w ((HC1.out.below (Nat.le_refl _) HBX.out).bel z)))
  obtain ⟨s, hs⟩ : ∃ s, sumL cs = s := ⟨_, rfl⟩
  rw [hs] at E1 E2
  clear hX hs HB7 HB8 HB9 S2 HRX D1 D2 C1 C2
  obtain ⟨s0, s1⟩ := s
  go_wp2_with (first | (go_at_call 15; (with_reducible refine (E1.out _).mono ?_); rintro e w' ⟨rfl, z1, rfl⟩) | (go_at_call 16; (with_reducible refine (E2.out _).mono ?_); rintro e w' ⟨rfl, z2, rfl⟩))
  go_ret
  exact ⟨rfl, below_next HB0.out (below_next HBU.out (below_next HBX.out z2.2))⟩

end Go.Proofs.Ytafnmaojpheppaa
