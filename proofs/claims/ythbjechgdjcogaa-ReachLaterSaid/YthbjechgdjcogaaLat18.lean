/- ReachLater: the walk. -/
import Derived.Test.YthbjechgdjcogaaLatP
namespace Go.Proofs.Ythbjechgdjcogaa
open Go.RowKit
set_option linter.unusedVariables false
set_option linter.unusedSimpArgs false

theorem fit_wrap (n : Int) : Fit (IntKind.i64.wrap n) := by rw [IntKind.wrap_i64]; unfold Fit; omega
set_option maxHeartbeats 32000000 in
set_option maxRecDepth 100000 in
theorem lat_any (A : Option Addr) (c : Nat) (l : List Ld) (h t p o : Int) (hln : l.length ≤ 9223372036854775807) (hlc : l.length ≤ c) (hcm : c ≤ 9223372036854775807) (hA : A = none → c = 0) (hok : QOk l) (ht : Fit t) (w : World) (hq : Qu w A l) :
    Calls Try.prog 6 #[.slice A l.length c, .int .i64 h, .int .i64 t, .int .i64 p, .int .i64 o] w fun e w' => e = .returned (.bool true) ∧ Below w.heap.size w w' := by
  obtain ⟨i0, hi0, hz0, hz1, hz2⟩ := info_parts info_int2
  refine rebase w (fun V hV x0 => ?_)
  subst hV
  have CS := Lib.hid (fun u : BelW V => bel_of (small_any u.w))
  have HQ := Lib.hid hq
  have HF := Lib.hid (And.intro hok (And.intro hA ht))
  clear hq hok hA ht
  go_enter Try.func6, Try.ntmps6
  go_upto_region 2 with (first | (go_at_call 8; with_reducible refine (CS.out _).mono ?_; rintro e w' ⟨rfl, yy, rfl⟩))
  go_wp2_with fail
  refine (few_any A c l hln HF.out.1 _ (HQ.out.bel yy)).mono ?_
  rintro e w1 ⟨b, rfl, hfew, hb1⟩
  obtain ⟨y1, rfl⟩ : ∃ y : BelW V, w1 = y.w := ⟨⟨w1, below_next yy.2 hb1⟩, rfl⟩
  have HB1 := Lib.hid y1.2
  cases b
  · clear hfew hb1
    go_wp2_with fail
    go_ret
    exact ⟨rfl, HB1.out⟩
  obtain ⟨g1, g2⟩ := hfew.1 rfl
  have HG := Lib.hid (show ∀ x ∈ l, x.part.length ≤ 1000 from fun x hx => by have := g1 x hx; omega)
  clear hfew hb1 g1 CS
  by_cases q1 : o < 1
  · have t1 : decide (o < 1) = true := decide_eq_true q1
    go_wp2_with fail
    go_ret
    exact ⟨rfl, HB1.out⟩
  have t1 : decide (o < 1) = false := decide_eq_false q1
  by_cases q2 : 6 < o
  · have t2 : decide (6 < o) = true := decide_eq_true q2
    go_wp2_with fail
    go_ret
    exact ⟨rfl, HB1.out⟩
  have t2 : decide (6 < o) = false := decide_eq_false q2
  by_cases q3 : p < 1
  · have t3 : decide (p < 1) = true := decide_eq_true q3
    go_wp2_with fail
    go_ret
    exact ⟨rfl, HB1.out⟩
  have t3 : decide (p < 1) = false := decide_eq_false q3
  by_cases q4 : 10 < p
  · have t4 : decide (10 < p) = true := decide_eq_true q4
    go_wp2_with fail
    go_ret
    exact ⟨rfl, HB1.out⟩
  have t4 : decide (10 < p) = false := decide_eq_false q4
  by_cases q5 : t < h
  · have t5 : decide (t < h) = true := decide_eq_true q5
    go_wp2_with fail
    go_ret
    exact ⟨rfl, HB1.out⟩
  have t5 : decide (t < h) = false := decide_eq_false q5
  obtain ⟨O, rfl⟩ := Int.eq_ofNat_of_zero_le (show 0 ≤ o by omega)
  obtain ⟨P, rfl⟩ := Int.eq_ofNat_of_zero_le (show 0 ≤ p by omega)
  have hO : O ≤ 6 := by omega
  have hP : P ≤ 10 := by omega
  have hO1 : 1 ≤ O := by omega
  have hP1 : 1 ≤ P := by omega
  have HT := Lib.hid (show h ≤ t by omega)
  have CR := Lib.hid (lright_any A c l O hO (by omega) HG.out HF.out.1 y1.w (HQ.out.bel y1))
  clear q1 q2 q3 q4 q5
  go_wp2_with fail
  refine CR.out.mono ?_
  rintro e w2 ⟨b, rfl, hrq, hb2⟩
  have HB2 := Lib.hid (below_next HB1.out hb2)
  cases b
  · clear hrq hb2
    go_wp2_with fail
    go_ret
    exact ⟨rfl, HB2.out⟩
  have HRQ := Lib.hid (hrq.1 rfl)
  have D1 := Lib.hid (duel_any A c l l.length rfl h (P : Int) (O : Int) (by omega) HG.out HF.out.2.1 hlc HF.out.1 P O (clamp_nat (by omega)) (clamp_nat (by omega)) w2 (HQ.out.below (Nat.le_refl _) HB2.out))
  clear hrq hb2 CR
  go_wp2_with fail
  refine D1.out.mono ?_
  rintro e w3 ⟨A1, c1, B1, d1, rows1, m1, rfl, hc1, hp1, hk1, ho1, hB1, hd1, hr1, hM1, hQ1, hb3⟩
  have HB3 := Lib.hid (below_next HB2.out hb3)
  have L1 := rest_len hk1 HG.out
  have D2 := Lib.hid (duel_any B1 d1 m1 m1.length rfl t (P : Int) (O : Int) (by omega) L1.1 hB1 hd1 ho1 P O (clamp_nat (by omega)) (clamp_nat (by omega)) w3 hQ1)
  have H1 := Lib.hid (And.intro hp1 (And.intro hk1 (And.intro hM1 L1.2)))
  have N1 := Lib.hid L1.1
  clear hc1 hp1 hk1 ho1 hB1 hd1 hr1 hM1 hQ1 hb3 D1 L1
  go_wp2_with fail
  refine D2.out.mono ?_
  rintro e w4 ⟨A2, c2, B2, d2, rows2, m2, rfl, hc2, hp2, hk2, ho2, hB2, hd2, hr2, hM2, hQ2, hb4⟩
  have HB4 := Lib.hid (below_next HB3.out hb4)
  have L2 := rest_len hk2 N1.out
  have D3 := Lib.hid (duel_any A c l l.length rfl t (P : Int) (O : Int) (by omega) HG.out HF.out.2.1 hlc HF.out.1 P O (clamp_nat (by omega)) (clamp_nat (by omega)) w4 (HQ.out.below (Nat.le_refl _) HB4.out))
  have H2 := Lib.hid (And.intro hp2 (And.intro hk2 (And.intro hM2 (And.intro hQ2 (And.intro ho2 L2.2)))))
  have HM1 := Lib.hid (H1.out.2.2.1.below (Nat.le_refl _) hb4)
  clear hc2 hp2 hk2 ho2 hB2 hd2 hr2 hM2 hQ2 hb4 D2 L2
  go_wp2_with fail
  refine D3.out.mono ?_
  rintro e w5 ⟨A3, c3, B3, d3, rows3, m3, rfl, hc3, hp3, hk3, ho3, hB3, hd3, hr3, hM3, hQ3, hb5⟩
  have HB5 := Lib.hid (below_next HB4.out hb5)
  have L3 := rest_len hk3 HG.out
  have H3 := Lib.hid (And.intro hp3 (And.intro hk3 (And.intro hM3 (And.intro hQ3 (And.intro ho3 (And.intro L3.1 (And.intro L3.2 (And.intro hB3 hd3))))))))
  have HM1b := Lib.hid (HM1.out.below (Nat.le_refl _) hb5)
  have HM2b := Lib.hid (H2.out.2.2.1.below (Nat.le_refl _) hb5)
  have HQ2b := Lib.hid (H2.out.2.2.2.1.below (Nat.le_refl _) hb5)
  have HK23 := Lib.hid (show keys m2 = keys m3 by rw [H2.out.2.1, H1.out.2.1, H3.out.2.1, rest_rest HT.out])
  have hn3 : m3.length ≤ 20 := by have := L3.2; omega
  have HR1 := Lib.hid (show rows1.length = P by rw [← parts_length, H1.out.1]; simp)
  have HR2 := Lib.hid (show rows2.length = P by rw [← parts_length, H2.out.1]; simp)
  have HR3 := Lib.hid (show rows3.length = P by rw [← parts_length, H3.out.1]; simp)
  have bP : ((P : Int) != (P : Int)) = false := by simp
  clear hc3 hp3 hk3 ho3 hB3 hd3 hr3 hM3 hQ3 hb5 D3 L3
  go_upto_region 10 with fail
  refine wp_rebase w5 (fun U hU z0 => ?_)
  have HBU := Lib.hid (show Below V.heap.size V U by rw [hU]; exact HB5.out)
  have HU := Lib.hid (show Mx U A1 rows1 ∧ Mx U A2 rows2 ∧ Mx U A3 rows3 ∧ Qu U B2 m2 ∧ Qu U B3 m3 by rw [hU]; exact ⟨HM1b.out, HM2b.out, H3.out.2.2.1, HQ2b.out, H3.out.2.2.2.1⟩)
  clear hU
  go_loopw [18] (fun s18 wr => CnR U P s18 wr) (fun i _ => P - (intOf i).toNat)
  case atStart => exact ⟨0, by omega, rfl, z0, rfl⟩
  case round =>
    obtain ⟨q, hq, rfl, y, rfl⟩ := hrel
    by_cases hlt : q < P
    · have i3 : decide ((q : Int) < (P : Int)) = true := decide_eq_true (by omega)
      have j1 : (0 : Int) ≤ (q : Int) := by omega
      have j2 : (q : Int) < (P : Int) := by omega
      have h1 : q < rows1.length := by rw [HR1.out]; exact hlt
      have h2 : q < rows2.length := by rw [HR2.out]; exact hlt
      have h3 : q < rows3.length := by rw [HR3.out]; exact hlt
      obtain ⟨a1, rfl, _, e1, f1⟩ := (HU.out.1.bel y).at h1
      obtain ⟨a2, rfl, _, e2, f2⟩ := (HU.out.2.1.bel y).at h2
      obtain ⟨a3, rfl, _, e3, f3⟩ := (HU.out.2.2.1.bel y).at h3
      have r1 : (rows1[q]'h1).part = rowK O h (P : Int) q (keys l) := row_part H1.out.1 hlt h1
      have r2 : (rows2[q]'h2).part = rowK O t (P : Int) q (restK h (P : Int) (keys l)) := by rw [row_part H2.out.1 hlt h2, H1.out.2.1]
      have r3 : (rows3[q]'h3).part = rowK O t (P : Int) q (keys l) := row_part H3.out.1 hlt h3
      have hadd := rest_add HRQ.out (p := (P : Int)) HT.out q
      have l1 : (rowK O h (P : Int) q (keys l)).length = O := by rw [rowK_all HRQ.out, gl_length]
      have l2 : (rowK O t (P : Int) q (restK h (P : Int) (keys l))).length = O := by rw [rowK_all (restK_right HRQ.out h (P : Int)), gl_length]
      have l3 : (rowK O t (P : Int) q (keys l)).length = O := by rw [rowK_all HRQ.out, gl_length]
      have ft1 := rowK_fit (O := O) (h := h) (p := (P : Int)) (pl := q) (keys l)
      have ft2 := rowK_fit (O := O) (h := t) (p := (P : Int)) (pl := q) (restK h (P : Int) (keys l))
      obtain ⟨v1, hv1⟩ : ∃ v, rowK O h (P : Int) q (keys l) = v := ⟨_, rfl⟩
      obtain ⟨v2, hv2⟩ : ∃ v, rowK O t (P : Int) q (restK h (P : Int) (keys l)) = v := ⟨_, rfl⟩
      obtain ⟨v3, hv3⟩ : ∃ v, rowK O t (P : Int) q (keys l) = v := ⟨_, rfl⟩
      rw [hv1] at r1 l1 ft1 hadd
      rw [hv2] at r2 l2 ft2 hadd
      rw [hv3] at r3 l3 hadd
      rw [r1] at e1 f1
      rw [r2] at e2 f2
      rw [r3] at e3 f3
      rw [l1] at e1
      rw [l2] at e2
      rw [l3] at e3
      obtain ⟨E1, hE1⟩ : ∃ v, (rows1[q]'h1).A = v := ⟨_, rfl⟩
      obtain ⟨E2, hE2⟩ : ∃ v, (rows2[q]'h2).A = v := ⟨_, rfl⟩
      obtain ⟨E3, hE3⟩ : ∃ v, (rows3[q]'h3).A = v := ⟨_, rfl⟩
      obtain ⟨G1, hG1⟩ : ∃ v, (rows1[q]'h1).c = v := ⟨_, rfl⟩
      obtain ⟨G2, hG2⟩ : ∃ v, (rows2[q]'h2).c = v := ⟨_, rfl⟩
      obtain ⟨G3, hG3⟩ : ∃ v, (rows3[q]'h3).c = v := ⟨_, rfl⟩
      rw [hE1, hG1] at e1
      rw [hE2, hG2] at e2
      rw [hE3, hG3] at e3
      rw [hE1] at f1
      rw [hE2] at f2
      rw [hE3] at f3
      have CA := Lib.hid (fun w' (hb : Below y.w.heap.size y.w w') => padd_any E1 E2 G1 G2 v1 v2 O O O l1 l2 (Nat.max_self O) (by omega) (fun i _ => ft1 i) (fun i _ => ft2 i) w' (f1.below (Nat.le_refl _) hb) (f2.below (Nat.le_refl _) hb))
      rw [hadd] at CA
      have HF3 := Lib.hid (And.intro f3 l3)
      have HS0 := Lib.hid (show y.w.drew.cell? (a1.add q) = some (.slice E1 O G1) ∧ y.w.drew.cell? (a2.add q) = some (.slice E2 O G2) ∧ y.w.drew.cell? (a3.add q) = some (.slice E3 O G3) from ⟨e1, e2, e3⟩)
      have HS1 := Lib.hid (fun w' (hb : Below y.w.heap.size y.w w') => show w'.cell? (a1.add q) = some (.slice E1 O G1) ∧ w'.cell? (a2.add q) = some (.slice E2 O G2) ∧ w'.cell? (a3.add q) = some (.slice E3 O G3) from ⟨BelW.cells e1 ⟨w', hb⟩, BelW.cells e2 ⟨w', hb⟩, BelW.cells e3 ⟨w', hb⟩⟩)
      have HY := Lib.hid y.2
      clear h1 h2 h3 r1 r2 r3 hv1 hv2 hv3 hE1 hE2 hE3 hG1 hG2 hG3 f1 f2 f3 l1 l2 ft1 ft2 hadd e1 e2 e3
      go_upto_region 12 with fail
      refine wp_region_tail 13 (fun w' => w'.cell? (a1.add q) = some (.slice E1 O G1) ∧ w'.cell? (a2.add q) = some (.slice E2 O G2) ∧ w'.cell? (a3.add q) = some (.slice E3 O G3)) (by kernel_rfl) (by kernel_rfl) HS0.out ?_
      refine wpK_take (i := 0) (v := ?v0) (by kernel_rfl) rfl (by omega) (by kernel_rfl) (by kernel_rfl) (fun _ _ _ h => h) (Or.inl ⟨by rfl, ?y0⟩) HS0.out ?_
      case y0 => intro w' hS; obtain ⟨k1, k2, k3⟩ := hS; (go_simp <;> with_reducible rfl)
      simp only [Act.put, List.setIfInBounds_toArray, List.set_cons_zero, List.set_cons_succ]
      refine wpK_take (i := 1) (v := ?v1) (by kernel_rfl) rfl (by omega) (by kernel_rfl) (by kernel_rfl) (fun _ _ _ h => h) (Or.inl ⟨by rfl, ?y1⟩) HS0.out ?_
      case y1 => intro w' hS; obtain ⟨k1, k2, k3⟩ := hS; (go_simp <;> with_reducible rfl)
      simp only [Act.put, List.setIfInBounds_toArray, List.set_cons_zero, List.set_cons_succ]
      refine wpK_take (i := 2) (v := ?v2) (by kernel_rfl) rfl (by omega) (by kernel_rfl) (by kernel_rfl) (fun _ _ _ h => h) (Or.inl ⟨by rfl, ?y2⟩) HS0.out ?_
      case y2 => intro w' hS; obtain ⟨k1, k2, k3⟩ := hS; (go_simp <;> with_reducible rfl)
      simp only [Act.put, List.setIfInBounds_toArray, List.set_cons_zero, List.set_cons_succ]
      refine wpK_take (i := 3) (v := ?v3) (by kernel_rfl) rfl (by omega) (by kernel_rfl) (by kernel_rfl) (fun _ _ _ h => h) (Or.inl ⟨by rfl, ?y3⟩) HS0.out ?_
      case y3 => intro w' hS; obtain ⟨k1, k2, k3⟩ := hS; (go_simp <;> with_reducible rfl)
      simp only [Act.put, List.setIfInBounds_toArray, List.set_cons_zero, List.set_cons_succ]
      refine wpK_take (i := 4) (v := ?v4) (by kernel_rfl) rfl (by omega) (by kernel_rfl) (by kernel_rfl) (fun _ _ _ h => h) (Or.inl ⟨by rfl, ?y4⟩) HS0.out ?_
      case y4 => intro w' hS; obtain ⟨k1, k2, k3⟩ := hS; (go_simp <;> with_reducible rfl)
      simp only [Act.put, List.setIfInBounds_toArray, List.set_cons_zero, List.set_cons_succ]
      refine wpK_take (i := 5) (v := ?v5) (by kernel_rfl) rfl (by omega) (by kernel_rfl) (by kernel_rfl) (fun _ _ _ h => h) (Or.inl ⟨by rfl, ?y5⟩) HS0.out ?_
      case y5 => intro w' hS; obtain ⟨k1, k2, k3⟩ := hS; (go_simp <;> with_reducible rfl)
      simp only [Act.put, List.setIfInBounds_toArray, List.set_cons_zero, List.set_cons_succ]
      refine wpK_take (i := 6) (v := ?v6) (by kernel_rfl) rfl (by omega) (by kernel_rfl) (by kernel_rfl) (fun _ _ _ h => h) (Or.inl ⟨by rfl, ?y6⟩) HS0.out ?_
      case y6 => intro w' hS; obtain ⟨k1, k2, k3⟩ := hS; (go_simp <;> with_reducible rfl)
      simp only [Act.put, List.setIfInBounds_toArray, List.set_cons_zero, List.set_cons_succ]
      refine wpK_take (i := 7) (v := ?v7) (by kernel_rfl) rfl (by omega) (by kernel_rfl) (by kernel_rfl) (fun _ _ _ h => h) (Or.inl ⟨by rfl, ?y7⟩) HS0.out ?_
      case y7 => intro w' hS; obtain ⟨k1, k2, k3⟩ := hS; (go_simp <;> with_reducible rfl)
      simp only [Act.put, List.setIfInBounds_toArray, List.set_cons_zero, List.set_cons_succ]
      refine wpK_take (i := 9) (v := ?v9) (by kernel_rfl) rfl (by omega) (by kernel_rfl) (by kernel_rfl) (fun _ _ _ h => h) (Or.inl ⟨by rfl, ?y9⟩) HS0.out ?_
      case y9 => intro w' hS; obtain ⟨k1, k2, k3⟩ := hS; (go_simp <;> with_reducible rfl)
      simp only [Act.put, List.setIfInBounds_toArray, List.set_cons_zero, List.set_cons_succ]
      refine wpK_take (i := 10) (v := ?v10) (by kernel_rfl) rfl (by omega) (by kernel_rfl) (by kernel_rfl) (fun _ _ _ h => h) (Or.inl ⟨by rfl, ?y10⟩) HS0.out ?_
      case y10 => intro w' hS; obtain ⟨k1, k2, k3⟩ := hS; (go_simp <;> with_reducible rfl)
      simp only [Act.put, List.setIfInBounds_toArray, List.set_cons_zero, List.set_cons_succ]
      refine wpK_take (i := 11) (v := ?v11) (by kernel_rfl) rfl (by omega) (by kernel_rfl) (by kernel_rfl) (fun _ _ _ h => h) (Or.inl ⟨by rfl, ?y11⟩) HS0.out ?_
      case y11 => intro w' hS; obtain ⟨k1, k2, k3⟩ := hS; (go_simp <;> with_reducible rfl)
      simp only [Act.put, List.setIfInBounds_toArray, List.set_cons_zero, List.set_cons_succ]
      refine wpK_take (i := 12) (v := ?v12) (by kernel_rfl) rfl (by omega) (by kernel_rfl) (by kernel_rfl) (fun _ _ _ h => h) (Or.inl ⟨by rfl, ?y12⟩) HS0.out ?_
      case y12 => intro w' hS; obtain ⟨k1, k2, k3⟩ := hS; (go_simp <;> with_reducible rfl)
      simp only [Act.put, List.setIfInBounds_toArray, List.set_cons_zero, List.set_cons_succ]
      refine wpK_one 8 rfl (by omega) (by kernel_rfl) ?_
      go_wp2_with fail
      refine (CA.out _ (Below.refl _ _).drew).mono ?_
      rintro e w6 ⟨g, rfl, hI, hB⟩
      have hB' : Below y.w.heap.size y.w w6 := below_next (Below.refl _ _).drew hB
      have C2 := Lib.hid (lawi_any (some ⟨g, 0, none⟩) E3 O G3 v3 O HF3.out.2 (by omega) w6 hI.rd (HF3.out.1.below (Nat.le_refl _) hB'))
      have HB6 := Lib.hid (And.intro (HS1.out w6 hB') (below_next HY.out hB'))
      clear hI hB hB'
      go_wp2_with fail
      refine ⟨HB6.out.1, wpK_done (by kernel_rfl) ?_⟩
      simp only [List.drop_succ_cons, List.drop_zero]
      go_wp2_with fail
      refine C2.out.mono ?_
      rintro e w7 ⟨rfl, hb7⟩
      have HB7 := Lib.hid (below_next HB6.out.2 hb7)
      clear hb7
      go_wp2_with fail
      go_roundw
      case rel => exact ⟨q + 1, by omega, by go_num, ⟨w7, HB7.out⟩, rfl⟩
      case measure => simp [intOf]; omega
    · have i3 : decide ((q : Int) < (P : Int)) = false := decide_eq_false (by omega)
      have INF := Lib.hid (And.intro hi0 (And.intro hz0 (And.intro hz1 (And.intro (show i0.bytes * O ≤ 281474976710656 by rw [hz2]; omega) (show O ≤ maxLen by unfold maxLen; omega)))))
      clear hi0 hz0 hz1 hz2
      have HY := Lib.hid y.2
      obtain ⟨j, hj⟩ : ∃ j : Nat, (O : Int) - 1 = (j : Int) := ⟨O - 1, by omega⟩
      obtain ⟨pk, hpk⟩ : ∃ j : Nat, (P : Int) - 1 = (j : Int) := ⟨P - 1, by omega⟩
      have wj : IntKind.i64.wrap ((O : Int) - 1) = (j : Int) := by rw [hj]; exact IntWalk.i64_in _ (by omega)
      have wpk : IntKind.i64.wrap ((P : Int) - 1) = (pk : Int) := by rw [hpk]; exact IntWalk.i64_in _ (by omega)
      have j1 : (0 : Int) ≤ (j : Int) := by omega
      have j2 : (j : Int) < (O : Int) := by omega
      have HJ := Lib.hid (show j = O - 1 ∧ pk = P - 1 by omega)
      clear hj
      go_upto_region 14 with fail
      go_wp2_with (first | (at_make; refine wpList_make_full _ rfl _ _ 29 rfl y.w.heap.size 3 i0 (.int .i64 0) 1 Try.underlying29 INF.out.1 INF.out.2.1 INF.out.2.2.1 _ _ _ _ O (by rfl) (by rfl) (by rfl) (by rfl) INF.out.2.2.2.1 INF.out.2.2.2.2 (Nat.le_refl _) ?_))
      intro w6 hown6 hg6
      have hI6 := ir_made2 hown6
      have hb6 : Below y.w.heap.size y.w w6 := below_grown (Below.refl _ _) hg6 (fun k hk => by cases hk)
      have c6 := hI6.cell (i := j) (by omega)
      have z6 := hI6.frozen j
      have hI7 : IR (w6.setCell ⟨y.w.heap.size, j, none⟩ (.int .i64 7)) y.w.heap.size y.w.heap.size O (ptO O) := by
        have := hI6.set j 7
        unfold ptO
        rw [← HJ.out.1]
        exact this
      have hb7 : Below y.w.heap.size y.w (w6.setCell ⟨y.w.heap.size, j, none⟩ (.int .i64 7)) := hb6.setCell (p := ⟨y.w.heap.size, j, none⟩) (Nat.le_refl _) _
      obtain ⟨ov, hov⟩ : ∃ v, gi (gl O fun _ => 0) j = v := ⟨_, rfl⟩
      rw [hov] at c6
      have H7 := Lib.hid (And.intro hI7 (And.intro hb7 (below_next HY.out hb7)))
      clear hown6 hg6 hI6 hb6 hI7 hb7 hov
      obtain ⟨t1, ht1⟩ : ∃ v, IntKind.i64.wrap (t + 1) = v := ⟨_, rfl⟩
      have FT1 := Lib.hid (show Fit t1 by rw [← ht1]; exact fit_wrap _)
      have CP := Lib.hid (pushn_any B3 (some ⟨y.w.heap.size, 0, none⟩) d3 O m3 (ptO O) t1 (pk : Int) (by omega) (by rw [ptO_length]; omega) H3.out.2.2.2.2.2.2.2.1 (fun h => by cases h) H3.out.2.2.2.2.2.2.2.2 H3.out.2.2.2.2.1 FT1.out (by unfold Fit; omega) (ptO_fit O) (w6.setCell ⟨y.w.heap.size, j, none⟩ (.int .i64 7)) (HU.out.2.2.2.2.below (Nat.le_refl _) H7.out.2.2) H7.out.1.rd)
      rw [ptO_length] at CP
      rw [push_pt hO1 _ _ _ (by omega)] at CP
      go_wp2_with fail
      refine CP.out.mono ?_
      rintro e w8 ⟨A5, c5, L, rfl, hk5, ho5, hA5, hl5, hQ5, hb8⟩
      have hL : L.length = m3.length + 1 := by rw [← keys_length, hk5, List.length_append, keys_length]; rfl
      have HB8 := Lib.hid (below_next H7.out.2.2 hb8)
      have HI8 := Lib.hid (H7.out.1.next hb8)
      have H5 := Lib.hid (And.intro hk5 (And.intro ho5 (And.intro hA5 (And.intro hl5 hQ5))))
      clear hk5 ho5 hA5 hQ5 hb8 CP c6 z6
      have u1 : IntKind.i64.wrap ((m3.length : Int) + 1) = (m3.length : Int) + 1 := IntWalk.i64_in _ (by omega)
      have u2 : ((L.length : Int) != (m3.length : Int) + 1) = false := bne_eq_false_iff_eq.2 (by omega)
      have hnL : m3.length < L.length := by omega
      have hLn : L.length ≤ 21 := by omega
      have HL := Lib.hid hL
      clear hL
      have HC0 := Lib.hid (lawl_any B2 B3 d2 d3 m2 m3 m2.length m3.length rfl rfl (by have := H2.out.2.2.2.2.2; have := H1.out.2.2.2; omega) H2.out.2.2.2.2.1 HK23.out w8 (HU.out.2.2.2.1.below (Nat.le_refl _) HB8.out) (HU.out.2.2.2.2.below (Nat.le_refl _) HB8.out))
      by_cases q1 : 1000000 < t
      · have bt1 : decide (1000000 < t) = true := decide_eq_true q1
        clear q1
        go_wp2_with fail
        refine HC0.out.mono ?_
        rintro e w9 ⟨rfl, hb9⟩
        have HB9 := Lib.hid (below_next HBU.out (below_next HB8.out hb9))
        clear hb9
        go_wp2_with fail
        go_ret
        exact ⟨rfl, HB9.out⟩
      have bt1 : decide (1000000 < t) = false := decide_eq_false q1
      have wt : t1 = t + 1 := by
        rw [← ht1]
        exact IntWalk.i64_in _ (by have := HF.out.2.2; unfold Fit at this; omega)
      have HTT := Lib.hid wt
      clear wt
      rw [HTT.out] at H5
      have LP : ∀ x ∈ L, x.part.length ≤ 1000 := fun x hx => by
        have h1 : x.key ∈ keys L := List.mem_map_of_mem hx
        rw [H5.out.1] at h1
        rcases List.mem_append.1 h1 with h1 | h1
        · obtain ⟨z, hz, e⟩ := List.mem_map.1 h1
          have e2 : z.part = x.part := congrArg (fun k : Int × Int × List Int => k.2.2) e
          rw [← e2]; exact H3.out.2.2.2.2.2.1 z hz
        · have e2 : x.part = ptO O := congrArg (fun k : Int × Int × List Int => k.2.2) (List.mem_singleton.1 h1)
          rw [e2, ptO_length]; omega
      have D5 := Lib.hid (duel_any A5 c5 L L.length rfl t (P : Int) (O : Int) (by omega) LP H5.out.2.2.1 hl5 H5.out.2.1 P O (clamp_nat (by omega)) (clamp_nat (by omega)) w8 H5.out.2.2.2.2)
      have HLP := Lib.hid LP
      clear q1 LP
      go_wp2_with fail
      refine D5.out.mono ?_
      rintro e w9 ⟨A6, c6, B6, d6, rows6, m6, rfl, hc6, hp6, hk6, ho6, hB6, hd6, hr6, hM6, hQ6, hb9⟩
      have HB9 := Lib.hid (below_next HB8.out hb9)
      have H6 := Lib.hid (And.intro (show keys m6 = keys L by rw [hk6, H5.out.1, H3.out.2.1, rest_push]) (And.intro ho6 hQ6))
      have HQ9 := Lib.hid (H5.out.2.2.2.2.below (Nat.le_refl _) hb9)
      have HI9 := Lib.hid (HI8.out.next hb9)
      clear hc6 hp6 hk6 ho6 hB6 hd6 hr6 hM6 hQ6 hb9 D5
      obtain ⟨x, hx⟩ : ∃ x, L[m3.length]'hnL = x := ⟨_, rfl⟩
      have hxk : x.key = (t + 1, (pk : Int), ptO O) := by
        have e : (keys L)[m3.length]? = (keys m3 ++ [(t + 1, (pk : Int), ptO O)])[m3.length]? := by rw [H5.out.1]
        rw [List.getElem?_append_right (by rw [keys_length]; exact Nat.le_refl _), keys_length, Nat.sub_self] at e
        rw [← hx]
        simpa [keys, hnL] using e
      obtain ⟨a5, rfl, _⟩ := HQ9.out.at hnL
      have Q1 := HQ9.out.one hnL
      rw [hx] at Q1
      have D7 := Lib.hid (fun n hn => duel_any (some (a5.add (m3.length * 3))) (c5 - m3.length) [x] n hn t1 (P : Int) (O : Int) (by rw [← hn]; exact (by decide : 1 ≤ 1000)) (fun z hz => by rw [List.mem_singleton.1 hz, ← hx]; exact HLP.out _ (List.getElem_mem hnL)) (fun h => by cases h) (by rw [← hn]; show 1 ≤ _; omega) (fun z hz => by rw [List.mem_singleton.1 hz, ← hx]; exact H5.out.2.1 _ (List.getElem_mem hnL)) P O (clamp_nat (by omega)) (clamp_nat (by omega)) w9 Q1)
      have HX7 := Lib.hid (show keys [x] = [(t + 1, (P : Int) - 1, ptO O)] by show [x.key] = _; rw [hxk, hpk])
      clear hx hxk Q1 hpk
      have s1 : (0 : Int) ≤ (m3.length : Int) := by omega
      have s2 : (m3.length : Int) ≤ (L.length : Int) := by omega
      have s3 : (L.length : Int) ≤ (c5 : Int) := by omega
      go_wp2_with fail
      refine (D7.out _ (by have := HL.out; simp; omega)).mono ?_
      rintro e w10 ⟨A8, c8, B8, d8, rows8, m8, rfl, hc8, hp8, hk8, ho8, hB8, hd8, hr8, hM8, hQ8, hb10⟩
      have HB10 := Lib.hid (below_next HB9.out hb10)
      have hr8 : pk < rows8.length := by rw [← parts_length, hp8]; simp; have := HJ.out.2; omega
      obtain ⟨a8, rfl, _, e8, f8⟩ := hM8.at hr8
      have hpt : (rows8[pk]'hr8).part = ptO O := by
        rw [row_part hp8 (by have := HJ.out.2; omega) hr8, HX7.out, HJ.out.2]
        rw [HTT.out]; exact row_pt hP1 (t + 1)
      rw [hpt] at f8
      rw [hpt, ptO_length] at e8
      obtain ⟨E8, hE8⟩ : ∃ v, (rows8[pk]'hr8).A = v := ⟨_, rfl⟩
      obtain ⟨G8, hG8⟩ : ∃ v, (rows8[pk]'hr8).c = v := ⟨_, rfl⟩
      rw [hE8, hG8] at e8
      rw [hE8] at f8
      have HH := Lib.hid (And.intro e8 f8)
      have HI10 := Lib.hid (HI9.out.next hb10)
      have HC1 := Lib.hid (lawl_any B2 B3 d2 d3 m2 m3 m2.length m3.length rfl rfl (by have := H2.out.2.2.2.2.2; have := H1.out.2.2.2; omega) H2.out.2.2.2.2.1 HK23.out w10 (HU.out.2.2.2.1.below (Nat.le_refl _) HB10.out) (HU.out.2.2.2.2.below (Nat.le_refl _) HB10.out))
      have H6b := Lib.hid (And.intro (H6.out.2.2.below (Nat.le_refl _) hb10) (HQ9.out.below (Nat.le_refl _) hb10))
      clear hc8 hp8 hk8 ho8 hB8 hd8 hM8 hQ8 hb10 D7 e8 f8 hpt hE8 hG8
      go_wp2_with fail
      refine HC1.out.mono ?_
      rintro e w11 ⟨rfl, hb11⟩
      have HC2 := Lib.hid (lawl_any B6 (some a5) d6 c5 m6 L m6.length L.length rfl rfl (by rw [← keys_length m6, H6.out.1, keys_length]; omega) H6.out.2.1 H6.out.1 w11 (H6b.out.1.below (Nat.le_refl _) hb11) (H6b.out.2.below (Nat.le_refl _) hb11))
      have HB11 := Lib.hid (And.intro hb11 (below_next HB10.out hb11))
      clear hb11
      go_wp2_with fail
      refine HC2.out.mono ?_
      rintro e w12 ⟨rfl, hb12⟩
      have hb := below_next HB11.out.1 hb12
      have e12 : w12.cell? (a8.add pk) = some (.slice E8 O G8) := BelW.cells HH.out.1 ⟨w12, hb⟩
      have HC3 := Lib.hid (lawi_any E8 (some ⟨y.w.heap.size, 0, none⟩) G8 O (ptO O) O (ptO_length O) (by omega) w12 (HH.out.2.below (Nat.le_refl _) hb) (HI10.out.next hb).rd)
      have HB12 := Lib.hid (below_next HB11.out.2 hb12)
      have k1 : (0 : Int) ≤ (pk : Int) := by omega
      have k2 : (pk : Int) < (P : Int) := by have := HJ.out.2; omega
      clear hb12 hb
      go_wp2_with fail
      refine HC3.out.mono ?_
      rintro e w13 ⟨rfl, hb13⟩
      have HB13 := Lib.hid (below_next HBU.out (below_next HB12.out hb13))
      clear hb13 e12
      go_wp2_with fail
      go_ret
      exact ⟨rfl, HB13.out⟩

end Go.Proofs.Ythbjechgdjcogaa
