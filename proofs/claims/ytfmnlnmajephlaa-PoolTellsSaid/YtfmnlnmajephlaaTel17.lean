/- PoolTells: the walk. -/
import Derived.Test.YtfmnlnmajephlaaPRefD
namespace Go.Proofs.Ytfmnlnmajephlaa
open Go.RowKit
set_option linter.unusedVariables false
set_option linter.unusedSimpArgs false

theorem TakeQ.one {p : List Int} {k : Int} {T T' : List Int} (h : TakeQ p k T) (h' : TakeQ p k T') : T = T' := by
  rcases h with ⟨a, b, c, s⟩ | ⟨n, e⟩ <;> rcases h' with ⟨a', b', c', s'⟩ | ⟨n', e'⟩
  · exact s.unique s'
  · exact absurd ⟨a, b, c⟩ n'
  · exact absurd ⟨a', b', c'⟩ n
  · rw [e, e']

set_option maxHeartbeats 16000000 in
set_option maxRecDepth 100000 in
theorem tel_any (A B : Option Addr) (ca cb : Nat) (p q : List Int) (hA : A = none → ca = 0) (hnp : p.length ≤ 9223372036854775807) (hnq : q.length ≤ 9223372036854775807) (hfp : ∀ i, i < p.length → Fit (gi p i)) (hfq : ∀ i, i < q.length → Fit (gi q i)) (o t k : Int) (w : World) (hrp : Rd w A (ints p)) (hrq : Rd w B (ints q)) :
    Calls Try.prog 6 #[.slice A p.length ca, .slice B q.length cb, .int .i64 o, .int .i64 t, .int .i64 k] w fun e w' => e = .returned (.bool true) ∧ Below w.heap.size w w' := by
  refine rebase w (fun V hV x0 => ?_)
  subst hV
  have CS := Lib.hid (fun u : BelW V => bel_of (small_any u.w))
  by_cases h1 : 80 < p.length
  · have t1 : decide ((80 : Int) < (p.length : Int)) = true := decide_eq_true (by omega)
    clear hrp hrq hfp hfq hA
    go_enter Try.func6, Try.ntmps6
    go_wp2_with (first | (go_at_call 8; with_reducible refine (CS.out _).mono ?_; rintro e w' ⟨rfl, yy, rfl⟩))
    go_ret
    exact ⟨rfl, BelW.below7 _⟩
  have t1 : decide ((80 : Int) < (p.length : Int)) = false := decide_eq_false (by omega)
  by_cases h2 : 80 < q.length
  · have t2 : decide ((80 : Int) < (q.length : Int)) = true := decide_eq_true (by omega)
    clear hrp hrq hfp hfq hA
    go_enter Try.func6, Try.ntmps6
    go_wp2_with (first | (go_at_call 8; with_reducible refine (CS.out _).mono ?_; rintro e w' ⟨rfl, yy, rfl⟩))
    go_ret
    exact ⟨rfl, BelW.below7 _⟩
  have t2 : decide ((80 : Int) < (q.length : Int)) = false := decide_eq_false (by omega)
  have hq1 : p.length ≤ 80 := by omega
  have hq2 : q.length ≤ 80 := by omega
  have hn1 : p.length ≤ 1000 := by omega
  have hn2 : q.length ≤ 1000 := by omega
  have HP := Lib.hid hrp
  have HQ := Lib.hid hrq
  have HFP := Lib.hid hfp
  have HFQ := Lib.hid hfq
  have HA := Lib.hid hA
  clear hrp hrq hfp hfq hA h1 h2
  go_enter Try.func6, Try.ntmps6
  go_upto_region 4 with (first | (go_at_call 8; with_reducible refine (CS.out _).mono ?_; rintro e w' ⟨rfl, yy, rfl⟩))
  go_wp2_with fail
  refine (take_any A ca p hn1 HFP.out k _ (HP.out.bel yy)).mono ?_
  rintro e w1 ⟨g1, g2, T, rfl, hT, hTl, hI1, hI2, hB1⟩
  have hV1 := below_next yy.2 hB1
  go_upto_region 5 with fail
  go_wp2_with fail
  refine (reftake_any A ca p hn1 HFP.out k _ (HP.out.below (Nat.le_refl _) hV1)).mono ?_
  rintro e w2 ⟨g3, v4, T', rfl, hT', hTl', hI3, hI4, hB2⟩
  obtain rfl := hT.one hT'
  have hV2 := below_next hV1 hB2
  have hI1 := hI1.next hB2
  have hI2 := hI2.next hB2
  obtain ⟨A4, c4, rfl, _⟩ := own_shape hI4
  go_upto_region 6 with fail
  go_wp2_with fail
  refine (from_any A ca p p.length rfl hn1 HFP.out o k _ (HP.out.below (Nat.le_refl _) hV2)).mono ?_
  rintro e w3 ⟨g5, g6, F, rfl, rfl, hFl, hI5, hI6, hB3⟩
  have hV3 := below_next hV2 hB3
  have hI1 := hI1.next hB3
  have hI2 := hI2.next hB3
  have hI3 := hI3.next hB3
  have hI4 := own_next hI4 hB3
  go_upto_region 7 with fail
  go_wp2_with fail
  refine (reffrom_any A ca p p.length rfl hn1 HFP.out o k _ (HP.out.below (Nat.le_refl _) hV3)).mono ?_
  rintro e w4 ⟨g7, v8, F', rfl, rfl, _, hI7, hI8, hB4⟩
  obtain ⟨A8, c8, rfl, HR8⟩ := own_shape hI8
  obtain ⟨F, hF⟩ : ∃ F, fromT p.length o (min k (hasF p o)) = F := ⟨_, rfl⟩
  rw [hF] at hFl hI5 hI6 hI7 HR8
  have HV := Lib.hid (below_next hV3 hB4)
  have HI1 := Lib.hid (hI1.next hB4).rd
  have HI2 := Lib.hid (hI2.next hB4).rd
  have HI3 := Lib.hid (hI3.next hB4).rd
  have HI4 := own_next hI4 hB4
  obtain ⟨A4', c4', e4, HR4⟩ := own_shape HI4
  cases e4
  have HI4 := Lib.hid HR4
  have HI5 := Lib.hid (hI5.next hB4).rd
  have HI6 := Lib.hid (hI6.next hB4).rd
  have HI7 := Lib.hid hI7.rd
  have HI8 := Lib.hid HR8
  have HTl := Lib.hid hTl
  have HFl := Lib.hid hFl
  obtain ⟨TT, hTT⟩ : ∃ X, (gl p.length fun i => gi p i - gi T i) = X := ⟨_, rfl⟩
  obtain ⟨FF, hFF⟩ : ∃ X, (gl p.length fun i => gi p i - gi F i) = X := ⟨_, rfl⟩
  have HTTl := Lib.hid (show TT.length = p.length by rw [← hTT, gl_length])
  have HFFl := Lib.hid (show FF.length = p.length by rw [← hFF, gl_length])
  rw [hTT] at HI2 HI4
  rw [hFF] at HI6 HI8
  clear hT hT' hTl hTl' hI1 hI2 hI3 hI4 hI5 hI6 hI7 hI8 hB1 hB2 hB3 hB4 hV1 hV2 hV3 HR8 HR4 hFl hF hTT hFF CS
  go_upto_region 8 with fail
  refine wp_rebase _ (fun U hU z0 => ?_)
  subst hU
  have HPU := Lib.hid (HP.out.below (Nat.le_refl _) HV.out)
  have HQU := Lib.hid (HQ.out.below (Nat.le_refl _) HV.out)
  have C1 := Lib.hid (fun u : BelW U => same_c (some ⟨g1, 0, none⟩) (some ⟨g3, 0, none⟩) p.length p.length T T p.length p.length HTl.out HTl.out hnp hnp true (by simp) u (HI1.out.bel u) (HI3.out.bel u))
  have C2 := Lib.hid (fun u : BelW U => same_c (some ⟨g2, 0, none⟩) A4 p.length c4 TT TT p.length p.length HTTl.out HTTl.out hnp hnp true (by simp) u (HI2.out.bel u) (HI4.out.bel u))
  have C3 := Lib.hid (fun u : BelW U => same_c (some ⟨g5, 0, none⟩) (some ⟨g7, 0, none⟩) p.length p.length F F p.length p.length HFl.out HFl.out hnp hnp true (by simp) u (HI5.out.bel u) (HI7.out.bel u))
  have C4 := Lib.hid (fun u : BelW U => same_c (some ⟨g6, 0, none⟩) A8 p.length c8 FF FF p.length p.length HFFl.out HFFl.out hnp hnp true (by simp) u (HI6.out.bel u) (HI8.out.bel u))
  go_upto_region 10 with (first | (go_at_call 15; with_reducible refine (C1.out _).mono ?_; rintro e w' ⟨rfl, yy, rfl⟩) | (go_at_call 15; with_reducible refine (C2.out _).mono ?_; rintro e w' ⟨rfl, yy, rfl⟩) | (go_at_call 15; with_reducible refine (C3.out _).mono ?_; rintro e w' ⟨rfl, yy, rfl⟩) | (go_at_call 15; with_reducible refine (C4.out _).mono ?_; rintro e w' ⟨rfl, yy, rfl⟩))
  obtain ⟨r1, hr1⟩ : ∃ b, rightF p o = b := ⟨_, rfl⟩
  obtain ⟨r2, hr2⟩ : ∃ b, rightF p (p.length : Int) = b := ⟨_, rfl⟩
  obtain ⟨S, hS⟩ : ∃ S, tot p p.length = S := ⟨_, rfl⟩
  have C5 := Lib.hid (fun u : BelW U => right_c A ca p p.length o rfl hnp r1 hr1 u (HPU.out.bel u))
  have C6 := Lib.hid (fun u : BelW U => bel_of (x := u) (v := .bool r1) (by have h' := refright_any A ca p o hn1 HFP.out u.w (HPU.out.bel u); rw [hr1] at h'; exact h'))
  have C7 := Lib.hid (fun u : BelW U => right_c A ca p p.length p.length rfl hnp r2 hr2 u (HPU.out.bel u))
  have C8 := Lib.hid (fun u : BelW U => bel_of (x := u) (v := .bool r2) (by have h' := refright_any A ca p (p.length : Int) hn1 HFP.out u.w (HPU.out.bel u); rw [hr2] at h'; exact h'))
  have C9 := Lib.hid (fun u : BelW U => total_c A ca p p.length rfl hnp HFP.out S hS u (HPU.out.bel u))
  have Ca := Lib.hid (fun u : BelW U => bel_of (x := u) (v := .int .i64 S) (by have h' := reftotal_any A ca p hnp HFP.out u.w (HPU.out.bel u); rw [hS] at h'; exact h'))
  clear hr1 hr2 hS C1 C2 C3 C4
  go_wp2_with (first | (go_at_call 9; with_reducible refine (C5.out _).mono ?_; rintro e w' ⟨rfl, yy, rfl⟩) | (go_at_call 18; with_reducible refine (C6.out _).mono ?_; rintro e w' ⟨rfl, yy, rfl⟩) | (go_at_call 9; with_reducible refine (C7.out _).mono ?_; rintro e w' ⟨rfl, yy, rfl⟩) | (go_at_call 18; with_reducible refine (C8.out _).mono ?_; rintro e w' ⟨rfl, yy, rfl⟩) | (go_at_call 11; with_reducible refine (C9.out _).mono ?_; rintro e w' ⟨rfl, yy, rfl⟩) | (go_at_call 19; with_reducible refine (Ca.out _).mono ?_; rintro e w' ⟨rfl, yy, rfl⟩))
  obtain ⟨n, hn⟩ : ∃ n, max p.length q.length = n := ⟨_, rfl⟩
  have hnn : n ≤ 80 := by omega
  refine (padd_any A B ca cb p q p.length q.length n rfl rfl hn (by omega) HFP.out HFQ.out _ (HPU.out.bel yy) (HQU.out.bel yy)).mono ?_
  rintro e w5 ⟨ga, rfl, hIa, hBa⟩
  have hU5 := below_next yy.2 hBa
  go_wp2_with fail
  refine (refpadd_any A B ca cb p q p.length q.length n rfl rfl hn (by omega) HFP.out HFQ.out _ (HPU.out.below (Nat.le_refl _) hU5) (HQU.out.below (Nat.le_refl _) hU5)).mono ?_
  rintro e w6 ⟨vb, rfl, hIb, hBb⟩
  obtain ⟨Ab, cb', rfl, hRb⟩ := own_shape hIb
  have hU6 := below_next hU5 hBb
  have hRa := (hIa.next hBb).rd
  obtain ⟨X, hX⟩ : ∃ X, addF n p q = X := ⟨_, rfl⟩
  have hXl : X.length = n := by rw [← hX]; exact gl_length _ _
  rw [hX] at hRa hRb
  have C1 := Lib.hid (same_c (V := U) (some ⟨ga, 0, none⟩) Ab n cb' X X n n hXl hXl (by omega) (by omega) true (by simp) ⟨w6, hU6⟩ hRa hRb)
  clear hX hXl hIa hIb hBa hBb hU5 hRa hRb hn
  go_wp2_with fail
  refine C1.out.mono ?_
  rintro e w' ⟨rfl, zz, rfl⟩
  go_wp2_with fail
  refine (give_any A ca p p.length rfl hn1 HFP.out o t k _ (HPU.out.bel zz)).mono ?_
  rintro e w7 ⟨gc, rfl, hIc, hBc⟩
  have hU7 := below_next zz.2 hBc
  go_wp2_with fail
  refine (refgive_any A ca p p.length rfl hn1 HFP.out HA.out o t k _ (HPU.out.below (Nat.le_refl _) hU7)).mono ?_
  rintro e w8 ⟨vd, rfl, hId, hBd⟩
  obtain ⟨Ad, cd', rfl, hRd⟩ := own_shape hId
  have hU8 := below_next hU7 hBd
  have hRc := (hIc.next hBd).rd
  obtain ⟨Y, hY⟩ : ∃ Y, giveF p o t k = Y := ⟨_, rfl⟩
  have hYl : Y.length = p.length := by have := hIc.len; rwa [hY] at this
  rw [hY] at hRc hRd
  have C2 := Lib.hid (same_c (V := U) (some ⟨gc, 0, none⟩) Ad p.length cd' Y Y p.length p.length hYl hYl hnp hnp true (by simp) ⟨w8, hU8⟩ hRc hRd)
  clear hY hYl hIc hId hBc hBd hU7 hRc hRd
  go_wp2_with fail
  refine C2.out.mono ?_
  rintro e w' ⟨rfl, zz2, rfl⟩
  go_wp2_with fail
  go_ret
  exact ⟨rfl, below_next HV.out (BelW.below7 _)⟩

end Go.Proofs.Ytfmnlnmajephlaa
