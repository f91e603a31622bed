/- Part 32 of the proof of TopRights: The law of the rights: its own walk. -/
import Derived.Test.YtngjakahanmepaaGreatDoorM31
namespace Go.Proofs.YtngjakahanmepaaGreatDoor
open Go.RowKit
set_option linter.unusedVariables false
set_option linter.unusedSimpArgs false
structure TiB (n : Nat) (w : World) (e : Ending) (w' : World) : Prop where
  ans : ∃ b, e = .returned (.bool b) ∧ (b = true → n ≤ 5)
  bel : Below w.heap.size w w'
structure ImB (p : Prop) (V : World) (e : Ending) (w' : World) : Prop where
  ans : ∃ (b : Bool) (z : BelW V), e = .returned (.bool b) ∧ w' = z.w ∧ (b = true → p)
theorem imb {p : Prop} {V : World} {x : BelW V} {P : Program} {f : FuncId} {args : Array Value} {Q : Ending → World → Prop} (h : Calls P f args x.w Q) (hq : ∀ e w', Q e w' → (∃ b, e = .returned (.bool b) ∧ (b = true → p)) ∧ Below x.w.heap.size x.w w') : Calls P f args x.w (ImB p V) :=
  h.mono fun e w' hqq => by
    obtain ⟨⟨b, hb, hp⟩, hl⟩ := hq e w' hqq
    exact ⟨⟨b, ⟨w', below_next x.2 hl⟩, hb, rfl, hp⟩⟩
def LwR (V : World) (n : Nat) (s15 : Value) (wr : World) : Prop := ∃ k : Nat, k ≤ n ∧ s15 = .int .i64 (k : Int) ∧ ∃ y : BelW V, wr = y.w
def MiR (D : List Dn) (rs : List Rt) (G Lf : List Int) (T : World) (R : List Nat) (k : Nat) (s16 s18 : Value) (wr : World) : Prop :=
  ∃ (m : Nat) (fb : Bool), m ≤ R.length ∧ s16 = .bool fb ∧ s18 = .int .i64 (m : Int) ∧ Hid (∀ i, i < m → Stop D rs G Lf k (R.getD i 0) → fb = true) ∧ ∃ y : BelW T, wr = y.w
def InR (D : List Dn) (rs : List Rt) (G Lf : List Int) (T : World) (k q : Nat) (s19 s20 : Value) (wr : World) : Prop :=
  ∃ (j : Nat) (sb : Bool), k + 1 ≤ j ∧ j ≤ rs.length ∧ s19 = .bool sb ∧ s20 = .int .i64 (j : Int) ∧ Hid (Stop D rs G Lf k q → sb = true) ∧ ∃ y : BelW T, wr = y.w
theorem add_row (g q : Nat) : (⟨g, 0, none⟩ : Addr).add q = ⟨g, q, none⟩ := by
  unfold Addr.add
  by_cases h : q = 0
  · subst h; rfl
  · simp [h]
structure Yes (w : World) (e : Ending) (w' : World) : Prop where
  ans : e = .returned (.bool true)
  bel : Below w.heap.size w w'
set_option maxHeartbeats 32000000 in
set_option maxRecDepth 100000 in
theorem law_any (d0 d2 d4 d5 d6 d7 d8 d9 d10 : Value) (OA B DA SA : Option Addr) (on oc cb dc sc : Nat) (ps : List Pl) (ds : List Dl) (sp : List Int) (day kno : Int) (hdn : ds.length ≤ 9223372036854775807) (hsn : sp.length ≤ 9223372036854775807) (hsf : ∀ i, i < sp.length → Fit (gi sp i)) (hf : ∀ k, k < ds.length → Fit (dl ds k).r.id)
    (w : World) (hM : Mon w) (hp : Pls w B ps) (hd : Rd w DA (dlCells ds)) (hs : Rd w SA (ints sp))
    (hsm : ∀ W, Below w.heap.size w W → Calls Tryz.prog 4 #[] W (Yes W))
    (hti : ∀ W, Below w.heap.size w W → Calls Tryz.prog 5 #[.agg #[d0, .slice OA on oc, d2, .slice B ps.length cb, d4, d5, d6, d7, d8, d9, d10]] W (TiB ps.length W)) :
    Calls Tryz.prog 3 #[.agg #[d0, .slice OA on oc, d2, .slice B ps.length cb, d4, d5, d6, d7, d8, d9, d10], .slice DA ds.length dc, .int .i64 day, .int .i64 kno, .slice SA sp.length sc] w (Yes w) := by
  have HF := Lib.hid hf
  have HSF := Lib.hid hsf
  go_enter Tryz.func3, Tryz.ntmps3
  go_upto_region 1 with fail
  refine wp_rebase _ (fun V hV x0 => ?_)
  have HB0 := Lib.hid (show Below w.heap.size w V by rw [hV]; exact bel_alloc (Below.refl _ _) _)
  have HBB := Lib.hid (show V.rangeAt w.heap.size 0 [d0, .slice OA on oc, d2, .slice B ps.length cb, d4, d5, d6, d7, d8, d9, d10] by rw [hV]; exact range_new _ _ [d0, .slice OA on oc, d2, .slice B ps.length cb, d4, d5, d6, d7, d8, d9, d10])
  have HD := Lib.hid (hd.below (Nat.le_refl _) HB0.out)
  have HS := Lib.hid (hs.below (Nat.le_refl _) HB0.out)
  have HP := Lib.hid (hp.below (Nat.le_refl _) HB0.out)
  have HMV := Lib.hid (fun (x : BelW V) => (show Mon x.w from hM.below (Nat.le_refl _) (below_next HB0.out x.2)))
  have HY := Lib.hid (fun (x : BelW V) => (show Yes w (.returned (.bool true)) x.w from ⟨rfl, below_next HB0.out x.2⟩))
  have CSM := Lib.hid (fun (x : BelW V) => bel_of (x := x) ((hsm x.w (below_next HB0.out x.2)).mono fun e w' h => ⟨h.ans, h.bel⟩))
  have CTI := Lib.hid (fun (x : BelW V) => imb (x := x) (hti x.w (below_next HB0.out x.2)) fun e w' h => ⟨h.ans, h.bel⟩)
  have CGR := Lib.hid (fun (x : BelW V) => imb (x := x) (granted_any d0 d2 d4 d5 d6 d7 d8 d9 d10 OA B on oc cb ps.length DA dc ds hdn x.w (HMV.out x) (HD.out.below (Nat.le_refl _) x.2)) fun e w' h => ⟨h.ans, h.bel⟩)
  have CSU := Lib.hid (fun (x : BelW V) => imb (x := x) (supplied_any SA sc sp hsn x.w (HS.out.below (Nat.le_refl _) x.2)) fun e w' h => ⟨h.ans, h.bel⟩)
  clear hV hd hs hp hM hsm hti hf hsf
  go_upto_region 4 with (first
    | (with_reducible refine wpList_load_g 31 _ (by with_reducible rfl) _ _ (by with_unfolding_all rfl) (by with_unfolding_all rfl) _ _ (BelW.range HBB.out _) Tryz.underlying31 (by with_unfolding_all rfl) (by kernel_rfl) ?_)
    | (go_at_call 4; (with_reducible refine (CSM.out _).mono ?_); rintro e w1 ⟨rfl, z1, rfl⟩)
    | (go_at_call 5; (with_reducible refine (CTI.out _).mono ?_); rintro e w1 ⟨b, z2, rfl, rfl, h2⟩; cases b)
    | (go_at_call 6; (with_reducible refine (CGR.out _).mono ?_); rintro e w1 ⟨b, z3, rfl, rfl, h3⟩; cases b)
    | (go_at_call 7; (with_reducible refine (CSU.out _).mono ?_); rintro e w1 ⟨b, z4, rfl, rfl, h4⟩; cases b))
  · go_ret
    exact HY.out _
  · go_ret
    exact HY.out _
  · go_ret
    exact HY.out _
  have hn5 : ps.length ≤ 5 := by simpa using h2
  have hd8 : ds.length ≤ 8 := by simpa using h3
  clear h2 h3 h4 CSM CTI CGR CSU
  have CRO := Lib.hid (roster_any d0 d2 d4 d5 d6 d7 d8 d9 d10 OA B on oc cb ps.length DA dc ds day kno hd8 HF.out z4.w (HMV.out z4) (HD.out.below (Nat.le_refl _) z4.2))
  go_upto_region 5 with (first
    | (with_reducible refine wpList_load_g 31 _ (by with_reducible rfl) _ _ (by with_unfolding_all rfl) (by with_unfolding_all rfl) _ _ (BelW.range HBB.out _) Tryz.underlying31 (by with_unfolding_all rfl) (by kernel_rfl) ?_)
    | (go_at_call 8; (with_reducible refine CRO.out.mono ?_); rintro e w2 ⟨⟨rs, A, c, rfl, hr, hl8, hrate, hsen⟩, hbl⟩))
  refine wp_rebase _ (fun U hU x5 => ?_)
  have HBU := Lib.hid (show Below V.heap.size V U by rw [hU]; exact below_next z4.2 hbl)
  have HRS := Lib.hid (show Rd U A (rtCells rs) by rw [hU]; exact hr)
  have HRATE := Lib.hid hrate
  have HSEN := Lib.hid hsen
  have HPU := Lib.hid (HP.out.below (Nat.le_refl _) HBU.out)
  have HSU := Lib.hid (HS.out.below (Nat.le_refl _) HBU.out)
  have HBBV := HBB
  clear HBB
  have HBB := Lib.hid (show U.rangeAt w.heap.size 0 [d0, .slice OA on oc, d2, .slice B ps.length cb, d4, d5, d6, d7, d8, d9, d10] from range_bel HBBV.out ⟨U, HBU.out⟩)
  have HYV := HY
  clear HY
  have HY := Lib.hid (fun (x : BelW U) => (show Yes w (.returned (.bool true)) x.w from HYV.out ⟨x.w, below_next HBU.out x.2⟩))
  have CPL := Lib.hid (fun (x : BelW U) => imb (x := x) (placed_any d0 d2 d4 d5 d6 d7 d8 d9 d10 OA B A on oc cb ps.length c rs (by omega) x.w (HRS.out.below (Nat.le_refl _) x.2)) fun e w' h => ⟨h.ans, h.bel⟩)
  clear hU hr hrate hsen hbl CRO HD HS HP HBBV HYV HMV HF
  go_upto_region 7 with (first
    | (with_reducible refine wpList_load_g 31 _ (by with_reducible rfl) _ _ (by with_unfolding_all rfl) (by with_unfolding_all rfl) _ _ (BelW.range HBB.out _) Tryz.underlying31 (by with_unfolding_all rfl) (by kernel_rfl) ?_)
    | (go_at_call 9; (with_reducible refine (CPL.out _).mono ?_); rintro e w1 ⟨b, z6, rfl, rfl, h6⟩; cases b))
  · go_ret
    exact HY.out _
  have HIN := Lib.hid (show ∀ k, k < rs.length → In2 ps.length on (rt rs k) by simpa using h6)
  have CDY := Lib.hid (day_any B SA A cb sc c ps sp rs d0 (.slice OA on oc) d2 d4 d5 d6 d7 d8 d9 d10 (by omega) (by omega) (by omega) HSF.out (fun k hk => ⟨(HRATE.out k hk).1, by have := (HRATE.out k hk).2; omega⟩) z6.w (HPU.out.below (Nat.le_refl _) z6.2) (HSU.out.below (Nat.le_refl _) z6.2) (HRS.out.below (Nat.le_refl _) z6.2))
  clear h6 CPL
  go_upto_region 8 with (first
    | (with_reducible refine wpList_load_g 31 _ (by with_reducible rfl) _ _ (by with_unfolding_all rfl) (by with_unfolding_all rfl) _ _ (BelW.range HBB.out _) Tryz.underlying31 (by with_unfolding_all rfl) (by kernel_rfl) ?_)
    | (go_at_call 10; (with_reducible refine CDY.out.mono ?_); rintro e w3 ⟨L0, GA, gc, g, hL0, hN0, rfl, hG, hL, hb3⟩))
  refine wp_rebase _ (fun Z hZ x7 => ?_)
  have HBZ := Lib.hid (show Below U.heap.size U Z by rw [hZ]; exact below_next z6.2 hb3)
  have HTS := Lib.hid (TopS.of (rs := rs) (on := on) (dns_length ps) hL0 hN0 HRATE.out HSEN.out HIN.out)
  have HGZ := Lib.hid (show Rd Z GA (spCells (grs rs (dayG L0 (ras (dns ps) rs)))) by rw [hZ]; exact hG)
  have HLZ := Lib.hid (show Rd Z (some ⟨g, 0, none⟩) (ints (dayL L0 (ras (dns ps) rs))) by rw [hZ]; exact hL)
  have HRZ := Lib.hid (HRS.out.below (Nat.le_refl _) HBZ.out)
  have HPZ := Lib.hid (HPU.out.below (Nat.le_refl _) HBZ.out)
  have HBBV := HBB
  clear HBB
  have HBB := Lib.hid (show Z.rangeAt w.heap.size 0 [d0, .slice OA on oc, d2, .slice B ps.length cb, d4, d5, d6, d7, d8, d9, d10] from range_bel HBBV.out ⟨Z, HBZ.out⟩)
  have HYV := HY
  clear HY
  have HY := Lib.hid (fun (x : BelW Z) => (show Yes w (.returned (.bool true)) x.w from HYV.out ⟨x.w, below_next HBZ.out x.2⟩))
  obtain ⟨G, hGG⟩ : ∃ G, dayG L0 (ras (dns ps) rs) = G := ⟨_, rfl⟩
  obtain ⟨Lf, hLL⟩ : ∃ L, dayL L0 (ras (dns ps) rs) = L := ⟨_, rfl⟩
  rw [hGG, hLL] at HTS
  rw [hGG] at HGZ
  rw [hLL] at HLZ
  have CRE := Lib.hid (fun (x : BelW Z) (p0 : Int) => reach_any B cb ps d0 (.slice OA on oc) d2 d4 d5 d6 d7 d8 d9 d10 p0 (by omega) x.w (HPZ.out.below (Nat.le_refl _) x.2))
  clear hZ hG hL hb3 hL0 hN0 hGG hLL CDY HRATE HSEN HIN HRS HPU HSU HBBV HYV HSF HBZ HBU
  have b3 := fun z : BelW Z => (show z.w.cell? ⟨w.heap.size, 3, none⟩ = some (.slice B ps.length cb) from BelW.range HBB.out z 3 _ rfl)
  go_wp2_with fail
  go_loopw [15] (fun s15 wr => LwR Z rs.length s15 wr) (fun i _ => rs.length - (intOf i).toNat)
  case atStart => exact ⟨0, by omega, rfl, x7, rfl⟩
  case round =>
    obtain ⟨k, hk, rfl, y, rfl⟩ := hrel
    by_cases hlt : k < rs.length
    case neg =>
      have i4 : decide ((k : Int) < (rs.length : Int)) = false := decide_eq_false (by omega)
      go_wp2_with fail
      go_ret
      exact HY.out _
    have i4 : decide ((k : Int) < (rs.length : Int)) = true := decide_eq_true (by omega)
    have j1 : (0 : Int) ≤ (k : Int) := by omega
    have j2 : (k : Int) < (rs.length : Int) := by omega
    obtain ⟨ad, rb, ro, rfl, hbs, hE, hrt⟩ := HRZ.out.rt hlt
    have hgl : (grs rs G).length = rs.length := grs_length HTS.out.gl
    obtain ⟨ga, gb, go', rfl, -, hGE, g0, g1⟩ := HGZ.out.span (k := k) (by rw [hgl]; exact hlt)
    rw [grs_at HTS.out.gl hlt] at g0 g1
    have hgot := HTS.out.got k hlt
    have HSTOP := Lib.hid (HTS.out.stops k hlt)
    have HSE := Lib.hid (fun i (h : i < k) => HTS.out.sen i k h hlt)
    obtain ⟨X, hX⟩ : ∃ X, rt rs k = X := ⟨_, rfl⟩
    obtain ⟨gk, hgk⟩ : ∃ x, gi G k = x := ⟨_, rfl⟩
    rw [hX] at hrt g0 hgot HSTOP HSE
    rw [hgk] at g1 hgot HSTOP
    clear hbs hgl
    have c0 := fun z : BelW Z => (show z.w.cell? ⟨rb, ro, none⟩ = some (.int .i64 X.id) from BelW.cells (hrt 0 _ rfl) z)
    have c2 := fun z : BelW Z => (show z.w.cell? ⟨rb, ro + 2, none⟩ = some (.int .i64 X.date) from BelW.cells (hrt 2 _ rfl) z)
    have c3 := fun z : BelW Z => (show z.w.cell? ⟨rb, ro + 3, none⟩ = some (.int .i64 X.pla) from BelW.cells (hrt 3 _ rfl) z)
    have c4 := fun z : BelW Z => (show z.w.cell? ⟨rb, ro + 4, none⟩ = some (.int .i64 X.rate) from BelW.cells (hrt 4 _ rfl) z)
    have d0' := fun z : BelW Z => (show z.w.cell? ⟨gb, go', none⟩ = some (.int .i64 X.id) from BelW.cells g0 z)
    have d1' := fun z : BelW Z => (show z.w.cell? ⟨gb, go' + 1, none⟩ = some (.int .i64 gk) from BelW.cells g1 z)
    clear hrt g0 g1
    have t1 : decide (gk < 0) = false := decide_eq_false (by omega)
    have t2 : max 0 X.rate = X.rate := by omega
    have t3 : decide (X.rate < gk) = false := decide_eq_false (by omega)
    go_upto_region 13 with fail
    refine wp_region_belx (by kernel_rfl) (by kernel_rfl) ?_
    repeat (go_big_quiet_step (fail))
    refine wpQuiet_nil ?_
    intro y1
    clear t1 t2 t3
    go_upto_region 15 with fail
    by_cases hk0 : k = 0
    case pos =>
      have t4 : decide ((0 : Int) < (k : Int)) = false := decide_eq_false (by omega)
      refine wp_region_belx (by kernel_rfl) (by kernel_rfl) ?_
      repeat (go_big_quiet_step (fail))
      refine wpQuiet_nil ?_
      intro y2
      clear t4 hk0
      as_aux_lemma =>
        by_cases hgr : gk = X.rate
        case pos =>
          have t8 : (gk == X.rate) = true := beq_iff_eq.2 hgr
          go_upto_region 17 with fail
          clear hgr hgot
          refine wp_region_belx (by kernel_rfl) (by kernel_rfl) ?_
          repeat (go_big_quiet_step (fail))
          refine wpQuiet_nil ?_
          intro y3
          go_wp2_with fail
          go_roundw
          case rel => exact ⟨k + 1, by omega, by go_num, y3, rfl⟩
          case measure => simp [intOf]; omega
        have t8 : (gk == X.rate) = false := beq_eq_false_iff_ne.2 hgr
        have HST2 := Lib.hid (HSTOP.out hgr)
        clear hgr hgot
        go_upto_region 17 with fail
        refine wp_region_belx (by kernel_rfl) (by kernel_rfl) ?_
        repeat (go_big_quiet_step (fail))
        refine wpQuiet_nil ?_
        intro y3
        go_upto_region 19 with fail
        refine wp_region_belt 6 (by kernel_rfl) (by kernel_rfl) ?_
        simp only [List.take_succ_cons, List.take_zero, List.drop_succ_cons, List.drop_zero]
        repeat (first | (with_reducible refine wpQuiet_load_g 31 _ (by with_reducible rfl) _ _ (by with_unfolding_all rfl) (by with_unfolding_all rfl) _ _ (rangeX HBB.out) Tryz.underlying31 (by with_unfolding_all rfl) (by kernel_rfl) ?_; simp only [Act.put, List.setIfInBounds_toArray, List.set_cons_succ, List.set_cons_zero]) | go_big_quiet_step (fail))
        refine wpQuiet_nil ?_
        intro y4
        have CR := Lib.hid (CRE.out y4 X.pla)
        clear t8 c0 c2 c3 c4 d0' d1' hE hGE
        go_upto_region 20 with (first | (go_at_call 11; (with_reducible refine CR.out.mono ?_); rintro e w5 ⟨RA, rc, rfl, hA5, ho5, hr5, hb5⟩))
        rw [nat2_length]
        have HDR := Lib.hid (HTS.out.dis X.pla)
        obtain ⟨R, hR⟩ : ∃ R, reachF (dns ps) X.pla = R := ⟨_, rfl⟩
        rw [hR] at hr5 HDR HST2 ⊢
        have hRl : R.length ≤ 5 := by have := HDR.out.len; omega
        clear CR hR hA5 ho5
        refine wp_rebase _ (fun T hT x5 => ?_)
        have HBT0 := Lib.hid (show Below Z.heap.size Z T by rw [hT]; exact below_next y4.2 hb5)
        have HRT := Lib.hid (show Rd T RA (ints (nat2 R)) by rw [hT]; exact hr5)
        have HUP := Lib.hid (fun z : BelW T => (show Below Z.heap.size Z z.w from below_next HBT0.out z.2))
        have HBT := Lib.hid (show T.rangeAt w.heap.size 0 [d0, .slice OA on oc, d2, .slice B ps.length cb, d4, d5, d6, d7, d8, d9, d10] from range_bel HBB.out ⟨T, HBT0.out⟩)
        have HRZT := Lib.hid (HRZ.out.below (Nat.le_refl _) HBT0.out)
        have HGZT := Lib.hid (HGZ.out.below (Nat.le_refl _) HBT0.out)
        have HLZT := Lib.hid (HLZ.out.below (Nat.le_refl _) HBT0.out)
        clear hT hr5 hb5
        go_wp2_with fail
        go_loopw [16, 18] (fun s16 s18 wr => MiR (dns ps) rs G Lf T R k s16 s18 wr) (fun _ i _ => R.length - (intOf i).toNat)
        case atStart => exact ⟨0, false, by omega, rfl, rfl, Lib.hid (fun i h => absurd h (Nat.not_lt_zero _)), x5, rfl⟩
        case round =>
          obtain ⟨m, fb, hm, rfl, rfl, hfb, y, rfl⟩ := hrel
          have HFB := Lib.hid hfb.out
          clear hfb
          by_cases hlm : m < R.length
          case neg =>
            have i5 : decide ((m : Int) < (R.length : Int)) = false := decide_eq_false (by omega)
            obtain rfl : m = R.length := by omega
            have hft : fb = true := by
              obtain ⟨q, hq, hst⟩ := HST2.out
              obtain ⟨i, hi, rfl⟩ := List.mem_iff_getElem.1 hq
              exact HFB.out i hi (by rw [getD_is hi]; exact hst)
            subst hft
            have HZZ := Lib.hid (HUP.out y)
            go_wp2_with fail
            go_roundw
            case rel => exact ⟨k + 1, by omega, by go_num, ⟨y.w, HZZ.out⟩, rfl⟩
            case measure => simp [intOf]; omega
          have i5 : decide ((m : Int) < (R.length : Int)) = true := decide_eq_true (by omega)
          have n1 : (0 : Int) ≤ (m : Int) := by omega
          have n2 : (m : Int) < (R.length : Int) := by omega
          obtain ⟨ra', rfl, f1⟩ := rd_row HRT.out (show m < (nat2 R).length by rw [nat2_length]; exact hlm)
          rw [gi_nat2 hlm] at f1
          have hqn := HDR.out.2 _ (getD_mem hlm)
          have hll := HTS.out.ll
          obtain ⟨la, e9, f2⟩ := rd_row HLZT.out (show R.getD m 0 < Lf.length by rw [hll]; exact hqn)
          cases e9
          rw [add_row] at f2
          have HNX := Lib.hid (fun (b : Bool) (h : Stop (dns ps) rs G Lf k (R.getD m 0) → b = true) => (show ∀ i, i < m + 1 → Stop (dns ps) rs G Lf k (R.getD i 0) → (fb || b) = true from fun i hi hs => by
            by_cases e : i = m
            · subst e; rw [h hs, Bool.or_true]
            · rw [HFB.out i (by omega) hs, Bool.true_or]))
          obtain ⟨q, hq⟩ : ∃ q, R.getD m 0 = q := ⟨_, rfl⟩
          rw [hq] at f1 f2 hqn HNX
          obtain ⟨x, hx⟩ : ∃ x, gi Lf q = x := ⟨_, rfl⟩
          rw [hx] at f2
          have k5 := fun z : BelW T => (show z.w.cell? (ra'.add m) = some (.int .i64 (q : Int)) from BelW.cells f1 z)
          have k6 := fun z : BelW T => (show z.w.cell? ⟨g, q, none⟩ = some (.int .i64 x) from BelW.cells f2 z)
          clear f1 f2
          have q0 : decide ((q : Int) < 0) = false := decide_eq_false (by omega)
          have q1 : (0 : Int) ≤ (q : Int) := by omega
          have q2 : (q : Int) < (ps.length : Int) := by omega
          have q3 : decide ((ps.length : Int) ≤ (q : Int)) = false := decide_eq_false (by omega)
          have HX0 := Lib.hid (show Stop (dns ps) rs G Lf k q → (x == 0) = true from fun h => by rw [← hx]; exact beq_iff_eq.2 h.1)
          clear hq hx hll
          go_upto_region 26 with fail
          clear k6
          go_wp2_with fail
          go_loopw [19, 20] (fun s19 s20 wr => InR (dns ps) rs G Lf T k q s19 s20 wr) (fun _ i _ => rs.length - (intOf i).toNat)
          case atStart => exact ⟨k + 1, x == 0, by omega, by omega, rfl, by go_num, Lib.hid HX0.out, y, rfl⟩
          case round =>
            obtain ⟨j, sb, hj0, hj, rfl, rfl, hsb, y, rfl⟩ := hrel
            have HSB := Lib.hid hsb.out
            clear hsb HX0
            by_cases hlj : j < rs.length
            case neg =>
              have i6 : decide ((j : Int) < (rs.length : Int)) = false := decide_eq_false (by omega)
              have HN2 := Lib.hid (HNX.out sb HSB.out)
              cases fb
              · rw [Bool.false_or] at HN2
                go_wp2_with fail
                go_roundw
                case rel => exact ⟨m + 1, sb, by omega, rfl, by go_num, Lib.hid HN2.out, y, rfl⟩
                case measure => simp [intOf]; omega
              · go_wp2_with fail
                go_roundw
                case rel => exact ⟨m + 1, true, by omega, rfl, by go_num, Lib.hid (fun _ _ _ => rfl), y, rfl⟩
                case measure => simp [intOf]; omega
            have i6 : decide ((j : Int) < (rs.length : Int)) = true := decide_eq_true (by omega)
            have m1 : (0 : Int) ≤ (j : Int) := by omega
            have m2 : (j : Int) < (rs.length : Int) := by omega
            have hgl : (grs rs G).length = rs.length := grs_length HTS.out.gl
            obtain ⟨ga2, gb2, go2, eg, -, hGE2, -, g1⟩ := HGZT.out.span (k := j) (by rw [hgl]; exact hlj)
            cases eg
            rw [grs_at HTS.out.gl hlj] at g1
            obtain ⟨ad2, rb2, ro2, er, -, hE2, hrt2⟩ := HRZT.out.rt hlj
            cases er
            have HNOT := Lib.hid (show Stop (dns ps) rs G Lf k q → 0 < gi G j → q ∉ reachF (dns ps) (rt rs j).pla from fun h hg => h.2 j (by omega) hlj hg)
            obtain ⟨XJ, hXJ⟩ : ∃ X, rt rs j = X := ⟨_, rfl⟩
            obtain ⟨gj, hgj⟩ : ∃ x, gi G j = x := ⟨_, rfl⟩
            rw [hXJ] at hrt2 HNOT
            simp only [hgj] at g1
            rw [hgj] at HNOT
            have k1 := fun z : BelW T => (show z.w.cell? ⟨gb2, go2 + 1, none⟩ = some (.int .i64 gj) from BelW.cells g1 z)
            have k3 := fun z : BelW T => (show z.w.cell? ⟨rb2, ro2 + 3, none⟩ = some (.int .i64 XJ.pla) from BelW.cells (hrt2 3 _ rfl) z)
            clear hgl hrt2 g1
            go_upto_region 29 with fail
            by_cases hg0 : 0 < gj
            case neg =>
              have t9 : decide (0 < gj) = false := decide_eq_false hg0
              clear hg0 HNOT
              refine wp_region_belx (by kernel_rfl) (by kernel_rfl) ?_
              repeat (first | (with_reducible refine wpQuiet_load_g 31 _ (by with_reducible rfl) _ _ (by with_unfolding_all rfl) (by with_unfolding_all rfl) _ _ (rangeX HBB.out) Tryz.underlying31 (by with_unfolding_all rfl) (by kernel_rfl) ?_; simp only [Act.put, List.setIfInBounds_toArray, List.set_cons_succ, List.set_cons_zero]) | go_big_quiet_step (fail))
              refine wpQuiet_nil ?_
              intro y6
              go_wp2_with fail
              go_roundw
              case rel => exact ⟨j + 1, sb, by omega, by omega, rfl, by go_num, Lib.hid HSB.out, y6, rfl⟩
              case measure => simp [intOf]; omega
            have t9 : decide (0 < gj) = true := decide_eq_true hg0
            have HNO2 := Lib.hid (fun h => HNOT.out h hg0)
            clear hg0 HNOT
            have CRT := Lib.hid (fun z : BelW T => (show Calls Tryz.prog 11 #[.agg #[d0, .slice OA on oc, d2, .slice B ps.length cb, d4, d5, d6, d7, d8, d9, d10], .int .i64 XJ.pla] z.w (InPost (nat2 (reachF (dns ps) XJ.pla)) z.w) from CRE.out ⟨z.w, HUP.out z⟩ XJ.pla))
            have HRJ := Lib.hid (show (reachF (dns ps) XJ.pla).length ≤ 1000 from by have := (HTS.out.dis XJ.pla).len; omega)
            with_reducible refine reg29 (reachF (dns ps) XJ.pla) (by kernel_rfl) HBT hGE2 hE2 k1 k3 k5 m2 n2 t9 CRT HRJ.out (by with_unfolding_all exact fun _ _ _ _ _ h => h) ?_
            intro t204 t205 t206 t207 t208 t209 t210 t211 t212 t213 t214 t215 t216 t217 t218 t219 t220 t221 t222 y6
            clear CRT HRJ k1 k3 hGE2 hE2
            by_cases hmm : q ∈ reachF (dns ps) XJ.pla
            case pos =>
              have t10 : decide (q ∈ reachF (dns ps) XJ.pla) = true := decide_eq_true hmm
              have HN3 := Lib.hid (show Stop (dns ps) rs G Lf k q → false = true from fun h => absurd hmm (HNO2.out h))
              clear hmm HNO2
              rw [t10]
              clear t10
              go_wp2_with fail
              go_roundw
              case rel => exact ⟨j + 1, false, by omega, by omega, rfl, by go_num, Lib.hid HN3.out, y6, rfl⟩
              case measure => simp [intOf]; omega
            have t10 : decide (q ∈ reachF (dns ps) XJ.pla) = false := decide_eq_false hmm
            clear hmm HNO2
            rw [t10]
            clear t10
            go_wp2_with fail
            go_roundw
            case rel => exact ⟨j + 1, sb, by omega, by omega, rfl, by go_num, Lib.hid HSB.out, y6, rfl⟩
            case measure => simp [intOf]; omega
    have t4 : decide ((0 : Int) < (k : Int)) = true := decide_eq_true (by omega)
    have t4' : decide (0 < k) = true := decide_eq_true (by omega)
    have hkpos : 0 < k := by omega
    obtain ⟨kp, hkp⟩ : ∃ kp, k = kp + 1 := ⟨k - 1, by omega⟩
    have w4 : wrap64 ((k : Int) - 1) = (kp : Int) := by unfold wrap64; omega
    have w5 : (k : Int) - 1 = (kp : Int) := by omega
    have p1 : (0 : Int) ≤ (kp : Int) := by omega
    have p2 : (kp : Int) < (rs.length : Int) := by omega
    obtain ⟨ad2, rb2, ro2, e2, -, hE2, hrt2⟩ := HRZ.out.rt (k := kp) (by omega)
    cases e2
    have hsen := HSE.out kp (by omega)
    obtain ⟨X2, hX2⟩ : ∃ X, rt rs kp = X := ⟨_, rfl⟩
    rw [hX2] at hrt2 hsen
    have e0 := fun z : BelW Z => (show z.w.cell? ⟨rb2, ro2, none⟩ = some (.int .i64 X2.id) from BelW.cells (hrt2 0 _ rfl) z)
    have e2 := fun z : BelW Z => (show z.w.cell? ⟨rb2, ro2 + 2, none⟩ = some (.int .i64 X2.date) from BelW.cells (hrt2 2 _ rfl) z)
    have t5 : decide (X.date < X2.date) = false := decide_eq_false (by unfold Sen at hsen; omega)
    by_cases hde : X2.date = X.date
    case pos =>
      have t6 : (X2.date == X.date) = true := beq_iff_eq.2 hde
      have t7 : decide (X.id ≤ X2.id) = false := decide_eq_false (by unfold Sen at hsen; omega)
      clear hsen hkp hX2 hrt2 hde
      refine wp_region_belx (by kernel_rfl) (by kernel_rfl) ?_
      repeat (go_big_quiet_step (fail))
      refine wpQuiet_nil ?_
      intro y2
      clear t4 t4' hkpos t5 t6 t7 w4 w5 p1 p2 hE2 e0 e2
      as_aux_lemma =>
        by_cases hgr : gk = X.rate
        case pos =>
          have t8 : (gk == X.rate) = true := beq_iff_eq.2 hgr
          go_upto_region 17 with fail
          clear hgr hgot
          refine wp_region_belx (by kernel_rfl) (by kernel_rfl) ?_
          repeat (go_big_quiet_step (fail))
          refine wpQuiet_nil ?_
          intro y3
          go_wp2_with fail
          go_roundw
          case rel => exact ⟨k + 1, by omega, by go_num, y3, rfl⟩
          case measure => simp [intOf]; omega
        have t8 : (gk == X.rate) = false := beq_eq_false_iff_ne.2 hgr
        have HST2 := Lib.hid (HSTOP.out hgr)
        clear hgr hgot
        go_upto_region 17 with fail
        refine wp_region_belx (by kernel_rfl) (by kernel_rfl) ?_
        repeat (go_big_quiet_step (fail))
        refine wpQuiet_nil ?_
        intro y3
        go_upto_region 19 with fail
        refine wp_region_belt 6 (by kernel_rfl) (by kernel_rfl) ?_
        simp only [List.take_succ_cons, List.take_zero, List.drop_succ_cons, List.drop_zero]
        repeat (first | (with_reducible refine wpQuiet_load_g 31 _ (by with_reducible rfl) _ _ (by with_unfolding_all rfl) (by with_unfolding_all rfl) _ _ (rangeX HBB.out) Tryz.underlying31 (by with_unfolding_all rfl) (by kernel_rfl) ?_; simp only [Act.put, List.setIfInBounds_toArray, List.set_cons_succ, List.set_cons_zero]) | go_big_quiet_step (fail))
        refine wpQuiet_nil ?_
        intro y4
        have CR := Lib.hid (CRE.out y4 X.pla)
        clear t8 c0 c2 c3 c4 d0' d1' hE hGE
        go_upto_region 20 with (first | (go_at_call 11; (with_reducible refine CR.out.mono ?_); rintro e w5 ⟨RA, rc, rfl, hA5, ho5, hr5, hb5⟩))
        rw [nat2_length]
        have HDR := Lib.hid (HTS.out.dis X.pla)
        obtain ⟨R, hR⟩ : ∃ R, reachF (dns ps) X.pla = R := ⟨_, rfl⟩
        rw [hR] at hr5 HDR HST2 ⊢
        have hRl : R.length ≤ 5 := by have := HDR.out.len; omega
        clear CR hR hA5 ho5
        refine wp_rebase _ (fun T hT x5 => ?_)
        have HBT0 := Lib.hid (show Below Z.heap.size Z T by rw [hT]; exact below_next y4.2 hb5)
        have HRT := Lib.hid (show Rd T RA (ints (nat2 R)) by rw [hT]; exact hr5)
        have HUP := Lib.hid (fun z : BelW T => (show Below Z.heap.size Z z.w from below_next HBT0.out z.2))
        have HBT := Lib.hid (show T.rangeAt w.heap.size 0 [d0, .slice OA on oc, d2, .slice B ps.length cb, d4, d5, d6, d7, d8, d9, d10] from range_bel HBB.out ⟨T, HBT0.out⟩)
        have HRZT := Lib.hid (HRZ.out.below (Nat.le_refl _) HBT0.out)
        have HGZT := Lib.hid (HGZ.out.below (Nat.le_refl _) HBT0.out)
        have HLZT := Lib.hid (HLZ.out.below (Nat.le_refl _) HBT0.out)
        clear hT hr5 hb5
        go_wp2_with fail
        go_loopw [16, 18] (fun s16 s18 wr => MiR (dns ps) rs G Lf T R k s16 s18 wr) (fun _ i _ => R.length - (intOf i).toNat)
        case atStart => exact ⟨0, false, by omega, rfl, rfl, Lib.hid (fun i h => absurd h (Nat.not_lt_zero _)), x5, rfl⟩
        case round =>
          obtain ⟨m, fb, hm, rfl, rfl, hfb, y, rfl⟩ := hrel
          have HFB := Lib.hid hfb.out
          clear hfb
          by_cases hlm : m < R.length
          case neg =>
            have i5 : decide ((m : Int) < (R.length : Int)) = false := decide_eq_false (by omega)
            obtain rfl : m = R.length := by omega
            have hft : fb = true := by
              obtain ⟨q, hq, hst⟩ := HST2.out
              obtain ⟨i, hi, rfl⟩ := List.mem_iff_getElem.1 hq
              exact HFB.out i hi (by rw [getD_is hi]; exact hst)
            subst hft
            have HZZ := Lib.hid (HUP.out y)
            go_wp2_with fail
            go_roundw
            case rel => exact ⟨k + 1, by omega, by go_num, ⟨y.w, HZZ.out⟩, rfl⟩
            case measure => simp [intOf]; omega
          have i5 : decide ((m : Int) < (R.length : Int)) = true := decide_eq_true (by omega)
          have n1 : (0 : Int) ≤ (m : Int) := by omega
          have n2 : (m : Int) < (R.length : Int) := by omega
          obtain ⟨ra', rfl, f1⟩ := rd_row HRT.out (show m < (nat2 R).length by rw [nat2_length]; exact hlm)
          rw [gi_nat2 hlm] at f1
          have hqn := HDR.out.2 _ (getD_mem hlm)
          have hll := HTS.out.ll
          obtain ⟨la, e9, f2⟩ := rd_row HLZT.out (show R.getD m 0 < Lf.length by rw [hll]; exact hqn)
          cases e9
          rw [add_row] at f2
          have HNX := Lib.hid (fun (b : Bool) (h : Stop (dns ps) rs G Lf k (R.getD m 0) → b = true) => (show ∀ i, i < m + 1 → Stop (dns ps) rs G Lf k (R.getD i 0) → (fb || b) = true from fun i hi hs => by
            by_cases e : i = m
            · subst e; rw [h hs, Bool.or_true]
            · rw [HFB.out i (by omega) hs, Bool.true_or]))
          obtain ⟨q, hq⟩ : ∃ q, R.getD m 0 = q := ⟨_, rfl⟩
          rw [hq] at f1 f2 hqn HNX
          obtain ⟨x, hx⟩ : ∃ x, gi Lf q = x := ⟨_, rfl⟩
          rw [hx] at f2
          have k5 := fun z : BelW T => (show z.w.cell? (ra'.add m) = some (.int .i64 (q : Int)) from BelW.cells f1 z)
          have k6 := fun z : BelW T => (show z.w.cell? ⟨g, q, none⟩ = some (.int .i64 x) from BelW.cells f2 z)
          clear f1 f2
          have q0 : decide ((q : Int) < 0) = false := decide_eq_false (by omega)
          have q1 : (0 : Int) ≤ (q : Int) := by omega
          have q2 : (q : Int) < (ps.length : Int) := by omega
          have q3 : decide ((ps.length : Int) ≤ (q : Int)) = false := decide_eq_false (by omega)
          have HX0 := Lib.hid (show Stop (dns ps) rs G Lf k q → (x == 0) = true from fun h => by rw [← hx]; exact beq_iff_eq.2 h.1)
          clear hq hx hll
          go_upto_region 26 with fail
          clear k6
          go_wp2_with fail
          go_loopw [19, 20] (fun s19 s20 wr => InR (dns ps) rs G Lf T k q s19 s20 wr) (fun _ i _ => rs.length - (intOf i).toNat)
          case atStart => exact ⟨k + 1, x == 0, by omega, by omega, rfl, by go_num, Lib.hid HX0.out, y, rfl⟩
          case round =>
            obtain ⟨j, sb, hj0, hj, rfl, rfl, hsb, y, rfl⟩ := hrel
            have HSB := Lib.hid hsb.out
            clear hsb HX0
            by_cases hlj : j < rs.length
            case neg =>
              have i6 : decide ((j : Int) < (rs.length : Int)) = false := decide_eq_false (by omega)
              have HN2 := Lib.hid (HNX.out sb HSB.out)
              cases fb
              · rw [Bool.false_or] at HN2
                go_wp2_with fail
                go_roundw
                case rel => exact ⟨m + 1, sb, by omega, rfl, by go_num, Lib.hid HN2.out, y, rfl⟩
                case measure => simp [intOf]; omega
              · go_wp2_with fail
                go_roundw
                case rel => exact ⟨m + 1, true, by omega, rfl, by go_num, Lib.hid (fun _ _ _ => rfl), y, rfl⟩
                case measure => simp [intOf]; omega
            have i6 : decide ((j : Int) < (rs.length : Int)) = true := decide_eq_true (by omega)
            have m1 : (0 : Int) ≤ (j : Int) := by omega
            have m2 : (j : Int) < (rs.length : Int) := by omega
            have hgl : (grs rs G).length = rs.length := grs_length HTS.out.gl
            obtain ⟨ga2, gb2, go2, eg, -, hGE2, -, g1⟩ := HGZT.out.span (k := j) (by rw [hgl]; exact hlj)
            cases eg
            rw [grs_at HTS.out.gl hlj] at g1
            obtain ⟨ad2, rb2, ro2, er, -, hE2, hrt2⟩ := HRZT.out.rt hlj
            cases er
            have HNOT := Lib.hid (show Stop (dns ps) rs G Lf k q → 0 < gi G j → q ∉ reachF (dns ps) (rt rs j).pla from fun h hg => h.2 j (by omega) hlj hg)
            obtain ⟨XJ, hXJ⟩ : ∃ X, rt rs j = X := ⟨_, rfl⟩
            obtain ⟨gj, hgj⟩ : ∃ x, gi G j = x := ⟨_, rfl⟩
            rw [hXJ] at hrt2 HNOT
            simp only [hgj] at g1
            rw [hgj] at HNOT
            have k1 := fun z : BelW T => (show z.w.cell? ⟨gb2, go2 + 1, none⟩ = some (.int .i64 gj) from BelW.cells g1 z)
            have k3 := fun z : BelW T => (show z.w.cell? ⟨rb2, ro2 + 3, none⟩ = some (.int .i64 XJ.pla) from BelW.cells (hrt2 3 _ rfl) z)
            clear hgl hrt2 g1
            go_upto_region 29 with fail
            by_cases hg0 : 0 < gj
            case neg =>
              have t9 : decide (0 < gj) = false := decide_eq_false hg0
              clear hg0 HNOT
              refine wp_region_belx (by kernel_rfl) (by kernel_rfl) ?_
              repeat (first | (with_reducible refine wpQuiet_load_g 31 _ (by with_reducible rfl) _ _ (by with_unfolding_all rfl) (by with_unfolding_all rfl) _ _ (rangeX HBB.out) Tryz.underlying31 (by with_unfolding_all rfl) (by kernel_rfl) ?_; simp only [Act.put, List.setIfInBounds_toArray, List.set_cons_succ, List.set_cons_zero]) | go_big_quiet_step (fail))
              refine wpQuiet_nil ?_
              intro y6
              go_wp2_with fail
              go_roundw
              case rel => exact ⟨j + 1, sb, by omega, by omega, rfl, by go_num, Lib.hid HSB.out, y6, rfl⟩
              case measure => simp [intOf]; omega
            have t9 : decide (0 < gj) = true := decide_eq_true hg0
            have HNO2 := Lib.hid (fun h => HNOT.out h hg0)
            clear hg0 HNOT
            have CRT := Lib.hid (fun z : BelW T => (show Calls Tryz.prog 11 #[.agg #[d0, .slice OA on oc, d2, .slice B ps.length cb, d4, d5, d6, d7, d8, d9, d10], .int .i64 XJ.pla] z.w (InPost (nat2 (reachF (dns ps) XJ.pla)) z.w) from CRE.out ⟨z.w, HUP.out z⟩ XJ.pla))
            have HRJ := Lib.hid (show (reachF (dns ps) XJ.pla).length ≤ 1000 from by have := (HTS.out.dis XJ.pla).len; omega)
            with_reducible refine reg29 (reachF (dns ps) XJ.pla) (by kernel_rfl) HBT hGE2 hE2 k1 k3 k5 m2 n2 t9 CRT HRJ.out (by with_unfolding_all exact fun _ _ _ _ _ h => h) ?_
            intro t204 t205 t206 t207 t208 t209 t210 t211 t212 t213 t214 t215 t216 t217 t218 t219 t220 t221 t222 y6
            clear CRT HRJ k1 k3 hGE2 hE2
            by_cases hmm : q ∈ reachF (dns ps) XJ.pla
            case pos =>
              have t10 : decide (q ∈ reachF (dns ps) XJ.pla) = true := decide_eq_true hmm
              have HN3 := Lib.hid (show Stop (dns ps) rs G Lf k q → false = true from fun h => absurd hmm (HNO2.out h))
              clear hmm HNO2
              rw [t10]
              clear t10
              go_wp2_with fail
              go_roundw
              case rel => exact ⟨j + 1, false, by omega, by omega, rfl, by go_num, Lib.hid HN3.out, y6, rfl⟩
              case measure => simp [intOf]; omega
            have t10 : decide (q ∈ reachF (dns ps) XJ.pla) = false := decide_eq_false hmm
            clear hmm HNO2
            rw [t10]
            clear t10
            go_wp2_with fail
            go_roundw
            case rel => exact ⟨j + 1, sb, by omega, by omega, rfl, by go_num, Lib.hid HSB.out, y6, rfl⟩
            case measure => simp [intOf]; omega
    have t6 : (X2.date == X.date) = false := beq_eq_false_iff_ne.2 hde
    clear hsen hkp hX2 hrt2 hde
    refine wp_region_belx (by kernel_rfl) (by kernel_rfl) ?_
    repeat (go_big_quiet_step (fail))
    refine wpQuiet_nil ?_
    intro y2
    clear t4 t4' hkpos t5 t6 w4 w5 p1 p2 hE2 e0 e2
    as_aux_lemma =>
      by_cases hgr : gk = X.rate
      case pos =>
        have t8 : (gk == X.rate) = true := beq_iff_eq.2 hgr
        go_upto_region 17 with fail
        clear hgr hgot
        refine wp_region_belx (by kernel_rfl) (by kernel_rfl) ?_
        repeat (go_big_quiet_step (fail))
        refine wpQuiet_nil ?_
        intro y3
        go_wp2_with fail
        go_roundw
        case rel => exact ⟨k + 1, by omega, by go_num, y3, rfl⟩
        case measure => simp [intOf]; omega
      have t8 : (gk == X.rate) = false := beq_eq_false_iff_ne.2 hgr
      have HST2 := Lib.hid (HSTOP.out hgr)
      clear hgr hgot
      go_upto_region 17 with fail
      refine wp_region_belx (by kernel_rfl) (by kernel_rfl) ?_
      repeat (go_big_quiet_step (fail))
      refine wpQuiet_nil ?_
      intro y3
      go_upto_region 19 with fail
      refine wp_region_belt 6 (by kernel_rfl) (by kernel_rfl) ?_
      simp only [List.take_succ_cons, List.take_zero, List.drop_succ_cons, List.drop_zero]
      repeat (first | (with_reducible refine wpQuiet_load_g 31 _ (by with_reducible rfl) _ _ (by with_unfolding_all rfl) (by with_unfolding_all rfl) _ _ (rangeX HBB.out) Tryz.underlying31 (by with_unfolding_all rfl) (by kernel_rfl) ?_; simp only [Act.put, List.setIfInBounds_toArray, List.set_cons_succ, List.set_cons_zero]) | go_big_quiet_step (fail))
      refine wpQuiet_nil ?_
      intro y4
      have CR := Lib.hid (CRE.out y4 X.pla)
      clear t8 c0 c2 c3 c4 d0' d1' hE hGE
      go_upto_region 20 with (first | (go_at_call 11; (with_reducible refine CR.out.mono ?_); rintro e w5 ⟨RA, rc, rfl, hA5, ho5, hr5, hb5⟩))
      rw [nat2_length]
      have HDR := Lib.hid (HTS.out.dis X.pla)
      obtain ⟨R, hR⟩ : ∃ R, reachF (dns ps) X.pla = R := ⟨_, rfl⟩
      rw [hR] at hr5 HDR HST2 ⊢
      have hRl : R.length ≤ 5 := by have := HDR.out.len; omega
      clear CR hR hA5 ho5
      refine wp_rebase _ (fun T hT x5 => ?_)
      have HBT0 := Lib.hid (show Below Z.heap.size Z T by rw [hT]; exact below_next y4.2 hb5)
      have HRT := Lib.hid (show Rd T RA (ints (nat2 R)) by rw [hT]; exact hr5)
      have HUP := Lib.hid (fun z : BelW T => (show Below Z.heap.size Z z.w from below_next HBT0.out z.2))
      have HBT := Lib.hid (show T.rangeAt w.heap.size 0 [d0, .slice OA on oc, d2, .slice B ps.length cb, d4, d5, d6, d7, d8, d9, d10] from range_bel HBB.out ⟨T, HBT0.out⟩)
      have HRZT := Lib.hid (HRZ.out.below (Nat.le_refl _) HBT0.out)
      have HGZT := Lib.hid (HGZ.out.below (Nat.le_refl _) HBT0.out)
      have HLZT := Lib.hid (HLZ.out.below (Nat.le_refl _) HBT0.out)
      clear hT hr5 hb5
      go_wp2_with fail
      go_loopw [16, 18] (fun s16 s18 wr => MiR (dns ps) rs G Lf T R k s16 s18 wr) (fun _ i _ => R.length - (intOf i).toNat)
      case atStart => exact ⟨0, false, by omega, rfl, rfl, Lib.hid (fun i h => absurd h (Nat.not_lt_zero _)), x5, rfl⟩
      case round =>
        obtain ⟨m, fb, hm, rfl, rfl, hfb, y, rfl⟩ := hrel
        have HFB := Lib.hid hfb.out
        clear hfb
        by_cases hlm : m < R.length
        case neg =>
          have i5 : decide ((m : Int) < (R.length : Int)) = false := decide_eq_false (by omega)
          obtain rfl : m = R.length := by omega
          have hft : fb = true := by
            obtain ⟨q, hq, hst⟩ := HST2.out
            obtain ⟨i, hi, rfl⟩ := List.mem_iff_getElem.1 hq
            exact HFB.out i hi (by rw [getD_is hi]; exact hst)
          subst hft
          have HZZ := Lib.hid (HUP.out y)
          go_wp2_with fail
          go_roundw
          case rel => exact ⟨k + 1, by omega, by go_num, ⟨y.w, HZZ.out⟩, rfl⟩
          case measure => simp [intOf]; omega
        have i5 : decide ((m : Int) < (R.length : Int)) = true := decide_eq_true (by omega)
        have n1 : (0 : Int) ≤ (m : Int) := by omega
        have n2 : (m : Int) < (R.length : Int) := by omega
        obtain ⟨ra', rfl, f1⟩ := rd_row HRT.out (show m < (nat2 R).length by rw [nat2_length]; exact hlm)
        rw [gi_nat2 hlm] at f1
        have hqn := HDR.out.2 _ (getD_mem hlm)
        have hll := HTS.out.ll
        obtain ⟨la, e9, f2⟩ := rd_row HLZT.out (show R.getD m 0 < Lf.length by rw [hll]; exact hqn)
        cases e9
        rw [add_row] at f2
        have HNX := Lib.hid (fun (b : Bool) (h : Stop (dns ps) rs G Lf k (R.getD m 0) → b = true) => (show ∀ i, i < m + 1 → Stop (dns ps) rs G Lf k (R.getD i 0) → (fb || b) = true from fun i hi hs => by
          by_cases e : i = m
          · subst e; rw [h hs, Bool.or_true]
          · rw [HFB.out i (by omega) hs, Bool.true_or]))
        obtain ⟨q, hq⟩ : ∃ q, R.getD m 0 = q := ⟨_, rfl⟩
        rw [hq] at f1 f2 hqn HNX
        obtain ⟨x, hx⟩ : ∃ x, gi Lf q = x := ⟨_, rfl⟩
        rw [hx] at f2
        have k5 := fun z : BelW T => (show z.w.cell? (ra'.add m) = some (.int .i64 (q : Int)) from BelW.cells f1 z)
        have k6 := fun z : BelW T => (show z.w.cell? ⟨g, q, none⟩ = some (.int .i64 x) from BelW.cells f2 z)
        clear f1 f2
        have q0 : decide ((q : Int) < 0) = false := decide_eq_false (by omega)
        have q1 : (0 : Int) ≤ (q : Int) := by omega
        have q2 : (q : Int) < (ps.length : Int) := by omega
        have q3 : decide ((ps.length : Int) ≤ (q : Int)) = false := decide_eq_false (by omega)
        have HX0 := Lib.hid (show Stop (dns ps) rs G Lf k q → (x == 0) = true from fun h => by rw [← hx]; exact beq_iff_eq.2 h.1)
        clear hq hx hll
        go_upto_region 26 with fail
        clear k6
        go_wp2_with fail
        go_loopw [19, 20] (fun s19 s20 wr => InR (dns ps) rs G Lf T k q s19 s20 wr) (fun _ i _ => rs.length - (intOf i).toNat)
        case atStart => exact ⟨k + 1, x == 0, by omega, by omega, rfl, by go_num, Lib.hid HX0.out, y, rfl⟩
        case round =>
          obtain ⟨j, sb, hj0, hj, rfl, rfl, hsb, y, rfl⟩ := hrel
          have HSB := Lib.hid hsb.out
          clear hsb HX0
          by_cases hlj : j < rs.length
          case neg =>
            have i6 : decide ((j : Int) < (rs.length : Int)) = false := decide_eq_false (by omega)
            have HN2 := Lib.hid (HNX.out sb HSB.out)
            cases fb
            · rw [Bool.false_or] at HN2
              go_wp2_with fail
              go_roundw
              case rel => exact ⟨m + 1, sb, by omega, rfl, by go_num, Lib.hid HN2.out, y, rfl⟩
              case measure => simp [intOf]; omega
            · go_wp2_with fail
              go_roundw
              case rel => exact ⟨m + 1, true, by omega, rfl, by go_num, Lib.hid (fun _ _ _ => rfl), y, rfl⟩
              case measure => simp [intOf]; omega
          have i6 : decide ((j : Int) < (rs.length : Int)) = true := decide_eq_true (by omega)
          have m1 : (0 : Int) ≤ (j : Int) := by omega
          have m2 : (j : Int) < (rs.length : Int) := by omega
          have hgl : (grs rs G).length = rs.length := grs_length HTS.out.gl
          obtain ⟨ga2, gb2, go2, eg, -, hGE2, -, g1⟩ := HGZT.out.span (k := j) (by rw [hgl]; exact hlj)
          cases eg
          rw [grs_at HTS.out.gl hlj] at g1
          obtain ⟨ad2, rb2, ro2, er, -, hE2, hrt2⟩ := HRZT.out.rt hlj
          cases er
          have HNOT := Lib.hid (show Stop (dns ps) rs G Lf k q → 0 < gi G j → q ∉ reachF (dns ps) (rt rs j).pla from fun h hg => h.2 j (by omega) hlj hg)
          obtain ⟨XJ, hXJ⟩ : ∃ X, rt rs j = X := ⟨_, rfl⟩
          obtain ⟨gj, hgj⟩ : ∃ x, gi G j = x := ⟨_, rfl⟩
          rw [hXJ] at hrt2 HNOT
          simp only [hgj] at g1
          rw [hgj] at HNOT
          have k1 := fun z : BelW T => (show z.w.cell? ⟨gb2, go2 + 1, none⟩ = some (.int .i64 gj) from BelW.cells g1 z)
          have k3 := fun z : BelW T => (show z.w.cell? ⟨rb2, ro2 + 3, none⟩ = some (.int .i64 XJ.pla) from BelW.cells (hrt2 3 _ rfl) z)
          clear hgl hrt2 g1
          go_upto_region 29 with fail
          by_cases hg0 : 0 < gj
          case neg =>
            have t9 : decide (0 < gj) = false := decide_eq_false hg0
            clear hg0 HNOT
            refine wp_region_belx (by kernel_rfl) (by kernel_rfl) ?_
            repeat (first | (with_reducible refine wpQuiet_load_g 31 _ (by with_reducible rfl) _ _ (by with_unfolding_all rfl) (by with_unfolding_all rfl) _ _ (rangeX HBB.out) Tryz.underlying31 (by with_unfolding_all rfl) (by kernel_rfl) ?_; simp only [Act.put, List.setIfInBounds_toArray, List.set_cons_succ, List.set_cons_zero]) | go_big_quiet_step (fail))
            refine wpQuiet_nil ?_
            intro y6
            go_wp2_with fail
            go_roundw
            case rel => exact ⟨j + 1, sb, by omega, by omega, rfl, by go_num, Lib.hid HSB.out, y6, rfl⟩
            case measure => simp [intOf]; omega
          have t9 : decide (0 < gj) = true := decide_eq_true hg0
          have HNO2 := Lib.hid (fun h => HNOT.out h hg0)
          clear hg0 HNOT
          have CRT := Lib.hid (fun z : BelW T => (show Calls Tryz.prog 11 #[.agg #[d0, .slice OA on oc, d2, .slice B ps.length cb, d4, d5, d6, d7, d8, d9, d10], .int .i64 XJ.pla] z.w (InPost (nat2 (reachF (dns ps) XJ.pla)) z.w) from CRE.out ⟨z.w, HUP.out z⟩ XJ.pla))
          have HRJ := Lib.hid (show (reachF (dns ps) XJ.pla).length ≤ 1000 from by have := (HTS.out.dis XJ.pla).len; omega)
          with_reducible refine reg29 (reachF (dns ps) XJ.pla) (by kernel_rfl) HBT hGE2 hE2 k1 k3 k5 m2 n2 t9 CRT HRJ.out (by with_unfolding_all exact fun _ _ _ _ _ h => h) ?_
          intro t204 t205 t206 t207 t208 t209 t210 t211 t212 t213 t214 t215 t216 t217 t218 t219 t220 t221 t222 y6
          clear CRT HRJ k1 k3 hGE2 hE2
          by_cases hmm : q ∈ reachF (dns ps) XJ.pla
          case pos =>
            have t10 : decide (q ∈ reachF (dns ps) XJ.pla) = true := decide_eq_true hmm
            have HN3 := Lib.hid (show Stop (dns ps) rs G Lf k q → false = true from fun h => absurd hmm (HNO2.out h))
            clear hmm HNO2
            rw [t10]
            clear t10
            go_wp2_with fail
            go_roundw
            case rel => exact ⟨j + 1, false, by omega, by omega, rfl, by go_num, Lib.hid HN3.out, y6, rfl⟩
            case measure => simp [intOf]; omega
          have t10 : decide (q ∈ reachF (dns ps) XJ.pla) = false := decide_eq_false hmm
          clear hmm HNO2
          rw [t10]
          clear t10
          go_wp2_with fail
          go_roundw
          case rel => exact ⟨j + 1, sb, by omega, by omega, rfl, by go_num, Lib.hid HSB.out, y6, rfl⟩
          case measure => simp [intOf]; omega
end Go.Proofs.YtngjakahanmepaaGreatDoor
