/- ReachTells: the walk. -/
import Derived.Test.YthbjechgdjcogaaFew18
import Derived.Test.YthbjechgdjcogaaOpen18
namespace Go.Proofs.Ythbjechgdjcogaa
open Go.RowKit
set_option linter.unusedVariables false
set_option linter.unusedSimpArgs false

theorem run_loadVar_at {P : Program} (w : World) (p : Addr) (ty : TypeId) (cs : List Value) (d : TypeDesc) (hc : ∀ j v, cs[j]? = some v → w.cell? (p.add j) = some v)
    (hu : P.underlying ty = some d) (hd : d.isRow = true) (hi : (P.info? ty).map (·.size) = some cs.length) : (loadVar ty p).run P w = .ok (.agg cs.toArray) w := by
  have hl : (loadCells p cs.length).run P w = .ok cs.toArray w := run_loadCells_list (P := P) w p cs hc
  cases hq : P.info? ty with
  | none => simp [hq] at hi
  | some i =>
    have hs : i.size = cs.length := by simpa [hq] using hi
    have hagg : (isAgg ty).run P w = .ok true w := by
      unfold isAgg
      rw [Sem.run_bind, run_underlying hu w]
      cases d <;> simp_all
    simp [loadVar, Sem.run_bind, hagg, sizeOf, typeInfo, hq, hs, hl]
theorem wpList_load_at {P : Program} {ops : Array Oper} {rest : List Oper} {o : Oper} {a : Act} {w : World} {Q : Exit → Act → World → Prop} (ty : TypeId) (x : Operand) (ho : o.op = .load ty x)
    (p : Addr) (hx : a.eval x = .pointer (some p)) (hw : Region.wanted o (yielded ops a.tmps) = true) (cs : List Value) (d : TypeDesc) (hc : ∀ j v, cs[j]? = some v → w.cell? (p.add j) = some v)
    (hu : P.underlying ty = some d) (hd : d.isRow = true) (hi : (P.info? ty).map (·.size) = some cs.length)
    (h : wpList P ops Q rest (a.put o.dst (.agg cs.toArray)) w) : wpList P ops Q (o :: rest) a w :=
  wpList_step fun K hK => by
    rw [if_pos hw]
    unfold Oper.wp execOp
    simp only [ho, hx, Instr.loadAt, Instr.sureAddr, Sem.run_bind, Sem.run_pure, Result.andThen_ok, run_loadVar_at w p ty cs d hc hu hd hi]
    exact hK _ _ h
theorem rd_place {w : World} {A : Option Addr} {l : List Pl} (h : Rd w A (plCells l)) {k : Nat} (hk : k < l.length) :
    ∃ ad, A = some ad ∧ ad.block < w.heap.size ∧ ∀ j v, (plc l[k])[j]? = some v → w.cell? ((ad.add (k * 12)).add j) = some v := by
  obtain ⟨ad, e, hb, hc⟩ := h (by rw [plCells_length]; omega)
  refine ⟨ad, e, hb, fun j v hv => ?_⟩
  have hj : j < 12 := by have := (List.getElem?_eq_some_iff.1 hv).1; rw [plc_length] at this; exact this
  have h2 := flat_at plc 12 plc_length l k j hk hj
  have e2 : (ad.add (k * 12)).add j = ad.add (k * 12 + j) := by
    unfold Addr.add
    by_cases hi : k * 12 = 0 <;> by_cases hj : j = 0 <;> simp [hi, hj, Nat.add_assoc]
  rw [e2]
  exact hc _ _ (h2.trans hv)
theorem clampN (x hi : Int) (h : 0 ≤ hi) : ∃ n : Nat, Xa.clamp x 0 hi = (n : Int) := ⟨(Xa.clamp x 0 hi).toNat, by unfold Xa.clamp; split <;> (try split) <;> omega⟩

theorem pushK_len (K : List (Int × Int × List Int)) (t pl : Int) (p : List Int) : (pushK K t pl p).length ≤ K.length + 1 := by
  unfold pushK; split
  · simp
  · omega
set_option maxHeartbeats 32000000 in
set_option maxRecDepth 100000 in
theorem tel_any (A B C : Option Addr) (c cb cc : Nat) (l : List Ld) (ps : List Pl) (p : List Int) (b0 b1 b2 b4 b5 b6 b7 b8 b9 b10 : Value) (v rem t pl o : Int)
    (hln : l.length ≤ 9223372036854775807) (hlc : l.length ≤ c) (hcm : c ≤ 9223372036854775807) (hA : A = none → c = 0) (hok : QOk l) (hpn : ps.length ≤ 9223372036854775807) (hCn : p.length ≤ 9223372036854775807) (hC : C = none → cc = 0) (hfp : ∀ i, i < p.length → Fit (gi p i)) (ht : Fit t) (hpl : Fit pl) (w : World) (hq : Qu w A l) (hb : Rd w B (plCells ps)) (hp : Rd w C (ints p)) :
    Calls Try.prog 3 #[.agg #[b0, b1, b2, .slice B ps.length cb, b4, b5, b6, b7, b8, b9, b10], .slice A l.length c, .int .i64 v, .int .i64 rem, .slice C p.length cc, .int .i64 t, .int .i64 pl, .int .i64 o] w fun e w' => e = .returned (.bool true) ∧ Below w.heap.size w w' := by
  go_enter Try.func3, Try.ntmps3
  go_upto_region 1 with fail
  refine wp_rebase _ (fun V hV x0 => ?_)
  have HB0 := Lib.hid (show Below w.heap.size w V by rw [hV]; exact bel_alloc (Below.refl _ _) _)
  have HBX := Lib.hid (show V.rangeAt w.heap.size 0 [b0, b1, b2, .slice B ps.length cb, b4, b5, b6, b7, b8, b9, b10] by rw [hV]; exact range_new w _ _)
  have cb3 : V.cell? ⟨w.heap.size, 3, none⟩ = some (.slice B ps.length cb) := by rw [hV, World.cell?_alloc_at _ _ _ _ rfl]; rfl
  have HQ := Lib.hid (hq.below (Nat.le_refl _) HB0.out)
  have HP := Lib.hid (hb.below (Nat.le_refl _) HB0.out)
  have HC := Lib.hid (hp.below (Nat.le_refl _) HB0.out)
  have HF := Lib.hid (And.intro hok (And.intro hA (And.intro hC (And.intro hfp (And.intro ht hpl)))))
  have CS := Lib.hid (fun u : BelW V => bel_of (small_any u.w))
  have r3 := fun y : BelW V => BelW.cells cb3 y
  clear hV hq hb hp hok hA hC hfp ht hpl cb3
  go_upto_region 2 with (first | (go_at_call 8; with_reducible refine (CS.out _).mono ?_; rintro e w' ⟨rfl, yy, rfl⟩))
  go_wp2_with fail
  refine (few_any A c l hln HF.out.1 _ (HQ.out.bel yy)).mono ?_
  rintro e w1 ⟨b, rfl, hfew, hb1⟩
  obtain ⟨y1, rfl⟩ : ∃ y : BelW V, w1 = y.w := ⟨⟨w1, below_next yy.2 hb1⟩, rfl⟩
  have HBf := Lib.hid (below_next HB0.out y1.2)
  cases b
  · clear hfew hb1
    go_wp2_with fail
    go_ret
    exact ⟨rfl, HBf.out⟩
  obtain ⟨g1, g2⟩ := hfew.1 rfl
  have HG := Lib.hid g1
  clear hfew hb1 g1 CS
  by_cases q1 : 6 < p.length
  · have t1 : decide ((6 : Int) < (p.length : Int)) = true := decide_eq_true (by omega)
    go_wp2_with fail
    go_ret
    exact ⟨rfl, HBf.out⟩
  have t1 : decide ((6 : Int) < (p.length : Int)) = false := decide_eq_false (by omega)
  by_cases q2 : 70 < ps.length
  · have t2 : decide ((70 : Int) < (ps.length : Int)) = true := decide_eq_true (by omega)
    go_wp2_with fail
    go_ret
    exact ⟨rfl, HBf.out⟩
  have t2 : decide ((70 : Int) < (ps.length : Int)) = false := decide_eq_false (by omega)
  clear HBf
  go_wp2_with fail
  go_loopw [18] (fun s18 wr => CnR V ps.length s18 wr) (fun i _ => ps.length - (intOf i).toNat)
  case atStart => exact ⟨0, by omega, rfl, y1, rfl⟩
  case round =>
    obtain ⟨k, hk, rfl, y, rfl⟩ := hrel
    by_cases hlt : k < ps.length
    · have i4 : decide ((k : Int) < (ps.length : Int)) = true := decide_eq_true (by omega)
      have j1 : (0 : Int) ≤ (k : Int) := by omega
      have j2 : (k : Int) < (ps.length : Int) := by omega
      obtain ⟨ad, rfl, _, hcl⟩ := rd_place (HP.out.bel y) hlt
      obtain ⟨x, hx⟩ : ∃ x, ps[k] = x := ⟨_, rfl⟩
      rw [hx] at hcl
      have HCL := Lib.hid (fun (z : BelW y.w) j u (hu : (plc x)[j]? = some u) => BelW.cells (hcl j u hu) z)
      have HCL0 := Lib.hid hcl
      obtain ⟨r1, r2, hr⟩ : ∃ r1 r2, routeF x.num x.den v rem = (r1, r2) := ⟨_, _, rfl⟩
      have R1 := Lib.hid (route_any x.a0 x.a1 (.int .i64 x.office) x.a3 x.a4 x.a5 x.a8 x.a9 x.a10 x.a11 x.num x.den v rem y.w)
      have R2 := Lib.hid (fun W => refroute_any x.a0 x.a1 (.int .i64 x.office) x.a3 x.a4 x.a5 x.a8 x.a9 x.a10 x.a11 x.num x.den v rem W)
      rw [hr] at R1 R2
      clear hx hcl hr
      go_upto_region 8 with (first
        | (with_reducible refine wpList_load_at 40 _ (by with_reducible rfl) _ (by with_unfolding_all rfl) (by with_unfolding_all rfl) (plc x) _ HCL0.out Try.underlying40 (by with_unfolding_all rfl) (by kernel_rfl) ?_; simp only [plc])
        | (go_at_call 10; (with_reducible refine R1.out.mono ?_); rintro e w2 ⟨rfl, hb2⟩))
      obtain ⟨z, rfl⟩ : ∃ z : BelW y.w, w2 = z.w := ⟨⟨w2, hb2⟩, rfl⟩
      have HZ := Lib.hid (below_next y.2 hb2)
      have r3' : z.w.cell? ⟨w.heap.size, 3, none⟩ = some (.slice (some ad) ps.length cb) := BelW.cells (r3 y) z
      clear hb2
      go_wp2_with (first
        | (with_reducible refine wpList_load_at 40 _ (by with_reducible rfl) _ (by with_unfolding_all rfl) (by with_unfolding_all rfl) (plc x) _ (HCL.out _) Try.underlying40 (by with_unfolding_all rfl) (by kernel_rfl) ?_; simp only [plc])
        | (go_at_call 11; (with_reducible refine (R2.out _).mono ?_); rintro e w3 ⟨rfl, hb3⟩))
      have HX := Lib.hid (below_next HZ.out hb3)
      clear hb3 r3'
      go_roundw
      case rel => exact ⟨k + 1, by omega, by go_num, ⟨w3, HX.out⟩, rfl⟩
      case measure => simp [intOf]; omega
    · have i4 : decide ((k : Int) < (ps.length : Int)) = false := decide_eq_false (by omega)
      go_upto_region 11 with fail
      refine wp_rebase y.w (fun U hU z0 => ?_)
      have hbU : Below V.heap.size V U := by rw [hU]; exact y.2
      have HQU := Lib.hid (HQ.out.below (Nat.le_refl _) hbU)
      have HPU := Lib.hid (HP.out.below (Nat.le_refl _) hbU)
      have HCU := Lib.hid (HC.out.below (Nat.le_refl _) hbU)
      have hrg : U.rangeAt w.heap.size 0 [b0, b1, b2, .slice B ps.length cb, b4, b5, b6, b7, b8, b9, b10] := by rw [hU]; exact BelW.range HBX.out y
      have HRg := Lib.hid (show ∀ w' : World, Below U.heap.size U w' → w'.cell? ⟨w.heap.size, 0, none⟩ = some (b0) ∧ w'.cell? ⟨w.heap.size, 1, none⟩ = some (b1) ∧ w'.cell? ⟨w.heap.size, 2, none⟩ = some (b2) ∧ w'.cell? ⟨w.heap.size, 3, none⟩ = some (.slice B ps.length cb) ∧ w'.cell? ⟨w.heap.size, 4, none⟩ = some (b4) ∧ w'.cell? ⟨w.heap.size, 5, none⟩ = some (b5) ∧ w'.cell? ⟨w.heap.size, 6, none⟩ = some (b6) ∧ w'.cell? ⟨w.heap.size, 7, none⟩ = some (b7) ∧ w'.cell? ⟨w.heap.size, 8, none⟩ = some (b8) ∧ w'.cell? ⟨w.heap.size, 9, none⟩ = some (b9) ∧ w'.cell? ⟨w.heap.size, 10, none⟩ = some (b10) from fun w' h => by
        have hr : w'.rangeAt w.heap.size 0 [b0, b1, b2, .slice B ps.length cb, b4, b5, b6, b7, b8, b9, b10] := BelW.range hrg ⟨w', h⟩
        have hj := fun j u (hu : [b0, b1, b2, .slice B ps.length cb, b4, b5, b6, b7, b8, b9, b10][j]? = some u) => hr j u hu
        simp only [Nat.zero_add] at hj
        exact ⟨hj 0 _ rfl, hj 1 _ rfl, hj 2 _ rfl, hj 3 _ rfl, hj 4 _ rfl, hj 5 _ rfl, hj 6 _ rfl, hj 7 _ rfl, hj 8 _ rfl, hj 9 _ rfl, hj 10 _ rfl⟩)
      have HBU := Lib.hid (below_next HB0.out hbU)
      have HUd := Lib.hid (show Below U.heap.size U z0.w.drew from z0.2.drew)
      have hz0 := z0.2
      have HZ0 := Lib.hid hz0
      clear hU hbU hrg r3 hz0
      have HPu := Lib.hid (fun (u : World) (hu : Below U.heap.size U u) => push_any A C c cc l p t pl (by omega) (by omega) HF.out.2.1 HF.out.2.2.1 hlc hcm HF.out.1 HF.out.2.2.2.2.1 HF.out.2.2.2.2.2 HF.out.2.2.2.1 u (HQU.out.below (Nat.le_refl _) hu) (HCU.out.below (Nat.le_refl _) hu))
      have HRp := Lib.hid (fun (u : World) (hu : Below U.heap.size U u) => refpush_any A C c cc l p t pl (by omega) (by omega) HF.out.2.1 HF.out.2.2.1 hlc HF.out.1 HF.out.2.2.2.2.1 HF.out.2.2.2.2.2 HF.out.2.2.2.1 u (HQU.out.below (Nat.le_refl _) hu) (HCU.out.below (Nat.le_refl _) hu))
      have HL6 := Lib.hid (show ∀ x ∈ l, x.part.length ≤ 1000 from fun x hx => by have := HG.out x hx; omega)
      have HU1 := Lib.hid (fun (u : World) (hu : Below U.heap.size U u) => under_any A B c cb l ps b0 b1 b2 b4 b5 b6 b7 b8 b9 b10 pl (by omega) hpn HL6.out HF.out.1 u (HQU.out.below (Nat.le_refl _) hu) (HPU.out.below (Nat.le_refl _) hu))
      have HU2 := Lib.hid (fun (u : World) (hu : Below U.heap.size U u) => refunder_any A B c cb l ps b0 b1 b2 b4 b5 b6 b7 b8 b9 b10 pl (by omega) hpn HL6.out HF.out.1 u (HQU.out.below (Nat.le_refl _) hu) (HPU.out.below (Nat.le_refl _) hu))
      have HKL := Lib.hid (show ∀ m : List Ld, keys m = pushK (keys l) t pl p → m.length ≤ 9223372036854775807 from fun m hm => by
        have h1 := pushK_len (keys l) t pl p
        rw [← hm, keys_length, keys_length] at h1
        omega)
      obtain ⟨K, hK⟩ : ∃ K, pushK (keys l) t pl p = K := ⟨_, rfl⟩
      rw [hK] at HPu HRp HKL
      obtain ⟨S, hS⟩ : ∃ S, undK (offs ps) pl (keys l) = S := ⟨_, rfl⟩
      rw [hS] at HU1 HU2
      clear hK hS
      go_region_held3 (fun w' => Below U.heap.size U w' ∧ w'.cell? ⟨w.heap.size, 0, none⟩ = some (b0) ∧ w'.cell? ⟨w.heap.size, 1, none⟩ = some (b1) ∧ w'.cell? ⟨w.heap.size, 2, none⟩ = some (b2) ∧ w'.cell? ⟨w.heap.size, 3, none⟩ = some (.slice B ps.length cb) ∧ w'.cell? ⟨w.heap.size, 4, none⟩ = some (b4) ∧ w'.cell? ⟨w.heap.size, 5, none⟩ = some (b5) ∧ w'.cell? ⟨w.heap.size, 6, none⟩ = some (b6) ∧ w'.cell? ⟨w.heap.size, 7, none⟩ = some (b7) ∧ w'.cell? ⟨w.heap.size, 8, none⟩ = some (b8) ∧ w'.cell? ⟨w.heap.size, 9, none⟩ = some (b9) ∧ w'.cell? ⟨w.heap.size, 10, none⟩ = some (b10))
        (first
          | (exact ⟨HUd.out, HRg.out _ HUd.out⟩)
          | (go_split_ands; exact ⟨below_next (by assumption) bb5, HRg.out _ (below_next (by assumption) bb5)⟩)
          | (go_split_ands; exact ⟨below_next (by assumption) bb4, HRg.out _ (below_next (by assumption) bb4)⟩)
          | (go_split_ands; exact ⟨below_next (by assumption) bb3, HRg.out _ (below_next (by assumption) bb3)⟩)
          | (go_split_ands; exact ⟨below_next (by assumption) bb2, HRg.out _ (below_next (by assumption) bb2)⟩)
          | (go_split_ands; exact ⟨below_next (by assumption) bb1, HRg.out _ (below_next (by assumption) bb1)⟩)
          | fail)
        (first
          | (go_at_call 13; (with_reducible refine (HPu.out _ (by go_split_ands; assumption)).mono ?_); rintro e w1 ⟨A1, c1, l1, rfl, k1, o1, n1, m1, qq1, bb1⟩)
          | (go_at_call 14; (with_reducible refine (HRp.out _ (by go_split_ands; assumption)).mono ?_); rintro e w2 ⟨A2, c2, l2, rfl, k2, o2, n2, m2, qq2, bb2⟩)
          | (go_at_call 12; (with_reducible refine (refl_any A1 A2 c1 c2 l1 l2 _ _ rfl rfl (HKL.out _ k1) o1 (k1.trans k2.symm) _ (qq1.below (Nat.le_refl _) bb2) qq2).mono ?_); rintro e w3 ⟨rfl, bb3⟩)
          | (go_at_call 15; (with_reducible refine (HU1.out _ (by go_split_ands; assumption)).mono ?_); rintro e w4 ⟨rfl, bb4⟩)
          | (go_at_call 16; (with_reducible refine (HU2.out _ (by go_split_ands; assumption)).mono ?_); rintro e w5 ⟨rfl, bb5⟩)
          | fail)
      have hb5 := below_next (below_next (below_next (below_next (below_next HUd.out bb1) bb2) bb3) bb4) bb5
      have HB5 := Lib.hid hb5
      obtain ⟨P, hP⟩ := clampN pl 64 (by omega)
      obtain ⟨O, hO⟩ := clampN o 16 (by omega)
      have hOn : O ≤ 1000 := by unfold Xa.clamp at hO; split at hO <;> (try split at hO) <;> omega
      have hPn : P ≤ 64 := by unfold Xa.clamp at hP; split at hP <;> (try split at hP) <;> omega
      have HRL := Lib.hid (show ∀ rows : List Rw, parts rows = (List.range P).map (fun i => rowK O t (P : Int) i (keys l)) → rows.length = P ∧ ∀ x ∈ rows, x.part.length ≤ 9223372036854775807 from fun rows hr => by
        refine ⟨by rw [← parts_length, hr]; simp, fun x hx => ?_⟩
        have : x.part ∈ parts rows := List.mem_map.2 ⟨x, hx, rfl⟩
        rw [hr] at this
        obtain ⟨i, _, hi⟩ := List.mem_map.1 this
        rw [← hi]
        have := rowK_len (O := O) (h := t) (p := (P : Int)) (pl := i) hOn (keys l) (fun y hy => by
          obtain ⟨z, hz, rfl⟩ := List.mem_map.1 hy
          exact HL6.out z hz)
        omega)
      have D1 := Lib.hid (due_any A c l t pl o (by omega) HL6.out HF.out.2.1 hlc hcm HF.out.1 P O hP hO w5 (HQU.out.below (Nat.le_refl _) hb5))
      have D2 := Lib.hid (fun u (hu : Below U.heap.size U u) => refdue_any A c l t pl o (by omega) HL6.out HF.out.1 P O hP hO u (HQU.out.below (Nat.le_refl _) hu))
      clear bb1 bb2 bb3 bb4 bb5 hb5 hP hO k1 k2 o1 o2 n1 n2 m1 m2 qq1 qq2 HPu HRp HU1 HU2 HKL HRg
      go_wp2_with fail
      refine D1.out.mono ?_
      rintro e w6 ⟨A4, c4, B4, d4, rows, m, rfl, hc4, hpr, hkm, hom, hB4, hd4, hrows, hmx, hqm, hb6⟩
      have HB6 := Lib.hid (below_next HB5.out hb6)
      have H1 := Lib.hid (And.intro hpr (And.intro hkm (And.intro hom (And.intro hmx hqm))))
      clear hc4 hpr hkm hom hB4 hd4 hrows hmx hqm hb6 D1
      go_wp2_with fail
      refine (D2.out _ HB6.out).mono ?_
      rintro e w7 ⟨A5, c5, B5, d5, rows', m', rfl, hc5, hpr', hkm', hom', hB5, hd5, hrows', hmx', hqm', hb7⟩
      have HB7 := Lib.hid (below_next HB6.out hb7)
      have hl1 := HRL.out rows H1.out.1
      have hl2 := HRL.out rows' hpr'
      have S1 := Lib.hid (refll_any A4 A5 c4 c5 rows rows' P P hl1.1 hl2.1 (by omega) hl1.2 (H1.out.1.trans hpr'.symm) w7 (H1.out.2.2.2.1.below (Nat.le_refl _) hb7) hmx')
      have hml : m.length ≤ 9223372036854775807 := by
        have h1 := restK_le t (P : Int) (keys l)
        rw [← H1.out.2.1, keys_length, keys_length] at h1
        omega
      have S2 := Lib.hid (fun u (hu : Below w7.heap.size w7 u) => refl_any B4 B5 d4 d5 m m' m.length m'.length rfl rfl hml H1.out.2.2.1 (H1.out.2.1.trans hkm'.symm) u ((H1.out.2.2.2.2.below (Nat.le_refl _) hb7).below (Nat.le_refl _) hu) (hqm'.below (Nat.le_refl _) hu))
      clear hc5 hpr' hkm' hom' hB5 hd5 hrows' hmx' hqm' hb7 hl1 hl2 hml D2
      go_wp2_with fail
      refine S1.out.mono ?_
      rintro e w8 ⟨rfl, hb8⟩
      have HB8 := Lib.hid hb8
      clear hb8
      go_wp2_with fail
      refine (S2.out _ HB8.out).mono ?_
      rintro e w9 ⟨rfl, hb9⟩
      have HX := Lib.hid (below_next HBU.out (below_next (below_next HB7.out HB8.out) hb9))
      clear hb9
      go_wp2_with fail
      go_ret
      exact ⟨rfl, HX.out⟩

end Go.Proofs.Ythbjechgdjcogaa
