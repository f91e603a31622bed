/- ReachUnder: the walk. -/
import Derived.Test.YthbjechgdjcogaaUnP
namespace Go.Proofs.Ythbjechgdjcogaa
open Go.RowKit
set_option linter.unusedVariables false
set_option linter.unusedSimpArgs false

def UlR (V : World) (os : List Int) (l : List Ld) (s12 s13 : Value) (wr : World) : Prop :=
  ∃ k : Nat, k ≤ l.length ∧ s13 = .int .i64 (k : Int) ∧ s12 = .int .i64 (wtA (keys (l.take k))) ∧ Hid (∀ x ∈ keys (l.take k), PlaceOk os x) ∧ ∃ y : BelW V, wr = y.w
def UoR (V : World) (s16 : Value) (wr : World) : Prop := ∃ (k : Nat) (o : Int), k ≤ 5 ∧ o = (k : Int) - 1 ∧ s16 = .int .i64 o ∧ ∃ y : BelW V, wr = y.w
theorem pushK_le (K : List Key) (t pl : Int) (p : List Int) : (pushK K t pl p).length ≤ K.length + 1 := by
  unfold pushK; split
  · simp
  · omega
theorem wtA_take {O : Nat} {K : List Key} (hq : RightQ O K) (k : Nat) : 0 ≤ wtA (K.take k) ∧ wtA (K.take k) ≤ 1125899906842624 := wtA_bd (hq.take k)

set_option maxHeartbeats 32000000 in
set_option maxRecDepth 100000 in
theorem un_any (A B C : Option Addr) (c cb cc : Nat) (l : List Ld) (ps : List Pl) (p : List Int) (b0 b1 b2 b4 b5 b6 b7 b8 b9 b10 : Value) (o pp : Int)
    (hln : l.length ≤ 9223372036854775807) (hlc : l.length ≤ c) (hA : A = none → c = 0) (hok : QOk l) (hpn : ps.length ≤ 9223372036854775807) (hCn : p.length ≤ 9223372036854775807) (hC : C = none → cc = 0) (hfp : ∀ i, i < p.length → Fit (gi p i)) (hpl : Fit pp) (w : World) (hq : Qu w A l) (hb : Rd w B (plCells ps)) (hp : Rd w C (ints p)) :
    Calls Try.prog 7 #[.agg #[b0, b1, b2, .slice B ps.length cb, b4, b5, b6, b7, b8, b9, b10], .slice A l.length c, .int .i64 o, .int .i64 pp, .slice C p.length cc] w fun e w' => e = .returned (.bool true) ∧ Below w.heap.size w w' := by
  go_enter Try.func7, Try.ntmps7
  go_upto_region 1 with fail
  refine wp_rebase _ (fun V hV x0 => ?_)
  have HB0 := Lib.hid (show Below w.heap.size w V by rw [hV]; exact bel_alloc (Below.refl _ _) _)
  have HBX := Lib.hid (show V.rangeAt w.heap.size 0 [b0, b1, b2, .slice B ps.length cb, b4, b5, b6, b7, b8, b9, b10] by rw [hV]; exact range_new w _ _)
  have cb3 : V.cell? ⟨w.heap.size, 3, none⟩ = some (.slice B ps.length cb) := by rw [hV, World.cell?_alloc_at _ _ _ _ rfl]; rfl
  have HQ := Lib.hid (hq.below (Nat.le_refl _) HB0.out)
  have HP := Lib.hid (hb.below (Nat.le_refl _) HB0.out)
  have HC := Lib.hid (hp.below (Nat.le_refl _) HB0.out)
  have HF := Lib.hid (And.intro hok (And.intro hA (And.intro hC (And.intro hfp hpl))))
  have CS := Lib.hid (fun u : BelW V => bel_of (small_any u.w))
  have r3 := fun y : BelW V => BelW.cells cb3 y
  clear hV hq hb hp hok hA hC hfp hpl cb3
  go_upto_region 2 with (first | (go_at_call 8; with_reducible refine (CS.out _).mono ?_; rintro e w' ⟨rfl, yy, rfl⟩))
  go_wp2_with fail
  refine (few_any A c l hln HF.out.1 _ (HQ.out.bel yy)).mono ?_
  rintro e w1 ⟨b, rfl, hfew, hb1⟩
  obtain ⟨y1, rfl⟩ : ∃ y : BelW V, w1 = y.w := ⟨⟨w1, below_next yy.2 hb1⟩, rfl⟩
  have HB1 := Lib.hid (below_next HB0.out y1.2)
  cases b
  · clear hfew hb1
    go_wp2_with fail
    go_ret
    exact ⟨rfl, HB1.out⟩
  obtain ⟨g1, g2⟩ := hfew.1 rfl
  have HG := Lib.hid (show ∀ x ∈ l, x.part.length ≤ 1000 from fun x hx => by have := g1 x hx; omega)
  clear hfew hb1 g1 CS
  by_cases q1 : o < 0
  · have t1 : decide (o < 0) = true := decide_eq_true (by omega)
    go_wp2_with fail
    go_ret
    exact ⟨rfl, HB1.out⟩
  have t1 : decide (o < 0) = false := decide_eq_false (by omega)
  by_cases q2 : 6 < o
  · have t2 : decide (6 < o) = true := decide_eq_true (by omega)
    go_wp2_with fail
    go_ret
    exact ⟨rfl, HB1.out⟩
  have t2 : decide (6 < o) = false := decide_eq_false (by omega)
  by_cases q3 : 10 < ps.length
  · have t3 : decide ((10 : Int) < (ps.length : Int)) = true := decide_eq_true (by omega)
    go_wp2_with fail
    go_ret
    exact ⟨rfl, HB1.out⟩
  have t3 : decide ((10 : Int) < (ps.length : Int)) = false := decide_eq_false (by omega)
  obtain ⟨O, rfl⟩ := Int.eq_ofNat_of_zero_le (show 0 ≤ o by omega)
  have hO : O ≤ 6 := by omega
  have CR := Lib.hid (lright_any A c l O hO (by omega) HG.out HF.out.1 y1.w (HQ.out.bel y1))
  clear q1 q2
  go_wp2_with fail
  refine CR.out.mono ?_
  rintro e w2 ⟨b, rfl, hrq, hb2⟩
  obtain ⟨y2, rfl⟩ : ∃ y : BelW V, w2 = y.w := ⟨⟨w2, below_next y1.2 hb2⟩, rfl⟩
  cases b
  · have HB2 := Lib.hid (below_next HB0.out y2.2)
    clear hrq hb2
    go_wp2_with fail
    go_ret
    exact ⟨rfl, HB2.out⟩
  have HRQ := Lib.hid (hrq.1 rfl)
  clear hrq hb2 CR HB1
  go_wp2_with fail
  go_loopw [12, 13] (fun s12 s13 wr => UlR V (offs ps) l s12 s13 wr) (fun _ i _ => l.length - (intOf i).toNat)
  case atStart => exact ⟨0, by omega, rfl, rfl, Lib.hid (fun x hx => by cases hx), y2, rfl⟩
  case round =>
    obtain ⟨k, hk, rfl, rfl, hall, y, rfl⟩ := hrel
    have HBf := Lib.hid (below_next HB0.out y.2)
    by_cases hlt : k < l.length
    · have i4 : decide ((k : Int) < (l.length : Int)) = true := decide_eq_true (by omega)
      have j1 : (0 : Int) ≤ (k : Int) := by omega
      have j2 : (k : Int) < (l.length : Int) := by omega
      obtain ⟨ad, rfl, hadb, e1, e2, e3, e4⟩ := HQ.out.at hlt
      have HL := Lib.hid (And.intro (HF.out.1 _ (List.getElem_mem hlt)) (HG.out _ (List.getElem_mem hlt)))
      have HKK := Lib.hid (keys_take hlt)
      have hkey : (l[k]).key = ((l[k]).hr, (l[k]).pl, (l[k]).part) := rfl
      rw [hkey] at HKK
      clear hkey
      have hrx := HRQ.out.each (l[k]).key (List.mem_map_of_mem (List.getElem_mem hlt))
      obtain ⟨hr, hhr⟩ : ∃ x, (l[k]).hr = x := ⟨_, rfl⟩
      obtain ⟨pl, hpl⟩ : ∃ x, (l[k]).pl = x := ⟨_, rfl⟩
      obtain ⟨pt, hpt⟩ : ∃ x, (l[k]).part = x := ⟨_, rfl⟩
      obtain ⟨PA, hPA⟩ : ∃ x, (l[k]).A = x := ⟨_, rfl⟩
      obtain ⟨pc, hpc⟩ : ∃ x, (l[k]).c = x := ⟨_, rfl⟩
      obtain ⟨⟨⟨_, _, _, f4⟩, _⟩, f6⟩ := HL.out
      have hrx2 : RiP pt := by rw [← hpt]; exact hrx.2
      rw [hhr] at e1 HKK
      rw [hpl] at e2 HKK
      rw [hpt, hPA, hpc] at e3
      rw [hpt, hPA] at e4
      rw [hpt] at HKK f4 f6
      have hw0 := wtA_take HRQ.out k
      have hw1 := wtA_take HRQ.out (k + 1)
      rw [← keys_tk] at hw0 hw1
      have HSN := Lib.hid (show wtA (keys (l.take (k + 1))) = wtA (keys (l.take k)) + tot pt pt.length by rw [HKK.out, wtA_snoc, tot_ri hrx2 (Nat.le_refl _)])
      have HTo := Lib.hid (fun u : BelW V => bel_of (x := u) (total_any PA pc pt (by omega) f4 u.w (e4.below (Nat.le_refl _) u.2)))
      have hT0 := tot_any hrx2
      obtain ⟨S, hS⟩ : ∃ S, wtA (keys (l.take k)) = S := ⟨_, rfl⟩
      obtain ⟨T, hT⟩ : ∃ T, tot pt pt.length = T := ⟨_, rfl⟩
      rw [hT] at HTo HSN hT0
      rw [hS] at HSN hw0
      rw [hS]
      have wA : IntKind.i64.wrap (S + T) = S + T := IntWalk.i64_in _ (by omega)
      have E1 := fun z : BelW V => BelW.cells e1 z
      have E2 := fun z : BelW V => BelW.cells e2 z
      have E3 := fun z : BelW V => BelW.cells e3 z
      have HA := Lib.hid (fun (hpo : PlaceOk (offs ps) (hr, pl, pt)) => show ∀ x ∈ keys (l.take (k + 1)), PlaceOk (offs ps) x from fun x hx => by
        rw [HKK.out] at hx
        rcases List.mem_append.1 hx with h1 | h1
        · exact hall.out x h1
        · rw [List.mem_singleton.1 h1]; exact hpo)
      clear hhr hpl hpt hPA hpc f4 f6 hrx hrx2 hw0 hw1 hS hT hT0 HL hadb e1 e2 e3 e4 hall
      go_upto_region 8 with fail
      by_cases d1 : pl < 0
      case pos =>
        have t4 : decide (pl < 0) = true := decide_eq_true d1
        clear HA HKK d1
        refine wp_region_belx (by kernel_rfl) (by kernel_rfl) ?_
        repeat (go_big_quiet_step (fail))
        refine wpQuiet_nil ?_
        intro z
        have HBz := Lib.hid (below_next HB0.out z.2)
        go_wp2_with fail
        go_ret
        exact ⟨rfl, HBz.out⟩
      have t4 : decide (pl < 0) = false := decide_eq_false d1
      obtain ⟨j, rfl⟩ := Int.eq_ofNat_of_zero_le (show 0 ≤ pl by omega)
      by_cases d2 : j < ps.length
      case neg =>
        have d2n : ps.length ≤ j := by omega
        have t5 : decide ((ps.length : Int) ≤ (j : Int)) = true := decide_eq_true (by omega)
        clear HA HKK d1
        refine wp_region_belx (by kernel_rfl) (by kernel_rfl) ?_
        repeat (go_big_quiet_step (fail))
        refine wpQuiet_nil ?_
        intro z
        have HBz := Lib.hid (below_next HB0.out z.2)
        go_wp2_with fail
        go_ret
        exact ⟨rfl, HBz.out⟩
      have t5 : decide ((ps.length : Int) ≤ (j : Int)) = false := decide_eq_false (by omega)
      have t5n : decide (ps.length ≤ j) = false := decide_eq_false (by omega)
      have q1 : (0 : Int) ≤ (j : Int) := by omega
      have q2 : (j : Int) < (ps.length : Int) := by omega
      obtain ⟨bd, rfl, _, e5⟩ := rd_office HP.out d2
      obtain ⟨of, hof⟩ : ∃ x, gi (offs ps) j = x := ⟨_, rfl⟩
      rw [hof] at e5
      have E5 := fun z : BelW V => BelW.cells e5 z
      have HO2 := Lib.hid (fun (h : 0 ≤ of ∧ of ≤ 2) => show PlaceOk (offs ps) (hr, (j : Int), pt) from ⟨by show (0 : Int) ≤ (j : Int); omega, by show (j : Int) < _; rw [offs_length]; omega, by show 0 ≤ gi (offs ps) (j : Int).toNat; rw [Int.toNat_natCast, hof]; exact h.1, by show gi (offs ps) (j : Int).toNat ≤ 2; rw [Int.toNat_natCast, hof]; exact h.2⟩)
      clear d1 hof e5
      refine wp_region_belx (by kernel_rfl) (by kernel_rfl) ?_
      repeat (go_big_quiet_step (fail))
      refine wpQuiet_nil ?_
      intro z1
      go_upto_region 10 with fail
      refine wp_region_belx (by kernel_rfl) (by kernel_rfl) ?_
      repeat (go_big_quiet_step (fail))
      refine wpQuiet_nil ?_
      intro z2
      have HBz := Lib.hid (below_next HB0.out z2.2)
      by_cases d3 : of < 0
      · have t6 : decide (of < 0) = true := decide_eq_true d3
        clear HA HKK HO2
        go_wp2_with fail
        go_ret
        exact ⟨rfl, HBz.out⟩
      have t6 : decide (of < 0) = false := decide_eq_false d3
      by_cases d4 : 2 < of
      · have t7 : decide (2 < of) = true := decide_eq_true d4
        clear HA HKK HO2
        go_wp2_with fail
        go_ret
        exact ⟨rfl, HBz.out⟩
      have t7 : decide (2 < of) = false := decide_eq_false d4
      have HPO := Lib.hid (HA.out (HO2.out (by omega)))
      clear d3 d4 HA HO2
      have E3' := E3 z2
      clear E1 E2 E3 E5
      go_wp2_with (first | (go_at_call 26; (with_reducible refine (HTo.out _).mono ?_); rintro e w3 ⟨rfl, z3, rfl⟩))
      go_roundw
      case rel => exact ⟨k + 1, by omega, by go_num, by rw [HSN.out], HPO, z3, rfl⟩
      case measure => simp [intOf]; omega
    · have i4 : decide ((k : Int) < (l.length : Int)) = false := decide_eq_false (by omega)
      obtain rfl : k = l.length := by omega
      rw [List.take_length] at hall
      rw [List.take_length]
      have H3 := und_three HRQ.out (offs ps) hall.out
      have HU := Lib.hid (fun (o : Int) (u : BelW V) => bel_of (x := u) (under_any A B c cb l ps b0 b1 b2 b4 b5 b6 b7 b8 b9 b10 o (by omega) hpn HG.out HF.out.1 u.w (HQ.out.bel u) (HP.out.below (Nat.le_refl _) u.2)))
      have C0 := Lib.hid (HU.out 0)
      have C1 := Lib.hid (HU.out 1)
      have C2 := Lib.hid (HU.out 2)
      have n0 := und_bd HRQ.out (offs ps) 0
      have n1 := und_bd HRQ.out (offs ps) 1
      have n2 := und_bd HRQ.out (offs ps) 2
      obtain ⟨U0, h0⟩ : ∃ x, undK (offs ps) 0 (keys l) = x := ⟨_, rfl⟩
      obtain ⟨U1, h1⟩ : ∃ x, undK (offs ps) 1 (keys l) = x := ⟨_, rfl⟩
      obtain ⟨U2, h2⟩ : ∃ x, undK (offs ps) 2 (keys l) = x := ⟨_, rfl⟩
      obtain ⟨S, hS⟩ : ∃ x, wtA (keys l) = x := ⟨_, rfl⟩
      rw [h0] at C0 n0 H3
      rw [h1] at C1 n1 H3
      rw [h2] at C2 n2 H3
      rw [hS] at H3 ⊢
      have w1' : IntKind.i64.wrap (U0 + U1) = U0 + U1 := IntWalk.i64_in _ (by omega)
      have w2' : IntKind.i64.wrap (U0 + U1 + U2) = U0 + U1 + U2 := IntWalk.i64_in _ (by omega)
      have w3' : ((U0 + U1 + U2) != S) = false := bne_eq_false_iff_eq.2 H3
      clear h0 h1 h2 hS n0 n1 n2 H3 hall hk hlt
      go_upto_region 14 with fail
      refine wp_region_belx (by kernel_rfl) (by kernel_rfl) ?_
      repeat (first
        | (with_reducible refine wpQuiet_load_g 31 _ (by with_reducible rfl) _ _ (by with_unfolding_all rfl) (by with_unfolding_all rfl) _ _ (rangeX HBX.out) Try.underlying31 (by with_unfolding_all rfl) (by kernel_rfl) ?_; simp only [Act.put, List.setIfInBounds_toArray, List.set_cons_succ, List.set_cons_zero])
        | go_big_quiet_step ((go_at_call 15; with_reducible first | exact C0.out _ | exact C1.out _ | exact C2.out _)))
      refine wpQuiet_nil ?_
      intro z
      have CT := Lib.hid (right_any C cc p (O : Int) hCn z.w (HC.out.below (Nat.le_refl _) z.2))
      clear w1' w2' C0 C1 C2
      go_wp2_with fail
      refine CT.out.mono ?_
      rintro e w3 ⟨rfl, hb3⟩
      have hb3V := below_next z.2 hb3
      obtain ⟨y3, rfl⟩ : ∃ y : BelW V, w3 = y.w := ⟨⟨w3, hb3V⟩, rfl⟩
      have HB3 := Lib.hid (below_next HB0.out y3.2)
      clear CT hb3 hb3V
      cases hrf : rightF p (O : Int)
      · go_wp2_with fail
        go_ret
        exact ⟨rfl, HB3.out⟩
      have hpr := (rightF_nat (by omega)).1 hrf
      by_cases d1 : pp < 0
      · have t4 : decide (pp < 0) = true := decide_eq_true d1
        go_wp2_with fail
        go_ret
        exact ⟨rfl, HB3.out⟩
      have t4 : decide (pp < 0) = false := decide_eq_false d1
      obtain ⟨j, rfl⟩ := Int.eq_ofNat_of_zero_le (show 0 ≤ pp by omega)
      by_cases d2 : j < ps.length
      case neg =>
        have d2n : ps.length ≤ j := by omega
        have t5 : decide ((ps.length : Int) ≤ (j : Int)) = true := decide_eq_true (by omega)
        have R3 := r3 y3
        go_wp2_with fail
        go_ret
        exact ⟨rfl, HB3.out⟩
      have t5 : decide ((ps.length : Int) ≤ (j : Int)) = false := decide_eq_false (by omega)
      have t5n : decide (ps.length ≤ j) = false := decide_eq_false (by omega)
      have q1 : (0 : Int) ≤ (j : Int) := by omega
      have q2 : (j : Int) < (ps.length : Int) := by omega
      have hpl6 : p.length ≤ 6 := by rw [hpr.1]; exact hO
      have CP := Lib.hid (pushn_any A C c cc l p 5 (j : Int) (by omega) (by omega) HF.out.2.1 HF.out.2.2.1 hlc HF.out.1 (by unfold Fit; omega) HF.out.2.2.2.2 HF.out.2.2.2.1 y3.w (HQ.out.bel y3) (HC.out.below (Nat.le_refl _) y3.2))
      have HPR := Lib.hid hpr.2
      have R3 := r3 y3
      clear hpr d1 hrf
      go_wp2_with fail
      refine CP.out.mono ?_
      rintro e w4 ⟨A5, c5, L, rfl, hk5, ho5, hA5, hl5, hQ5, hb4⟩
      have hL : L.length ≤ 21 := by
        have := pushK_le (keys l) 5 (j : Int) p
        rw [← hk5, keys_length, keys_length] at this
        omega
      have hLP : ∀ x ∈ L, x.part.length ≤ 1000 := fun x hx => by
        have h1 : x.key ∈ keys L := List.mem_map_of_mem hx
        rw [hk5] at h1
        unfold pushK at h1
        have old : x.key ∈ keys l → x.part.length ≤ 1000 := fun h1 => by
          obtain ⟨z, hz, e⟩ := List.mem_map.1 h1
          have e2 : z.part = x.part := congrArg (fun k : Int × Int × List Int => k.2.2) e
          rw [← e2]; exact HG.out z hz
        split at h1
        · rcases List.mem_append.1 h1 with h1 | h1
          · exact old h1
          · have e2 : x.part = p := congrArg (fun k : Int × Int × List Int => k.2.2) (List.mem_singleton.1 h1)
            rw [e2]; omega
        · exact old h1
      have hb4V := below_next y3.2 hb4
      have HW4 := Lib.hid hb4V
      have HPU := Lib.hid (fun o => und_push (t := 5) HRQ.out (offs ps) o (by rw [offs_length]; exact d2) HPR.out)
      have HTA := Lib.hid (tot_any HPR.out)
      have H5 := Lib.hid (And.intro hk5 (And.intro ho5 (And.intro hQ5 hLP)))
      clear hk5 ho5 hA5 hl5 hQ5 hb4 hLP CP R3 HU
      go_upto_region 20 with fail
      refine wp_rebase w4 (fun U hU z0 => ?_)
      have HWU := Lib.hid (show Below V.heap.size V U by rw [hU]; exact HW4.out)
      have HQU := Lib.hid (show Qu U A5 L by rw [hU]; exact H5.out.2.2.1)
      have HQV := Lib.hid (HQ.out.below (Nat.le_refl _) HWU.out)
      have HPV := Lib.hid (HP.out.below (Nat.le_refl _) HWU.out)
      have HCV := Lib.hid (HC.out.below (Nat.le_refl _) HWU.out)
      have HRG := Lib.hid (show U.rangeAt w.heap.size 0 [b0, b1, b2, .slice B ps.length cb, b4, b5, b6, b7, b8, b9, b10] from BelW.range HBX.out ⟨U, HWU.out⟩)
      have hr3 : U.cell? ⟨w.heap.size, 3, none⟩ = some (.slice B ps.length cb) := r3 ⟨U, HWU.out⟩
      have R3 := fun y : BelW U => BelW.cells hr3 y
      have CL := Lib.hid (fun (o : Int) (u : BelW U) => bel_of (x := u) (under_any A B c cb l ps b0 b1 b2 b4 b5 b6 b7 b8 b9 b10 o (by omega) hpn HG.out HF.out.1 u.w (HQV.out.bel u) (HPV.out.below (Nat.le_refl _) u.2)))
      have CN := Lib.hid (fun (o : Int) (u : BelW U) => bel_of (x := u) (under_any A5 B c5 cb L ps b0 b1 b2 b4 b5 b6 b7 b8 b9 b10 o (by omega) hpn H5.out.2.2.2 H5.out.2.1 u.w (HQU.out.bel u) (HPV.out.below (Nat.le_refl _) u.2)))
      rw [H5.out.1] at CN
      obtain ⟨bd, hbd, _, e5⟩ := rd_office HPV.out d2
      cases hbd
      obtain ⟨of, hof⟩ : ∃ x, gi (offs ps) j = x := ⟨_, rfl⟩
      rw [hof] at e5 HPU
      have E5 := fun z : BelW U => BelW.cells e5 z
      have CTT := Lib.hid (fun u : BelW U => bel_of (x := u) (total_any C cc p hCn HF.out.2.2.2.1 u.w (HCV.out.below (Nat.le_refl _) u.2)))
      obtain ⟨T, hT⟩ : ∃ x, tot p p.length = x := ⟨_, rfl⟩
      rw [hT] at CTT HPU HTA
      clear hU r3 hr3 hof hT e5
      go_loopw [16] (fun s16 wr => UoR U s16 wr) (fun i _ => (4 - intOf i).toNat)
      case atStart => exact ⟨0, -1, by omega, rfl, rfl, z0, rfl⟩
      case round =>
        obtain ⟨k, oo, hk, hoo, rfl, y, rfl⟩ := hrel
        by_cases hlt : k < 5
        · have i5 : decide (oo < 4) = true := decide_eq_true (by omega)
          have HB4 := Lib.hid (And.intro hlt hoo)
          have wO : IntKind.i64.wrap (oo + 1) = oo + 1 := IntWalk.i64_in _ (by omega)
          have K1 := Lib.hid (CL.out oo)
          have K2 := Lib.hid (CN.out oo)
          have e := HPU.out oo
          have n1 := und_bd HRQ.out (offs ps) oo
          have nT := HTA.out
          obtain ⟨U1, h1⟩ : ∃ x, undK (offs ps) oo (keys l) = x := ⟨_, rfl⟩
          obtain ⟨U2, h2⟩ : ∃ x, undK (offs ps) oo (pushK (keys l) 5 (j : Int) p) = x := ⟨_, rfl⟩
          rw [h1] at K1 e n1
          rw [h2] at K2 e
          by_cases d3 : of = oo
          · rw [if_pos d3] at e
            have HE := Lib.hid e
            have wA : IntKind.i64.wrap (U1 + T) = U1 + T := IntWalk.i64_in _ (by omega)
            have wB : (U2 != U1 + T) = false := bne_eq_false_iff_eq.2 e
            have t7 : (of == oo) = true := beq_iff_eq.2 d3
            have R3y := R3 y
            have E5y := E5 y
            clear h1 h2 e n1 nT hoo hk hlt
            subst d3
            go_upto_region 24 with fail
            go_wp2_with (first | (go_at_call 26; (with_reducible refine (CTT.out _).mono ?_); rintro e w5 ⟨rfl, z5, rfl⟩))
            refine wp_region_belx (by kernel_rfl) (by kernel_rfl) ?_
            repeat (first
              | (with_reducible refine wpQuiet_load_g 31 _ (by with_reducible rfl) _ _ (by with_unfolding_all rfl) (by with_unfolding_all rfl) _ _ (rangeX HRG.out) Try.underlying31 (by with_unfolding_all rfl) (by kernel_rfl) ?_; simp only [Act.put, List.setIfInBounds_toArray, List.set_cons_succ, List.set_cons_zero])
              | go_big_quiet_step ((go_at_call 15; with_reducible first | exact K1.out _ | exact K2.out _)))
            refine wpQuiet_nil ?_
            intro z
            go_wp2_with fail
            go_roundw
            case rel => exact ⟨k + 1, of + 1, by have := HB4.out; omega, by have := HB4.out; omega, rfl, z, rfl⟩
            case measure => simp [intOf]; have := HB4.out; omega
          · rw [if_neg d3, Int.add_zero] at e
            have wA : IntKind.i64.wrap (U1 + 0) = U1 := by rw [Int.add_zero]; exact IntWalk.i64_in _ (by omega)
            have wB : IntKind.i64.wrap U1 = U1 := IntWalk.i64_in _ (by omega)
            have wC : (U1 != U1) = false := bne_eq_false_iff_eq.2 rfl
            have t7 : (of == oo) = false := beq_eq_false_iff_ne.2 d3
            rw [e] at K2
            have R3y := R3 y
            have E5y := E5 y
            clear h1 h2 e n1 nT hoo hk hlt d3
            go_upto_region 25 with fail
            refine wp_region_belx (by kernel_rfl) (by kernel_rfl) ?_
            repeat (first
              | (with_reducible refine wpQuiet_load_g 31 _ (by with_reducible rfl) _ _ (by with_unfolding_all rfl) (by with_unfolding_all rfl) _ _ (rangeX HRG.out) Try.underlying31 (by with_unfolding_all rfl) (by kernel_rfl) ?_; simp only [Act.put, List.setIfInBounds_toArray, List.set_cons_succ, List.set_cons_zero])
              | go_big_quiet_step ((go_at_call 15; with_reducible first | exact K1.out _ | exact K2.out _)))
            refine wpQuiet_nil ?_
            intro z
            go_wp2_with fail
            go_roundw
            case rel => exact ⟨k + 1, oo + 1, by have := HB4.out; omega, by have := HB4.out; omega, rfl, z, rfl⟩
            case measure => simp [intOf]; have := HB4.out; omega
        · have i5 : decide (oo < 4) = false := decide_eq_false (by omega)
          have HX := Lib.hid (below_next HB0.out (below_next HWU.out y.2))
          go_wp2_with fail
          go_ret
          exact ⟨rfl, HX.out⟩

end Go.Proofs.Ythbjechgdjcogaa
