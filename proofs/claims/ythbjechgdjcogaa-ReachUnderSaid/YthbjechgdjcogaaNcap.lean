/- Due and Push, whatever the capacity. -/
import Derived.Test.YthbjechgdjcogaaDue
import Derived.Deep.RegionLawGrows
namespace Go.Proofs.Ythbjechgdjcogaa
open Go.RowKit
set_option linter.unusedVariables false
set_option linter.unusedSimpArgs false

set_option maxHeartbeats 8000000 in
set_option maxRecDepth 100000 in
theorem pushn_any (A B : Option Addr) (c cb : Nat) (l : List Ld) (p : List Int) (t pl : Int) (hln : l.length ≤ 1000) (hpn : p.length ≤ 1000) (hA : A = none → c = 0) (hB : B = none → cb = 0) (hlc : l.length ≤ c) (hok : QOk l)
    (ht : Fit t) (hpl : Fit pl) (hfp : ∀ i, i < p.length → Fit (gi p i)) (w : World) (hq : Qu w A l) (hp : Rd w B (ints p)) :
    Calls Try.prog 13 #[.slice A l.length c, .int .i64 t, .int .i64 pl, .slice B p.length cb] w (QPost (pushK (keys l) t pl p) w) := by
  obtain ⟨i0, hi0, hz0, hz1, hz2⟩ := info_parts info_load
  have INF := Lib.hid (And.intro hi0 (And.intro hz0 (And.intro hz1 hz2)))
  have s1 : (0 : Int) ≤ (l.length : Int) := by omega
  have s2 : (l.length : Int) ≤ (c : Int) := by omega
  have hA0 : A = none → l = [] := fun h => by
    cases l with
    | nil => rfl
    | cons x l => obtain ⟨ad, e, _⟩ := hq.rd (by rw [ldCells_length]; simp); rw [h] at e; cases e
  have HA := Lib.hid (And.intro hA hA0)
  have HQ := Lib.hid hq
  have HP := Lib.hid hp
  have HO := Lib.hid hok
  have HF := Lib.hid (And.intro ht (And.intro hpl hfp))
  have HAA := Lib.hid (show A = none → l.length = 0 from fun h => by rw [hA0 h]; rfl)
  have C1 := Lib.hid (contains_any B cb p (by omega) w hp)
  have HBn := Lib.hid hB
  clear hA hA0 hB hq hp hok ht hpl hfp hi0 hz0 hz1 hz2
  have HNO := Lib.hid (show ∀ w', Below w.heap.size w w' → pushK (keys l) t pl p = keys l → QPost (pushK (keys l) t pl p) w (.returned (.slice A l.length l.length)) w' from fun w' hb e => ⟨A, l.length, l, rfl, e.symm, HO.out, fun h => HAA.out h, Nat.le_refl _, HQ.out.below (Nat.le_refl _) hb, hb⟩)
  obtain ⟨K, hK⟩ : ∃ K, pushK (keys l) t pl p = K := ⟨_, rfl⟩
  rw [hK] at HNO ⊢
  by_cases h0 : pl < 0
  · have t0 : decide (pl < 0) = true := decide_eq_true h0
    have HX := Lib.hid (HNO.out w (Below.refl _ _) (by rw [← hK]; unfold pushK; rw [if_neg (by omega)]))
    clear HNO hK h0 C1
    go_enter Try.func13, Try.ntmps13
    go_wp2_with fail
    go_ret
    exact HX.out
  have t0 : decide (pl < 0) = false := decide_eq_false h0
  cases hb : anyB p
  · rw [hb] at C1
    have HX := Lib.hid (fun w' h => HNO.out w' h (by rw [← hK]; unfold pushK; rw [if_neg (fun h => by rw [hb] at h; exact absurd h.2 Bool.false_ne_true)]))
    clear HNO hK h0 hb
    go_enter Try.func13, Try.ntmps13
    go_upto_region 3 with (first | (go_at_call 30; with_reducible refine C1.out.mono ?_; rintro e w1 ⟨rfl, hb1⟩))
    have HB1 := Lib.hid hb1
    clear hb1
    go_wp2_with fail
    go_ret
    exact HX.out _ HB1.out
  · rw [hb] at C1
    have HKK := Lib.hid (show keys l ++ [(t, pl, p)] = K by rw [← hK]; unfold pushK; rw [if_pos ⟨by omega, hb⟩])
    clear HNO hK h0 hb
    go_enter Try.func13, Try.ntmps13
    go_upto_region 4 with (first | (go_at_call 30; with_reducible refine C1.out.mono ?_; rintro e w1 ⟨rfl, hb1⟩))
    have HB1 := Lib.hid hb1
    have HCl := Lib.hid (clone_any B cb p p.length rfl HBn.out (by omega) w1 (HP.out.below (Nat.le_refl _) hb1))
    clear hb1 C1
    go_wp2_with fail
    refine HCl.out.mono ?_
    rintro e w2 ⟨A2, c2, rfl, hA2, hc2, _, hr2, hb2⟩
    have HB2 := Lib.hid (below_next HB1.out hb2)
    have HR2 := Lib.hid (And.intro hA2 hr2)
    clear hA2 hc2 hr2 hb2 HCl
    go_wp2_with (first | (at_builtin; refine wpList_append_grows _ rfl _ _ _ (by rfl) 53 i0 _ 3 40 Try.underlying32 INF.out.1 INF.out.2.1 INF.out.2.2.1 INF.out.2.2.2 rfl (by omega) A l.length l.length (ldCells l) (by rfl) (fun h => ⟨HAA.out h, HAA.out h⟩) (ldCells_length l) ((HQ.out.rd.below (Nat.le_refl _) HB2.out).alloc _).holds ⟨w2.heap.size, 0, none⟩ 1 1 [.int .i64 t, .int .i64 pl, .slice A2 p.length c2] (by rfl) (by rfl) (World.news_of_block (heap_alloc_new _ _)) (by simp [Value.oneCell']) (by omega) (by unfold maxLen; omega) (by omega) ?_))
    intro v w3 hown hgrow
    have hb3 : Below w.heap.size w w3 := below_grown (bel_alloc HB2.out _) hgrow (fun k hk => by cases hk)
    have hb23 : Below w2.heap.size w2 w3 := below_grown (bel_alloc (Below.refl _ _) _) hgrow (fun k hk => by cases hk)
    obtain ⟨g, cap, rfl, hcap, _, _, _, hrd⟩ := own_rd2 hown (by omega)
    have hfin : QPost K w (.returned (.slice (some ⟨g, 0, none⟩) (l.length + 1) cap)) w3 := by
      refine ⟨some ⟨g, 0, none⟩, cap, l ++ [⟨t, pl, A2, c2, p⟩], by simp, by rw [keys_snoc, ← HKK.out]; rfl, HO.out.snoc ⟨⟨HF.out.1, HF.out.2.1, by show p.length ≤ maxLen; unfold maxLen; omega, HF.out.2.2⟩, HR2.out.1⟩, (fun h => by cases h), by simpa using hcap, ?_, hb3⟩
      exact Qu.snoc hrd (fun y hy => (HQ.out.parts y hy).below (Nat.le_refl _) hb3) (HR2.out.2.below (Nat.le_refl _) hb23)
    have HX := Lib.hid hfin
    clear hown hgrow hb3 hb23 hrd hfin
    go_wp2_with fail
    go_ret
    exact HX.out


set_option maxHeartbeats 16000000 in
set_option maxRecDepth 100000 in
theorem duen_any (A : Option Addr) (c : Nat) (l : List Ld) (h pp oo : Int) (hln : l.length ≤ 1000) (hpn : ∀ x ∈ l, x.part.length ≤ 1000) (hA : A = none → c = 0) (hlc : l.length ≤ c) (hok : QOk l)
    (P O : Nat) (hP : Xa.clamp pp 0 64 = (P : Int)) (hO : Xa.clamp oo 0 16 = (O : Int)) (w : World) (hq : Qu w A l) :
    Calls Try.prog 17 #[.slice A l.length c, .int .i64 h, .int .i64 pp, .int .i64 oo] w (DuePost O P h (P : Int) (keys l) w) := by
  obtain ⟨i0, hi0, hz0, hz1, hz2⟩ := info_parts info_int2
  obtain ⟨i1, hj0, hj1, hj2, hj3⟩ := info_parts info_ints
  obtain ⟨i2, hk0, hk1, hk2, hk3⟩ := info_parts info_load
  have INF2 := Lib.hid (And.intro hk0 (And.intro hk1 (And.intro hk2 hk3)))
  have hPn : P ≤ 64 := by unfold Xa.clamp at hP; split at hP <;> (try split at hP) <;> omega
  have hOn : O ≤ 16 := by unfold Xa.clamp at hO; split at hO <;> (try split at hO) <;> omega
  have INF := Lib.hid (And.intro hi0 (And.intro hz0 (And.intro hz1 (And.intro (show i0.bytes * O ≤ 281474976710656 by rw [hz2]; omega) (show O ≤ maxLen by unfold maxLen; omega)))))
  have INF1 := Lib.hid (And.intro hj0 (And.intro hj1 (And.intro hj2 (And.intro (show i1.bytes * P ≤ 281474976710656 by rw [hj3]; omega) (show P ≤ maxLen by unfold maxLen; omega)))))
  have s1 : (0 : Int) ≤ (l.length : Int) := by omega
  have s2 : (l.length : Int) ≤ (c : Int) := by omega
  have HA := Lib.hid hA
  have HQ := Lib.hid hq
  have HO := Lib.hid hok
  have HPN := Lib.hid hpn
  have C1 := Lib.hid (clamp_any pp 0 64 w)
  rw [hP] at C1
  have C2 := Lib.hid (clamp_any oo 0 16 w)
  rw [hO] at C2
  clear hA hq hok hpn hP hO hi0 hz0 hz1 hz2 hj0 hj1 hj2 hj3 hk0 hk1 hk2 hk3
  go_enter Try.func17, Try.ntmps17
  go_upto_region 3 with (first | (go_at_call 36; with_reducible refine C1.out.mono ?_; rintro e w' ⟨rfl, rfl⟩) | (go_at_call 36; with_reducible refine C2.out.mono ?_; rintro e w' ⟨rfl, rfl⟩))
  go_wp2_with (first | (at_make; refine wpList_make_full _ rfl _ _ 44 rfl w.heap.size 29 i1 (.slice none 0 0) 1 Try.underlying44 INF1.out.1 INF1.out.2.1 INF1.out.2.2.1 _ _ _ _ P (by rfl) (by rfl) (by rfl) (by rfl) INF1.out.2.2.2.1 INF1.out.2.2.2.2 (Nat.le_refl _) ?_))
  intro w1 hown1 hg1
  have HM1 := Lib.hid (show DuM w w.heap.size P (List.replicate P ⟨none, 0, []⟩) w1 from ⟨below_grown (Below.refl w.heap.size w) hg1 (fun k hk => by cases hk), by rw [← rwCells_none]; exact hown1, fun x hx => by rw [(List.mem_replicate.1 hx).2]; exact World.ownsRow_nil _ _ _ _⟩)
  clear hown1 hg1
  go_wp2_with fail
  go_loopw [21] (fun s21 wr => DuA w w.heap.size P O s21 wr) (fun i _ => P - (intOf i).toNat)
  case atStart => exact ⟨0, _, by omega, rfl, HM1.out, fun i _ hi => absurd hi (Nat.not_lt_zero _)⟩
  case round =>
    obtain ⟨k, rows, hk, rfl, hM, hr⟩ := hrel
    by_cases hlt : k < P
    · have i3 : decide ((k : Int) < (P : Int)) = true := decide_eq_true (by omega)
      have j1 : (0 : Int) ≤ (k : Int) := by omega
      have j2 : (k : Int) < (P : Int) := by omega
      have HM := Lib.hid hM
      have HR := Lib.hid hr
      clear hM hr
      go_upto_region 7 with fail
      go_wp2_with (first | (at_make; refine wpList_make_full _ rfl _ _ 29 rfl wr.heap.size 3 i0 (.int .i64 0) 1 Try.underlying29 INF.out.1 INF.out.2.1 INF.out.2.2.1 _ _ _ _ O (by rfl) (by rfl) (by rfl) (by rfl) INF.out.2.2.2.1 INF.out.2.2.2.2 (Nat.le_refl _) ?_))
      intro w2 hown2 hg2
      have hb2 : Below wr.heap.size wr w2 := below_grown (Below.refl _ _) hg2 (fun k hk => by cases hk)
      have hI := (ir_made2 hown2).base HM.out.bel.size
      have hM2 := HM.out.next hb2
      have hk' : k < rows.length := by rw [hM2.len]; exact hlt
      have hc := hM2.at hk'
      have hM3 := hM2.store k ⟨some ⟨wr.heap.size, 0, none⟩, O, gl O fun _ => 0⟩ (by unfold ownI; rw [gl_length]; exact hI)
      have HX := Lib.hid (show DuM w w.heap.size P (rows.set k ⟨some ⟨wr.heap.size, 0, none⟩, O, gl O fun _ => 0⟩) (w2.setCell ⟨w.heap.size, k, none⟩ (.slice (some ⟨wr.heap.size, 0, none⟩) O O)) by have := hM3; simp only [rwc, gl_length] at this; exact this)
      have HR2 := Lib.hid (show ∀ i (hi : i < (rows.set k ⟨some ⟨wr.heap.size, 0, none⟩, O, gl O fun _ => 0⟩).length), i < k + 1 → ((rows.set k ⟨some ⟨wr.heap.size, 0, none⟩, O, gl O fun _ => 0⟩)[i]).part = gl O fun _ => 0 from fun i hi hik => by
        rw [List.getElem_set]
        split
        · rfl
        · exact HR.out i (by simpa using hi) (by omega))
      obtain ⟨c1, f1⟩ := hc
      obtain ⟨rv, hrv⟩ : ∃ rv, rwc rows[k] = rv := ⟨_, rfl⟩
      rw [hrv] at c1
      clear hown2 hg2 hb2 hI hM2 hM3 hrv hk' HR HM
      go_wp2_with fail
      go_roundw
      case rel => exact ⟨k + 1, _, by omega, by go_num, HX.out, HR2.out⟩
      case measure => simp [intOf]; omega
    · have i3 : decide ((k : Int) < (P : Int)) = false := decide_eq_false (by omega)
      obtain rfl : P = k := by omega
      have HM := Lib.hid hM
      have HR := Lib.hid (show parts rows = (List.range P).map (fun pl => rowK O h (P : Int) pl (keys (l.take 0))) by
        refine List.ext_getElem (by simp [parts, hM.len]) fun i h1 h2 => ?_
        simp only [parts, List.getElem_map, List.getElem_range, List.take_zero]
        rw [hr i (by simpa [parts] using h1) (by have := hM.len; simp [parts] at h1; omega)]
        rfl)
      clear hM hr HM1 hk
      have HPK := Lib.hid hPn
      go_wp2_with fail
      go_loopw [9, 34] (fun s9 s34 wr => DuB w A w.heap.size P O h l s9 s34 wr) (fun _ i _ => l.length - (intOf i).toNat)
      case atStart => exact ⟨0, rows, [], by omega, rfl, HM.out, HR.out, ⟨.inl ⟨rfl, rfl⟩, fun x hx => by cases hx⟩, rfl, fun x hx => by cases hx⟩
      case round =>
        clear HM HR
        obtain ⟨k, rows, m, hk, rfl, hM, hR, hRe, hK, hQo⟩ := hrel
        by_cases hlt : k < l.length
        · have i4 : decide ((k : Int) < (l.length : Int)) = true := decide_eq_true (by omega)
          have j1 : (0 : Int) ≤ (k : Int) := by omega
          have j2 : (k : Int) < (l.length : Int) := by omega
          obtain ⟨ad, rfl, hadb, e1, e2, e3, e4⟩ := (HQ.out.below (Nat.le_refl _) hM.bel).at hlt
          have HL := Lib.hid (And.intro (HO.out _ (List.getElem_mem hlt)) (HPN.out _ (List.getElem_mem hlt)))
          have HKK := Lib.hid (keys_take hlt)
          have hkey : (l[k]).key = ((l[k]).hr, (l[k]).pl, (l[k]).part) := rfl
          rw [hkey] at HKK
          clear hkey
          obtain ⟨hr, hhr⟩ : ∃ x, (l[k]).hr = x := ⟨_, rfl⟩
          obtain ⟨pl, hpl⟩ : ∃ x, (l[k]).pl = x := ⟨_, rfl⟩
          obtain ⟨pt, hpt⟩ : ∃ x, (l[k]).part = x := ⟨_, rfl⟩
          obtain ⟨PA, hPA⟩ : ∃ x, (l[k]).A = x := ⟨_, rfl⟩
          obtain ⟨pc, hpc⟩ : ∃ x, (l[k]).c = x := ⟨_, rfl⟩
          obtain ⟨⟨⟨f1, f2, f3, f4⟩, f5⟩, f6⟩ := HL.out
          rw [hhr] at e1 HKK f1
          rw [hpl] at e2 HKK f2
          rw [hpt, hPA, hpc] at e3
          rw [hpt, hPA] at e4
          rw [hpt] at HKK f3 f4 f6
          rw [hPA, hpc] at f5
          have HF := Lib.hid (And.intro f1 (And.intro f2 (And.intro f3 (And.intro f4 (And.intro f5 f6)))))
          have HM := Lib.hid hM
          have HR := Lib.hid hR
          have HRe := Lib.hid hRe
          have HK := Lib.hid (And.intro hK hQo)
          have HE := Lib.hid e4
          clear hM hR hRe hK hQo e4 f1 f2 f3 f4 f5 f6 hhr hpl hpt hPA hpc HL hadb
          go_upto_region 13 with fail
          refine wp_named _ (fun U hU => ?_)
          have hbU : Below wr.heap.size wr U := by rw [hU]; exact bel_alloc (Below.refl _ _) _
          have c0 : U.cell? ⟨wr.heap.size, 0, none⟩ = some (.int .i64 hr) := by rw [hU, World.cell?_alloc_at _ _ _ _ rfl]; rfl
          have c1 : U.cell? ⟨wr.heap.size, 1, none⟩ = some (.int .i64 pl) := by rw [hU, World.cell?_alloc_at _ _ _ _ rfl]; rfl
          have c2 : U.cell? ⟨wr.heap.size, 2, none⟩ = some (.slice PA pt.length pc) := by rw [hU, World.cell?_alloc_at _ _ _ _ rfl]; rfl
          have hsz : wr.heap.size < U.heap.size := by rw [hU, World.size_alloc]; omega
          have HMU := Lib.hid (HM.out.next hbU)
          have HReU := Lib.hid (HRe.out.next hbU)
          have HEU := Lib.hid (HE.out.below (Nat.le_refl _) hbU)
          have HCl := Lib.hid (fun (u : World) (hu : Below U.heap.size U u) => clone_any PA pc pt pt.length rfl HF.out.2.2.2.2.1 HF.out.2.2.2.2.2 u (HEU.out.below (Nat.le_refl _) hu))
          have HW := Lib.hid (show ∀ v : Value, wr.ownsRow w.heap.size 53 3 v m.length (ldCells m) → some wr.heap.size ≠ v.ownBlock from fun v ho he => by have := (ho.lt _ he.symm).2; omega)
          have HRW := Lib.hid HRe.out.top
          have HUd := Lib.hid (show Below U.heap.size U U.drew from (Below.refl _ _).drew)
          clear hU HE HM HRe
          by_cases hd : dueB h (P : Int) (hr, pl, pt) = true
          · have hdd := hd
            simp only [dueB, Bool.and_eq_true, decide_eq_true_eq] at hdd
            obtain ⟨⟨d1, d2⟩, d3⟩ := hdd
            obtain ⟨j, rfl⟩ := Int.eq_ofNat_of_zero_le d2
            have t1 : decide (hr ≤ h) = true := decide_eq_true d1
            have t2 : decide ((0 : Int) ≤ (j : Int)) = true := decide_eq_true d2
            have t3 : decide ((j : Int) < (P : Int)) = true := decide_eq_true d3
            have jP : j < P := by omega
            have jr : j < rows.length := by rw [HMU.out.len]; exact jP
            have hrow : (rows[j]).part = rowK O h (P : Int) j (keys (l.take k)) := by
              have e : (parts rows)[j]? = ((List.range P).map (fun pl => rowK O h (P : Int) pl (keys (l.take k))))[j]? := by rw [HR.out]
              simpa [parts, jr, jP] using e
            have hat := HMU.out.at jr
            have hown := HMU.out.rows _ (List.getElem_mem jr)
            obtain ⟨RA, hRA⟩ : ∃ x, (rows[j]).A = x := ⟨_, rfl⟩
            obtain ⟨rc, hrc⟩ : ∃ x, (rows[j]).c = x := ⟨_, rfl⟩
            obtain ⟨rp, hrp⟩ : ∃ x, (rows[j]).part = x := ⟨_, rfl⟩
            rw [hrp] at hrow
            rw [hRA, hrc, hrp] at hown
            have e9 : rwc rows[j] = .slice RA rp.length rc := by unfold rwc; rw [hRA, hrc, hrp]
            rw [e9] at hat
            have rpl : rp.length ≤ 1000 := by
              rw [hrow]
              refine rowK_len (by omega) _ fun x hx => ?_
              obtain ⟨y, hy, rfl⟩ := List.mem_map.1 hx
              exact HPN.out y (List.mem_of_mem_take hy)
            obtain ⟨n, hn⟩ : ∃ n, max rp.length pt.length = n := ⟨_, rfl⟩
            have hn1 : n ≤ 1000 := by have := HF.out.2.2.2.2.2; omega
            have HCa := Lib.hid (fun (u : World) (hu : Below U.heap.size U u) => padd_any RA PA rc pc rp pt rp.length pt.length n rfl rfl hn hn1 (fun i _ => by rw [hrow]; exact rowK_fit _ i) HF.out.2.2.2.1 u (hown.rd.below (Nat.le_refl _) hu) (HEU.out.below (Nat.le_refl _) hu))
            obtain ⟨c3, f3⟩ := hat
            have HRp := Lib.hid (And.intro hrow (And.intro hn hd))
            have hgl : w.heap.size < U.heap.size := HMU.out.lt.2
            clear hd hrow hRA hrc hrp e9 hn d1 d2 d3 hown HRW HW HCl
            go_upto_region 14 with fail
            refine wp_region_tail 11 (fun w' => w'.cell? ⟨wr.heap.size, 1, none⟩ = some (.int .i64 (j : Int)) ∧ w'.cell? ⟨wr.heap.size, 2, none⟩ = some (.slice PA pt.length pc) ∧ w'.cell? ⟨w.heap.size, j, none⟩ = some (.slice RA rp.length rc)) (by kernel_rfl) (by kernel_rfl) ⟨c1, c2, c3⟩ ?_
            refine wpK_take (i := 0) (v := ?v0) (by kernel_rfl) rfl (by omega) (by kernel_rfl) (by kernel_rfl) (fun _ _ _ h => h) (Or.inl ⟨by rfl, ?y0⟩) ⟨c1, c2, c3⟩ ?_
            case y0 => intro w' hS; obtain ⟨k1, k2, k3⟩ := hS; (go_simp <;> with_reducible rfl)
            simp only [Act.put, List.setIfInBounds_toArray, List.set_cons_zero, List.set_cons_succ]
            refine wpK_take (i := 1) (v := ?v1) (by kernel_rfl) rfl (by omega) (by kernel_rfl) (by kernel_rfl) (fun _ _ _ h => h) (Or.inl ⟨by rfl, ?y1⟩) ⟨c1, c2, c3⟩ ?_
            case y1 => intro w' hS; obtain ⟨k1, k2, k3⟩ := hS; (go_simp <;> with_reducible rfl)
            simp only [Act.put, List.setIfInBounds_toArray, List.set_cons_zero, List.set_cons_succ]
            refine wpK_take (i := 2) (v := ?v2) (by kernel_rfl) rfl (by omega) (by kernel_rfl) (by kernel_rfl) (fun _ _ _ h => h) (Or.inl ⟨by rfl, ?y2⟩) ⟨c1, c2, c3⟩ ?_
            case y2 => intro w' hS; obtain ⟨k1, k2, k3⟩ := hS; (go_simp <;> with_reducible rfl)
            simp only [Act.put, List.setIfInBounds_toArray, List.set_cons_zero, List.set_cons_succ]
            refine wpK_take (i := 3) (v := ?v3) (by kernel_rfl) rfl (by omega) (by kernel_rfl) (by kernel_rfl) (fun _ _ _ h => h) (Or.inl ⟨by rfl, ?y3⟩) ⟨c1, c2, c3⟩ ?_
            case y3 => intro w' hS; obtain ⟨k1, k2, k3⟩ := hS; (go_simp <;> with_reducible rfl)
            simp only [Act.put, List.setIfInBounds_toArray, List.set_cons_zero, List.set_cons_succ]
            refine wpK_take (i := 4) (v := ?v4) (by kernel_rfl) rfl (by omega) (by kernel_rfl) (by kernel_rfl) (fun _ _ _ h => h) (Or.inl ⟨by rfl, ?y4⟩) ⟨c1, c2, c3⟩ ?_
            case y4 => intro w' hS; obtain ⟨k1, k2, k3⟩ := hS; (go_simp <;> with_reducible rfl)
            simp only [Act.put, List.setIfInBounds_toArray, List.set_cons_zero, List.set_cons_succ]
            refine wpK_take (i := 5) (v := ?v5) (by kernel_rfl) rfl (by omega) (by kernel_rfl) (by kernel_rfl) (fun _ _ _ h => h) (Or.inl ⟨by rfl, ?y5⟩) ⟨c1, c2, c3⟩ ?_
            case y5 => intro w' hS; obtain ⟨k1, k2, k3⟩ := hS; (go_simp <;> with_reducible rfl)
            simp only [Act.put, List.setIfInBounds_toArray, List.set_cons_zero, List.set_cons_succ]
            refine wpK_take (i := 6) (v := ?v6) (by kernel_rfl) rfl (by omega) (by kernel_rfl) (by kernel_rfl) (fun _ _ _ h => h) (Or.inl ⟨by rfl, ?y6⟩) ⟨c1, c2, c3⟩ ?_
            case y6 => intro w' hS; obtain ⟨k1, k2, k3⟩ := hS; (go_simp <;> with_reducible rfl)
            simp only [Act.put, List.setIfInBounds_toArray, List.set_cons_zero, List.set_cons_succ]
            refine wpK_take (i := 7) (v := ?v7) (by kernel_rfl) rfl (by omega) (by kernel_rfl) (by kernel_rfl) (fun _ _ _ h => h) (Or.inl ⟨by rfl, ?y7⟩) ⟨c1, c2, c3⟩ ?_
            case y7 => intro w' hS; obtain ⟨k1, k2, k3⟩ := hS; (go_simp <;> with_reducible rfl)
            simp only [Act.put, List.setIfInBounds_toArray, List.set_cons_zero, List.set_cons_succ]
            refine wpK_take (i := 8) (v := ?v8) (by kernel_rfl) rfl (by omega) (by kernel_rfl) (by kernel_rfl) (fun _ _ _ h => h) (Or.inl ⟨by rfl, ?y8⟩) ⟨c1, c2, c3⟩ ?_
            case y8 => intro w' hS; obtain ⟨k1, k2, k3⟩ := hS; (go_simp <;> with_reducible rfl)
            simp only [Act.put, List.setIfInBounds_toArray, List.set_cons_zero, List.set_cons_succ]
            refine wpK_take (i := 9) (v := ?v9) (by kernel_rfl) rfl (by omega) (by kernel_rfl) (by kernel_rfl) (fun _ _ _ h => h) (Or.inl ⟨by rfl, ?y9⟩) ⟨c1, c2, c3⟩ ?_
            case y9 => intro w' hS; obtain ⟨k1, k2, k3⟩ := hS; (go_simp <;> with_reducible rfl)
            simp only [Act.put, List.setIfInBounds_toArray, List.set_cons_zero, List.set_cons_succ]
            refine wpK_one 10 rfl (by omega) (by kernel_rfl) ?_
            go_wp2_with fail
            refine (HCa.out _ (Below.refl _ _).drew).mono ?_
            rintro e w2 ⟨g, rfl, hI, hB⟩
            have k1 : w2.cell? ⟨wr.heap.size, 1, none⟩ = some (.int .i64 (j : Int)) := (hB.cell (p := ⟨wr.heap.size, 1, none⟩) hsz).trans c1
            have k2 : w2.cell? ⟨wr.heap.size, 2, none⟩ = some (.slice PA pt.length pc) := (hB.cell (p := ⟨wr.heap.size, 2, none⟩) hsz).trans c2
            have k3 : w2.cell? ⟨w.heap.size, j, none⟩ = some (.slice RA rp.length rc) := (hB.cell (p := ⟨w.heap.size, j, none⟩) hgl).trans c3
            have HS2 := Lib.hid (And.intro k1 (And.intro k2 k3))
            have k4 : w2.frozen? ⟨w.heap.size, j, none⟩ = false := (hB.frozen (p := ⟨w.heap.size, j, none⟩) hgl).trans f3
            have HB := Lib.hid (And.intro hI hB)
            clear hI hB
            go_wp2_with fail
            refine ⟨HS2.out, wpK_done (by kernel_rfl) ?_⟩
            simp only [List.drop_succ_cons, List.drop_zero]
            have hB2 : Below U.heap.size U w2 := below_next (Below.refl _ _).drew HB.out.2
            have hal : (addF n rp pt).length = n := gl_length _ _
            have hD3 := (HMU.out.next hB2).store j ⟨some ⟨g, 0, none⟩, n, addF n rp pt⟩ (by show w2.ownsRow _ _ _ (.slice _ (addF n rp pt).length n) (addF n rp pt).length _; rw [hal]; exact HB.out.1.base HMU.out.bel.size)
            have hR3 := (HReU.out.next hB2).store (HMU.out.next hB2) j (rwc ⟨some ⟨g, 0, none⟩, n, addF n rp pt⟩)
            have e9 : rwc ⟨some ⟨g, 0, none⟩, n, addF n rp pt⟩ = .slice (some ⟨g, 0, none⟩) n n := by unfold rwc; rw [hal]
            rw [e9] at hD3 hR3
            have hpn : parts (rows.set j ⟨some ⟨g, 0, none⟩, n, addF n rp pt⟩) = (List.range P).map (fun pl => rowK O h (P : Int) pl (keys (l.take (k + 1)))) := by
              have hP1 : (parts rows).length = P := by rw [parts_length, HMU.out.len]
              refine List.ext_getElem (by simp [parts, HMU.out.len]) fun i q1 q2 => ?_
              have hiP : i < P := by simpa using q2
              have e := HR.out
              have ei : (parts rows)[i]'(by rw [hP1]; exact hiP) = rowK O h (P : Int) i (keys (l.take k)) := by
                have e1 : (parts rows)[i]? = ((List.range P).map (fun pl => rowK O h (P : Int) pl (keys (l.take k))))[i]? := by rw [e]
                rw [List.getElem?_eq_getElem (by rw [hP1]; exact hiP)] at e1
                simpa [hiP] using e1
              simp only [parts, List.getElem_map, List.getElem_range, List.getElem_set] at ei ⊢
              rw [HKK.out, rowK_snoc]
              by_cases hji : j = i
              · subst hji
                rw [if_pos rfl, if_pos ⟨HRp.out.2.2, rfl⟩, ← HRp.out.1]
                unfold addV
                rw [HRp.out.2.1]
              · rw [if_neg hji, if_neg (fun hh => hji (by have := hh.2; simp at this; omega))]
                exact ei
            have hkn : keys m = restK h (P : Int) (keys (l.take (k + 1))) := by rw [HKK.out, restK_snoc, if_pos HRp.out.2.2]; exact HK.out.1
            have HX := Lib.hid (And.intro hD3 (And.intro hpn (And.intro hR3 hkn)))
            clear hB2 hal hD3 hR3 e9 hpn hkn k1 k2 HB
            go_wp2_with fail
            go_roundw
            case rel => exact ⟨k + 1, _, m, by omega, by go_num, HX.out.1, HX.out.2.1, HX.out.2.2.1, HX.out.2.2.2, HK.out.2⟩
            case measure => simp [intOf]; omega
          · have hd' : (hr ≤ h ∧ 0 ≤ pl ∧ ¬ pl < (P : Int)) ∨ (hr ≤ h ∧ ¬ 0 ≤ pl) ∨ ¬ hr ≤ h := by
              simp only [dueB, Bool.and_eq_true, decide_eq_true_eq] at hd
              by_cases q1 : hr ≤ h <;> by_cases q2 : 0 ≤ pl <;> by_cases q3 : pl < (P : Int) <;> simp_all
            have HD := Lib.hid (show dueB h (P : Int) (hr, pl, pt) = false by simpa using hd)
            clear hd
            have HML := Lib.hid (show m.length + 1 ≤ maxLen ∧ (m.length + 1) * 40 ≤ 140737488355328 by
              have e : (keys m).length ≤ (keys (l.take k)).length := by rw [HK.out.1]; exact restK_le _ _ _
              rw [keys_length, keys_length, List.length_take] at e
              unfold maxLen; constructor <;> omega)
            have HKN := Lib.hid (show ∀ (A2 : Option Addr) (c2 : Nat), keys (m ++ [⟨hr, pl, A2, c2, pt⟩]) = restK h (P : Int) (keys (l.take (k + 1))) from fun A2 c2 => by
              rw [HKK.out, restK_snoc, HD.out, if_neg Bool.false_ne_true, ← HK.out.1, keys_snoc]; rfl)
            have HRN := Lib.hid (show parts rows = (List.range P).map (fun pl => rowK O h (P : Int) pl (keys (l.take (k + 1)))) by
              rw [HR.out]
              refine List.map_congr_left fun i _ => ?_
              rw [HKK.out, rowK_snoc, if_neg (fun hh => by rw [HD.out] at hh; exact absurd hh.1 Bool.false_ne_true)])
            rcases HRW.out with ⟨hm0, rfl⟩ | ⟨hm0, ho9⟩
            · subst hm0
              clear HRW HW
              rcases hd' with ⟨d1, d2, d3⟩ | ⟨d1, d2⟩ | d1
              · have t1 : decide (hr ≤ h) = true := decide_eq_true d1
                have t2 : decide (0 ≤ pl) = true := decide_eq_true d2
                have t3 : decide (pl < (P : Int)) = false := decide_eq_false d3
                clear d1 d2 d3
                go_upto_region 15 with fail
                go_region_held3 (fun w' => w'.cell? ⟨wr.heap.size, 0, none⟩ = some (.int .i64 hr) ∧ w'.cell? ⟨wr.heap.size, 1, none⟩ = some (.int .i64 pl) ∧ w'.cell? ⟨wr.heap.size, 2, none⟩ = some (.slice PA pt.length pc))
                  (first | (go_split_ands; refine ⟨?_, ?_, ?_⟩ <;> assumption) | (go_split_ands; exact ⟨hgrow.cell (by assumption) (by simp), hgrow.cell (by assumption) (by simp), hgrow.cell (by assumption) (by simp)⟩) | (go_split_ands; exact ⟨cell_alloc (by assumption) _, cell_alloc (by assumption) _, cell_alloc (by assumption) _⟩) | (go_split_ands; exact ⟨(g5.cell (p := ⟨wr.heap.size, 0, none⟩) hsz).trans c0, (g5.cell (p := ⟨wr.heap.size, 1, none⟩) hsz).trans c1, (g5.cell (p := ⟨wr.heap.size, 2, none⟩) hsz).trans c2⟩))
                  (first | (go_at_call 32; (with_reducible refine (HCl.out _ HUd.out).mono ?_); rintro e w2 ⟨A2, c2', rfl, g1, g2, g3, g4, g5⟩) | ((refine step_append_grows (by rfl) _ _ _ (by rfl) 53 i2 _ 3 40 Try.underlying32 INF2.out.1 INF2.out.2.1 INF2.out.2.2.1 INF2.out.2.2.2 rfl (by omega) (some ad) 0 0 [] (by rfl) (fun hh => by cases hh) (by rfl) (fun _ _ j u hu => by simp at hu) ⟨w2.heap.size, 0, none⟩ 1 1 [.int .i64 hr, .int .i64 pl, .slice A2 pt.length c2'] (by rfl) (by rfl) (World.news_of_block (cs := #[.int .i64 hr, .int .i64 pl, .slice A2 pt.length c2']) (t := 53) (fr := (0, 0)) (heap_alloc_new w2 _)) (by simp [Value.oneCell']) (by omega) (by unfold maxLen; omega) (by omega) ?_; intro v3 w3 hown3 hgrow)) | fail)
                have hDa : DuM w w.heap.size P rows (w2.alloc (.cells #[.int .i64 hr, .int .i64 pl, .slice A2 pt.length c2'] 53)) := (HMU.out.next (w' := w2) (below_next HUd.out g5)).next (bel_alloc (Below.refl _ _) _)
                have hRa : ReM w (some ad) [] (.slice (some ad) 0 0) (w2.alloc (.cells #[.int .i64 hr, .int .i64 pl, .slice A2 pt.length c2'] 53)) := (HReU.out.next (w' := w2) (below_next HUd.out g5)).next (bel_alloc (Below.refl _ _) _)
                have hPa : ownI (w2.alloc (.cells #[.int .i64 hr, .int .i64 pl, .slice A2 pt.length c2'] 53)) w.heap.size A2 c2' pt := own_next (own_base g3 HMU.out.bel.size) (bel_alloc (Below.refl _ _) _)
                have hO3 : w3.ownsRow w.heap.size 53 3 v3 1 (ldCells [⟨hr, pl, A2, c2', pt⟩]) := own_base hown3 hDa.bel.size
                have HX := Lib.hid (show DuM w w.heap.size P rows w3 ∧ ReM w (some ad) [⟨hr, pl, A2, c2', pt⟩] v3 w3 from ⟨⟨below_grown hDa.bel hgrow (fun k hk => by cases hk), own_none hDa.top hgrow, fun x hx => own_none (hDa.rows x hx) hgrow⟩, ⟨.inr ⟨by simp, hO3⟩, fun x hx => by rw [List.mem_singleton.1 hx]; exact own_none hPa hgrow⟩⟩)
                have HY := Lib.hid (show keys ([⟨hr, pl, A2, c2', pt⟩]) = _ ∧ QOk ([⟨hr, pl, A2, c2', pt⟩]) from ⟨HKN.out A2 c2', (HK.out.2.snoc (x := ⟨hr, pl, A2, c2', pt⟩) ⟨⟨HF.out.1, HF.out.2.1, HF.out.2.2.1, HF.out.2.2.2.1⟩, g1⟩)⟩)
                clear g1 g2 g3 g4 g5 hown3 hgrow hDa hRa hPa hO3
                go_wp2_with fail
                go_roundw
                case rel => exact ⟨k + 1, rows, _, by omega, by go_num, HX.out.1, HRN.out, HX.out.2, HY.out⟩
                case measure => simp [intOf]; omega
              · have t1 : decide (hr ≤ h) = true := decide_eq_true d1
                have t2 : decide (0 ≤ pl) = false := decide_eq_false d2
                clear d1 d2
                go_upto_region 15 with fail
                go_region_held3 (fun w' => w'.cell? ⟨wr.heap.size, 0, none⟩ = some (.int .i64 hr) ∧ w'.cell? ⟨wr.heap.size, 1, none⟩ = some (.int .i64 pl) ∧ w'.cell? ⟨wr.heap.size, 2, none⟩ = some (.slice PA pt.length pc))
                  (first | (go_split_ands; refine ⟨?_, ?_, ?_⟩ <;> assumption) | (go_split_ands; exact ⟨hgrow.cell (by assumption) (by simp), hgrow.cell (by assumption) (by simp), hgrow.cell (by assumption) (by simp)⟩) | (go_split_ands; exact ⟨cell_alloc (by assumption) _, cell_alloc (by assumption) _, cell_alloc (by assumption) _⟩) | (go_split_ands; exact ⟨(g5.cell (p := ⟨wr.heap.size, 0, none⟩) hsz).trans c0, (g5.cell (p := ⟨wr.heap.size, 1, none⟩) hsz).trans c1, (g5.cell (p := ⟨wr.heap.size, 2, none⟩) hsz).trans c2⟩))
                  (first | (go_at_call 32; (with_reducible refine (HCl.out _ HUd.out).mono ?_); rintro e w2 ⟨A2, c2', rfl, g1, g2, g3, g4, g5⟩) | ((refine step_append_grows (by rfl) _ _ _ (by rfl) 53 i2 _ 3 40 Try.underlying32 INF2.out.1 INF2.out.2.1 INF2.out.2.2.1 INF2.out.2.2.2 rfl (by omega) (some ad) 0 0 [] (by rfl) (fun hh => by cases hh) (by rfl) (fun _ _ j u hu => by simp at hu) ⟨w2.heap.size, 0, none⟩ 1 1 [.int .i64 hr, .int .i64 pl, .slice A2 pt.length c2'] (by rfl) (by rfl) (World.news_of_block (cs := #[.int .i64 hr, .int .i64 pl, .slice A2 pt.length c2']) (t := 53) (fr := (0, 0)) (heap_alloc_new w2 _)) (by simp [Value.oneCell']) (by omega) (by unfold maxLen; omega) (by omega) ?_; intro v3 w3 hown3 hgrow)) | fail)
                have hDa : DuM w w.heap.size P rows (w2.alloc (.cells #[.int .i64 hr, .int .i64 pl, .slice A2 pt.length c2'] 53)) := (HMU.out.next (w' := w2) (below_next HUd.out g5)).next (bel_alloc (Below.refl _ _) _)
                have hRa : ReM w (some ad) [] (.slice (some ad) 0 0) (w2.alloc (.cells #[.int .i64 hr, .int .i64 pl, .slice A2 pt.length c2'] 53)) := (HReU.out.next (w' := w2) (below_next HUd.out g5)).next (bel_alloc (Below.refl _ _) _)
                have hPa : ownI (w2.alloc (.cells #[.int .i64 hr, .int .i64 pl, .slice A2 pt.length c2'] 53)) w.heap.size A2 c2' pt := own_next (own_base g3 HMU.out.bel.size) (bel_alloc (Below.refl _ _) _)
                have hO3 : w3.ownsRow w.heap.size 53 3 v3 1 (ldCells [⟨hr, pl, A2, c2', pt⟩]) := own_base hown3 hDa.bel.size
                have HX := Lib.hid (show DuM w w.heap.size P rows w3 ∧ ReM w (some ad) [⟨hr, pl, A2, c2', pt⟩] v3 w3 from ⟨⟨below_grown hDa.bel hgrow (fun k hk => by cases hk), own_none hDa.top hgrow, fun x hx => own_none (hDa.rows x hx) hgrow⟩, ⟨.inr ⟨by simp, hO3⟩, fun x hx => by rw [List.mem_singleton.1 hx]; exact own_none hPa hgrow⟩⟩)
                have HY := Lib.hid (show keys ([⟨hr, pl, A2, c2', pt⟩]) = _ ∧ QOk ([⟨hr, pl, A2, c2', pt⟩]) from ⟨HKN.out A2 c2', (HK.out.2.snoc (x := ⟨hr, pl, A2, c2', pt⟩) ⟨⟨HF.out.1, HF.out.2.1, HF.out.2.2.1, HF.out.2.2.2.1⟩, g1⟩)⟩)
                clear g1 g2 g3 g4 g5 hown3 hgrow hDa hRa hPa hO3
                go_wp2_with fail
                go_roundw
                case rel => exact ⟨k + 1, rows, _, by omega, by go_num, HX.out.1, HRN.out, HX.out.2, HY.out⟩
                case measure => simp [intOf]; omega
              · have t1 : decide (hr ≤ h) = false := decide_eq_false d1
                clear d1
                go_upto_region 15 with fail
                go_region_held3 (fun w' => w'.cell? ⟨wr.heap.size, 0, none⟩ = some (.int .i64 hr) ∧ w'.cell? ⟨wr.heap.size, 1, none⟩ = some (.int .i64 pl) ∧ w'.cell? ⟨wr.heap.size, 2, none⟩ = some (.slice PA pt.length pc))
                  (first | (go_split_ands; refine ⟨?_, ?_, ?_⟩ <;> assumption) | (go_split_ands; exact ⟨hgrow.cell (by assumption) (by simp), hgrow.cell (by assumption) (by simp), hgrow.cell (by assumption) (by simp)⟩) | (go_split_ands; exact ⟨cell_alloc (by assumption) _, cell_alloc (by assumption) _, cell_alloc (by assumption) _⟩) | (go_split_ands; exact ⟨(g5.cell (p := ⟨wr.heap.size, 0, none⟩) hsz).trans c0, (g5.cell (p := ⟨wr.heap.size, 1, none⟩) hsz).trans c1, (g5.cell (p := ⟨wr.heap.size, 2, none⟩) hsz).trans c2⟩))
                  (first | (go_at_call 32; (with_reducible refine (HCl.out _ HUd.out).mono ?_); rintro e w2 ⟨A2, c2', rfl, g1, g2, g3, g4, g5⟩) | ((refine step_append_grows (by rfl) _ _ _ (by rfl) 53 i2 _ 3 40 Try.underlying32 INF2.out.1 INF2.out.2.1 INF2.out.2.2.1 INF2.out.2.2.2 rfl (by omega) (some ad) 0 0 [] (by rfl) (fun hh => by cases hh) (by rfl) (fun _ _ j u hu => by simp at hu) ⟨w2.heap.size, 0, none⟩ 1 1 [.int .i64 hr, .int .i64 pl, .slice A2 pt.length c2'] (by rfl) (by rfl) (World.news_of_block (cs := #[.int .i64 hr, .int .i64 pl, .slice A2 pt.length c2']) (t := 53) (fr := (0, 0)) (heap_alloc_new w2 _)) (by simp [Value.oneCell']) (by omega) (by unfold maxLen; omega) (by omega) ?_; intro v3 w3 hown3 hgrow)) | fail)
                have hDa : DuM w w.heap.size P rows (w2.alloc (.cells #[.int .i64 hr, .int .i64 pl, .slice A2 pt.length c2'] 53)) := (HMU.out.next (w' := w2) (below_next HUd.out g5)).next (bel_alloc (Below.refl _ _) _)
                have hRa : ReM w (some ad) [] (.slice (some ad) 0 0) (w2.alloc (.cells #[.int .i64 hr, .int .i64 pl, .slice A2 pt.length c2'] 53)) := (HReU.out.next (w' := w2) (below_next HUd.out g5)).next (bel_alloc (Below.refl _ _) _)
                have hPa : ownI (w2.alloc (.cells #[.int .i64 hr, .int .i64 pl, .slice A2 pt.length c2'] 53)) w.heap.size A2 c2' pt := own_next (own_base g3 HMU.out.bel.size) (bel_alloc (Below.refl _ _) _)
                have hO3 : w3.ownsRow w.heap.size 53 3 v3 1 (ldCells [⟨hr, pl, A2, c2', pt⟩]) := own_base hown3 hDa.bel.size
                have HX := Lib.hid (show DuM w w.heap.size P rows w3 ∧ ReM w (some ad) [⟨hr, pl, A2, c2', pt⟩] v3 w3 from ⟨⟨below_grown hDa.bel hgrow (fun k hk => by cases hk), own_none hDa.top hgrow, fun x hx => own_none (hDa.rows x hx) hgrow⟩, ⟨.inr ⟨by simp, hO3⟩, fun x hx => by rw [List.mem_singleton.1 hx]; exact own_none hPa hgrow⟩⟩)
                have HY := Lib.hid (show keys ([⟨hr, pl, A2, c2', pt⟩]) = _ ∧ QOk ([⟨hr, pl, A2, c2', pt⟩]) from ⟨HKN.out A2 c2', (HK.out.2.snoc (x := ⟨hr, pl, A2, c2', pt⟩) ⟨⟨HF.out.1, HF.out.2.1, HF.out.2.2.1, HF.out.2.2.2.1⟩, g1⟩)⟩)
                clear g1 g2 g3 g4 g5 hown3 hgrow hDa hRa hPa hO3
                go_wp2_with fail
                go_roundw
                case rel => exact ⟨k + 1, rows, _, by omega, by go_num, HX.out.1, HRN.out, HX.out.2, HY.out⟩
                case measure => simp [intOf]; omega
            · have ne9 := HW.out _ ho9
              have HO9 := Lib.hid (own_next ho9 hbU)
              clear HRW HW ho9
              rcases hd' with ⟨d1, d2, d3⟩ | ⟨d1, d2⟩ | d1
              · have t1 : decide (hr ≤ h) = true := decide_eq_true d1
                have t2 : decide (0 ≤ pl) = true := decide_eq_true d2
                have t3 : decide (pl < (P : Int)) = false := decide_eq_false d3
                clear d1 d2 d3
                go_upto_region 15 with fail
                go_region_held3 (fun w' => w'.cell? ⟨wr.heap.size, 0, none⟩ = some (.int .i64 hr) ∧ w'.cell? ⟨wr.heap.size, 1, none⟩ = some (.int .i64 pl) ∧ w'.cell? ⟨wr.heap.size, 2, none⟩ = some (.slice PA pt.length pc))
                  (first | (go_split_ands; refine ⟨?_, ?_, ?_⟩ <;> assumption) | (go_split_ands; exact ⟨hgrow.cell (by assumption) ne9, hgrow.cell (by assumption) ne9, hgrow.cell (by assumption) ne9⟩) | (go_split_ands; exact ⟨cell_alloc (by assumption) _, cell_alloc (by assumption) _, cell_alloc (by assumption) _⟩) | (go_split_ands; exact ⟨(g5.cell (p := ⟨wr.heap.size, 0, none⟩) hsz).trans c0, (g5.cell (p := ⟨wr.heap.size, 1, none⟩) hsz).trans c1, (g5.cell (p := ⟨wr.heap.size, 2, none⟩) hsz).trans c2⟩))
                  (first | (go_at_call 32; (with_reducible refine (HCl.out _ HUd.out).mono ?_); rintro e w2 ⟨A2, c2', rfl, g1, g2, g3, g4, g5⟩) | ((refine step_append_lies _ (by rfl) _ _ _ (by rfl) _ 53 i2 _ 3 40 Try.underlying32 INF2.out.1 INF2.out.2.1 INF2.out.2.2.1 INF2.out.2.2.2 rfl (by omega) _ m.length (ldCells m) (by rfl) ((own_next HO9.out.drew g5).alloc _) ⟨w2.heap.size, 0, none⟩ 1 1 [.int .i64 hr, .int .i64 pl, .slice A2 pt.length c2'] (by rfl) (by rfl) (World.news_of_block (cs := #[.int .i64 hr, .int .i64 pl, .slice A2 pt.length c2']) (t := 53) (fr := (0, 0)) (heap_alloc_new w2 _)) (by simp [Value.oneCell']) (by omega) HML.out.1 HML.out.2 (Nat.le_trans HMU.out.bel.size (Nat.le_trans g5.size (by simp))) (w2.heap.size + 1) (by simp) ?_; intro gg cap w3 hown3 hgrow hat3 hlt3)) | fail)
                have hDa : DuM w w.heap.size P rows (w2.alloc (.cells #[.int .i64 hr, .int .i64 pl, .slice A2 pt.length c2'] 53)) := (HMU.out.next (w' := w2) (below_next HUd.out g5)).next (bel_alloc (Below.refl _ _) _)
                have hRa : ReM w (some ad) m u9 (w2.alloc (.cells #[.int .i64 hr, .int .i64 pl, .slice A2 pt.length c2'] 53)) := (HReU.out.next (w' := w2) (below_next HUd.out g5)).next (bel_alloc (Below.refl _ _) _)
                have hPa : ownI (w2.alloc (.cells #[.int .i64 hr, .int .i64 pl, .slice A2 pt.length c2'] 53)) w.heap.size A2 c2' pt := own_next (own_base g3 HMU.out.bel.size) (bel_alloc (Below.refl _ _) _)
                have ho9a := (own_next HO9.out.drew g5).alloc (.cells #[.int .i64 hr, .int .i64 pl, .slice A2 pt.length c2'] 53)
                have hO3 : w3.ownsRow w.heap.size 53 3 (.slice (some ⟨gg, 0, none⟩) (m.length + 1) cap) (m ++ ([⟨hr, pl, A2, c2', pt⟩] : List Ld)).length (ldCells (m ++ [⟨hr, pl, A2, c2', pt⟩])) := by rw [ldCells_snoc, List.length_append]; exact hown3
                have HX := Lib.hid (show DuM w w.heap.size P rows w3 ∧ ReM w (some ad) (m ++ [⟨hr, pl, A2, c2', pt⟩]) (.slice (some ⟨gg, 0, none⟩) (m.length + 1) cap) w3 from ⟨hDa.app ho9a (Nat.le_refl _) hgrow, ⟨.inr ⟨by simp, hO3⟩, fun x hx => by
                    rcases List.mem_append.1 hx with h1 | h1
                    · exact (hRa.parts x h1).kept hgrow (own_ne (hRa.parts x h1) ho9a (by decide))
                    · rw [List.mem_singleton.1 h1]; exact hPa.kept hgrow (own_ne hPa ho9a (by decide))⟩⟩)
                have HY := Lib.hid (show keys (m ++ [⟨hr, pl, A2, c2', pt⟩]) = _ ∧ QOk (m ++ [⟨hr, pl, A2, c2', pt⟩]) from ⟨HKN.out A2 c2', HK.out.2.snoc (x := ⟨hr, pl, A2, c2', pt⟩) ⟨⟨HF.out.1, HF.out.2.1, HF.out.2.2.1, HF.out.2.2.2.1⟩, g1⟩⟩)
                clear g1 g2 g3 g4 g5 hown3 hgrow hDa hRa hPa hO3 ho9a hat3 hlt3
                go_wp2_with fail
                go_roundw
                case rel => exact ⟨k + 1, rows, _, by omega, by go_num, HX.out.1, HRN.out, HX.out.2, HY.out⟩
                case measure => simp [intOf]; omega
              · have t1 : decide (hr ≤ h) = true := decide_eq_true d1
                have t2 : decide (0 ≤ pl) = false := decide_eq_false d2
                clear d1 d2
                go_upto_region 15 with fail
                go_region_held3 (fun w' => w'.cell? ⟨wr.heap.size, 0, none⟩ = some (.int .i64 hr) ∧ w'.cell? ⟨wr.heap.size, 1, none⟩ = some (.int .i64 pl) ∧ w'.cell? ⟨wr.heap.size, 2, none⟩ = some (.slice PA pt.length pc))
                  (first | (go_split_ands; refine ⟨?_, ?_, ?_⟩ <;> assumption) | (go_split_ands; exact ⟨hgrow.cell (by assumption) ne9, hgrow.cell (by assumption) ne9, hgrow.cell (by assumption) ne9⟩) | (go_split_ands; exact ⟨cell_alloc (by assumption) _, cell_alloc (by assumption) _, cell_alloc (by assumption) _⟩) | (go_split_ands; exact ⟨(g5.cell (p := ⟨wr.heap.size, 0, none⟩) hsz).trans c0, (g5.cell (p := ⟨wr.heap.size, 1, none⟩) hsz).trans c1, (g5.cell (p := ⟨wr.heap.size, 2, none⟩) hsz).trans c2⟩))
                  (first | (go_at_call 32; (with_reducible refine (HCl.out _ HUd.out).mono ?_); rintro e w2 ⟨A2, c2', rfl, g1, g2, g3, g4, g5⟩) | ((refine step_append_lies _ (by rfl) _ _ _ (by rfl) _ 53 i2 _ 3 40 Try.underlying32 INF2.out.1 INF2.out.2.1 INF2.out.2.2.1 INF2.out.2.2.2 rfl (by omega) _ m.length (ldCells m) (by rfl) ((own_next HO9.out.drew g5).alloc _) ⟨w2.heap.size, 0, none⟩ 1 1 [.int .i64 hr, .int .i64 pl, .slice A2 pt.length c2'] (by rfl) (by rfl) (World.news_of_block (cs := #[.int .i64 hr, .int .i64 pl, .slice A2 pt.length c2']) (t := 53) (fr := (0, 0)) (heap_alloc_new w2 _)) (by simp [Value.oneCell']) (by omega) HML.out.1 HML.out.2 (Nat.le_trans HMU.out.bel.size (Nat.le_trans g5.size (by simp))) (w2.heap.size + 1) (by simp) ?_; intro gg cap w3 hown3 hgrow hat3 hlt3)) | fail)
                have hDa : DuM w w.heap.size P rows (w2.alloc (.cells #[.int .i64 hr, .int .i64 pl, .slice A2 pt.length c2'] 53)) := (HMU.out.next (w' := w2) (below_next HUd.out g5)).next (bel_alloc (Below.refl _ _) _)
                have hRa : ReM w (some ad) m u9 (w2.alloc (.cells #[.int .i64 hr, .int .i64 pl, .slice A2 pt.length c2'] 53)) := (HReU.out.next (w' := w2) (below_next HUd.out g5)).next (bel_alloc (Below.refl _ _) _)
                have hPa : ownI (w2.alloc (.cells #[.int .i64 hr, .int .i64 pl, .slice A2 pt.length c2'] 53)) w.heap.size A2 c2' pt := own_next (own_base g3 HMU.out.bel.size) (bel_alloc (Below.refl _ _) _)
                have ho9a := (own_next HO9.out.drew g5).alloc (.cells #[.int .i64 hr, .int .i64 pl, .slice A2 pt.length c2'] 53)
                have hO3 : w3.ownsRow w.heap.size 53 3 (.slice (some ⟨gg, 0, none⟩) (m.length + 1) cap) (m ++ ([⟨hr, pl, A2, c2', pt⟩] : List Ld)).length (ldCells (m ++ [⟨hr, pl, A2, c2', pt⟩])) := by rw [ldCells_snoc, List.length_append]; exact hown3
                have HX := Lib.hid (show DuM w w.heap.size P rows w3 ∧ ReM w (some ad) (m ++ [⟨hr, pl, A2, c2', pt⟩]) (.slice (some ⟨gg, 0, none⟩) (m.length + 1) cap) w3 from ⟨hDa.app ho9a (Nat.le_refl _) hgrow, ⟨.inr ⟨by simp, hO3⟩, fun x hx => by
                    rcases List.mem_append.1 hx with h1 | h1
                    · exact (hRa.parts x h1).kept hgrow (own_ne (hRa.parts x h1) ho9a (by decide))
                    · rw [List.mem_singleton.1 h1]; exact hPa.kept hgrow (own_ne hPa ho9a (by decide))⟩⟩)
                have HY := Lib.hid (show keys (m ++ [⟨hr, pl, A2, c2', pt⟩]) = _ ∧ QOk (m ++ [⟨hr, pl, A2, c2', pt⟩]) from ⟨HKN.out A2 c2', HK.out.2.snoc (x := ⟨hr, pl, A2, c2', pt⟩) ⟨⟨HF.out.1, HF.out.2.1, HF.out.2.2.1, HF.out.2.2.2.1⟩, g1⟩⟩)
                clear g1 g2 g3 g4 g5 hown3 hgrow hDa hRa hPa hO3 ho9a hat3 hlt3
                go_wp2_with fail
                go_roundw
                case rel => exact ⟨k + 1, rows, _, by omega, by go_num, HX.out.1, HRN.out, HX.out.2, HY.out⟩
                case measure => simp [intOf]; omega
              · have t1 : decide (hr ≤ h) = false := decide_eq_false d1
                clear d1
                go_upto_region 15 with fail
                go_region_held3 (fun w' => w'.cell? ⟨wr.heap.size, 0, none⟩ = some (.int .i64 hr) ∧ w'.cell? ⟨wr.heap.size, 1, none⟩ = some (.int .i64 pl) ∧ w'.cell? ⟨wr.heap.size, 2, none⟩ = some (.slice PA pt.length pc))
                  (first | (go_split_ands; refine ⟨?_, ?_, ?_⟩ <;> assumption) | (go_split_ands; exact ⟨hgrow.cell (by assumption) ne9, hgrow.cell (by assumption) ne9, hgrow.cell (by assumption) ne9⟩) | (go_split_ands; exact ⟨cell_alloc (by assumption) _, cell_alloc (by assumption) _, cell_alloc (by assumption) _⟩) | (go_split_ands; exact ⟨(g5.cell (p := ⟨wr.heap.size, 0, none⟩) hsz).trans c0, (g5.cell (p := ⟨wr.heap.size, 1, none⟩) hsz).trans c1, (g5.cell (p := ⟨wr.heap.size, 2, none⟩) hsz).trans c2⟩))
                  (first | (go_at_call 32; (with_reducible refine (HCl.out _ HUd.out).mono ?_); rintro e w2 ⟨A2, c2', rfl, g1, g2, g3, g4, g5⟩) | ((refine step_append_lies _ (by rfl) _ _ _ (by rfl) _ 53 i2 _ 3 40 Try.underlying32 INF2.out.1 INF2.out.2.1 INF2.out.2.2.1 INF2.out.2.2.2 rfl (by omega) _ m.length (ldCells m) (by rfl) ((own_next HO9.out.drew g5).alloc _) ⟨w2.heap.size, 0, none⟩ 1 1 [.int .i64 hr, .int .i64 pl, .slice A2 pt.length c2'] (by rfl) (by rfl) (World.news_of_block (cs := #[.int .i64 hr, .int .i64 pl, .slice A2 pt.length c2']) (t := 53) (fr := (0, 0)) (heap_alloc_new w2 _)) (by simp [Value.oneCell']) (by omega) HML.out.1 HML.out.2 (Nat.le_trans HMU.out.bel.size (Nat.le_trans g5.size (by simp))) (w2.heap.size + 1) (by simp) ?_; intro gg cap w3 hown3 hgrow hat3 hlt3)) | fail)
                have hDa : DuM w w.heap.size P rows (w2.alloc (.cells #[.int .i64 hr, .int .i64 pl, .slice A2 pt.length c2'] 53)) := (HMU.out.next (w' := w2) (below_next HUd.out g5)).next (bel_alloc (Below.refl _ _) _)
                have hRa : ReM w (some ad) m u9 (w2.alloc (.cells #[.int .i64 hr, .int .i64 pl, .slice A2 pt.length c2'] 53)) := (HReU.out.next (w' := w2) (below_next HUd.out g5)).next (bel_alloc (Below.refl _ _) _)
                have hPa : ownI (w2.alloc (.cells #[.int .i64 hr, .int .i64 pl, .slice A2 pt.length c2'] 53)) w.heap.size A2 c2' pt := own_next (own_base g3 HMU.out.bel.size) (bel_alloc (Below.refl _ _) _)
                have ho9a := (own_next HO9.out.drew g5).alloc (.cells #[.int .i64 hr, .int .i64 pl, .slice A2 pt.length c2'] 53)
                have hO3 : w3.ownsRow w.heap.size 53 3 (.slice (some ⟨gg, 0, none⟩) (m.length + 1) cap) (m ++ ([⟨hr, pl, A2, c2', pt⟩] : List Ld)).length (ldCells (m ++ [⟨hr, pl, A2, c2', pt⟩])) := by rw [ldCells_snoc, List.length_append]; exact hown3
                have HX := Lib.hid (show DuM w w.heap.size P rows w3 ∧ ReM w (some ad) (m ++ [⟨hr, pl, A2, c2', pt⟩]) (.slice (some ⟨gg, 0, none⟩) (m.length + 1) cap) w3 from ⟨hDa.app ho9a (Nat.le_refl _) hgrow, ⟨.inr ⟨by simp, hO3⟩, fun x hx => by
                    rcases List.mem_append.1 hx with h1 | h1
                    · exact (hRa.parts x h1).kept hgrow (own_ne (hRa.parts x h1) ho9a (by decide))
                    · rw [List.mem_singleton.1 h1]; exact hPa.kept hgrow (own_ne hPa ho9a (by decide))⟩⟩)
                have HY := Lib.hid (show keys (m ++ [⟨hr, pl, A2, c2', pt⟩]) = _ ∧ QOk (m ++ [⟨hr, pl, A2, c2', pt⟩]) from ⟨HKN.out A2 c2', HK.out.2.snoc (x := ⟨hr, pl, A2, c2', pt⟩) ⟨⟨HF.out.1, HF.out.2.1, HF.out.2.2.1, HF.out.2.2.2.1⟩, g1⟩⟩)
                clear g1 g2 g3 g4 g5 hown3 hgrow hDa hRa hPa hO3 ho9a hat3 hlt3
                go_wp2_with fail
                go_roundw
                case rel => exact ⟨k + 1, rows, _, by omega, by go_num, HX.out.1, HRN.out, HX.out.2, HY.out⟩
                case measure => simp [intOf]; omega
        · have i4 : decide ((k : Int) < (l.length : Int)) = false := decide_eq_false (by omega)
          obtain rfl : k = l.length := by omega
          rw [List.take_length] at hR hK
          obtain ⟨B, d, rfl, _, hd0, hd1, hqu⟩ := hRe.qu
          have HX := Lib.hid (show DuePost O P h (P : Int) (keys l) w (.returned (.tuple #[.slice (some ⟨w.heap.size, 0, none⟩) P P, .slice B m.length d])) wr from
            ⟨_, _, _, _, rows, m, rfl, Nat.le_refl _, hR, hK, hQo, hd0, hd1, fun x hx => (hM.rows x hx).cap, hM.mx, hqu, hM.bel⟩)
          clear hM hR hRe hK hQo hd0 hd1 hqu
          go_wp2_with fail
          go_ret2
          exact HX.out

end Go.Proofs.Ythbjechgdjcogaa
