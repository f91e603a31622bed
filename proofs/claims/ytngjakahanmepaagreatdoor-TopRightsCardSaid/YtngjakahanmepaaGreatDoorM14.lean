/- Part 14 of the proof of TopRights: date.Of, right.Season. right.index, Right. right.applies. allot.Day. -/
import Derived.Test.YtngjakahanmepaaGreatDoorM13
import Derived.Deep.LoopGhost
namespace Go.Proofs.YtngjakahanmepaaGreatDoor
open Go.RowKit
set_option linter.unusedVariables false
set_option linter.unusedSimpArgs false
theorem before_is {y : Int} {b : Int} (h : befF y = b) (h0 : 2000 ≤ y) (h1 : y ≤ 1000000) (w : World) :
    Calls Tryz.prog 92 #[.int .i64 y] w fun e w' => e = .returned (.int .i64 b) ∧ Below w.heap.size w w' := h ▸ before_any y h0 h1 w
theorem bef_year {y D : Int} (h0 : 2000 ≤ y) (h1 : befF y ≤ D) (h2 : ¬ befF (y + 1) ≤ D) : 0 ≤ D - befF y ∧ D - befF y < su (fun i => lenF y (i + 1)) 12 := by
  unfold lenF
  rw [lenB_all]
  refine ⟨by omega, ?_⟩
  unfold befF at *
  unfold leapF
  split
  · omega
  · rename_i h
    simp only [decide_eq_true_eq] at h
    omega
structure OfPost (w : World) (e : Ending) (w' : World) : Prop where
  ans : ∃ y m d k : Int, e = .returned (.tuple #[.agg #[.int .i64 y, .int .i64 m, .int .i64 d, .int .i64 k], .bool true])
  bel : Below w.heap.size w w'
def YrR (V : World) (D : Int) (s5 : Value) (wr : World) : Prop := ∃ y : Int, 2000 ≤ y ∧ y ≤ 4000 ∧ Hid (befF y ≤ D) ∧ s5 = .int .i64 y ∧ ∃ z : BelW V, wr = z.w
def MoR (V : World) (y : Int) (s4 s6 : Value) (wr : World) : Prop := ∃ (m : Nat) (x : Int), m < 12 ∧ 0 ≤ x ∧ Hid (x + su (fun i => lenF y (i + 1)) m < su (fun i => lenF y (i + 1)) 12) ∧ s4 = .int .i64 x ∧ s6 = .int .i64 ((m : Int) + 1) ∧ ∃ z : BelW V, wr = z.w
set_option maxHeartbeats 16000000 in
set_option maxRecDepth 100000 in
theorem of_any (h : Int) (h0 : 0 ≤ h) (h1 : h ≤ 16777216) (w : World) (hM : Mon w) :
    Calls Tryz.prog 52 #[.int .i64 h] w (OfPost w) := by
  have HM := Lib.hid hM
  clear hM
  have t1 : decide (h < 0) = false := decide_eq_false (by omega)
  have t2 : decide (16777216 < h) = false := decide_eq_false (by omega)
  go_enter Tryz.func52, Tryz.ntmps52
  go_upto_region 1 with fail
  refine wp_rebase _ (fun V hV x0 => ?_)
  have HB0 := Lib.hid (show Below w.heap.size w V by rw [hV]; exact bel_alloc (Below.refl _ _) _)
  have HBOX := Lib.hid (show V.rangeAt w.heap.size 0 [.int .i64 0, .int .i64 0, .int .i64 0, .int .i64 0] by rw [hV]; exact range_new _ _ [.int .i64 0, .int .i64 0, .int .i64 0, .int .i64 0])
  have HF1 := Lib.hid (show Fz V w.heap.size by rw [hV]; exact Fz.new _ _ _ (by simp))
  have HMV := Lib.hid (fun (x : BelW V) => (show Mon x.w from HM.out.below (Nat.le_refl _) (below_next HB0.out x.2)))
  clear hV
  go_upto_region 3 with fail
  obtain ⟨D, hD⟩ : ∃ D, h / 24 = D := ⟨_, rfl⟩
  have hDb : 0 ≤ D ∧ D ≤ 699050 := by omega
  obtain ⟨Y, hY⟩ : ∃ Y, 2000 + D / 366 = Y := ⟨_, rfl⟩
  have hYb : 2000 ≤ Y ∧ Y ≤ 4000 := by omega
  have HYD := Lib.hid (show befF Y ≤ D by unfold befF; omega)
  have d0 : 0 ≤ D := hDb.1
  have d1 : D ≤ 699050 := hDb.2
  clear hDb
  go_upto_region 5 with fail
  simp only [hD, hY]
  go_loopw [5] (fun s5 wr => YrR V D s5 wr) (fun i _ => (5000 - intOf i).toNat)
  case atStart => exact ⟨Y, hYb.1, hYb.2, Lib.hid HYD.out, rfl, x0, rfl⟩
  case round =>
    clear hYb HYD hY
    obtain ⟨y, y0, y1, hyd, rfl, z, rfl⟩ := hrel
    have HYD := Lib.hid hyd.out
    clear hyd
    have y2 : 2000 ≤ y + 1 := by omega
    have y3 : y + 1 ≤ 1000000 := by omega
    by_cases hle : befF (y + 1) ≤ D
    · have HYN := Lib.hid hle
      have hyb : y + 1 ≤ 4000 := by unfold befF at hle; omega
      obtain ⟨X, hX⟩ : ∃ X, befF (y + 1) = X := ⟨_, rfl⟩
      rw [hX] at hle
      have C := Lib.hid (fun u : BelW V => bel_of (x := u) (before_is hX y2 y3 u.w))
      have t3 : decide (X ≤ D) = true := decide_eq_true hle
      clear hle hX
      go_wp2_with (first | (go_at_call 92; (with_reducible refine (C.out _).mono ?_); rintro e w1 ⟨rfl, z1, rfl⟩))
      go_roundw
      case rel => exact ⟨y + 1, y2, hyb, Lib.hid HYN.out, rfl, z1, rfl⟩
      case measure => simp [intOf]; omega
    · have HYN := Lib.hid (bef_year y0 HYD.out hle)
      obtain ⟨X, hX⟩ : ∃ X, befF (y + 1) = X := ⟨_, rfl⟩
      rw [hX] at hle
      have C := Lib.hid (fun u : BelW V => bel_of (x := u) (before_is hX y2 y3 u.w))
      have t3 : decide (X ≤ D) = false := decide_eq_false hle
      have hb0 : 0 ≤ befF y := by unfold befF; omega
      obtain ⟨B, hB⟩ : ∃ X, befF y = X := ⟨_, rfl⟩
      have C2 := Lib.hid (fun u : BelW V => bel_of (x := u) (before_is hB y0 (by omega) u.w))
      rw [hB] at HYN hb0
      obtain ⟨E, hE⟩ : ∃ E, D - B = E := ⟨_, rfl⟩
      have hdb : D - B ≤ 699050 := by omega
      rw [hE] at HYN hdb
      have e0 : 0 ≤ E := HYN.out.1
      clear hle hX hB HYD y2 y3
      go_wp2_with (first | (go_at_call 92; (with_reducible refine (C.out _).mono ?_); rintro e w1 ⟨rfl, z1, rfl⟩) | (go_at_call 92; (with_reducible refine (C2.out _).mono ?_); rintro e w1 ⟨rfl, z2, rfl⟩))
      clear hE C C2 t3
      go_loopw [4, 6] (fun s4 s6 wr => MoR V y s4 s6 wr) (fun _ i _ => (20 - intOf i).toNat)
      case atStart => exact ⟨0, E, by omega, e0, Lib.hid (by have := HYN.out.2; simp only [su]; simpa [su] using this), rfl, by simp, z2, rfl⟩
      case round =>
        clear HYN e0 hdb
        obtain ⟨m, x, hm, x0', hxs, rfl, rfl, z, rfl⟩ := hrel
        have HXS := Lib.hid hxs.out
        clear hxs
        have hfit := lenB_fit (leapF y) (m + 1) (by omega) (by omega)
        have HLE := Lib.hid (show lenF y (m + 1) ≤ x → m + 1 < 12 from fun hge => by
          by_cases e : m = 11
          · subst e
            have := HXS.out
            simp only [su] at this
            omega
          · omega)
        have HSU := Lib.hid (show su (fun i => lenF y (i + 1)) (m + 1) = su (fun i => lenF y (i + 1)) m + lenF y (m + 1) from rfl)
        obtain ⟨v, hv⟩ : ∃ v, lenF y (m + 1) = v := ⟨_, rfl⟩
        have C := Lib.hid (fun u : BelW V => bel_of (x := u) (show Calls Tryz.prog 93 #[.int .i64 y, .int .i64 ((m : Int) + 1)] u.w fun e w' => e = .returned (.int .i64 v) ∧ Below u.w.heap.size u.w w' from by
          have := length_is hv y0 (by omega) (by omega) (by omega) u.w (HMV.out u)
          exact this))
        have hfit2 : 28 ≤ v ∧ v ≤ 31 := by rw [← hv]; exact hfit
        rw [hv] at HLE HSU
        have hxb : x ≤ 400 := by
          have h1 := HXS.out
          have h2 : 0 ≤ su (fun i => lenF y (i + 1)) m := by
            have := su_le (f := fun _ => 0) (g := fun i => lenF y (i + 1)) (n := m) (fun i hi => by have := lenB_fit (leapF y) (i + 1) (by omega) (by omega); unfold lenF; omega)
            rwa [su_zero (fun _ _ => rfl)] at this
          have h3 : su (fun i => lenF y (i + 1)) 12 ≤ 366 := by unfold lenF; rw [lenB_all]; split <;> omega
          omega
        clear hfit hv
        by_cases hge : v ≤ x
        · have t3 : decide (v ≤ x) = true := decide_eq_true hge
          have hm2 := HLE.out hge
          go_wp2_with (first | (go_at_call 93; (with_reducible refine (C.out _).mono ?_); rintro e w1 ⟨rfl, z1, rfl⟩))
          go_roundw
          case rel => exact ⟨m + 1, x - v, hm2, by omega, Lib.hid (by rw [HSU.out]; have := HXS.out; omega), rfl, by simp, _, rfl⟩
          case measure => simp [intOf]; omega
        · have t3 : decide (v ≤ x) = false := decide_eq_false hge
          have r0 := fun z : BelW V => (show z.w.cell? ⟨w.heap.size, 0, none⟩ = some (.int .i64 0) from BelW.range HBOX.out z 0 _ rfl)
          have r1 := fun z : BelW V => (show z.w.cell? ⟨w.heap.size, 1, none⟩ = some (.int .i64 0) from BelW.range HBOX.out z 1 _ rfl)
          have r2 := fun z : BelW V => (show z.w.cell? ⟨w.heap.size, 2, none⟩ = some (.int .i64 0) from BelW.range HBOX.out z 2 _ rfl)
          have r3 := fun z : BelW V => (show z.w.cell? ⟨w.heap.size, 3, none⟩ = some (.int .i64 0) from BelW.range HBOX.out z 3 _ rfl)
          have hg := HF1.out.bel
          go_wp2_with (first | (go_at_call 93; (with_reducible refine (C.out _).mono ?_); rintro e w1 ⟨rfl, z1, rfl⟩))
          have r0' := r0 z1
          have r1' := r1 z1
          have r2' := r2 z1
          have r3' := r3 z1
          have hgz := hg z1
          have HBz := Lib.hid (show Below w.heap.size w z1.w from below_next HB0.out z1.2)
          clear r0 r1 r2 r3 hg
          refine bodyPost_ret (v := .tuple #[.agg #[.int .i64 y, .int .i64 ((m : Int) + 1), .int .i64 (x + 1), .int .i64 (h % 24)], .bool true]) ?_ rfl ⟨⟨_, _, _, _, rfl⟩, (((HBz.out.setCell (by simp) _).setCell (by simp) _).setCell (by simp) _).setCell (by simp) _⟩
          simp [results, Tryz.results52, go_sem, r0', r1', r2', r3']
set_option maxHeartbeats 8000000 in
set_option maxRecDepth 100000 in
theorem season_any (id own date pla rate fr un bk bt day : Int) (w : World) (hM : Mon w) :
    Calls Tryz.prog 21 #[.agg #[.int .i64 id, .int .i64 own, .int .i64 date, .int .i64 pla, .int .i64 rate, .int .i64 fr, .int .i64 un, .int .i64 bk, .int .i64 bt], .int .i64 day] w (SomeB w) := by
  have HM := Lib.hid hM
  clear hM
  by_cases h1 : day < 0
  · have t1 : decide (day < 0) = true := decide_eq_true h1
    go_enter Tryz.func21, Tryz.ntmps21
    go_wp2_with fail
    go_ret
    exact ⟨⟨_, rfl⟩, by go_grown⟩
  by_cases h2 : 699050 < day
  · have t1 : decide (day < 0) = false := decide_eq_false h1
    have t2 : decide (699050 < day) = true := decide_eq_true h2
    go_enter Tryz.func21, Tryz.ntmps21
    go_wp2_with fail
    go_ret
    exact ⟨⟨_, rfl⟩, by go_grown⟩
  have t1 : decide (day < 0) = false := decide_eq_false h1
  have t2 : decide (699050 < day) = false := decide_eq_false h2
  have j0 : 0 ≤ day := by omega
  have j1 : day ≤ 699050 := by omega
  clear h1 h2
  go_enter Tryz.func21, Tryz.ntmps21
  go_upto_region 1 with fail
  refine wp_rebase _ (fun V hV x0 => ?_)
  have HB0 := Lib.hid (show Below w.heap.size w V by rw [hV]; exact bel_alloc (Below.refl _ _) _)
  have HBOX := Lib.hid (show V.rangeAt w.heap.size 0 [.int .i64 id, .int .i64 own, .int .i64 date, .int .i64 pla, .int .i64 rate, .int .i64 fr, .int .i64 un, .int .i64 bk, .int .i64 bt] by rw [hV]; exact range_new _ _ [.int .i64 id, .int .i64 own, .int .i64 date, .int .i64 pla, .int .i64 rate, .int .i64 fr, .int .i64 un, .int .i64 bk, .int .i64 bt])
  have HMV := Lib.hid (fun (x : BelW V) => (show Mon x.w from HM.out.below (Nat.le_refl _) (below_next HB0.out x.2)))
  clear hV
  obtain ⟨q, hq⟩ : ∃ q, 24 * day = q := ⟨_, rfl⟩
  have hq0 : 0 ≤ q := by omega
  have hq1 : q ≤ 16777216 := by omega
  have CO := Lib.hid (fun u : BelW V => of_any q hq0 hq1 u.w (HMV.out u))
  go_upto_region 4 with (first | (go_at_call 52; (with_reducible refine (CO.out _).mono ?_); rintro e w1 ⟨⟨y, m, d, k, rfl⟩, hb1⟩))
  have c5 := fun o : Obj => (show (w1.alloc o).cell? ⟨w.heap.size, 5, none⟩ = some (.int .i64 fr) from cell_alloc (BelW.range HBOX.out ⟨w1, below_next x0.2 hb1⟩ 5 _ rfl) o)
  have c6 := fun o : Obj => (show (w1.alloc o).cell? ⟨w.heap.size, 6, none⟩ = some (.int .i64 un) from cell_alloc (BelW.range HBOX.out ⟨w1, below_next x0.2 hb1⟩ 6 _ rfl) o)
  have HB2 := Lib.hid (fun o : Obj => (show Below w.heap.size w (w1.alloc o) from by have h1 := below_next HB0.out (below_next x0.2 hb1); exact h1.alloc h1.size _))
  have CI := Lib.hid (fun o : Obj => in_any y m d k fr un (w1.alloc o) (HM.out.below (Nat.le_refl _) (HB2.out o)))
  clear hb1 hq CO
  go_wp2_with (first | (go_at_call 53; (with_reducible refine (CI.out _).mono ?_); rintro e w2 ⟨⟨b, rfl⟩, hb2⟩))
  go_ret
  exact ⟨⟨_, rfl⟩, below_next (HB2.out _) hb2⟩
end Go.Proofs.YtngjakahanmepaaGreatDoor
namespace Go.Proofs.YtngjakahanmepaaGreatDoor
open Go.RowKit
set_option linter.unusedVariables false
set_option linter.unusedSimpArgs false
/-- an answer of yes or no, and a world that holds all that V holds -/
structure SomeZ (V : World) (e : Ending) (w' : World) : Prop where
  ans : ∃ (b : Bool) (z : BelW V), e = .returned (.bool b) ∧ w' = z.w
theorem SomeB.z {V : World} {x : BelW V} {P : Program} {f : FuncId} {args : Array Value} (h : Calls P f args x.w (SomeB x.w)) : Calls P f args x.w (SomeZ V) :=
  h.mono fun _ w' ⟨⟨b, hb⟩, hl⟩ => ⟨⟨b, ⟨w', below_next x.2 hl⟩, hb, rfl⟩⟩
theorem index_any (i n : Int) (w : World) : Calls Tryz.prog 50 #[.int .i64 i, .int .i64 n] w (SomeB w) := by
  go_enter Tryz.func50, Tryz.ntmps50
  go_wp2_with fail
  all_goals go_ret
  all_goals exact ⟨⟨_, rfl⟩, by go_grown⟩
/-- a right that is right has a rate that is no less than nothing -/
structure RgB (rate : Int) (w : World) (e : Ending) (w' : World) : Prop where
  ans : ∃ b, e = .returned (.bool b) ∧ (b = true → 0 ≤ rate ∧ rate ≤ 1125899906842624)
  bel : Below w.heap.size w w'
set_option maxHeartbeats 32000000 in
set_option maxRecDepth 100000 in
theorem right_any (d0 d2 d4 d5 d6 d7 d8 d9 d10 : Value) (A B : Option Addr) (on oc cb n : Nat) (id own date pla rate fr un bk bt : Int) (w : World) (hM : Mon w) :
    Calls Tryz.prog 19 #[.agg #[d0, .slice A on oc, d2, .slice B n cb, d4, d5, d6, d7, d8, d9, d10], .agg #[.int .i64 id, .int .i64 own, .int .i64 date, .int .i64 pla, .int .i64 rate, .int .i64 fr, .int .i64 un, .int .i64 bk, .int .i64 bt]] w (RgB rate w) := by
  have HM := Lib.hid hM
  clear hM
  go_enter Tryz.func19, Tryz.ntmps19
  go_upto_region 1 with fail
  refine wp_rebase _ (fun V hV x0 => ?_)
  have HB0 := Lib.hid (show Below w.heap.size w V by rw [hV]; exact bel_alloc (bel_alloc (Below.refl _ _) _) _)
  have HBB := Lib.hid (show V.rangeAt w.heap.size 0 [d0, .slice A on oc, d2, .slice B n cb, d4, d5, d6, d7, d8, d9, d10] by rw [hV]; exact range_bel (range_new w _ [d0, .slice A on oc, d2, .slice B n cb, d4, d5, d6, d7, d8, d9, d10]) ⟨_, bel_alloc (Below.refl _ _) _⟩)
  have HBR := Lib.hid (show V.rangeAt (w.heap.size + 1) 0 [.int .i64 id, .int .i64 own, .int .i64 date, .int .i64 pla, .int .i64 rate, .int .i64 fr, .int .i64 un, .int .i64 bk, .int .i64 bt] by
    have := range_new (w.alloc (.cells #[d0, .slice A on oc, d2, .slice B n cb, d4, d5, d6, d7, d8, d9, d10] 31)) 46 [.int .i64 id, .int .i64 own, .int .i64 date, .int .i64 pla, .int .i64 rate, .int .i64 fr, .int .i64 un, .int .i64 bk, .int .i64 bt]
    rw [World.size_alloc] at this
    rw [hV]; exact this)
  have HMV := Lib.hid (fun (x : BelW V) => (show Mon x.w from HM.out.below (Nat.le_refl _) (below_next HB0.out x.2)))
  clear hV
  have b1 := fun z : BelW V => (show z.w.cell? ⟨w.heap.size, 1, none⟩ = some (.slice A on oc) from BelW.range HBB.out z 1 _ rfl)
  have b3 := fun z : BelW V => (show z.w.cell? ⟨w.heap.size, 3, none⟩ = some (.slice B n cb) from BelW.range HBB.out z 3 _ rfl)
  have r0 := fun z : BelW V => (show z.w.cell? ⟨w.heap.size + 1, 0, none⟩ = some (.int .i64 id) from BelW.range HBR.out z 0 _ rfl)
  have r1 := fun z : BelW V => (show z.w.cell? ⟨w.heap.size + 1, 1, none⟩ = some (.int .i64 own) from BelW.range HBR.out z 1 _ rfl)
  have r2 := fun z : BelW V => (show z.w.cell? ⟨w.heap.size + 1, 2, none⟩ = some (.int .i64 date) from BelW.range HBR.out z 2 _ rfl)
  have r3 := fun z : BelW V => (show z.w.cell? ⟨w.heap.size + 1, 3, none⟩ = some (.int .i64 pla) from BelW.range HBR.out z 3 _ rfl)
  have r4 := fun z : BelW V => (show z.w.cell? ⟨w.heap.size + 1, 4, none⟩ = some (.int .i64 rate) from BelW.range HBR.out z 4 _ rfl)
  have r5 := fun z : BelW V => (show z.w.cell? ⟨w.heap.size + 1, 5, none⟩ = some (.int .i64 fr) from BelW.range HBR.out z 5 _ rfl)
  have r6 := fun z : BelW V => (show z.w.cell? ⟨w.heap.size + 1, 6, none⟩ = some (.int .i64 un) from BelW.range HBR.out z 6 _ rfl)
  have r7 := fun z : BelW V => (show z.w.cell? ⟨w.heap.size + 1, 7, none⟩ = some (.int .i64 bk) from BelW.range HBR.out z 7 _ rfl)
  have r8 := fun z : BelW V => (show z.w.cell? ⟨w.heap.size + 1, 8, none⟩ = some (.int .i64 bt) from BelW.range HBR.out z 8 _ rfl)
  have CI := Lib.hid (fun (z : BelW V) (i n : Int) => SomeB.z (x := z) (index_any i n z.w))
  have CM := Lib.hid (fun (z : BelW V) (n : Int) => SomeB.z (x := z) (monthday_any n z.w (HMV.out z)))
  have HE := Lib.hid (fun (z : BelW V) => (show RgB rate w (.returned (.bool false)) z.w from ⟨⟨false, rfl, fun h => by cases h⟩, below_next HB0.out z.2⟩))
  by_cases hr0 : rate < 0
  · have t1 : decide (rate < 0) = true := decide_eq_true hr0
    go_wp2_with (first | (go_at_call 50; (with_reducible refine (CI.out _ _ _).mono ?_); rintro e w1 ⟨b, z, rfl, rfl⟩; cases b))
    all_goals go_ret
    all_goals exact HE.out _
  by_cases hr1 : 1125899906842624 < rate
  · have t1 : decide (rate < 0) = false := decide_eq_false hr0
    have t2 : decide (1125899906842624 < rate) = true := decide_eq_true hr1
    go_wp2_with (first | (go_at_call 50; (with_reducible refine (CI.out _ _ _).mono ?_); rintro e w1 ⟨b, z, rfl, rfl⟩; cases b))
    all_goals go_ret
    all_goals exact HE.out _
  have t1 : decide (rate < 0) = false := decide_eq_false hr0
  have t2 : decide (1125899906842624 < rate) = false := decide_eq_false hr1
  have HG := Lib.hid (fun (z : BelW V) (b : Bool) => (show RgB rate w (.returned (.bool b)) z.w from ⟨⟨b, rfl, fun h => ⟨by omega, by omega⟩⟩, below_next HB0.out z.2⟩))
  clear hr0 hr1
  go_wp2_with (first | (go_at_call 50; (with_reducible refine (CI.out _ _ _).mono ?_); rintro e w1 ⟨b, z, rfl, rfl⟩; cases b) | (go_at_call 51; (with_reducible refine (CM.out _ _).mono ?_); rintro e w1 ⟨b, z, rfl, rfl⟩; cases b))
  all_goals go_ret
  all_goals exact HG.out _ _
end Go.Proofs.YtngjakahanmepaaGreatDoor
namespace Go.Proofs.YtngjakahanmepaaGreatDoor
open Go.RowKit
set_option linter.unusedVariables false
set_option linter.unusedSimpArgs false
structure ApB (kind rate : Int) (w : World) (e : Ending) (w' : World) : Prop where
  ans : ∃ b, e = .returned (.bool b) ∧ (b = true → kind = 0 → 0 ≤ rate ∧ rate ≤ 1125899906842624)
  bel : Below w.heap.size w w'
set_option maxHeartbeats 32000000 in
set_option maxRecDepth 100000 in
theorem applies_any (d0 d2 d4 d5 d6 d7 d8 d9 d10 : Value) (A B : Option Addr) (on oc cb n : Nat) (kind known id own date pla rate fr un bk bt df du day : Int) (w : World) (hM : Mon w) :
    Calls Tryz.prog 20 #[.agg #[d0, .slice A on oc, d2, .slice B n cb, d4, d5, d6, d7, d8, d9, d10], .agg #[.int .i64 kind, .int .i64 known, .int .i64 id, .int .i64 own, .int .i64 date, .int .i64 pla, .int .i64 rate, .int .i64 fr, .int .i64 un, .int .i64 bk, .int .i64 bt, .int .i64 df, .int .i64 du], .int .i64 day] w (ApB kind rate w) := by
  have HM := Lib.hid hM
  clear hM
  go_enter Tryz.func20, Tryz.ntmps20
  go_upto_region 1 with fail
  refine wp_rebase _ (fun V hV x0 => ?_)
  have HB0 := Lib.hid (show Below w.heap.size w V by rw [hV]; exact bel_alloc (bel_alloc (Below.refl _ _) _) _)
  have HBB := Lib.hid (show V.rangeAt w.heap.size 0 [d0, .slice A on oc, d2, .slice B n cb, d4, d5, d6, d7, d8, d9, d10] by rw [hV]; exact range_bel (range_new w _ [d0, .slice A on oc, d2, .slice B n cb, d4, d5, d6, d7, d8, d9, d10]) ⟨_, bel_alloc (Below.refl _ _) _⟩)
  have HBD := Lib.hid (show V.rangeAt (w.heap.size + 1) 0 [.int .i64 kind, .int .i64 known, .int .i64 id, .int .i64 own, .int .i64 date, .int .i64 pla, .int .i64 rate, .int .i64 fr, .int .i64 un, .int .i64 bk, .int .i64 bt, .int .i64 df, .int .i64 du] by
    have := range_new (w.alloc (.cells #[d0, .slice A on oc, d2, .slice B n cb, d4, d5, d6, d7, d8, d9, d10] 31)) 74 [.int .i64 kind, .int .i64 known, .int .i64 id, .int .i64 own, .int .i64 date, .int .i64 pla, .int .i64 rate, .int .i64 fr, .int .i64 un, .int .i64 bk, .int .i64 bt, .int .i64 df, .int .i64 du]
    rw [World.size_alloc] at this
    rw [hV]; exact this)
  have HBR := Lib.hid (show V.rangeAt (w.heap.size + 1) 2 [.int .i64 id, .int .i64 own, .int .i64 date, .int .i64 pla, .int .i64 rate, .int .i64 fr, .int .i64 un, .int .i64 bk, .int .i64 bt] from fun j v hv => by
    have hj : j < 9 := (List.getElem?_eq_some_iff.1 hv).1
    have := HBD.out (2 + j) v (by rw [Nat.add_comm]; rw [show ([.int .i64 kind, .int .i64 known, .int .i64 id, .int .i64 own, .int .i64 date, .int .i64 pla, .int .i64 rate, .int .i64 fr, .int .i64 un, .int .i64 bk, .int .i64 bt, .int .i64 df, .int .i64 du] : List Value) = [.int .i64 kind, .int .i64 known] ++ [.int .i64 id, .int .i64 own, .int .i64 date, .int .i64 pla, .int .i64 rate, .int .i64 fr, .int .i64 un, .int .i64 bk, .int .i64 bt] ++ [.int .i64 df, .int .i64 du] from rfl, List.append_assoc, List.getElem?_append_right (by simp), List.getElem?_append_left (by simpa using hj)]; simpa using hv)
    simpa using this)
  have HMV := Lib.hid (fun (x : BelW V) => (show Mon x.w from HM.out.below (Nat.le_refl _) (below_next HB0.out x.2)))
  clear hV
  have b1 := fun z : BelW V => (show z.w.cell? ⟨w.heap.size, 1, none⟩ = some (.slice A on oc) from BelW.range HBB.out z 1 _ rfl)
  have b3 := fun z : BelW V => (show z.w.cell? ⟨w.heap.size, 3, none⟩ = some (.slice B n cb) from BelW.range HBB.out z 3 _ rfl)
  have c0 := fun z : BelW V => (show z.w.cell? ⟨w.heap.size + 1, 0, none⟩ = some (.int .i64 kind) from BelW.range HBD.out z 0 _ rfl)
  have c3 := fun z : BelW V => (show z.w.cell? ⟨w.heap.size + 1, 3, none⟩ = some (.int .i64 own) from BelW.range HBD.out z 3 _ rfl)
  have c5 := fun z : BelW V => (show z.w.cell? ⟨w.heap.size + 1, 5, none⟩ = some (.int .i64 pla) from BelW.range HBD.out z 5 _ rfl)
  have c11 := fun z : BelW V => (show z.w.cell? ⟨w.heap.size + 1, 11, none⟩ = some (.int .i64 df) from BelW.range HBD.out z 11 _ rfl)
  have c12 := fun z : BelW V => (show z.w.cell? ⟨w.heap.size + 1, 12, none⟩ = some (.int .i64 du) from BelW.range HBD.out z 12 _ rfl)
  have CI := Lib.hid (fun (z : BelW V) (i n : Int) => SomeB.z (x := z) (index_any i n z.w))
  have CR := Lib.hid (fun (z : BelW V) => right_any d0 d2 d4 d5 d6 d7 d8 d9 d10 A B on oc cb n id own date pla rate fr un bk bt z.w (HMV.out z))
  by_cases hk : kind = 0
  · subst hk
    have c2 := fun z : BelW V => (show z.w.cell? ⟨w.heap.size + 1, 2, none⟩ = some (.int .i64 id) from BelW.range HBD.out z 2 _ rfl)
    have c4 := fun z : BelW V => (show z.w.cell? ⟨w.heap.size + 1, 4, none⟩ = some (.int .i64 date) from BelW.range HBD.out z 4 _ rfl)
    have c6 := fun z : BelW V => (show z.w.cell? ⟨w.heap.size + 1, 6, none⟩ = some (.int .i64 rate) from BelW.range HBD.out z 6 _ rfl)
    have c7 := fun z : BelW V => (show z.w.cell? ⟨w.heap.size + 1, 7, none⟩ = some (.int .i64 fr) from BelW.range HBD.out z 7 _ rfl)
    have c8 := fun z : BelW V => (show z.w.cell? ⟨w.heap.size + 1, 8, none⟩ = some (.int .i64 un) from BelW.range HBD.out z 8 _ rfl)
    have c9 := fun z : BelW V => (show z.w.cell? ⟨w.heap.size + 1, 9, none⟩ = some (.int .i64 bk) from BelW.range HBD.out z 9 _ rfl)
    have c10 := fun z : BelW V => (show z.w.cell? ⟨w.heap.size + 1, 10, none⟩ = some (.int .i64 bt) from BelW.range HBD.out z 10 _ rfl)
    go_wp2_with (first
      | (with_reducible refine wpList_load_g 31 _ (by with_reducible rfl) _ _ (by with_unfolding_all rfl) (by with_unfolding_all rfl) _ _ (BelW.range HBB.out x0) Tryz.underlying31 (by with_unfolding_all rfl) (by kernel_rfl) ?_)
      | (with_reducible refine wpList_load_g 46 _ (by with_reducible rfl) _ _ (by with_unfolding_all rfl) (by with_unfolding_all rfl) _ _ (BelW.range HBR.out x0) Tryz.underlying46 (by with_unfolding_all rfl) (by kernel_rfl) ?_)
      | (go_at_call 19; (with_reducible refine (CR.out _).mono ?_); rintro e w1 ⟨⟨b, rfl, hb⟩, hb1⟩))
    go_ret
    exact ⟨⟨b, rfl, fun h _ => hb h⟩, below_next HB0.out (below_next x0.2 hb1)⟩
  have t0 : (kind == 0) = false := beq_eq_false_iff_ne.2 hk
  have HE := Lib.hid (fun (z : BelW V) (b : Bool) => (show ApB kind rate w (.returned (.bool b)) z.w from ⟨⟨b, rfl, fun _ h => absurd h hk⟩, below_next HB0.out z.2⟩))
  go_wp2_with (first | (go_at_call 50; (with_reducible refine (CI.out _ _ _).mono ?_); rintro e w1 ⟨b, z, rfl, rfl⟩; cases b))
  all_goals go_ret
  all_goals exact HE.out _ _
end Go.Proofs.YtngjakahanmepaaGreatDoor
namespace Go.Proofs.YtngjakahanmepaaGreatDoor
open Go.RowKit
set_option linter.unusedVariables false
set_option linter.unusedSimpArgs false
theorem info_grant : (Tryz.prog.info? 44).map (fun i => (i.zero, i.size, i.bytes)) = some (some (.agg #[.int .i64 0, .int .i64 0]), 2, 16) := by kernel_rfl
def GrR (V : World) (g n : Nat) (k : Nat) (G : List Sp) (s9 : Value) (wr : World) : Prop :=
  wr.ownsRow V.heap.size 44 2 s9 k (spCells G) ∧ Apart s9 (.slice (some ⟨g, 0, none⟩) n n)
def DyR (V : World) (n g : Nat) (L0 : List Int) (D : List Dn) (rs : List Rt) (s9 s27 : Value) (wr : World) : Prop :=
  ∃ (k : Nat) (L G : List Int), k ≤ rs.length ∧ s27 = .int .i64 (k : Int) ∧ Below V.heap.size V wr ∧ IR wr V.heap.size g n L ∧ GrR V g n k (grs (rs.take k) G) s9 wr ∧ Hid (DayS L0 D rs k L G)
def ThR (W : World) (R : List Nat) (L : List Int) (s14 s43 : Value) (wr : World) : Prop :=
  ∃ j : Nat, j ≤ R.length ∧ s43 = .int .i64 (j : Int) ∧ Below W.heap.size W wr ∧ wr.ownsRow W.heap.size 3 1 s14 j (ints ((R.take j).map fun q => gi L q))
def LsR (V : World) (n g rb Bz : Nat) (A : Option Addr) (c : Nat) (R : List Nat) (L : List Int) (lit id : Int) (k : Nat) (G : List Sp) (s9 : Value) (s62 : Value) (wr : World) : Prop :=
  ∃ j : Nat, j ≤ R.length ∧ s62 = .int .i64 (j : Int) ∧ Below V.heap.size V wr ∧ IR wr V.heap.size g n (lessF L (R.take j) lit) ∧ wr.ownsRow Bz 3 1 (.slice A R.length c) R.length (ints (nat2 R)) ∧ GrR V g n k G s9 wr ∧ wr.cell? ⟨rb, 0, none⟩ = some (.int .i64 id)
def DayPost (n : Nat) (D : List Dn) (rs : List Rt) (w : World) (e : Ending) (w' : World) : Prop :=
  ∃ (L0 : List Int) (A : Option Addr) (c g : Nat), L0.length = n ∧ NonF L0 ∧ e = .returned (.tuple #[.slice A rs.length c, .slice (some ⟨g, 0, none⟩) n n]) ∧
    Rd w' A (spCells (grs rs (dayG L0 (ras D rs)))) ∧ Rd w' (some ⟨g, 0, none⟩) (ints (dayL L0 (ras D rs))) ∧ Below w.heap.size w w'
set_option maxHeartbeats 32000000 in
set_option maxRecDepth 100000 in
theorem day_any (B SA RA : Option Addr) (cb sc rc : Nat) (ps : List Pl) (sp : List Int) (rs : List Rt) (d0 d1 d2 d4 d5 d6 d7 d8 d9 d10 : Value) (hpn : ps.length ≤ 1000) (hrn : rs.length ≤ 1000) (hsn : sp.length ≤ 9223372036854775807) (hsf : ∀ i, i < sp.length → Fit (gi sp i)) (hra : ∀ k, k < rs.length → 0 ≤ (rt rs k).rate ∧ (rt rs k).rate ≤ 9223372036854775807) (w : World) (hp : Pls w B ps) (hs : Rd w SA (ints sp)) (hr : Rd w RA (rtCells rs)) :
    Calls Tryz.prog 10 #[.agg #[d0, d1, d2, .slice B ps.length cb, d4, d5, d6, d7, d8, d9, d10], .slice RA rs.length rc, .slice SA sp.length sc] w (DayPost ps.length (dns ps) rs w) := by
  obtain ⟨i1, hj0, hj1, hj2, hj3⟩ := info_parts info_int2
  obtain ⟨i2, hk0, hk1, hk2, hk3⟩ := info_parts info_grant
  have INF := Lib.hid (And.intro hj0 (And.intro hj1 (And.intro hj2 hj3)))
  have hmk : i2.bytes * rs.length ≤ 281474976710656 := by rw [hk3]; omega
  have hml : rs.length ≤ maxLen := by unfold maxLen; omega
  have INFG := Lib.hid (And.intro hk0 (And.intro hk1 (And.intro hk2 (And.intro hk3 (And.intro hmk hml)))))
  clear hj0 hj1 hj2 hj3 hk0 hk1 hk2 hk3 hmk hml
  have HRA := Lib.hid hra
  have HDN := Lib.hid (dns_length ps)
  have HCB0 := Lib.hid (fun (W : World) (h1 : Pls W B ps) (h2 : Rd W SA (ints sp)) => begin_any B SA cb sc ps sp d0 d1 d2 d4 d5 d6 d7 d8 d9 d10 hpn hsn hsf W h1 h2)
  clear hra hsn hsf
  go_enter Tryz.func10, Tryz.ntmps10
  go_upto_region 1 with fail
  refine wp_rebase _ (fun V hV x0 => ?_)
  have HB0 := Lib.hid (show Below w.heap.size w V by rw [hV]; exact bel_alloc (Below.refl _ _) _)
  have HBAS := Lib.hid (show V.rangeAt w.heap.size 0 [d0, d1, d2, .slice B ps.length cb, d4, d5, d6, d7, d8, d9, d10] by rw [hV]; exact range_new _ _ [d0, d1, d2, .slice B ps.length cb, d4, d5, d6, d7, d8, d9, d10])
  have HP := Lib.hid (hp.below (Nat.le_refl _) HB0.out)
  have HS := Lib.hid (hs.below (Nat.le_refl _) HB0.out)
  have HR := Lib.hid (hr.below (Nat.le_refl _) HB0.out)
  have HRX0 := Lib.hid (show x0.w.rangeAt w.heap.size 0 [d0, d1, d2, .slice B ps.length cb, d4, d5, d6, d7, d8, d9, d10] from BelW.range HBAS.out x0)
  have CB := Lib.hid (HCB0.out x0.w (HP.out.below (Nat.le_refl _) x0.2) (HS.out.below (Nat.le_refl _) x0.2))
  clear hV hp hs hr HCB0
  go_upto_region 2 with (first
    | (with_reducible refine wpList_load_g 31 _ (by with_reducible rfl) _ _ (by with_unfolding_all rfl) (by with_unfolding_all rfl) _ _ HRX0.out Tryz.underlying31 (by with_unfolding_all rfl) (by kernel_rfl) ?_)
    | (go_at_call 25; (with_reducible refine CB.out.mono ?_); rintro e w1 ⟨L0, g, hL0, hN0, rfl, hI0, hb1⟩))
  have HL0 := Lib.hid (And.intro hL0 hN0)
  have HB1 := Lib.hid (show Below V.heap.size V w1 from below_next x0.2 hb1)
  have HI1 := Lib.hid (IR.base hI0 x0.2.size)
  clear hL0 hN0 hI0 hb1 CB HRX0
  go_wp2_with (first | (at_make; refine wpList_make_own _ rfl _ _ 40 rfl V.heap.size 44 i2 (.agg #[.int .i64 0, .int .i64 0]) 2 Tryz.underlying40 INFG.out.1 INFG.out.2.1 INFG.out.2.2.1 _ _ _ rs.length (by rfl) (by rfl) (by rfl) INFG.out.2.2.2.2.1 INFG.out.2.2.2.2.2 HB1.out.size ?_))
  intro w2 hown2 hg2
  have HB2 := Lib.hid (show Below V.heap.size V w2 from below_grown HB1.out hg2 (fun k hk => by cases hk))
  have HI2 := Lib.hid (show IR w2 V.heap.size g ps.length L0 from HI1.out.kept hg2 (by simp))
  have HG2 := Lib.hid (show GrR V g ps.length 0 (grs (rs.take 0) []) (.slice (some ⟨w1.heap.size, 0, none⟩) 0 rs.length) w2 from ⟨hown2, fun g' e1 e2 => by
    simp [Value.ownBlock] at e1 e2
    have := HI1.out.blk
    omega⟩)
  have HD2 := Lib.hid (show DayS L0 (dns ps) rs 0 L0 [] from ⟨HL0.out.2, by rw [HDN.out]; exact HL0.out.1, by simp [ras, dayL], by simp [ras, dayG]⟩)
  clear hown2 hg2
  obtain ⟨b9, hb9⟩ : ∃ x, w1.heap.size = x := ⟨_, rfl⟩
  rw [hb9] at HG2 ⊢
  clear hb9
  go_wp2_with fail
  go_loopw [9, 27] (fun s9 s27 wr => DyR V ps.length g L0 (dns ps) rs s9 s27 wr) (fun _ i _ => rs.length - (intOf i).toNat)
  case atStart => exact ⟨0, L0, [], by omega, rfl, HB2.out, HI2.out, HG2.out, Lib.hid HD2.out⟩
  case round =>
    obtain ⟨k, L, G, hk, rfl, hbw, hir, hgr, hds⟩ := hrel
    have HBW := Lib.hid hbw
    have HIR := Lib.hid hir
    have HGR := Lib.hid hgr
    have HDS := Lib.hid hds.out
    clear hbw hir hgr hds
    by_cases hlt : k < rs.length
    case neg =>
      have i4 : decide ((k : Int) < (rs.length : Int)) = false := decide_eq_false (by omega)
      obtain rfl : k = rs.length := by omega
      have HX := Lib.hid (show DayPost ps.length (dns ps) rs w (.returned (.tuple #[u9, .slice (some ⟨g, 0, none⟩) ps.length ps.length])) wr from by
        obtain ⟨A, c, e, _, hrd⟩ := own_slice HGR.out.1
        obtain ⟨A2, c2, e2, _, hrd2⟩ := own_slice HIR.out
        cases e2
        rw [List.take_length] at hrd
        have h1 := HDS.out.left
        have h2 := HDS.out.got
        rw [List.take_length] at h1 h2
        rw [h2] at hrd
        rw [h1] at hrd2
        rw [e]
        exact ⟨L0, A, c, g, HL0.out.1, HL0.out.2, rfl, hrd, hrd2, below_next HB0.out HBW.out⟩)
      go_wp2_with fail
      go_ret2
      exact HX.out
    have i4 : decide ((k : Int) < (rs.length : Int)) = true := decide_eq_true (by omega)
    have j1 : (0 : Int) ≤ (k : Int) := by omega
    have j2 : (k : Int) < (rs.length : Int) := by omega
    obtain ⟨rd, rb0, ro, rfl, hbs, hE, hrt⟩ := (HR.out.below (Nat.le_refl _) HBW.out).rt hlt
    have HRATE := Lib.hid (HRA.out k hlt)
    have HSTEP := Lib.hid (HDS.out.step hlt HRATE.out.1)
    have HSN := Lib.hid (fun (g : Int) => (show grs (rs.take (k + 1)) (G ++ [g]) = grs (rs.take k) G ++ [((rt rs k).id, g)] by
      rw [List.take_succ_eq_append_getElem hlt, rt_at hlt]
      exact grs_snoc (by rw [HDS.out.glen hk, List.length_take]; omega) _ _))
    have HGL := Lib.hid (show (grs (rs.take k) G).length = k by rw [grs_length (by rw [HDS.out.glen hk, List.length_take]; omega), List.length_take]; omega)
    obtain ⟨X, hX⟩ : ∃ X, rt rs k = X := ⟨_, rfl⟩
    rw [hX] at hrt HRATE HSTEP HSN
    clear hX hbs
    obtain ⟨id, own, date, pla, rate, fr, un, bk, bt⟩ := X
    have HRG := Lib.hid (show wr.rangeAt rb0 ro [.int .i64 id, .int .i64 own, .int .i64 date, .int .i64 pla, .int .i64 rate, .int .i64 fr, .int .i64 un, .int .i64 bk, .int .i64 bt] from hrt)
    have HON := Lib.hid (show ([.int .i64 id, .int .i64 own, .int .i64 date, .int .i64 pla, .int .i64 rate, .int .i64 fr, .int .i64 un, .int .i64 bk, .int .i64 bt] : List Value).all (·.oneCell') = true from rfl)
    clear hrt
    simp only at HRATE HSTEP HSN
    go_upto_region 6 with (first
      | (with_reducible refine wpList_load_g 46 _ (by with_reducible rfl) rb0 ro (by with_unfolding_all rfl) (by with_unfolding_all rfl) _ _ HRG.out Tryz.underlying46 (by with_unfolding_all rfl) (by kernel_rfl) ?_)
      | (with_reducible refine wpList_store_new (z := [.int .i64 0, .int .i64 0, .int .i64 0, .int .i64 0, .int .i64 0, .int .i64 0, .int .i64 0, .int .i64 0, .int .i64 0]) (cs := [.int .i64 id, .int .i64 own, .int .i64 date, .int .i64 pla, .int .i64 rate, .int .i64 fr, .int .i64 un, .int .i64 bk, .int .i64 bt]) 46 _ _ (by with_reducible rfl) (by with_unfolding_all rfl) wr.heap.size (by with_reducible rfl) _ (by with_unfolding_all rfl) (by with_unfolding_all rfl) (by with_unfolding_all rfl) (by kernel_rfl) HON.out ?_))
    refine wp_rebase _ (fun X hX x1 => ?_)
    have hbX : Below wr.heap.size wr X := by rw [hX]; exact bel_alloc (Below.refl _ _) _
    have HBX := Lib.hid (show Below V.heap.size V X from below_next HBW.out hbX)
    have HIX := Lib.hid (HIR.out.next hbX)
    have HGX := Lib.hid (show GrR V g ps.length k (grs (rs.take k) G) u9 X from ⟨own_below HGR.out.1 hbX, HGR.out.2⟩)
    have HBOX := Lib.hid (show X.rangeAt wr.heap.size 0 [.int .i64 id, .int .i64 own, .int .i64 date, .int .i64 pla, .int .i64 rate, .int .i64 fr, .int .i64 un, .int .i64 bk, .int .i64 bt] by rw [hX]; exact range_new _ _ [.int .i64 id, .int .i64 own, .int .i64 date, .int .i64 pla, .int .i64 rate, .int .i64 fr, .int .i64 un, .int .i64 bk, .int .i64 bt])
    have HRBG := Lib.hid (show wr.heap.size ≠ g ∧ wr.heap.size < X.heap.size from ⟨by have := HIR.out.blk; omega, by rw [hX, World.size_alloc]; omega⟩)
    obtain ⟨rb, hrb⟩ : ∃ b, wr.heap.size = b := ⟨_, rfl⟩
    rw [hrb] at HBOX HRBG ⊢
    have cp3 : x1.w.cell? ⟨rb, 3, none⟩ = some (.int .i64 pla) := BelW.range HBOX.out x1 3 _ rfl
    have HBXs := Lib.hid (show Below V.heap.size V x1.w from below_next HBX.out x1.2)
    have HRX := Lib.hid (show x1.w.rangeAt w.heap.size 0 [d0, d1, d2, .slice B ps.length cb, d4, d5, d6, d7, d8, d9, d10] from BelW.range HBAS.out ⟨x1.w, HBXs.out⟩)
    have CR := Lib.hid (reach_any B cb ps d0 d1 d2 d4 d5 d6 d7 d8 d9 d10 pla hpn x1.w (HP.out.below (Nat.le_refl _) HBXs.out))
    have HDR := Lib.hid (show DisL ps.length (reachF (dns ps) pla) from by have := reachF_dis (dns ps) pla; rwa [dns_length] at this)
    have HDL := Lib.hid (show (reachF (dns ps) pla).length ≤ 1000 from by have := HDR.out.len; omega)
    obtain ⟨R, hR⟩ : ∃ R, reachF (dns ps) pla = R := ⟨_, rfl⟩
    rw [hR] at CR HDR HDL HSTEP
    clear hR hX hrb hbX HRG HBW HIR HGR hE
    go_upto_region 7 with (first
      | (with_reducible refine wpList_load_g 31 _ (by with_reducible rfl) _ _ (by with_unfolding_all rfl) (by with_unfolding_all rfl) _ _ HRX.out Tryz.underlying31 (by with_unfolding_all rfl) (by kernel_rfl) ?_)
      | (go_at_call 11; (with_reducible refine CR.out.mono ?_); rintro e w3 ⟨A, c, rfl, hA, ho3, hr3, hb3⟩))
    rw [nat2_length] at ho3 ⊢
    have HB3 := Lib.hid (show Below V.heap.size V w3 from below_next HBXs.out hb3)
    have hX3 : Below X.heap.size X w3 := below_next x1.2 hb3
    have HI3 := Lib.hid (show IR w3 V.heap.size g ps.length L from HIX.out.next hX3)
    have HG3 := Lib.hid (show GrR V g ps.length k (grs (rs.take k) G) u9 w3 from ⟨own_below HGX.out.1 hX3, HGX.out.2⟩)
    have HBOX3 := Lib.hid (show w3.rangeAt rb 0 [.int .i64 id, .int .i64 own, .int .i64 date, .int .i64 pla, .int .i64 rate, .int .i64 fr, .int .i64 un, .int .i64 bk, .int .i64 bt] from BelW.range HBOX.out ⟨w3, hX3⟩)
    have HRB3 := Lib.hid (show rb < w3.heap.size from Nat.lt_of_lt_of_le HRBG.out.2 hX3.size)
    have HO3 := Lib.hid ho3
    have HBz := Lib.hid (show g < x1.w.heap.size from Nat.lt_of_lt_of_le HIX.out.blk.2 x1.2.size)
    obtain ⟨Bz, hBz⟩ : ∃ b, x1.w.heap.size = b := ⟨_, rfl⟩
    rw [hBz] at HO3 HBz
    clear hBz ho3 hr3 hb3 hX3 cp3 HRX CR hA HBX HIX HGX HBOX HBXs
    have hrl := HDL.out
    by_cases hR0 : 0 < R.length
    case neg =>
      have t0 : decide ((0 : Int) < (R.length : Int)) = false := decide_eq_false (by omega)
      have HLIT := Lib.hid (show (0 : Int) = getF L rate R ∧ (0 : Int) ≤ 0 ∧ ∀ q ∈ R, (0 : Int) ≤ gi L q from by
        obtain rfl : R = [] := List.eq_nil_of_length_eq_zero (by omega)
        exact ⟨rfl, Int.le_refl _, fun q h => by cases h⟩)
      have HBt := HB3
      have HIt := HI3
      have HGt := HG3
      have HOt := HO3
      have HBOXt := HBOX3
      clear HB3 HI3 HG3 HO3 HBOX3
      go_wp2_with fail
      go_loopw [62] (fun s62 wr => LsR V ps.length g rb Bz A c R L 0 id k (grs (rs.take k) G) u9 s62 wr) (fun i _ => R.length - (intOf i).toNat)
      case atStart => exact ⟨0, by omega, rfl, HBt.out, by rw [less_none]; exact HIt.out, HOt.out, HGt.out, HBOXt.out 0 _ rfl⟩
      case round =>
        clear HBt HIt HOt HGt HBOXt
        obtain ⟨j, hj, rfl, hbw, hir, hro, hgr, hbx⟩ := hrel
        have HBW := Lib.hid hbw
        have HIR := Lib.hid hir
        have HRO := Lib.hid hro
        have HGR := Lib.hid hgr
        have HBX := Lib.hid hbx
        clear hbw hir hro hgr
        by_cases hlj : j < R.length
        · exact absurd hlj (by omega)
        · have i5 : decide ((j : Int) < (R.length : Int)) = false := decide_eq_false (by omega)
          obtain rfl : j = R.length := by omega
          have HIL := Lib.hid (show IR wr V.heap.size g ps.length (lessF L R 0) from by have := HIR.out; rwa [List.take_length] at this)
          have HMX := Lib.hid (show k + 1 ≤ maxLen ∧ (k + 1) * 16 ≤ 140737488355328 by unfold maxLen; constructor <;> omega)
          clear HIR HRO
          go_wp2_with (first | (at_builtin; refine wpList_append_lies _ rfl _ _ _ (by rfl) V.heap.size 44 i2 _ 2 16 Tryz.underlying40 INFG.out.1 INFG.out.2.1 INFG.out.2.2.1 INFG.out.2.2.2.1 rfl (by omega) _ k (spCells (grs (rs.take k) G)) (by rfl) (HGR.out.1.alloc _) ⟨wr.heap.size, 0, none⟩ 1 1 [.int .i64 id, .int .i64 0] (by rfl) (by rfl) (World.news_of_block (heap_alloc_new _ _)) (by simp [Value.oneCell']) (by omega) HMX.out.1 HMX.out.2 (Nat.le_trans HBW.out.size (by simp)) (wr.heap.size + 1) (by simp) ?_))
          intro gg cap w7 hown7 hgrow7 hat7 hl7
          have HB7 := Lib.hid (show Below V.heap.size V w7 from own_grown (bel_alloc HBW.out _) (HGR.out.1.alloc _) hgrow7)
          have HI7 := Lib.hid (show IR w7 V.heap.size g ps.length (lessF L R 0) from World.ownsRow.kept (HIL.out.next (bel_alloc (Below.refl _ _) _)) hgrow7 (.inr (fun e => HGR.out.2 g e.symm rfl)))
          have HG7 := Lib.hid (show GrR V g ps.length (k + 1) (grs (rs.take (k + 1)) (G ++ [0])) (.slice (some ⟨gg, 0, none⟩) (k + 1) cap) w7 from ⟨by rw [HSN.out, spCells_snoc]; exact hown7, fun g' e1 e2 => by
            simp [Value.ownBlock] at e1 e2
            subst e1 e2
            rcases hat7 with e | e
            · exact HGR.out.2 _ e rfl
            · have := HIL.out.blk; omega⟩)
          have HS7 := Lib.hid (show DayS L0 (dns ps) rs (k + 1) (lessF L R 0) (G ++ [0]) from by have := HSTEP.out; rwa [← HLIT.out.1] at this)
          clear hown7 hgrow7 hat7
          go_wp2_with fail
          go_roundw
          case rel => exact ⟨k + 1, _, _, by omega, by go_num, HB7.out, HI7.out, HG7.out, Lib.hid HS7.out⟩
          case measure => simp [intOf]; omega
    case pos =>
      have t0 : decide ((0 : Int) < (R.length : Int)) = true := decide_eq_true (by omega)
      have hmk : i1.bytes * R.length ≤ 281474976710656 := by rw [INF.out.2.2.2]; omega
      have hml : R.length ≤ maxLen := by unfold maxLen; omega
      have HMK := Lib.hid (And.intro hmk hml)
      clear hmk hml
      go_wp2_with (first | (at_make; refine wpList_make_own _ rfl _ _ 29 rfl w3.heap.size 3 i1 (.int .i64 0) 1 Tryz.underlying29 INF.out.1 INF.out.2.1 INF.out.2.2.1 _ _ _ R.length (by rfl) (by rfl) (by rfl) HMK.out.1 HMK.out.2 (Nat.le_refl _) ?_))
      intro w4 hown4 hg4
      have HB4 := Lib.hid (show Below w3.heap.size w3 w4 from below_grown (Below.refl _ _) hg4 (fun k hk => by cases hk))
      have HT4 := Lib.hid hown4
      clear hown4 hg4
      go_wp2_with fail
      go_loopw [14, 43] (fun s14 s43 wr => ThR w3 R L s14 s43 wr) (fun _ i _ => R.length - (intOf i).toNat)
      case atStart => exact ⟨0, by omega, rfl, HB4.out, HT4.out⟩
      case round =>
        obtain ⟨j, hj, rfl, hbw, hto⟩ := hrel
        have HBW := Lib.hid hbw
        have HTO := Lib.hid hto
        have HOt := Lib.hid (own_below HO3.out hbw)
        have HIt := Lib.hid (show IR wr V.heap.size g ps.length L from HI3.out.next hbw)
        clear hbw hto HB4 HT4
        by_cases hlj : j < R.length
        case pos =>
          have i5 : decide ((j : Int) < (R.length : Int)) = true := decide_eq_true (by omega)
          have n1 : (0 : Int) ≤ (j : Int) := by omega
          have n2 : (j : Int) < (R.length : Int) := by omega
          obtain ⟨A', c', e', -, hrd⟩ := own_slice HOt.out
          cases e'
          obtain ⟨rd, rfl, f1⟩ := rd_row hrd (show j < (nat2 R).length by rw [nat2_length]; exact hlj)
          rw [gi_nat2 hlj] at f1
          have hqn := HDR.out.2 _ (getD_mem hlj)
          have f2 := HIt.out.cellq (q := R.getD j 0) hqn
          have HSN2 := Lib.hid (show ints ((R.take (j + 1)).map fun q => gi L q) = ints ((R.take j).map fun q => gi L q) ++ [.int .i64 (gi L (R.getD j 0))] by
            rw [List.take_succ_eq_append_getElem hlj, List.map_append, getD_is hlj]
            exact ints_snoc _ _)
          obtain ⟨q, hq⟩ : ∃ q, R.getD j 0 = q := ⟨_, rfl⟩
          rw [hq] at f1 f2 hqn HSN2
          obtain ⟨x, hx2⟩ : ∃ x, gi L q = x := ⟨_, rfl⟩
          rw [hx2] at f2 HSN2
          have q1 : (0 : Int) ≤ (q : Int) := by omega
          have q2 : (q : Int) < (ps.length : Int) := by omega
          have HMX := Lib.hid (show j + 1 ≤ maxLen ∧ (j + 1) * 8 ≤ 140737488355328 by unfold maxLen; constructor <;> omega)
          clear hq hx2 hrd HOt HIt HB3 HG3 HBOX3
          go_wp2_with (first | (at_builtin; refine wpList_append_lies _ rfl _ _ _ (by rfl) w3.heap.size 3 i1 _ 1 8 Tryz.underlying29 INF.out.1 INF.out.2.1 INF.out.2.2.1 INF.out.2.2.2 rfl (by omega) _ j (ints ((R.take j).map fun q => gi L q)) (by rfl) (HTO.out.alloc _) ⟨wr.heap.size, 0, none⟩ 1 1 [.int .i64 x] (by rfl) (by rfl) (World.news_of_block (heap_alloc_new _ _)) (by simp [Value.oneCell']) (by omega) HMX.out.1 HMX.out.2 (Nat.le_trans HBW.out.size (by simp)) (wr.heap.size + 1) (by simp) ?_))
          intro gg cap w5 hown5 hgrow5 hat5 hl5
          have HB5 := Lib.hid (show Below w3.heap.size w3 w5 from own_grown (bel_alloc HBW.out _) (HTO.out.alloc _) hgrow5)
          have HO5 := Lib.hid (show w5.ownsRow w3.heap.size 3 1 (.slice (some ⟨gg, 0, none⟩) (j + 1) cap) (j + 1) (ints ((R.take (j + 1)).map fun q => gi L q)) from by rw [HSN2.out, List.map_take]; exact hown5)
          clear hown5 hgrow5 hat5
          go_wp2_with fail
          go_roundw
          case rel => exact ⟨j + 1, by omega, by go_num, HB5.out, HO5.out⟩
          case measure => simp [intOf]; omega
        case neg =>
          have i5 : decide ((j : Int) < (R.length : Int)) = false := decide_eq_false (by omega)
          obtain rfl : j = R.length := by omega
          have HTR := Lib.hid (show wr.ownsRow w3.heap.size 3 1 u14 R.length (ints (R.map fun q => gi L q)) from by have := HTO.out; rwa [List.take_length] at this)
          obtain ⟨A2, c2, rfl, -, hrd⟩ := own_slice HTR.out
          have CL := Lib.hid (show Calls Tryz.prog 26 #[.int .i64 rate, .slice A2 R.length c2] wr fun e w' => e = .returned (.int .i64 (minL rate (R.map fun q => gi L q))) ∧ Below wr.heap.size wr w' from by
            have := least_any A2 c2 rate (R.map fun q => gi L q) (by rw [List.length_map]; omega) wr hrd
            rw [List.length_map] at this
            exact this)
          have hLn : L.length = ps.length := HIt.out.len2
          have hget := getF_spec (L := L) (R := R) HRATE.out.1 HDS.out.non.nonN (fun q hq => by rw [hLn]; exact HDR.out.2 q hq)
          have hmin := getF_min (L := L) (r := rate) (R := R) (fun e => by rw [e] at hR0; exact Nat.lt_irrefl _ hR0)
          have HBOXw := Lib.hid (show wr.rangeAt rb 0 [.int .i64 id, .int .i64 own, .int .i64 date, .int .i64 pla, .int .i64 rate, .int .i64 fr, .int .i64 un, .int .i64 bk, .int .i64 bt] from BelW.range HBOX3.out ⟨wr, HBW.out⟩)
          have cr4 : wr.cell? ⟨rb, 4, none⟩ = some (.int .i64 rate) := HBOXw.out 4 _ rfl
          have HGw := Lib.hid (show GrR V g ps.length k (grs (rs.take k) G) u9 wr from ⟨own_below HG3.out.1 HBW.out, HG3.out.2⟩)
          have HBw := Lib.hid (show Below V.heap.size V wr from below_next HB3.out HBW.out)
          clear HB3 HG3 HBOX3 HTO HTR hrd
          obtain ⟨mn, hmn⟩ : ∃ x, minL rate (R.map fun q => gi L q) = x := ⟨_, rfl⟩
          rw [hmn] at CL hmin
          obtain ⟨lit, hlit⟩ : ∃ x, max 0 mn = x := ⟨_, rfl⟩
          rw [hlit] at hmin
          have HLIT := Lib.hid (show lit = getF L rate R ∧ 0 ≤ lit ∧ ∀ q ∈ R, lit ≤ gi L q from by rw [← hmin]; exact ⟨rfl, hmin ▸ hget.1, fun q hq => hmin ▸ hget.2.2.1 q hq⟩)
          clear hget hmin hmn hLn
          go_upto_region 16 with (first | (go_at_call 26; (with_reducible refine CL.out.mono ?_); rintro e w5 ⟨rfl, hb5⟩))
          have HBt := Lib.hid (show Below V.heap.size V w5 from below_next HBw.out hb5)
          replace HIt := Lib.hid (show IR w5 V.heap.size g ps.length L from HIt.out.next hb5)
          replace HOt := Lib.hid (own_below HOt.out hb5)
          have HGt := Lib.hid (show GrR V g ps.length k (grs (rs.take k) G) u9 w5 from ⟨own_below HGw.out.1 hb5, HGw.out.2⟩)
          have HBOXt := Lib.hid (show w5.rangeAt rb 0 [.int .i64 id, .int .i64 own, .int .i64 date, .int .i64 pla, .int .i64 rate, .int .i64 fr, .int .i64 un, .int .i64 bk, .int .i64 bt] from BelW.range HBOXw.out ⟨w5, hb5⟩)
          clear HGw HBw HBOXw cr4 hb5 CL hlit
          go_wp2_with fail
          go_loopw [62] (fun s62 wr => LsR V ps.length g rb Bz A c R L lit id k (grs (rs.take k) G) u9 s62 wr) (fun i _ => R.length - (intOf i).toNat)
          case atStart => exact ⟨0, by omega, rfl, HBt.out, by rw [less_none]; exact HIt.out, HOt.out, HGt.out, HBOXt.out 0 _ rfl⟩
          case round =>
            clear HBt HIt HOt HGt HBOXt
            obtain ⟨j, hj, rfl, hbw, hir, hro, hgr, hbx⟩ := hrel
            have HBW := Lib.hid hbw
            have HIR := Lib.hid hir
            have HRO := Lib.hid hro
            have HGR := Lib.hid hgr
            have HBX := Lib.hid hbx
            clear hbw hir hro hgr
            by_cases hlj : j < R.length
            · have i5 : decide ((j : Int) < (R.length : Int)) = true := decide_eq_true (by omega)
              have n1 : (0 : Int) ≤ (j : Int) := by omega
              have n2 : (j : Int) < (R.length : Int) := by omega
              obtain ⟨A', c', e', -, hrd⟩ := own_slice HRO.out
              cases e'
              obtain ⟨rd, rfl, f1⟩ := rd_row hrd (show j < (nat2 R).length by rw [nat2_length]; exact hlj)
              rw [gi_nat2 hlj] at f1
              have hLn : L.length = ps.length := by have := HIR.out.len2; rwa [lessF_length] at this
              have hdis : DisL L.length R := by rw [hLn]; exact HDR.out
              have hqn := HDR.out.2 _ (getD_mem hlj)
              have hx := less_at (L := L) (g := lit) hdis hlj
              have HST := Lib.hid (less_set (L := L) (g := lit) hdis hlj)
              have hxb := HDS.out.non _ (show R.getD j 0 < L.length by rw [hLn]; exact hqn)
              have hxl := HLIT.out.2.2 _ (getD_mem hlj)
              have hl0 := HLIT.out.2.1
              have f2 := HIR.out.cellq (q := R.getD j 0) hqn
              rw [hx] at f2
              obtain ⟨q, hq⟩ : ∃ q, R.getD j 0 = q := ⟨_, rfl⟩
              rw [hq] at f1 f2 hqn hx hxb hxl HST
              obtain ⟨x, hx2⟩ : ∃ x, gi L q = x := ⟨_, rfl⟩
              rw [hx2] at f2 hxb hxl HST
              have q1 : (0 : Int) ≤ (q : Int) := by omega
              have q2 : (q : Int) < (ps.length : Int) := by omega
              obtain ⟨v, hv⟩ : ∃ v, x - lit = v := ⟨_, rfl⟩
              have wS : wrap64 (x - lit) = v := by unfold wrap64; omega
              rw [hv] at HST
              have fz := HIR.out.fz
              clear hLn hdis hx hq hx2 hxb hxl hl0 hrd hv
              go_wp2_with fail
              go_roundw
              case rel => exact ⟨j + 1, by omega, by go_num, HBW.out.setCell (by exact HIR.out.blk.1) _, by rw [← HST.out]; exact HIR.out.put q v, ownsRow_setCell_below HRO.out (by exact HBz.out) _, ⟨ownsRow_setCell_other HGR.out.1 (fun e => HGR.out.2 g e rfl) _, HGR.out.2⟩, (World.cell?_setCell_far _ ⟨g, q, none⟩ ⟨rb, 0, none⟩ _ (fun e => HRBG.out.1 (show rb = g from Eq.symm e))).trans HBX.out⟩
              case measure => simp [intOf]; omega
            · have i5 : decide ((j : Int) < (R.length : Int)) = false := decide_eq_false (by omega)
              obtain rfl : j = R.length := by omega
              have HIL := Lib.hid (show IR wr V.heap.size g ps.length (lessF L R lit) from by have := HIR.out; rwa [List.take_length] at this)
              have HMX := Lib.hid (show k + 1 ≤ maxLen ∧ (k + 1) * 16 ≤ 140737488355328 by unfold maxLen; constructor <;> omega)
              clear HIR HRO
              go_wp2_with (first | (at_builtin; refine wpList_append_lies _ rfl _ _ _ (by rfl) V.heap.size 44 i2 _ 2 16 Tryz.underlying40 INFG.out.1 INFG.out.2.1 INFG.out.2.2.1 INFG.out.2.2.2.1 rfl (by omega) _ k (spCells (grs (rs.take k) G)) (by rfl) (HGR.out.1.alloc _) ⟨wr.heap.size, 0, none⟩ 1 1 [.int .i64 id, .int .i64 lit] (by rfl) (by rfl) (World.news_of_block (heap_alloc_new _ _)) (by simp [Value.oneCell']) (by omega) HMX.out.1 HMX.out.2 (Nat.le_trans HBW.out.size (by simp)) (wr.heap.size + 1) (by simp) ?_))
              intro gg cap w7 hown7 hgrow7 hat7 hl7
              have HB7 := Lib.hid (show Below V.heap.size V w7 from own_grown (bel_alloc HBW.out _) (HGR.out.1.alloc _) hgrow7)
              have HI7 := Lib.hid (show IR w7 V.heap.size g ps.length (lessF L R lit) from World.ownsRow.kept (HIL.out.next (bel_alloc (Below.refl _ _) _)) hgrow7 (.inr (fun e => HGR.out.2 g e.symm rfl)))
              have HG7 := Lib.hid (show GrR V g ps.length (k + 1) (grs (rs.take (k + 1)) (G ++ [lit])) (.slice (some ⟨gg, 0, none⟩) (k + 1) cap) w7 from ⟨by rw [HSN.out, spCells_snoc]; exact hown7, fun g' e1 e2 => by
                simp [Value.ownBlock] at e1 e2
                subst e1 e2
                rcases hat7 with e | e
                · exact HGR.out.2 _ e rfl
                · have := HIL.out.blk; omega⟩)
              have HS7 := Lib.hid (show DayS L0 (dns ps) rs (k + 1) (lessF L R lit) (G ++ [lit]) from by have := HSTEP.out; rwa [← HLIT.out.1] at this)
              clear hown7 hgrow7 hat7
              go_wp2_with fail
              go_roundw
              case rel => exact ⟨k + 1, _, _, by omega, by go_num, HB7.out, HI7.out, HG7.out, Lib.hid HS7.out⟩
              case measure => simp [intOf]; omega
end Go.Proofs.YtngjakahanmepaaGreatDoor
