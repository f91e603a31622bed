/- curve.Right, value, At as functions; curve.Least. -/
import Derived.Test.YtonemgmmhjankaaValue
namespace Go.Proofs.Ytonemgmmhjankaa
open Go.RowKit Go.Shelf
set_option linter.unusedVariables false
set_option linter.unusedSimpArgs false

noncomputable def rightB (l : List (Int × Int)) : Bool := @decide (RightP l) (Classical.propDecidable _)
theorem rightB_iff {l : List (Int × Int)} : rightB l = true ↔ RightP l := by unfold rightB; exact @decide_eq_true_iff _ (Classical.propDecidable _)
theorem right_is (A : Option Addr) (c : Nat) (l : List (Int × Int)) (hn : l.length ≤ 9223372036854775807) (w : World) (hr : Rd w A (ptCells l)) :
    Calls Try.prog 11 #[.slice A l.length c] w fun e w' => e = .returned (.bool (rightB l)) ∧ Below w.heap.size w w' :=
  (cright_any A c l hn w hr).mono fun e w' ⟨b, h1, h2, h3⟩ => by
    have : b = rightB l := by rw [Bool.eq_iff_iff, h2, rightB_iff]
    exact ⟨this ▸ h1, h3⟩
theorem IsIdx.unique {l : List (Int × Int)} {x : Int} {r r' : Nat} (h : IsIdx l x r) (h' : IsIdx l x r') : r = r' := by
  rcases Nat.lt_trichotomy r r' with hlt | he | hlt
  · have h1 := h.2.2 r (Nat.le_refl _) (by have := h'.1; omega)
    have h2 := h'.2.1 r hlt
    omega
  · exact he
  · have h1 := h'.2.2 r' (Nat.le_refl _) (by have := h.1; omega)
    have h2 := h.2.1 r' hlt
    omega
open Classical in
noncomputable def idx (l : List (Int × Int)) (x : Int) : Nat := if h : ∃ r, IsIdx l x r then Classical.choose h else 0
theorem idx_eq {l : List (Int × Int)} {x : Int} {r : Nat} (h : IsIdx l x r) : idx l x = r := by
  have hex : ∃ r, IsIdx l x r := ⟨r, h⟩
  unfold idx
  rw [dif_pos hex]
  exact (Classical.choose_spec hex).unique h
noncomputable def cv (l : List (Int × Int)) (x : Int) : Int × Bool := cval l x (idx l x)
theorem value_is (A : Option Addr) (c : Nat) (l : List (Int × Int)) (hR : RightP l) (x : Int) (x_1 : -9223372036854775808 ≤ x) (x_2 : x ≤ 9223372036854775807) (w : World) (hr : Rd w A (ptCells l)) :
    Calls Try.prog 25 #[.slice A l.length c, .int .i64 x] w fun e w' => e = .returned (.tuple #[.int .i64 (cv l x).1, .bool (cv l x).2]) ∧ Below w.heap.size w w' :=
  (value_any A c l hR x x_1 x_2 w hr).mono fun e w' ⟨r, h1, h2, h3⟩ => ⟨by unfold cv; rw [idx_eq h1]; exact h2, h3⟩
noncomputable def atF (l : List (Int × Int)) (x : Int) : Int := if rightB l = true then (cv l x).1 else 0
theorem at_any (A : Option Addr) (c : Nat) (l : List (Int × Int)) (hn : l.length ≤ 9223372036854775807) (x : Int) (x_1 : -9223372036854775808 ≤ x) (x_2 : x ≤ 9223372036854775807) (w : World) (hr : Rd w A (ptCells l)) :
    Calls Try.prog 13 #[.slice A l.length c, .int .i64 x] w fun e w' => e = .returned (.int .i64 (atF l x)) ∧ Below w.heap.size w w' := by
  have RI := Lib.hid (right_is A c l hn w hr)
  unfold atF
  rcases hb : rightB l with _ | _
  · rw [hb] at RI
    rw [if_neg Bool.false_ne_true]
    clear hb hr
    go_enter Try.func13, Try.ntmps13
    go_wp2_with fail
    refine RI.out.mono ?_
    rintro e w1 ⟨rfl, hB⟩
    go_wp2_with fail
    go_ret
    exact ⟨rfl, hB⟩
  · rw [hb] at RI
    rw [if_pos rfl]
    have hR := rightB_iff.1 hb
    have VI := Lib.hid (value_is A c l hR x x_1 x_2)
    have HRow := Lib.hid hr
    generalize (cv l x).1 = v at *
    generalize (cv l x).2 = m at *
    clear hb hr hR
    go_enter Try.func13, Try.ntmps13
    go_wp2_with fail
    refine RI.out.mono ?_
    rintro e w1 ⟨rfl, hB⟩
    go_wp2_with fail
    refine (VI.out w1 (HRow.out.below (Nat.le_refl _) hB)).mono ?_
    rintro e w2 ⟨rfl, hB2⟩
    go_wp2_with fail
    go_ret
    exact ⟨rfl, below_next hB hB2⟩

/-! Least -/
def IsIdy (l : List (Int × Int)) (y : Int) (r : Nat) : Prop := r ≤ l.length ∧ (∀ t, t < r → py l t < y) ∧ (∀ t, r ≤ t → t < l.length → y ≤ py l t)
def cleast (l : List (Int × Int)) (y : Int) (r : Nat) : Int :=
  if r = 0 then 0 else px l (r - 1) + (y - py l (r - 1)) * (px l r - px l (r - 1)) / (py l r - py l (r - 1)) + (if (y - py l (r - 1)) * (px l r - px l (r - 1)) % (py l r - py l (r - 1)) = 0 then 0 else 1)
def LeastPost (l : List (Int × Int)) (y : Int) (w : World) (e : Ending) (w' : World) : Prop :=
  ∃ (v : Int) (b : Bool), e = .returned (.tuple #[.int .i64 v, .bool b]) ∧ Below w.heap.size w w' ∧
    ((b = false ∧ v = 0 ∧ ¬ (RightP l ∧ y ≤ py l (l.length - 1))) ∨ (b = true ∧ RightP l ∧ y ≤ py l (l.length - 1) ∧ ∃ r, IsIdy l y r ∧ v = cleast l y r))
theorem leastPost_no {l : List (Int × Int)} {y : Int} {w w' : World} (h : ¬ (RightP l ∧ y ≤ py l (l.length - 1))) (hb : Below w.heap.size w w') : LeastPost l y w (.returned (.tuple #[.int .i64 0, .bool false])) w' :=
  ⟨0, false, rfl, hb, .inl ⟨rfl, rfl, h⟩⟩
theorem leastPost_yes {l : List (Int × Int)} {y v : Int} {w w' : World} {r : Nat} (hR : RightP l) (hy : y ≤ py l (l.length - 1)) (hr : IsIdy l y r) (hv : cleast l y r = v) (hb : Below w.heap.size w w') : LeastPost l y w (.returned (.tuple #[.int .i64 v, .bool true])) w' :=
  ⟨v, true, rfl, hb, .inr ⟨rfl, hR, hy, r, hr, hv.symm⟩⟩

theorem lcl_any (A : Option Addr) (c : Nat) (l : List (Int × Int)) (x : Int) (Bc Bx k : Nat) (w : World) (hc : w.cell? ⟨Bc, 0, none⟩ = some (.slice A l.length c)) (hx : w.cell? ⟨Bx, 0, none⟩ = some (.int .i64 x)) (hr : Rd w A (ptCells l)) (hk : k < l.length) :
    Calls Try.prog 23 #[.int .i64 (k : Int), .pointer (some ⟨Bc, 0, none⟩), .pointer (some ⟨Bx, 0, none⟩)] w fun e w' => e = .returned (.bool (decide (x ≤ py l k))) ∧ ∃ n, w' = w.drewN n := by
  obtain ⟨ad, rfl, hb, h1, h2⟩ := hr.pt hk
  have i1 : (0 : Int) ≤ (k : Int) := by omega
  have i2 : (k : Int) < (l.length : Int) := by omega
  generalize px l k = u at *
  generalize py l k = v at *
  clear hr
  go_enter Try.func23, Try.ntmps23
  go_wp2_with fail
  go_quiet (fail)
  go_wp2_with fail
  go_ret
  exact ⟨rfl, _, rfl⟩

set_option maxHeartbeats 8000000 in
set_option maxRecDepth 100000 in
theorem least_any (A : Option Addr) (c : Nat) (l : List (Int × Int)) (hn : l.length ≤ 9223372036854775807) (x : Int) (x_1 : -9223372036854775808 ≤ x) (x_2 : x ≤ 9223372036854775807) (w : World) (hr : Rd w A (ptCells l)) :
    Calls Try.prog 9 #[.slice A l.length c, .int .i64 x] w (LeastPost l x w) := by
  have HRow := Lib.hid hr
  clear hr
  go_enter Try.func9, Try.ntmps9
  go_upto_region 1 with fail
  refine wp_rebase _ (fun V1 hV x1 => ?_)
  have HB1 := Lib.hid (bel_at hV (bel_alloc (bel_alloc (Below.refl w.heap.size w) _) _))
  have HA1 := Lib.hid (show Rd V1 A (ptCells l) by rw [hV]; exact (HRow.out.alloc _).alloc _)
  have HC1 := Lib.hid (Cs.at hV (((Cs.nil w).alloc _ _).alloc _ _))
  have hu1 := HC1.out.bx
  simp only [Bx, newCells, join, World.size_alloc] at hu1
  clear hV
  rcases hb : rightB l with _ | _
  · have hno : ¬ (RightP l ∧ x ≤ py l (l.length - 1)) := fun h => by have := rightB_iff.2 h.1; rw [hb] at this; cases this
    have RI := Lib.hid (fun y : BelW V1 => hb ▸ right_is A c l hn y.w (HA1.out.bel y))
    clear hb
    refine wp_region_belx (by kernel_rfl) (by kernel_rfl) ?_
    repeat (go_big_quiet_step ((go_at_call 11; exact bel_of (RI.out _))))
    refine wpQuiet_nil ?_
    intro z
    go_wp2_with fail
    go_ret2
    exact leastPost_no hno (below_next HB1.out z.2)
  · have hR := rightB_iff.1 hb
    have hpos := hR.pos
    have hle := hR.le
    have RI := Lib.hid (fun y : BelW V1 => hb ▸ right_is A c l hn y.w (HA1.out.bel y))
    have HR := Lib.hid hR
    clear hb hR
    obtain ⟨ad, rfl, hadb, q1, q2⟩ := HA1.out.pt (k := l.length - 1) (by omega)
    obtain ⟨Y, hY⟩ : ∃ Y, py l (l.length - 1) = Y := ⟨_, rfl⟩
    rw [hY] at q2
    have u2 := fun v : BelW V1 => BelW.cells q2 v
    have w1 : IntKind.i64.wrap ((l.length : Int) - 1) = (l.length : Int) - 1 := IntWalk.i64_in _ (by omega)
    have w2 : ((l.length : Int) - 1).toNat = l.length - 1 := by omega
    have w3 : (0 : Int) ≤ (l.length : Int) - 1 := by omega
    have w4 : (l.length : Int) - 1 < (l.length : Int) := by omega
    by_cases hy : Y < x
    · have t1 : decide (Y < x) = true := decide_eq_true hy
      have hno : ¬ (RightP l ∧ x ≤ py l (l.length - 1)) := fun h => by have := h.2; rw [hY] at this; omega
      clear hY q1 q2
      refine wp_region_belx (by kernel_rfl) (by kernel_rfl) ?_
      repeat (go_big_quiet_step ((go_at_call 11; exact bel_of (RI.out _))))
      refine wpQuiet_nil ?_
      intro z
      clear w1 w2 w3 w4
      go_wp2_with fail
      go_ret2
      exact leastPost_no hno (below_next HB1.out z.2)
    · have t1 : decide (Y < x) = false := decide_eq_false hy
      have hyy : x ≤ py l (l.length - 1) := by rw [hY]; omega
      have HYY := Lib.hid hyy
      clear hY q1 q2 hyy
      refine wp_region_belx (by kernel_rfl) (by kernel_rfl) ?_
      repeat (go_big_quiet_step ((go_at_call 11; exact bel_of (RI.out _))))
      refine wpQuiet_nil ?_
      intro z0
      clear w1 w2 w3 w4
      go_wp2_with fail
      refine (search_any 23 (enters_of Try.func23 (by kernel_rfl) rfl) _ l.length (by omega) (fun k => decide (x ≤ py l k)) z0.w (fun k hk y => ?hf) ?hm).mono ?_
      case hf =>
        exact lcl_any (some ad) c l x w.heap.size (w.heap.size + 1) k y.w ((y.2.cell (p := ⟨w.heap.size, 0, none⟩) (World.block_lt_of_cell? _ _ (hu1.2.1 z0))).trans (hu1.2.1 z0)) ((y.2.cell (p := ⟨w.heap.size + 1, 0, none⟩) (World.block_lt_of_cell? _ _ (hu1.1 z0))).trans (hu1.1 z0)) ((HA1.out.bel z0).bel y) hk
      case hm =>
        intro a b hab hb h
        simp only [decide_eq_true_eq] at h ⊢
        have := HR.out.mono_y b a hab hb
        omega
      rintro e w2 ⟨r, hrl, rfl, hI1, hI2, hb⟩
      have hIdy : IsIdy l x r := ⟨hrl, fun t ht => by have := hI1 t ht; simp only [decide_eq_false_iff_not] at this; omega, fun t h1 h2 => by have := hI2 t h1 h2; simpa using this⟩
      have HI := Lib.hid hIdy
      obtain ⟨z, rfl⟩ : ∃ z : BelW V1, w2 = z.w := ⟨⟨w2, below_next z0.2 hb⟩, rfl⟩
      clear hI1 hI2 hb hIdy
      have hBz : Below w.heap.size w z.w := below_next HB1.out z.2
      have hz1 : w.heap.size + 1 < z.w.heap.size := World.block_lt_of_cell? _ _ (hu1.1 z)
      have hz0 : w.heap.size < z.w.heap.size := by omega
      by_cases h0 : r = 0
      · subst h0
        have tr : (((0 : Nat) : Int) == 0) = true := rfl
        go_wp2_with fail
        go_ret2
        exact leastPost_yes HR.out HYY.out HI.out rfl hBz
      · have tr : ((r : Int) == 0) = false := by simp; omega
        have hrl' : r < l.length := by
          rcases Nat.lt_or_ge r l.length with h | h
          · exact h
          · have := HI.out.2.1 (l.length - 1) (by omega)
            have := HYY.out
            omega
        obtain ⟨ad', e', hadb', q1, q2⟩ := (HA1.out.bel z).pt (k := r - 1) (by omega)
        cases e'
        obtain ⟨ad', e', _, s1, s2⟩ := (HA1.out.bel z).pt (k := r) hrl'
        cases e'
        have w1 : ((r : Int) - 1).toNat = r - 1 := by omega
        have w2 : (0 : Int) ≤ (r : Int) - 1 := by omega
        have w3 : (r : Int) - 1 < (l.length : Int) := by omega
        obtain ⟨X, hX⟩ : ∃ X, px l (r - 1) = X := ⟨_, rfl⟩
        obtain ⟨Yp, hYp⟩ : ∃ Y, py l (r - 1) = Y := ⟨_, rfl⟩
        obtain ⟨X', hX'⟩ : ∃ X', px l r = X' := ⟨_, rfl⟩
        obtain ⟨Y', hY'⟩ : ∃ Y', py l r = Y' := ⟨_, rfl⟩
        obtain ⟨o1, o2, o3, o4, _⟩ := HR.out.ok (r - 1) (by omega)
        obtain ⟨o1', o2', o3', o4', o5'⟩ := HR.out.ok r hrl'
        have hlt := HI.out.2.1 (r - 1) (by omega)
        have hge := HI.out.2.2 r (Nat.le_refl _) hrl'
        have hXX := (o5' (by omega)).1
        rw [hX] at q1 o1 o2 hXX
        rw [hYp] at q2 o3 o4 hlt
        rw [hX'] at s1 o1' o2' hXX
        rw [hY'] at s2 o3' o4' hge
        have sc := scale_ok (a := x - Yp) (n := X' - X) (d := Y' - Yp) (by omega) (by omega) (by omega) (by omega) (by omega) (by omega)
        have ev : cleast l x r = X + (x - Yp) * (X' - X) / (Y' - Yp) + (if (x - Yp) * (X' - X) % (Y' - Yp) = 0 then 0 else 1) := by unfold cleast; rw [if_neg h0, hX, hYp, hX', hY']
        obtain ⟨sc1, sc2, sc3, sc4, sc5⟩ := sc
        have S := Lib.hid (fun w => sc1 ▸ scale_any (x - Yp) (X' - X) (Y' - Yp) w)
        clear sc1 o5'
        generalize (x - Yp) * (X' - X) / (Y' - Yp) = q at *
        generalize (x - Yp) * (X' - X) % (Y' - Yp) = m at *
        have EV := Lib.hid ev
        clear ev hX hYp hX' hY' h0
        go_upto_region 7 with fail
        refine wp_rebase _ (fun V2 hV x2 => ?_)
        have hV0 : Below z.w.heap.size z.w V2 := by rw [hV]; exact bel_alloc (Below.refl _ _) _
        have HB2 := Lib.hid (show Below w.heap.size w V2 by rw [hV]; exact bel_alloc hBz _)
        have HC2 := Lib.hid (Cs.at hV ((HC1.out.below z).alloc _ _))
        have hu2 := HC2.out.bx
        simp only [Bx, newCells, join, World.size_alloc] at hu2
        clear hV hu1 u2
        have d1 := fun v : BelW V2 => BelW.cells ((hV0.cell (p := ad.add (r * 2)) (by rw [add_block]; exact hadb')).trans s1) v
        have d2 := fun v : BelW V2 => BelW.cells ((hV0.cell (p := ⟨(ad.add (r * 2)).block, (ad.add (r * 2)).off + 1, none⟩) (by show (ad.add (r * 2)).block < _; rw [add_block]; exact hadb')).trans s2) v
        have i1 : (0 : Int) ≤ (r : Int) := by omega
        have i2 : (r : Int) < (l.length : Int) := by omega
        have w4 : IntKind.i64.wrap (x - Yp) = x - Yp := IntWalk.i64_in _ (by omega)
        have w5 : IntKind.i64.wrap (Y' - Yp) = Y' - Yp := IntWalk.i64_in _ (by omega)
        have w6 : IntKind.i64.wrap (X' - X) = X' - X := IntWalk.i64_in _ (by omega)
        clear s1 s2 q1 q2
        refine wp_region_belx (by kernel_rfl) (by kernel_rfl) ?_
        repeat (go_big_quiet_step ((go_at_call 21; exact bel_of_drew (S.out _))))
        refine wpQuiet_nil ?_
        intro v2
        clear w1 w2 w3 w4 w5 w6 d1 d2
        by_cases hm : m = 0
        · have tm : decide (0 < m) = false := decide_eq_false (by omega)
          have HM := Lib.hid hm
          clear hm
          go_wp2_with fail
          go_ret2
          exact leastPost_yes HR.out HYY.out HI.out (by rw [EV.out, if_pos HM.out]; omega) (below_next HB2.out v2.2)
        · have tm : decide (0 < m) = true := decide_eq_true (by omega)
          have HM := Lib.hid hm
          clear hm
          go_wp2_with fail
          go_ret2
          exact leastPost_yes HR.out HYY.out HI.out (by rw [EV.out, if_neg HM.out]; omega) (below_next HB2.out v2.2)

end Go.Proofs.Ytonemgmmhjankaa
