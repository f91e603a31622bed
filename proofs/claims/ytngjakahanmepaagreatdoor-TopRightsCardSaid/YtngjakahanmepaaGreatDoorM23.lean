/- Part 23 of the proof of TopRights: curve.value. curve.Right, value, At as functions (XLeast's first part). curve.Under. -/
import Derived.Test.YtngjakahanmepaaGreatDoorM22
import Derived.OwnWalk
import Derived.Shelf.Abstract
namespace Go.Proofs.YtngjakahanmepaaGreatDoor
open Go.RowKit Go.Shelf
set_option linter.unusedVariables false
set_option linter.unusedSimpArgs false
/-- how many points lie at most at x -/
def IsIdx (l : List (Int × Int)) (x : Int) (r : Nat) : Prop := r ≤ l.length ∧ (∀ t, t < r → px l t ≤ x) ∧ (∀ t, r ≤ t → t < l.length → x < px l t)
/-- the value at x -/
def cval (l : List (Int × Int)) (x : Int) (r : Nat) : Int × Bool :=
  if r = 0 then (py l 0, false) else if r = l.length then (py l (r - 1), false) else
    (py l (r - 1) + (x - px l (r - 1)) * (py l r - py l (r - 1)) / (px l r - px l (r - 1)), decide (0 < (x - px l (r - 1)) * (py l r - py l (r - 1)) % (px l r - px l (r - 1))))
def ValPost (l : List (Int × Int)) (x : Int) (w : World) (e : Ending) (w' : World) : Prop :=
  ∃ r : Nat, IsIdx l x r ∧ e = .returned (.tuple #[.int .i64 (cval l x r).1, .bool (cval l x r).2]) ∧ Below w.heap.size w w'
theorem ret_pair {v : Int × Bool} {a : Int} {b : Bool} (h : v = (a, b)) : Ending.returned (.tuple #[.int .i64 a, .bool b]) = .returned (.tuple #[.int .i64 v.1, .bool v.2]) := by rw [h]
theorem RightP.mono {l : List (Int × Int)} (h : RightP l) : ∀ (b a : Nat), a < b → b < l.length → px l a < px l b
  | 0, _, h1, _ => absurd h1 (Nat.not_lt_zero _)
  | b + 1, a, h1, h2 => by
    have hb := ((h.ok (b + 1) h2).2.2.2.2 (by omega)).1
    simp only [Nat.add_sub_cancel] at hb
    by_cases e : a = b
    · subst e; exact hb
    · have := RightP.mono h b a (by omega) (by omega)
      omega
theorem scale_ok {a n d : Int} (ha : 0 ≤ a) (had : a ≤ d) (hd0 : 1 ≤ d) (hd : d ≤ 1125899906842624) (hn : 0 ≤ n) (hn2 : n ≤ 1125899906842624) : Xa.scale a n d = (a * n / d, a * n % d, true) ∧ 0 ≤ a * n / d ∧ a * n / d ≤ n ∧ 0 ≤ a * n % d ∧ a * n % d < d := by
  have hq : a * n / d ≤ n := by
    have h1 : a * n / d ≤ d * n / d := Int.ediv_le_ediv (by omega) (Int.mul_le_mul_of_nonneg_right (by omega) hn)
    rwa [Int.mul_ediv_cancel_left _ (by omega)] at h1
  refine ⟨?_, Int.ediv_nonneg (Int.mul_nonneg ha hn) (by omega), hq, Int.emod_nonneg _ (by omega), Int.emod_lt_of_pos _ (by omega)⟩
  unfold Xa.scale Xa.fits
  rw [if_pos (by simpa using (⟨ha, by omega, hn, hn2, by omega, hd, by omega⟩ : 0 ≤ a ∧ a ≤ 1125899906842624 ∧ 0 ≤ n ∧ n ≤ 1125899906842624 ∧ 1 ≤ d ∧ d ≤ 1125899906842624 ∧ a * n / d ≤ 1125899906842624))]
set_option maxHeartbeats 8000000 in
set_option maxRecDepth 100000 in
theorem value_any (A : Option Addr) (c : Nat) (l : List (Int × Int)) (hR : RightP l) (x : Int) (x_1 : -9223372036854775808 ≤ x) (x_2 : x ≤ 9223372036854775807) (w : World) (hr : Rd w A (ptCells l)) :
    Calls Tryz.prog 125 #[.slice A l.length c, .int .i64 x] w (ValPost l x w) := by
  have HRow := Lib.hid hr
  have hpos := hR.pos
  have hle := hR.le
  clear hr
  go_enter Tryz.func125, Tryz.ntmps125
  go_wp2_with fail
  refine rebase _ (fun V1 hV x1 => ?_)
  have HB1 := Lib.hid (bel_at hV (bel_alloc (bel_alloc (Below.refl w.heap.size w) _) _))
  have HA1 := Lib.hid (show Rd V1 A (ptCells l) by rw [hV]; exact (HRow.out.alloc _).alloc _)
  have HC1 := Lib.hid (Cs.at hV (((Cs.nil w).alloc _ _).alloc _ _))
  have hu1 := HC1.out.bx
  simp only [Bx, newCells, join, World.size_alloc] at hu1
  clear hV
  refine (search_any 136 (enters_of Tryz.func136 (by kernel_rfl) rfl) _ l.length (by omega) (fun k => decide (x < px l k)) x1.w (fun k hk y => ?hf) ?hm).mono ?_
  case hf =>
    have y' : BelW V1 := ⟨y.w, below_next x1.2 y.2⟩
    have h := vcl_any A c l x w.heap.size (w.heap.size + 1) k y.w ((y.2.cell (p := ⟨w.heap.size, 0, none⟩) (World.block_lt_of_cell? _ _ (hu1.2.1 x1))).trans (hu1.2.1 x1)) ((y.2.cell (p := ⟨w.heap.size + 1, 0, none⟩) (World.block_lt_of_cell? _ _ (hu1.1 x1))).trans (hu1.1 x1)) ((HA1.out.bel x1).bel y) hk
    rw [px_at hk] at h
    exact h
  case hm =>
    intro a b hab hb h
    simp only [decide_eq_true_eq] at h ⊢
    by_cases e : a = b
    · subst e; exact h
    · have := hR.mono b a (by omega) hb
      omega
  rintro e w2 ⟨r, hrl, rfl, hI1, hI2, hb⟩
  have hIdx : IsIdx l x r := ⟨hrl, fun t ht => by have := hI1 t ht; simp only [decide_eq_false_iff_not] at this; omega, fun t h1 h2 => by have := hI2 t h1 h2; simpa using this⟩
  have HI := Lib.hid hIdx
  obtain ⟨z, rfl⟩ : ∃ z : BelW V1, w2 = z.w := ⟨⟨w2, below_next x1.2 hb⟩, rfl⟩
  clear hI1 hI2 hb hIdx
  have hBz : Below w.heap.size w z.w := below_next HB1.out z.2
  have hz1 : w.heap.size + 1 < z.w.heap.size := World.block_lt_of_cell? _ _ (hu1.1 z)
  have hz0 : w.heap.size < z.w.heap.size := by omega
  by_cases h0 : r = 0
  · subst h0
    have tr : (((0 : Nat) : Int) == 0) = true := rfl
    obtain ⟨ad, rfl, hadb, q1, q2⟩ := (HA1.out.bel z).pt (k := 0) (by omega)
    have i2 : (0 : Int) < (l.length : Int) := by omega
    rw [show (0 : Nat) * 2 = 0 from rfl, show ad.add 0 = ad from by unfold Addr.add; rfl] at q1 q2
    have ev : cval l x 0 = (py l 0, false) := if_pos rfl
    obtain ⟨yv, hy⟩ : ∃ yv, py l 0 = yv := ⟨_, rfl⟩
    rw [hy] at q2 ev
    have EV := Lib.hid ev
    clear ev hy
    go_wp2_with fail
    go_ret2
    exact ⟨0, HI.out, ret_pair EV.out, hBz⟩
  · have tr : ((r : Int) == 0) = false := by simp; omega
    obtain ⟨ad, rfl, hadb, q1, q2⟩ := (HA1.out.bel z).pt (k := r - 1) (by omega)
    have w1 : ((r : Int) - 1).toNat = r - 1 := by omega
    have w2 : (0 : Int) ≤ (r : Int) - 1 := by omega
    have w3 : (r : Int) - 1 < (l.length : Int) := by omega
    obtain ⟨X, hX⟩ : ∃ X, px l (r - 1) = X := ⟨_, rfl⟩
    obtain ⟨Y, hY⟩ : ∃ Y, py l (r - 1) = Y := ⟨_, rfl⟩
    obtain ⟨o1, o2, o3, o4, _⟩ := hR.ok (r - 1) (by omega)
    have hXx := HI.out.2.1 (r - 1) (by omega)
    rw [hX] at q1 o1 o2 hXx
    rw [hY] at q2 o3 o4
    by_cases h1 : r = l.length
    · have tl : ((r : Int) == (l.length : Int)) = true := by simp [h1]
      have ev : cval l x r = (Y, false) := by unfold cval; rw [if_neg h0, if_pos h1, hY]
      have EV := Lib.hid ev
      have H1 := Lib.hid h1
      clear ev hX hY h1 h0
      go_wp2_with fail
      go_ret2
      exact ⟨r, HI.out, ret_pair EV.out, bel_alloc hBz _⟩
    · have tl : ((r : Int) == (l.length : Int)) = false := by simp; omega
      have hrl' : r < l.length := by omega
      obtain ⟨ad', e', _, s1, s2⟩ := (HA1.out.bel z).pt (k := r) hrl'
      cases e'
      obtain ⟨X', hX'⟩ : ∃ X', px l r = X' := ⟨_, rfl⟩
      obtain ⟨Y', hY'⟩ : ∃ Y', py l r = Y' := ⟨_, rfl⟩
      obtain ⟨o1', o2', o3', o4', o5'⟩ := hR.ok r hrl'
      have hxX := HI.out.2.2 r (Nat.le_refl _) hrl'
      have hYY := (o5' (by omega)).2
      rw [hX'] at s1 o1' o2' hxX
      rw [hY'] at s2 o3' o4' hYY
      rw [hY] at hYY
      have sc := scale_ok (a := x - X) (n := Y' - Y) (d := X' - X) (by omega) (by omega) (by omega) (by omega) (by omega) (by omega)
      have ev : cval l x r = (Y + (x - X) * (Y' - Y) / (X' - X), decide (0 < (x - X) * (Y' - Y) % (X' - X))) := by unfold cval; rw [if_neg h0, if_neg h1, hX, hY, hX', hY']
      obtain ⟨sc1, sc2, sc3, sc4, sc5⟩ := sc
      have S := Lib.hid (fun w => sc1 ▸ scale_any (x - X) (Y' - Y) (X' - X) w)
      clear sc1
      generalize (x - X) * (Y' - Y) / (X' - X) = q at *
      generalize (x - X) * (Y' - Y) % (X' - X) = m at *
      have EV := Lib.hid ev
      have H1 := Lib.hid h1
      clear ev hX hY hX' hY' h1 h0
      go_upto_region 7 with fail
      refine wp_rebase _ (fun V2 hV x2 => ?_)
      have hV0 : Below z.w.heap.size z.w V2 := by rw [hV]; exact bel_alloc (Below.refl _ _) _
      have HB2 := Lib.hid (show Below w.heap.size w V2 by rw [hV]; exact bel_alloc hBz _)
      have HC2 := Lib.hid (Cs.at hV ((HC1.out.below z).alloc _ _))
      have hu2 := HC2.out.bx
      simp only [Bx, newCells, join, World.size_alloc] at hu2
      clear hV hu1
      have d1 := fun v : BelW V2 => BelW.cells ((hV0.cell (p := ad.add (r * 2)) (by rw [add_block]; exact hadb)).trans s1) v
      have d2 := fun v : BelW V2 => BelW.cells ((hV0.cell (p := ⟨(ad.add (r * 2)).block, (ad.add (r * 2)).off + 1, none⟩) (by show (ad.add (r * 2)).block < _; rw [add_block]; exact hadb)).trans s2) v
      have i1 : (0 : Int) ≤ (r : Int) := by omega
      have i2 : (r : Int) < (l.length : Int) := by omega
      have w4 : IntKind.i64.wrap (x - X) = x - X := IntWalk.i64_in _ (by omega)
      have w5 : IntKind.i64.wrap (Y' - Y) = Y' - Y := IntWalk.i64_in _ (by omega)
      have w6 : IntKind.i64.wrap (X' - X) = X' - X := IntWalk.i64_in _ (by omega)
      clear s1 s2 q1 q2
      refine wp_region_belx (by kernel_rfl) (by kernel_rfl) ?_
      repeat (go_big_quiet_step ((go_at_call 106; exact bel_of_drew (S.out _))))
      refine wpQuiet_nil ?_
      intro v2
      clear w1 w2 w3 w4 w5 w6 d1 d2
      go_wp2_with fail
      go_ret2
      exact ⟨r, HI.out, ret_pair EV.out, below_next HB2.out v2.2⟩
end Go.Proofs.YtngjakahanmepaaGreatDoor
namespace Go.Proofs.YtngjakahanmepaaGreatDoor
open Go.RowKit Go.Shelf
set_option linter.unusedVariables false
set_option linter.unusedSimpArgs false
noncomputable def rightB (l : List (Int × Int)) : Bool := @decide (RightP l) (Classical.propDecidable _)
theorem rightB_iff {l : List (Int × Int)} : rightB l = true ↔ RightP l := by unfold rightB; exact @decide_eq_true_iff _ (Classical.propDecidable _)
theorem right_is (A : Option Addr) (c : Nat) (l : List (Int × Int)) (hn : l.length ≤ 9223372036854775807) (w : World) (hr : Rd w A (ptCells l)) :
    Calls Tryz.prog 78 #[.slice A l.length c] w fun e w' => e = .returned (.bool (rightB l)) ∧ Below w.heap.size w w' :=
  (cright_any A c l hn w hr).mono fun e w' ⟨b, h1, h2, h3⟩ => by
    have : b = rightB l := by rw [Bool.eq_iff_iff, h2, rightB_iff]
    exact ⟨this ▸ h1, h3⟩
theorem IsIdx.unique {l : List (Int × Int)} {x : Int} {r r' : Nat} (h : IsIdx l x r) (h' : IsIdx l x r') : r = r' := by
  rcases Nat.lt_trichotomy r r' with hlt | he | hlt
  · have h1 := h.2.2 r (Nat.le_refl _) (by have := h'.1; omega)
    have h2 := h'.2.1 r hlt
    omega
  · exact he
  · have h1 := h'.2.2 r' (Nat.le_refl _) (by have := h.1; omega)
    have h2 := h.2.1 r' hlt
    omega
open Classical in
noncomputable def idx (l : List (Int × Int)) (x : Int) : Nat := if h : ∃ r, IsIdx l x r then Classical.choose h else 0
theorem idx_eq {l : List (Int × Int)} {x : Int} {r : Nat} (h : IsIdx l x r) : idx l x = r := by
  have hex : ∃ r, IsIdx l x r := ⟨r, h⟩
  unfold idx
  rw [dif_pos hex]
  exact (Classical.choose_spec hex).unique h
noncomputable def cv (l : List (Int × Int)) (x : Int) : Int × Bool := cval l x (idx l x)
theorem value_is (A : Option Addr) (c : Nat) (l : List (Int × Int)) (hR : RightP l) (x : Int) (x_1 : -9223372036854775808 ≤ x) (x_2 : x ≤ 9223372036854775807) (w : World) (hr : Rd w A (ptCells l)) :
    Calls Tryz.prog 125 #[.slice A l.length c, .int .i64 x] w fun e w' => e = .returned (.tuple #[.int .i64 (cv l x).1, .bool (cv l x).2]) ∧ Below w.heap.size w w' :=
  (value_any A c l hR x x_1 x_2 w hr).mono fun e w' ⟨r, h1, h2, h3⟩ => ⟨by unfold cv; rw [idx_eq h1]; exact h2, h3⟩
noncomputable def atF (l : List (Int × Int)) (x : Int) : Int := if rightB l = true then (cv l x).1 else 0
theorem at_any (A : Option Addr) (c : Nat) (l : List (Int × Int)) (hn : l.length ≤ 9223372036854775807) (x : Int) (x_1 : -9223372036854775808 ≤ x) (x_2 : x ≤ 9223372036854775807) (w : World) (hr : Rd w A (ptCells l)) :
    Calls Tryz.prog 130 #[.slice A l.length c, .int .i64 x] w fun e w' => e = .returned (.int .i64 (atF l x)) ∧ Below w.heap.size w w' := by
  have RI := Lib.hid (right_is A c l hn w hr)
  unfold atF
  rcases hb : rightB l with _ | _
  · rw [hb] at RI
    rw [if_neg Bool.false_ne_true]
    clear hb hr
    go_enter Tryz.func130, Tryz.ntmps130
    go_wp2_with fail
    refine RI.out.mono ?_
    rintro e w1 ⟨rfl, hB⟩
    go_wp2_with fail
    go_ret
    exact ⟨rfl, hB⟩
  · rw [hb] at RI
    rw [if_pos rfl]
    have hR := rightB_iff.1 hb
    have VI := Lib.hid (value_is A c l hR x x_1 x_2)
    have HRow := Lib.hid hr
    generalize (cv l x).1 = v at *
    generalize (cv l x).2 = m at *
    clear hb hr hR
    go_enter Tryz.func130, Tryz.ntmps130
    go_wp2_with fail
    refine RI.out.mono ?_
    rintro e w1 ⟨rfl, hB⟩
    go_wp2_with fail
    refine (VI.out w1 (HRow.out.below (Nat.le_refl _) hB)).mono ?_
    rintro e w2 ⟨rfl, hB2⟩
    go_wp2_with fail
    go_ret
    exact ⟨rfl, below_next hB hB2⟩
/-! Least -/
end Go.Proofs.YtngjakahanmepaaGreatDoor
namespace Go.Proofs.YtngjakahanmepaaGreatDoor
open Go.RowKit Go.Shelf
set_option linter.unusedVariables false
set_option linter.unusedSimpArgs false
def UnA (a b : List (Int × Int)) (k : Nat) : Prop := py a k ≤ (cv b (px a k)).1
def UnB (a b : List (Int × Int)) (k : Nat) : Prop := (cv a (px b k)).1 ≤ py b k ∧ ¬ ((cv a (px b k)).1 = py b k ∧ (cv a (px b k)).2 = true)
structure UnderP (a b : List (Int × Int)) : Prop where
  ra : RightP a
  rb : RightP b
  ua : ∀ k, k < a.length → UnA a b k
  ub : ∀ k, k < b.length → UnB a b k
def UnderPost (a b : List (Int × Int)) (w : World) (e : Ending) (w' : World) : Prop := ∃ r : Bool, e = .returned (.bool r) ∧ (r = true ↔ UnderP a b) ∧ Below w.heap.size w w'
theorem underPost_no {a b : List (Int × Int)} {w w' : World} (h : ¬ UnderP a b) (hb : Below w.heap.size w w') : UnderPost a b w (.returned (.bool false)) w' := ⟨false, rfl, ⟨fun h => absurd h Bool.false_ne_true, fun h' => absurd h' h⟩, hb⟩
def UnderR (Q : Nat → Prop) (n : Nat) (w : World) (s : Value) (wr : World) : Prop := ∃ k : Nat, k ≤ n ∧ s = .int .i64 (k : Int) ∧ (∀ j, j < k → Q j) ∧ Below w.heap.size w wr
set_option maxHeartbeats 8000000 in
set_option maxRecDepth 100000 in
theorem under_any (A B : Option Addr) (ca cb : Nat) (a b : List (Int × Int)) (hna : a.length ≤ 9223372036854775807) (hnb : b.length ≤ 9223372036854775807) (w : World) (hra : Rd w A (ptCells a)) (hrb : Rd w B (ptCells b)) :
    Calls Tryz.prog 110 #[.slice A a.length ca, .slice B b.length cb] w (UnderPost a b w) := by
  have HRA := Lib.hid hra
  have HRB := Lib.hid hrb
  have RI := Lib.hid (fun w' (h : Below w.heap.size w w') => right_is A ca a hna w' (hra.below (Nat.le_refl _) h))
  have RJ := Lib.hid (fun w' (h : Below w.heap.size w w') => right_is B cb b hnb w' (hrb.below (Nat.le_refl _) h))
  clear hra hrb
  by_cases hRa : RightP a
  case neg =>
    have hb : rightB a = false := by rcases h : rightB a with _ | _; rfl; exact absurd (rightB_iff.1 h) hRa
    rw [hb] at RI
    have hno : ¬ UnderP a b := fun h => hRa h.ra
    clear hRa hb
    go_enter Tryz.func110, Tryz.ntmps110
    go_wp2_with fail
    refine (RI.out _ (Below.refl _ _)).mono ?_
    rintro e w1 ⟨rfl, hB⟩
    go_wp2_with fail
    go_ret
    exact underPost_no hno hB
  rw [rightB_iff.2 hRa] at RI
  by_cases hRb : RightP b
  case neg =>
    have hb : rightB b = false := by rcases h : rightB b with _ | _; rfl; exact absurd (rightB_iff.1 h) hRb
    rw [hb] at RJ
    have hno : ¬ UnderP a b := fun h => hRb h.rb
    clear hRb hb hRa
    go_enter Tryz.func110, Tryz.ntmps110
    go_wp2_with fail
    refine (RI.out _ (Below.refl _ _)).mono ?_
    rintro e w1 ⟨rfl, hB⟩
    go_wp2_with fail
    refine (RJ.out _ hB).mono ?_
    rintro e w2 ⟨rfl, hB2⟩
    go_wp2_with fail
    go_ret
    exact underPost_no hno (below_next hB hB2)
  rw [rightB_iff.2 hRb] at RJ
  have HA := Lib.hid hRa
  have HB := Lib.hid hRb
  clear hRa hRb
  go_enter Tryz.func110, Tryz.ntmps110
  go_wp2_with fail
  refine (RI.out _ (Below.refl _ _)).mono ?_
  rintro e w1 ⟨rfl, hB1⟩
  go_wp2_with fail
  refine (RJ.out _ hB1).mono ?_
  rintro e w2 ⟨rfl, hB2⟩
  have hBw2 : Below w.heap.size w w2 := below_next hB1 hB2
  go_wp2_with fail
  go_loopw [23] (fun s wr => UnderR (UnA a b) a.length w s wr) (fun i _ => a.length - (intOf i).toNat)
  case atStart => exact ⟨0, by omega, rfl, fun j h2 => absurd h2 (by omega), hBw2⟩
  case round =>
    obtain ⟨k, hk, rfl, hok, hBr⟩ := hrel
    have HOK := Lib.hid hok
    clear hok
    by_cases hlt : k < a.length
    · have i1 : (0 : Int) ≤ (k : Int) := by omega
      have i2 : (k : Int) < (a.length : Int) := by omega
      obtain ⟨ad, rfl, hadb, q1, q2⟩ := (HRA.out.below (Nat.le_refl _) hBr).pt hlt
      obtain ⟨o1, o2, o3, o4, _⟩ := HA.out.ok k hlt
      have VI := Lib.hid (fun w' (h : Below w.heap.size w w') => value_is B cb b HB.out (px a k) (by omega) (by omega) w' (HRB.out.below (Nat.le_refl _) h))
      have iff0 : UnA a b k ↔ py a k ≤ (cv b (px a k)).1 := Iff.rfl
      have IFF := Lib.hid iff0
      clear iff0
      generalize (cv b (px a k)).1 = v at *
      generalize (cv b (px a k)).2 = m at *
      generalize px a k = x at *
      generalize py a k = y at *
      clear o1 o2 o3 o4
      go_upto_region 6 with fail
      refine wp_rebase _ (fun V hV z0 => ?_)
      have HBV := Lib.hid (show Below w.heap.size w V by rw [hV]; exact bel_alloc hBr _)
      have HC := Lib.hid (Cs.at hV ((Cs.nil wr).alloc _ _))
      have hu := HC.out.bx
      simp only [Bx, newCells, join] at hu
      clear hV q1 q2
      go_wp2_with fail
      refine (VI.out z0.w (below_next HBV.out z0.2)).mono ?_
      rintro e w3 ⟨rfl, hB3⟩
      obtain ⟨z, rfl⟩ : ∃ z : BelW V, w3 = z.w := ⟨⟨w3, below_next z0.2 hB3⟩, rfl⟩
      clear hB3
      have hBz : Below w.heap.size w z.w := below_next HBV.out z.2
      rcases b1 : decide (v < y) with _ | _
      · have HGOOD := Lib.hid (show UnA a b k from IFF.out.2 (by simp only [decide_eq_false_iff_not] at b1; omega))
        go_wp2_with fail
        go_roundw
        case rel =>
          refine ⟨k + 1, by omega, by go_num, fun j hj => ?_, hBz⟩
          by_cases hjk : j < k
          · exact HOK.out j hjk
          · obtain rfl : j = k := by omega
            exact HGOOD.out
        case measure => simp [intOf]; omega
      · have hno : ¬ UnderP a b := fun h => by have := IFF.out.1 (h.ua k hlt); simp only [decide_eq_true_eq] at b1; omega
        go_wp2_with fail
        go_ret
        exact underPost_no hno hBz
    · have i2 : decide ((k : Int) < (a.length : Int)) = false := decide_eq_false (by omega)
      have HUA := Lib.hid (show ∀ j, j < a.length → UnA a b j from fun j hj => HOK.out j (by omega))
      clear HOK
      go_wp2_with fail
      go_loopw [41] (fun s wr => UnderR (UnB a b) b.length w s wr) (fun i _ => b.length - (intOf i).toNat)
      case atStart => exact ⟨0, by omega, rfl, fun j h2 => absurd h2 (by omega), hBr⟩
      case round =>
        obtain ⟨k, hk, rfl, hok, hBr⟩ := hrel
        have HOK := Lib.hid hok
        clear hok
        by_cases hlt : k < b.length
        · have i1 : (0 : Int) ≤ (k : Int) := by omega
          have i2 : (k : Int) < (b.length : Int) := by omega
          obtain ⟨ad, rfl, hadb, q1, q2⟩ := (HRB.out.below (Nat.le_refl _) hBr).pt hlt
          obtain ⟨o1, o2, o3, o4, _⟩ := HB.out.ok k hlt
          have VI := Lib.hid (fun w' (h : Below w.heap.size w w') => value_is A ca a HA.out (px b k) (by omega) (by omega) w' (HRA.out.below (Nat.le_refl _) h))
          have iff0 : UnB a b k ↔ (cv a (px b k)).1 ≤ py b k ∧ ¬ ((cv a (px b k)).1 = py b k ∧ (cv a (px b k)).2 = true) := Iff.rfl
          have IFF := Lib.hid iff0
          clear iff0
          generalize (cv a (px b k)).1 = v at *
          generalize (cv a (px b k)).2 = m at *
          generalize px b k = x at *
          generalize py b k = y at *
          clear o1 o2 o3 o4
          go_upto_region 13 with fail
          refine wp_rebase _ (fun V hV z0 => ?_)
          have HBV := Lib.hid (show Below w.heap.size w V by rw [hV]; exact bel_alloc hBr _)
          have HC := Lib.hid (Cs.at hV ((Cs.nil wr).alloc _ _))
          have hu := HC.out.bx
          simp only [Bx, newCells, join] at hu
          clear hV q1 q2
          go_wp2_with fail
          refine (VI.out z0.w (below_next HBV.out z0.2)).mono ?_
          rintro e w3 ⟨rfl, hB3⟩
          obtain ⟨z, rfl⟩ : ∃ z : BelW V, w3 = z.w := ⟨⟨w3, below_next z0.2 hB3⟩, rfl⟩
          clear hB3
          have hBz : Below w.heap.size w z.w := below_next HBV.out z.2
          rcases b1 : decide (y < v) with _ | _
          · rcases b2 : (v == y) with _ | _
            · have HGOOD := Lib.hid (show UnB a b k from IFF.out.2 (by simp only [decide_eq_false_iff_not, beq_eq_false_iff_ne] at b1 b2; exact ⟨by omega, fun h => b2 h.1⟩))
              go_wp2_with fail
              go_roundw
              case rel =>
                refine ⟨k + 1, by omega, by go_num, fun j hj => ?_, hBz⟩
                by_cases hjk : j < k
                · exact HOK.out j hjk
                · obtain rfl : j = k := by omega
                  exact HGOOD.out
              case measure => simp [intOf]; omega
            · cases m with
              | false =>
                have HGOOD := Lib.hid (show UnB a b k from IFF.out.2 (by simp only [decide_eq_false_iff_not] at b1; exact ⟨by omega, fun h => absurd h.2 Bool.false_ne_true⟩))
                go_wp2_with fail
                go_roundw
                case rel =>
                  refine ⟨k + 1, by omega, by go_num, fun j hj => ?_, hBz⟩
                  by_cases hjk : j < k
                  · exact HOK.out j hjk
                  · obtain rfl : j = k := by omega
                    exact HGOOD.out
                case measure => simp [intOf]; omega
              | true =>
                have hno : ¬ UnderP a b := fun h => (IFF.out.1 (h.ub k hlt)).2 ⟨by simpa using b2, rfl⟩
                go_wp2_with fail
                go_ret
                exact underPost_no hno hBz
          · have hno : ¬ UnderP a b := fun h => by have := (IFF.out.1 (h.ub k hlt)).1; simp only [decide_eq_true_eq] at b1; omega
            go_wp2_with fail
            go_ret
            exact underPost_no hno hBz
        · have i2 : decide ((k : Int) < (b.length : Int)) = false := decide_eq_false (by omega)
          go_wp2_with fail
          go_ret
          exact ⟨true, rfl, ⟨fun _ => ⟨HA.out, HB.out, HUA.out, fun j hj => HOK.out j (by omega)⟩, fun _ => rfl⟩, hBr⟩
noncomputable def underB (a b : List (Int × Int)) : Bool := @decide (UnderP a b) (Classical.propDecidable _)
theorem underB_iff {a b : List (Int × Int)} : underB a b = true ↔ UnderP a b := by unfold underB; exact @decide_eq_true_iff _ (Classical.propDecidable _)
theorem under_is (A B : Option Addr) (ca cb : Nat) (a b : List (Int × Int)) (hna : a.length ≤ 9223372036854775807) (hnb : b.length ≤ 9223372036854775807) (w : World) (hra : Rd w A (ptCells a)) (hrb : Rd w B (ptCells b)) :
    Calls Tryz.prog 110 #[.slice A a.length ca, .slice B b.length cb] w fun e w' => e = .returned (.bool (underB a b)) ∧ Below w.heap.size w w' :=
  (under_any A B ca cb a b hna hnb w hra hrb).mono fun e w' ⟨r, h1, h2, h3⟩ => by
    have : r = underB a b := by rw [Bool.eq_iff_iff, h2, underB_iff]
    exact ⟨this ▸ h1, h3⟩
end Go.Proofs.YtngjakahanmepaaGreatDoor
