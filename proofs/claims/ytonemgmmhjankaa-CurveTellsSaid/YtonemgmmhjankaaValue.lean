/- curve.value. -/
import Derived.Test.YtonemgmmhjankaaRight
import Derived.OwnWalk
import Derived.Shelf.Abstract
namespace Go.Proofs.Ytonemgmmhjankaa
open Go.RowKit Go.Shelf
set_option linter.unusedVariables false
set_option linter.unusedSimpArgs false

/-- how many points lie at most at x -/
def IsIdx (l : List (Int × Int)) (x : Int) (r : Nat) : Prop := r ≤ l.length ∧ (∀ t, t < r → px l t ≤ x) ∧ (∀ t, r ≤ t → t < l.length → x < px l t)
/-- the value at x -/
def cval (l : List (Int × Int)) (x : Int) (r : Nat) : Int × Bool :=
  if r = 0 then (py l 0, false) else if r = l.length then (py l (r - 1), false) else
    (py l (r - 1) + (x - px l (r - 1)) * (py l r - py l (r - 1)) / (px l r - px l (r - 1)), decide (0 < (x - px l (r - 1)) * (py l r - py l (r - 1)) % (px l r - px l (r - 1))))
def ValPost (l : List (Int × Int)) (x : Int) (w : World) (e : Ending) (w' : World) : Prop :=
  ∃ r : Nat, IsIdx l x r ∧ e = .returned (.tuple #[.int .i64 (cval l x r).1, .bool (cval l x r).2]) ∧ Below w.heap.size w w'
theorem ret_pair {v : Int × Bool} {a : Int} {b : Bool} (h : v = (a, b)) : Ending.returned (.tuple #[.int .i64 a, .bool b]) = .returned (.tuple #[.int .i64 v.1, .bool v.2]) := by rw [h]
theorem RightP.mono {l : List (Int × Int)} (h : RightP l) : ∀ (b a : Nat), a < b → b < l.length → px l a < px l b
  | 0, _, h1, _ => absurd h1 (Nat.not_lt_zero _)
  | b + 1, a, h1, h2 => by
    have hb := ((h.ok (b + 1) h2).2.2.2.2 (by omega)).1
    simp only [Nat.add_sub_cancel] at hb
    by_cases e : a = b
    · subst e; exact hb
    · have := RightP.mono h b a (by omega) (by omega)
      omega
theorem RightP.mono_y {l : List (Int × Int)} (h : RightP l) : ∀ (b a : Nat), a ≤ b → b < l.length → py l a ≤ py l b
  | 0, a, h1, _ => by
    obtain rfl : a = 0 := by omega
    exact Int.le_refl _
  | b + 1, a, h1, h2 => by
    have hb := ((h.ok (b + 1) h2).2.2.2.2 (by omega)).2
    simp only [Nat.add_sub_cancel] at hb
    by_cases e : a = b + 1
    · subst e; exact Int.le_refl _
    · have := RightP.mono_y h b a (by omega) (by omega)
      omega
theorem scale_ok {a n d : Int} (ha : 0 ≤ a) (had : a ≤ d) (hd0 : 1 ≤ d) (hd : d ≤ 1125899906842624) (hn : 0 ≤ n) (hn2 : n ≤ 1125899906842624) : Xa.scale a n d = (a * n / d, a * n % d, true) ∧ 0 ≤ a * n / d ∧ a * n / d ≤ n ∧ 0 ≤ a * n % d ∧ a * n % d < d := by
  have hq : a * n / d ≤ n := by
    have h1 : a * n / d ≤ d * n / d := Int.ediv_le_ediv (by omega) (Int.mul_le_mul_of_nonneg_right (by omega) hn)
    rwa [Int.mul_ediv_cancel_left _ (by omega)] at h1
  refine ⟨?_, Int.ediv_nonneg (Int.mul_nonneg ha hn) (by omega), hq, Int.emod_nonneg _ (by omega), Int.emod_lt_of_pos _ (by omega)⟩
  unfold Xa.scale Xa.fits
  rw [if_pos (by simpa using (⟨ha, by omega, hn, hn2, by omega, hd, by omega⟩ : 0 ≤ a ∧ a ≤ 1125899906842624 ∧ 0 ≤ n ∧ n ≤ 1125899906842624 ∧ 1 ≤ d ∧ d ≤ 1125899906842624 ∧ a * n / d ≤ 1125899906842624))]

set_option maxHeartbeats 8000000 in
set_option maxRecDepth 100000 in
theorem value_any (A : Option Addr) (c : Nat) (l : List (Int × Int)) (hR : RightP l) (x : Int) (x_1 : -9223372036854775808 ≤ x) (x_2 : x ≤ 9223372036854775807) (w : World) (hr : Rd w A (ptCells l)) :
    Calls Try.prog 25 #[.slice A l.length c, .int .i64 x] w (ValPost l x w) := by
  have HRow := Lib.hid hr
  have hpos := hR.pos
  have hle := hR.le
  clear hr
  go_enter Try.func25, Try.ntmps25
  go_wp2_with fail
  refine rebase _ (fun V1 hV x1 => ?_)
  have HB1 := Lib.hid (bel_at hV (bel_alloc (bel_alloc (Below.refl w.heap.size w) _) _))
  have HA1 := Lib.hid (show Rd V1 A (ptCells l) by rw [hV]; exact (HRow.out.alloc _).alloc _)
  have HC1 := Lib.hid (Cs.at hV (((Cs.nil w).alloc _ _).alloc _ _))
  have hu1 := HC1.out.bx
  simp only [Bx, newCells, join, World.size_alloc] at hu1
  clear hV
  refine (search_any 30 (enters_of Try.func30 (by kernel_rfl) rfl) _ l.length (by omega) (fun k => decide (x < px l k)) x1.w (fun k hk y => ?hf) ?hm).mono ?_
  case hf =>
    have y' : BelW V1 := ⟨y.w, below_next x1.2 y.2⟩
    have h := vcl_any A c l x w.heap.size (w.heap.size + 1) k y.w ((y.2.cell (p := ⟨w.heap.size, 0, none⟩) (World.block_lt_of_cell? _ _ (hu1.2.1 x1))).trans (hu1.2.1 x1)) ((y.2.cell (p := ⟨w.heap.size + 1, 0, none⟩) (World.block_lt_of_cell? _ _ (hu1.1 x1))).trans (hu1.1 x1)) ((HA1.out.bel x1).bel y) hk
    rw [px_at hk] at h
    exact h
  case hm =>
    intro a b hab hb h
    simp only [decide_eq_true_eq] at h ⊢
    by_cases e : a = b
    · subst e; exact h
    · have := hR.mono b a (by omega) hb
      omega
  rintro e w2 ⟨r, hrl, rfl, hI1, hI2, hb⟩
  have hIdx : IsIdx l x r := ⟨hrl, fun t ht => by have := hI1 t ht; simp only [decide_eq_false_iff_not] at this; omega, fun t h1 h2 => by have := hI2 t h1 h2; simpa using this⟩
  have HI := Lib.hid hIdx
  obtain ⟨z, rfl⟩ : ∃ z : BelW V1, w2 = z.w := ⟨⟨w2, below_next x1.2 hb⟩, rfl⟩
  clear hI1 hI2 hb hIdx
  have hBz : Below w.heap.size w z.w := below_next HB1.out z.2
  have hz1 : w.heap.size + 1 < z.w.heap.size := World.block_lt_of_cell? _ _ (hu1.1 z)
  have hz0 : w.heap.size < z.w.heap.size := by omega
  by_cases h0 : r = 0
  · subst h0
    have tr : (((0 : Nat) : Int) == 0) = true := rfl
    obtain ⟨ad, rfl, hadb, q1, q2⟩ := (HA1.out.bel z).pt (k := 0) (by omega)
    have i2 : (0 : Int) < (l.length : Int) := by omega
    rw [show (0 : Nat) * 2 = 0 from rfl, show ad.add 0 = ad from by unfold Addr.add; rfl] at q1 q2
    have ev : cval l x 0 = (py l 0, false) := if_pos rfl
    obtain ⟨yv, hy⟩ : ∃ yv, py l 0 = yv := ⟨_, rfl⟩
    rw [hy] at q2 ev
    have EV := Lib.hid ev
    clear ev hy
    go_wp2_with fail
    go_ret2
    exact ⟨0, HI.out, ret_pair EV.out, hBz⟩
  · have tr : ((r : Int) == 0) = false := by simp; omega
    obtain ⟨ad, rfl, hadb, q1, q2⟩ := (HA1.out.bel z).pt (k := r - 1) (by omega)
    have w1 : ((r : Int) - 1).toNat = r - 1 := by omega
    have w2 : (0 : Int) ≤ (r : Int) - 1 := by omega
    have w3 : (r : Int) - 1 < (l.length : Int) := by omega
    obtain ⟨X, hX⟩ : ∃ X, px l (r - 1) = X := ⟨_, rfl⟩
    obtain ⟨Y, hY⟩ : ∃ Y, py l (r - 1) = Y := ⟨_, rfl⟩
    obtain ⟨o1, o2, o3, o4, _⟩ := hR.ok (r - 1) (by omega)
    have hXx := HI.out.2.1 (r - 1) (by omega)
    rw [hX] at q1 o1 o2 hXx
    rw [hY] at q2 o3 o4
    by_cases h1 : r = l.length
    · have tl : ((r : Int) == (l.length : Int)) = true := by simp [h1]
      have ev : cval l x r = (Y, false) := by unfold cval; rw [if_neg h0, if_pos h1, hY]
      have EV := Lib.hid ev
      have H1 := Lib.hid h1
      clear ev hX hY h1 h0
      go_wp2_with fail
      go_ret2
      exact ⟨r, HI.out, ret_pair EV.out, bel_alloc hBz _⟩
    · have tl : ((r : Int) == (l.length : Int)) = false := by simp; omega
      have hrl' : r < l.length := by omega
      obtain ⟨ad', e', _, s1, s2⟩ := (HA1.out.bel z).pt (k := r) hrl'
      cases e'
      obtain ⟨X', hX'⟩ : ∃ X', px l r = X' := ⟨_, rfl⟩
      obtain ⟨Y', hY'⟩ : ∃ Y', py l r = Y' := ⟨_, rfl⟩
      obtain ⟨o1', o2', o3', o4', o5'⟩ := hR.ok r hrl'
      have hxX := HI.out.2.2 r (Nat.le_refl _) hrl'
      have hYY := (o5' (by omega)).2
      rw [hX'] at s1 o1' o2' hxX
      rw [hY'] at s2 o3' o4' hYY
      rw [hY] at hYY
      have sc := scale_ok (a := x - X) (n := Y' - Y) (d := X' - X) (by omega) (by omega) (by omega) (by omega) (by omega) (by omega)
      have ev : cval l x r = (Y + (x - X) * (Y' - Y) / (X' - X), decide (0 < (x - X) * (Y' - Y) % (X' - X))) := by unfold cval; rw [if_neg h0, if_neg h1, hX, hY, hX', hY']
      obtain ⟨sc1, sc2, sc3, sc4, sc5⟩ := sc
      have S := Lib.hid (fun w => sc1 ▸ scale_any (x - X) (Y' - Y) (X' - X) w)
      clear sc1
      generalize (x - X) * (Y' - Y) / (X' - X) = q at *
      generalize (x - X) * (Y' - Y) % (X' - X) = m at *
      have EV := Lib.hid ev
      have H1 := Lib.hid h1
      clear ev hX hY hX' hY' h1 h0
      go_upto_region 7 with fail
      refine wp_rebase _ (fun V2 hV x2 => ?_)
      have hV0 : Below z.w.heap.size z.w V2 := by rw [hV]; exact bel_alloc (Below.refl _ _) _
      have HB2 := Lib.hid (show Below w.heap.size w V2 by rw [hV]; exact bel_alloc hBz _)
      have HC2 := Lib.hid (Cs.at hV ((HC1.out.below z).alloc _ _))
      have hu2 := HC2.out.bx
      simp only [Bx, newCells, join, World.size_alloc] at hu2
      clear hV hu1
      have d1 := fun v : BelW V2 => BelW.cells ((hV0.cell (p := ad.add (r * 2)) (by rw [add_block]; exact hadb)).trans s1) v
      have d2 := fun v : BelW V2 => BelW.cells ((hV0.cell (p := ⟨(ad.add (r * 2)).block, (ad.add (r * 2)).off + 1, none⟩) (by show (ad.add (r * 2)).block < _; rw [add_block]; exact hadb)).trans s2) v
      have i1 : (0 : Int) ≤ (r : Int) := by omega
      have i2 : (r : Int) < (l.length : Int) := by omega
      have w4 : IntKind.i64.wrap (x - X) = x - X := IntWalk.i64_in _ (by omega)
      have w5 : IntKind.i64.wrap (Y' - Y) = Y' - Y := IntWalk.i64_in _ (by omega)
      have w6 : IntKind.i64.wrap (X' - X) = X' - X := IntWalk.i64_in _ (by omega)
      clear s1 s2 q1 q2
      refine wp_region_belx (by kernel_rfl) (by kernel_rfl) ?_
      repeat (go_big_quiet_step ((go_at_call 21; exact bel_of_drew (S.out _))))
      refine wpQuiet_nil ?_
      intro v2
      clear w1 w2 w3 w4 w5 w6 d1 d2
      go_wp2_with fail
      go_ret2
      exact ⟨r, HI.out, ret_pair EV.out, below_next HB2.out v2.2⟩

end Go.Proofs.Ytonemgmmhjankaa
