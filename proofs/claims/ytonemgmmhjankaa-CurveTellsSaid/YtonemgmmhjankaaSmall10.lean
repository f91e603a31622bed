/- curve's small. -/
import Derived.Test.YtonemgmmhjankaaBand
import Derived.Test.YtonemgmmhjankaaSpanEq
namespace Go.Proofs.Ytonemgmmhjankaa
open Go.RowKit Go.Shelf
set_option linter.unusedVariables false
set_option linter.unusedSimpArgs false

theorem IsIdy.unique {l : List (Int × Int)} {x : Int} {r r' : Nat} (h : IsIdy l x r) (h' : IsIdy l x r') : r = r' := by
  rcases Nat.lt_trichotomy r r' with hlt | he | hlt
  · have h1 := h.2.2 r (Nat.le_refl _) (by have := h'.1; omega)
    have h2 := h'.2.1 r hlt
    omega
  · exact he
  · have h1 := h'.2.2 r' (Nat.le_refl _) (by have := h.1; omega)
    have h2 := h.2.1 r' hlt
    omega
open Classical in
noncomputable def idy (l : List (Int × Int)) (x : Int) : Nat := if h : ∃ r, IsIdy l x r then Classical.choose h else 0
theorem idy_eq {l : List (Int × Int)} {x : Int} {r : Nat} (h : IsIdy l x r) : idy l x = r := by
  have hex : ∃ r, IsIdy l x r := ⟨r, h⟩
  unfold idy
  rw [dif_pos hex]
  exact (Classical.choose_spec hex).unique h
open Classical in
noncomputable def leastF (l : List (Int × Int)) (y : Int) : Int × Bool := if RightP l ∧ y ≤ py l (l.length - 1) then (cleast l y (idy l y), true) else (0, false)
theorem leastF_yes {l : List (Int × Int)} {y : Int} {r : Nat} (hR : RightP l) (hy : y ≤ py l (l.length - 1)) (h : IsIdy l y r) : leastF l y = (cleast l y r, true) := by
  unfold leastF
  rw [if_pos ⟨hR, hy⟩, idy_eq h]
theorem leastF_no {l : List (Int × Int)} {y : Int} (h : ¬ (RightP l ∧ y ≤ py l (l.length - 1))) : leastF l y = (0, false) := by
  unfold leastF
  rw [if_neg h]
theorem least_is (A : Option Addr) (c : Nat) (l : List (Int × Int)) (hn : l.length ≤ 9223372036854775807) (y : Int) (y_1 : -9223372036854775808 ≤ y) (y_2 : y ≤ 9223372036854775807) (w : World) (hr : Rd w A (ptCells l)) :
    Calls Try.prog 9 #[.slice A l.length c, .int .i64 y] w fun e w' => e = .returned (.tuple #[.int .i64 (leastF l y).1, .bool (leastF l y).2]) ∧ Below w.heap.size w w' :=
  (least_any A c l hn y y_1 y_2 w hr).mono fun e w' ⟨v, b, h1, h2, h3⟩ => by
    rcases h3 with ⟨rfl, rfl, h⟩ | ⟨rfl, h, h', r, hr, rfl⟩
    · rw [leastF_no h]; exact ⟨h1, h2⟩
    · rw [leastF_yes h h' hr]; exact ⟨h1, h2⟩
theorem Rd.new (w : World) (l : List Value) (t : TypeId) : Rd (w.alloc (.cells l.toArray t)) (some ⟨w.heap.size, 0, none⟩) l := fun _ => by
  refine ⟨_, rfl, by rw [World.size_alloc]; exact Nat.lt_succ_self _, fun j u hj => ?_⟩
  have : (⟨w.heap.size, 0, none⟩ : Addr).add j = ⟨w.heap.size, j, none⟩ := by
    unfold Addr.add
    by_cases h : j = 0
    · simp [h]
    · simp [h]
  rw [this, World.cell?_alloc_at _ _ _ _ rfl, List.getElem?_toArray, hj]

instance (l : List (Int × Int)) (k : Nat) : Decidable (PtOk l k) := by unfold PtOk; infer_instance
instance (l : List (Int × Int)) (n d : Int) (k : Nat) : Decidable (SlopeOk l n d k) := by unfold SlopeOk; infer_instance
def pC : List (Int × Int) := [(0, 0), (10, 5), (20, 100)]
theorem pC_right : RightP pC := ⟨by decide, by decide, by decide⟩
theorem atF_at {l : List (Int × Int)} {x : Int} {r : Nat} (hR : RightP l) (h : IsIdx l x r) : atF l x = (cval l x r).1 := by
  unfold atF cv
  rw [if_pos (rightB_iff.2 hR), idx_eq h]
theorem isIdx_of {l : List (Int × Int)} {x : Int} {r : Nat} (h : r ≤ l.length ∧ (∀ t, t < r → px l t ≤ x) ∧ (∀ t, t < l.length → r ≤ t → x < px l t)) : IsIdx l x r := ⟨h.1, h.2.1, fun t h1 h2 => h.2.2 t h2 h1⟩
theorem isIdy_of {l : List (Int × Int)} {x : Int} {r : Nat} (h : r ≤ l.length ∧ (∀ t, t < r → py l t < x) ∧ (∀ t, t < l.length → r ≤ t → x ≤ py l t)) : IsIdy l x r := ⟨h.1, h.2.1, fun t h1 h2 => h.2.2 t h2 h1⟩
theorem pC_a : atF pC (-3) = 0 := atF_at pC_right (isIdx_of (r := 0) (by decide))
theorem pC_b : atF pC 3 = 1 := atF_at pC_right (isIdx_of (r := 1) (by decide))
theorem pC_c : atF pC 15 = 52 := atF_at pC_right (isIdx_of (r := 2) (by decide))
theorem pC_d : atF pC 99 = 100 := atF_at pC_right (isIdx_of (r := 3) (by decide))
theorem pC_l1 : leastF pC 1 = (2, true) := leastF_yes pC_right (by decide) (isIdy_of (r := 1) (by decide))
theorem pC_l6 : leastF pC 6 = (11, true) := leastF_yes pC_right (by decide) (isIdy_of (r := 2) (by decide))
theorem pC_ln : leastF pC 101 = (0, false) := leastF_no (fun h => absurd h.2 (by decide))
theorem pC_r : rightB pC = true := rightB_iff.2 pC_right
theorem not_true {b : Bool} {P : Prop} (h : b = true ↔ P) (h' : ¬ P) : b = false := by rcases b with _ | _; rfl; exact absurd (h.1 rfl) h'
theorem pN_r : rightB [] = false := not_true rightB_iff (fun h => absurd h.pos (by decide))
theorem pD_r : rightB [(0, 2), (1, 1)] = false := not_true rightB_iff (fun h => absurd (h.ok 1 (by decide)) (by decide))
theorem pE_r : rightB [(5, 7)] = true := rightB_iff.2 ⟨by decide, by decide, by decide⟩
theorem pC_s1 : slopeB pC 19 2 = true := slopeB_iff.2 ⟨pC_right, by decide, by decide, by decide, by decide, fun k h1 h2 => (by decide : ∀ k, k < pC.length → 1 ≤ k → SlopeOk pC 19 2 k) k h2 h1⟩
theorem pC_s2 : slopeB pC 9 1 = false := not_true slopeB_iff (fun h => absurd (h.ok 2 (by decide) (by decide)) (by decide))
theorem cv_at {l : List (Int × Int)} {x : Int} {r : Nat} (h : IsIdx l x r) : cv l x = cval l x r := by unfold cv; rw [idx_eq h]
theorem cv_point {l : List (Int × Int)} (hR : RightP l) {k : Nat} (hk : k < l.length) : cv l (px l k) = (py l k, false) := by
  have hI : IsIdx l (px l k) (k + 1) := ⟨hk, fun t ht => by
    by_cases h : t = k
    · subst h; exact Int.le_refl _
    · exact Int.le_of_lt (hR.mono k t (by omega) hk), fun t h1 h2 => hR.mono t k (by omega) h2⟩
  rw [cv_at hI]
  unfold cval
  rw [if_neg (by omega)]
  by_cases h : k + 1 = l.length
  · rw [if_pos h]; rfl
  · rw [if_neg h, Nat.add_sub_cancel, Int.sub_self, Int.zero_mul, Int.zero_ediv, Int.zero_emod]; simp
theorem under_refl {l : List (Int × Int)} (hR : RightP l) : UnderP l l := ⟨hR, hR, fun k hk => by unfold UnA; rw [cv_point hR hk]; exact Int.le_refl _, fun k hk => by unfold UnB; rw [cv_point hR hk]; exact ⟨Int.le_refl _, fun h => absurd h.2 Bool.false_ne_true⟩⟩
theorem pC_u : underB pC pC = true := underB_iff.2 (under_refl pC_right)
theorem pC_v : underB pC [(0, 50)] = false := not_true underB_iff (fun h => by
  have := h.ua 2 (by decide)
  unfold UnA at this
  rw [cv_at (isIdx_of (r := 1) (by decide))] at this
  exact absurd this (by decide))

theorem cL (V : World) (b : Nat) (hA : Rd V (some ⟨b, 0, none⟩) (ptCells pC)) (x v : Int) (m : Bool) (h1 : -9223372036854775808 ≤ x) (h2 : x ≤ 9223372036854775807) (e : leastF pC x = (v, m)) (y : BelW V) :
    Calls Try.prog 9 #[.slice (some ⟨b, 0, none⟩) 3 3, .int .i64 x] y.w fun e w' => e = .returned (.tuple #[.int .i64 v, .bool m]) ∧ ∃ z : BelW V, w' = z.w :=
  bel_of (by have h := least_is (some ⟨b, 0, none⟩) 3 pC (by decide) x h1 h2 y.w (hA.bel y); rw [e] at h; exact h)
theorem cA (V : World) (b : Nat) (hA : Rd V (some ⟨b, 0, none⟩) (ptCells pC)) (x v : Int) (h1 : -9223372036854775808 ≤ x) (h2 : x ≤ 9223372036854775807) (e : atF pC x = v) (y : BelW V) :
    Calls Try.prog 13 #[.slice (some ⟨b, 0, none⟩) 3 3, .int .i64 x] y.w fun e w' => e = .returned (.int .i64 v) ∧ ∃ z : BelW V, w' = z.w :=
  bel_of (by have h := at_any (some ⟨b, 0, none⟩) 3 pC (by decide) x h1 h2 y.w (hA.bel y); rw [e] at h; exact h)
theorem cR (V : World) (b : Nat) (hA : Rd V (some ⟨b, 0, none⟩) (ptCells pC)) (y : BelW V) :
    Calls Try.prog 11 #[.slice (some ⟨b, 0, none⟩) 3 3] y.w fun e w' => e = .returned (.bool true) ∧ ∃ z : BelW V, w' = z.w :=
  bel_of (by have h := right_is (some ⟨b, 0, none⟩) 3 pC (by decide) y.w (hA.bel y); rw [pC_r] at h; exact h)
theorem cRn (V : World) (y : BelW V) : Calls Try.prog 11 #[.slice none 0 0] y.w fun e w' => e = .returned (.bool false) ∧ ∃ z : BelW V, w' = z.w :=
  bel_of (by have h := right_is none 0 [] (by decide) y.w (Rd.nil _ _); rw [pN_r] at h; exact h)
def BelW.al {V : World} (y : BelW V) (o : Obj) : BelW V := ⟨y.w.alloc o, bel_alloc y.2 o⟩
theorem cRd (V : World) (y : BelW V) : Calls Try.prog 11 #[.slice (some ⟨y.w.heap.size, 0, none⟩) 2 2] (y.w.alloc (.cells #[.int .i64 0, .int .i64 2, .int .i64 1, .int .i64 1] 37)) fun e w' => e = .returned (.bool false) ∧ ∃ z : BelW V, w' = z.w :=
  bel_of (x := y.al _) (by have h := right_is (some ⟨y.w.heap.size, 0, none⟩) 2 [(0, 2), (1, 1)] (by decide) (y.al _).w (Rd.new y.w (ptCells [(0, 2), (1, 1)]) 37); rw [pD_r] at h; exact h)
theorem cRe (V : World) (y : BelW V) : Calls Try.prog 11 #[.slice (some ⟨y.w.heap.size, 0, none⟩) 1 1] (y.w.alloc (.cells #[.int .i64 5, .int .i64 7] 37)) fun e w' => e = .returned (.bool true) ∧ ∃ z : BelW V, w' = z.w :=
  bel_of (x := y.al _) (by have h := right_is (some ⟨y.w.heap.size, 0, none⟩) 1 [(5, 7)] (by decide) (y.al _).w (Rd.new y.w (ptCells [(5, 7)]) 37); rw [pE_r] at h; exact h)
theorem cS (V : World) (b : Nat) (hA : Rd V (some ⟨b, 0, none⟩) (ptCells pC)) (n d : Int) (m : Bool) (e : slopeB pC n d = m) (y : BelW V) :
    Calls Try.prog 15 #[.slice (some ⟨b, 0, none⟩) 3 3, .int .i64 n, .int .i64 d] y.w fun e w' => e = .returned (.bool m) ∧ ∃ z : BelW V, w' = z.w :=
  bel_of (by have h := slope_is (some ⟨b, 0, none⟩) 3 pC (by decide) n d y.w (hA.bel y); rw [e] at h; exact h)
theorem cU (V : World) (b : Nat) (hA : Rd V (some ⟨b, 0, none⟩) (ptCells pC)) (y : BelW V) :
    Calls Try.prog 17 #[.slice (some ⟨b, 0, none⟩) 3 3, .slice (some ⟨b, 0, none⟩) 3 3] y.w fun e w' => e = .returned (.bool true) ∧ ∃ z : BelW V, w' = z.w :=
  bel_of (by have h := under_is (some ⟨b, 0, none⟩) (some ⟨b, 0, none⟩) 3 3 pC pC (by decide) (by decide) y.w (hA.bel y) (hA.bel y); rw [pC_u] at h; exact h)
theorem cUv (V : World) (b : Nat) (hA : Rd V (some ⟨b, 0, none⟩) (ptCells pC)) (y : BelW V) :
    Calls Try.prog 17 #[.slice (some ⟨b, 0, none⟩) 3 3, .slice (some ⟨y.w.heap.size, 0, none⟩) 1 1] (y.w.alloc (.cells #[.int .i64 0, .int .i64 50] 37)) fun e w' => e = .returned (.bool false) ∧ ∃ z : BelW V, w' = z.w :=
  bel_of (x := y.al _) (by have h := under_is (some ⟨b, 0, none⟩) (some ⟨y.w.heap.size, 0, none⟩) 3 1 pC [(0, 50)] (by decide) (by decide) (y.al _).w ((hA.bel y).alloc _) (Rd.new y.w (ptCells [(0, 50)]) 37); rw [pC_v] at h; exact h)
theorem cB (V : World) (b : Nat) (hA : Rd V (some ⟨b, 0, none⟩) (ptCells pC)) (y : BelW V) :
    Calls Try.prog 19 #[.agg #[.slice (some ⟨b, 0, none⟩) 3 3, .slice (some ⟨b, 0, none⟩) 3 3], .int .i64 15] y.w fun e w' => e = .returned (.agg #[.int .i64 52, .int .i64 52]) ∧ ∃ z : BelW V, w' = z.w :=
  bel_of (by have h := band_any (some ⟨b, 0, none⟩) (some ⟨b, 0, none⟩) 3 3 pC pC (by decide) (by decide) 15 (by decide) (by decide) y.w (hA.bel y) (hA.bel y); rw [pC_c] at h; exact h)

set_option maxHeartbeats 8000000 in
set_option maxRecDepth 100000 in
theorem small_any (w : World) :
    Calls Try.prog 8 #[] w fun e w' => e = .returned (.bool true) ∧ Below w.heap.size w w' := by
  have hgt := span_guardType
  have hst := span_stood
  go_enter Try.func8, Try.ntmps8
  go_upto_region 2 with fail
  refine wp_rebase _ (fun V hV x1 => ?_)
  have HB1 := Lib.hid (bel_at hV (bel_alloc (Below.refl w.heap.size w) _))
  have HA := Lib.hid (show Rd V (some ⟨w.heap.size, 0, none⟩) (ptCells pC) by rw [hV]; exact Rd.new w (ptCells pC) _)
  clear hV
  go_wp2_with (first
    | (go_at_call 9; with_reducible refine (cL V w.heap.size HA.out 1 2 true (by decide) (by decide) pC_l1 _).mono ?_; rintro e w' ⟨rfl, y, rfl⟩)
    | (go_at_call 9; with_reducible refine (cL V w.heap.size HA.out 6 11 true (by decide) (by decide) pC_l6 _).mono ?_; rintro e w' ⟨rfl, y, rfl⟩)
    | (go_at_call 9; with_reducible refine (cL V w.heap.size HA.out 101 0 false (by decide) (by decide) pC_ln _).mono ?_; rintro e w' ⟨rfl, y, rfl⟩)
    | (go_at_call 13; with_reducible refine (cA V w.heap.size HA.out (-3) 0 (by decide) (by decide) pC_a _).mono ?_; rintro e w' ⟨rfl, y, rfl⟩)
    | (go_at_call 13; with_reducible refine (cA V w.heap.size HA.out 3 1 (by decide) (by decide) pC_b _).mono ?_; rintro e w' ⟨rfl, y, rfl⟩)
    | (go_at_call 13; with_reducible refine (cA V w.heap.size HA.out 15 52 (by decide) (by decide) pC_c _).mono ?_; rintro e w' ⟨rfl, y, rfl⟩)
    | (go_at_call 13; with_reducible refine (cA V w.heap.size HA.out 99 100 (by decide) (by decide) pC_d _).mono ?_; rintro e w' ⟨rfl, y, rfl⟩)
    | (go_at_call 11; with_reducible refine (cR V w.heap.size HA.out _).mono ?_; rintro e w' ⟨rfl, y, rfl⟩)
    | (go_at_call 11; with_reducible refine (cRn V _).mono ?_; rintro e w' ⟨rfl, y, rfl⟩)
    | (go_at_call 11; with_reducible refine (cRd V _).mono ?_; rintro e w' ⟨rfl, y, rfl⟩)
    | (go_at_call 11; with_reducible refine (cRe V _).mono ?_; rintro e w' ⟨rfl, y, rfl⟩)
    | (go_at_call 15; with_reducible refine (cS V w.heap.size HA.out 19 2 true pC_s1 _).mono ?_; rintro e w' ⟨rfl, y, rfl⟩)
    | (go_at_call 15; with_reducible refine (cS V w.heap.size HA.out 9 1 false pC_s2 _).mono ?_; rintro e w' ⟨rfl, y, rfl⟩)
    | (go_at_call 17; with_reducible refine (cU V w.heap.size HA.out _).mono ?_; rintro e w' ⟨rfl, y, rfl⟩)
    | (go_at_call 17; with_reducible refine (cUv V w.heap.size HA.out _).mono ?_; rintro e w' ⟨rfl, y, rfl⟩)
    | (go_at_call 19; with_reducible refine (cB V w.heap.size HA.out _).mono ?_; rintro e w' ⟨rfl, y, rfl⟩))
  go_ret
  exact ⟨rfl, below_next HB1.out y.2⟩

end Go.Proofs.Ytonemgmmhjankaa
