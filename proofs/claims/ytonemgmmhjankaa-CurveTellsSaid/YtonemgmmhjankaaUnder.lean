/- curve.Under. -/
import Derived.Test.YtonemgmmhjankaaSlope
namespace Go.Proofs.Ytonemgmmhjankaa
open Go.RowKit Go.Shelf
set_option linter.unusedVariables false
set_option linter.unusedSimpArgs false

def UnA (a b : List (Int × Int)) (k : Nat) : Prop := py a k ≤ (cv b (px a k)).1
def UnB (a b : List (Int × Int)) (k : Nat) : Prop := (cv a (px b k)).1 ≤ py b k ∧ ¬ ((cv a (px b k)).1 = py b k ∧ (cv a (px b k)).2 = true)
structure UnderP (a b : List (Int × Int)) : Prop where
  ra : RightP a
  rb : RightP b
  ua : ∀ k, k < a.length → UnA a b k
  ub : ∀ k, k < b.length → UnB a b k
def UnderPost (a b : List (Int × Int)) (w : World) (e : Ending) (w' : World) : Prop := ∃ r : Bool, e = .returned (.bool r) ∧ (r = true ↔ UnderP a b) ∧ Below w.heap.size w w'
theorem underPost_no {a b : List (Int × Int)} {w w' : World} (h : ¬ UnderP a b) (hb : Below w.heap.size w w') : UnderPost a b w (.returned (.bool false)) w' := ⟨false, rfl, ⟨fun h => absurd h Bool.false_ne_true, fun h' => absurd h' h⟩, hb⟩
def UnderR (Q : Nat → Prop) (n : Nat) (w : World) (s : Value) (wr : World) : Prop := ∃ k : Nat, k ≤ n ∧ s = .int .i64 (k : Int) ∧ (∀ j, j < k → Q j) ∧ Below w.heap.size w wr

set_option maxHeartbeats 8000000 in
set_option maxRecDepth 100000 in
theorem under_any (A B : Option Addr) (ca cb : Nat) (a b : List (Int × Int)) (hna : a.length ≤ 9223372036854775807) (hnb : b.length ≤ 9223372036854775807) (w : World) (hra : Rd w A (ptCells a)) (hrb : Rd w B (ptCells b)) :
    Calls Try.prog 17 #[.slice A a.length ca, .slice B b.length cb] w (UnderPost a b w) := by
  have HRA := Lib.hid hra
  have HRB := Lib.hid hrb
  have RI := Lib.hid (fun w' (h : Below w.heap.size w w') => right_is A ca a hna w' (hra.below (Nat.le_refl _) h))
  have RJ := Lib.hid (fun w' (h : Below w.heap.size w w') => right_is B cb b hnb w' (hrb.below (Nat.le_refl _) h))
  clear hra hrb
  by_cases hRa : RightP a
  case neg =>
    have hb : rightB a = false := by rcases h : rightB a with _ | _; rfl; exact absurd (rightB_iff.1 h) hRa
    rw [hb] at RI
    have hno : ¬ UnderP a b := fun h => hRa h.ra
    clear hRa hb
    go_enter Try.func17, Try.ntmps17
    go_wp2_with fail
    refine (RI.out _ (Below.refl _ _)).mono ?_
    rintro e w1 ⟨rfl, hB⟩
    go_wp2_with fail
    go_ret
    exact underPost_no hno hB
  rw [rightB_iff.2 hRa] at RI
  by_cases hRb : RightP b
  case neg =>
    have hb : rightB b = false := by rcases h : rightB b with _ | _; rfl; exact absurd (rightB_iff.1 h) hRb
    rw [hb] at RJ
    have hno : ¬ UnderP a b := fun h => hRb h.rb
    clear hRb hb hRa
    go_enter Try.func17, Try.ntmps17
    go_wp2_with fail
    refine (RI.out _ (Below.refl _ _)).mono ?_
    rintro e w1 ⟨rfl, hB⟩
    go_wp2_with fail
    refine (RJ.out _ hB).mono ?_
    rintro e w2 ⟨rfl, hB2⟩
    go_wp2_with fail
    go_ret
    exact underPost_no hno (below_next hB hB2)
  rw [rightB_iff.2 hRb] at RJ
  have HA := Lib.hid hRa
  have HB := Lib.hid hRb
  clear hRa hRb
  go_enter Try.func17, Try.ntmps17
  go_wp2_with fail
  refine (RI.out _ (Below.refl _ _)).mono ?_
  rintro e w1 ⟨rfl, hB1⟩
  go_wp2_with fail
  refine (RJ.out _ hB1).mono ?_
  rintro e w2 ⟨rfl, hB2⟩
  have hBw2 : Below w.heap.size w w2 := below_next hB1 hB2
  go_wp2_with fail
  go_loopw [23] (fun s wr => UnderR (UnA a b) a.length w s wr) (fun i _ => a.length - (intOf i).toNat)
  case atStart => exact ⟨0, by omega, rfl, fun j h2 => absurd h2 (by omega), hBw2⟩
  case round =>
    obtain ⟨k, hk, rfl, hok, hBr⟩ := hrel
    have HOK := Lib.hid hok
    clear hok
    by_cases hlt : k < a.length
    · have i1 : (0 : Int) ≤ (k : Int) := by omega
      have i2 : (k : Int) < (a.length : Int) := by omega
      obtain ⟨ad, rfl, hadb, q1, q2⟩ := (HRA.out.below (Nat.le_refl _) hBr).pt hlt
      obtain ⟨o1, o2, o3, o4, _⟩ := HA.out.ok k hlt
      have VI := Lib.hid (fun w' (h : Below w.heap.size w w') => value_is B cb b HB.out (px a k) (by omega) (by omega) w' (HRB.out.below (Nat.le_refl _) h))
      have iff0 : UnA a b k ↔ py a k ≤ (cv b (px a k)).1 := Iff.rfl
      have IFF := Lib.hid iff0
      clear iff0
      generalize (cv b (px a k)).1 = v at *
      generalize (cv b (px a k)).2 = m at *
      generalize px a k = x at *
      generalize py a k = y at *
      clear o1 o2 o3 o4
      go_upto_region 6 with fail
      refine wp_rebase _ (fun V hV z0 => ?_)
      have HBV := Lib.hid (show Below w.heap.size w V by rw [hV]; exact bel_alloc hBr _)
      have HC := Lib.hid (Cs.at hV ((Cs.nil wr).alloc _ _))
      have hu := HC.out.bx
      simp only [Bx, newCells, join] at hu
      clear hV q1 q2
      go_wp2_with fail
      refine (VI.out z0.w (below_next HBV.out z0.2)).mono ?_
      rintro e w3 ⟨rfl, hB3⟩
      obtain ⟨z, rfl⟩ : ∃ z : BelW V, w3 = z.w := ⟨⟨w3, below_next z0.2 hB3⟩, rfl⟩
      clear hB3
      have hBz : Below w.heap.size w z.w := below_next HBV.out z.2
      rcases b1 : decide (v < y) with _ | _
      · have HGOOD := Lib.hid (show UnA a b k from IFF.out.2 (by simp only [decide_eq_false_iff_not] at b1; omega))
        go_wp2_with fail
        go_roundw
        case rel =>
          refine ⟨k + 1, by omega, by go_num, fun j hj => ?_, hBz⟩
          by_cases hjk : j < k
          · exact HOK.out j hjk
          · obtain rfl : j = k := by omega
            exact HGOOD.out
        case measure => simp [intOf]; omega
      · have hno : ¬ UnderP a b := fun h => by have := IFF.out.1 (h.ua k hlt); simp only [decide_eq_true_eq] at b1; omega
        go_wp2_with fail
        go_ret
        exact underPost_no hno hBz
    · have i2 : decide ((k : Int) < (a.length : Int)) = false := decide_eq_false (by omega)
      have HUA := Lib.hid (show ∀ j, j < a.length → UnA a b j from fun j hj => HOK.out j (by omega))
      clear HOK
      go_wp2_with fail
      go_loopw [41] (fun s wr => UnderR (UnB a b) b.length w s wr) (fun i _ => b.length - (intOf i).toNat)
      case atStart => exact ⟨0, by omega, rfl, fun j h2 => absurd h2 (by omega), hBr⟩
      case round =>
        obtain ⟨k, hk, rfl, hok, hBr⟩ := hrel
        have HOK := Lib.hid hok
        clear hok
        by_cases hlt : k < b.length
        · have i1 : (0 : Int) ≤ (k : Int) := by omega
          have i2 : (k : Int) < (b.length : Int) := by omega
          obtain ⟨ad, rfl, hadb, q1, q2⟩ := (HRB.out.below (Nat.le_refl _) hBr).pt hlt
          obtain ⟨o1, o2, o3, o4, _⟩ := HB.out.ok k hlt
          have VI := Lib.hid (fun w' (h : Below w.heap.size w w') => value_is A ca a HA.out (px b k) (by omega) (by omega) w' (HRA.out.below (Nat.le_refl _) h))
          have iff0 : UnB a b k ↔ (cv a (px b k)).1 ≤ py b k ∧ ¬ ((cv a (px b k)).1 = py b k ∧ (cv a (px b k)).2 = true) := Iff.rfl
          have IFF := Lib.hid iff0
          clear iff0
          generalize (cv a (px b k)).1 = v at *
          generalize (cv a (px b k)).2 = m at *
          generalize px b k = x at *
          generalize py b k = y at *
          clear o1 o2 o3 o4
          go_upto_region 13 with fail
          refine wp_rebase _ (fun V hV z0 => ?_)
          have HBV := Lib.hid (show Below w.heap.size w V by rw [hV]; exact bel_alloc hBr _)
          have HC := Lib.hid (Cs.at hV ((Cs.nil wr).alloc _ _))
          have hu := HC.out.bx
          simp only [Bx, newCells, join] at hu
          clear hV q1 q2
          go_wp2_with fail
          refine (VI.out z0.w (below_next HBV.out z0.2)).mono ?_
          rintro e w3 ⟨rfl, hB3⟩
          obtain ⟨z, rfl⟩ : ∃ z : BelW V, w3 = z.w := ⟨⟨w3, below_next z0.2 hB3⟩, rfl⟩
          clear hB3
          have hBz : Below w.heap.size w z.w := below_next HBV.out z.2
          rcases b1 : decide (y < v) with _ | _
          · rcases b2 : (v == y) with _ | _
            · have HGOOD := Lib.hid (show UnB a b k from IFF.out.2 (by simp only [decide_eq_false_iff_not, beq_eq_false_iff_ne] at b1 b2; exact ⟨by omega, fun h => b2 h.1⟩))
              go_wp2_with fail
              go_roundw
              case rel =>
                refine ⟨k + 1, by omega, by go_num, fun j hj => ?_, hBz⟩
                by_cases hjk : j < k
                · exact HOK.out j hjk
                · obtain rfl : j = k := by omega
                  exact HGOOD.out
              case measure => simp [intOf]; omega
            · cases m with
              | false =>
                have HGOOD := Lib.hid (show UnB a b k from IFF.out.2 (by simp only [decide_eq_false_iff_not] at b1; exact ⟨by omega, fun h => absurd h.2 Bool.false_ne_true⟩))
                go_wp2_with fail
                go_roundw
                case rel =>
                  refine ⟨k + 1, by omega, by go_num, fun j hj => ?_, hBz⟩
                  by_cases hjk : j < k
                  · exact HOK.out j hjk
                  · obtain rfl : j = k := by omega
                    exact HGOOD.out
                case measure => simp [intOf]; omega
              | true =>
                have hno : ¬ UnderP a b := fun h => (IFF.out.1 (h.ub k hlt)).2 ⟨by simpa using b2, rfl⟩
                go_wp2_with fail
                go_ret
                exact underPost_no hno hBz
          · have hno : ¬ UnderP a b := fun h => by have := (IFF.out.1 (h.ub k hlt)).1; simp only [decide_eq_true_eq] at b1; omega
            go_wp2_with fail
            go_ret
            exact underPost_no hno hBz
        · have i2 : decide ((k : Int) < (b.length : Int)) = false := decide_eq_false (by omega)
          go_wp2_with fail
          go_ret
          exact ⟨true, rfl, ⟨fun _ => ⟨HA.out, HB.out, HUA.out, fun j hj => HOK.out j (by omega)⟩, fun _ => rfl⟩, hBr⟩
noncomputable def underB (a b : List (Int × Int)) : Bool := @decide (UnderP a b) (Classical.propDecidable _)
theorem underB_iff {a b : List (Int × Int)} : underB a b = true ↔ UnderP a b := by unfold underB; exact @decide_eq_true_iff _ (Classical.propDecidable _)
theorem under_is (A B : Option Addr) (ca cb : Nat) (a b : List (Int × Int)) (hna : a.length ≤ 9223372036854775807) (hnb : b.length ≤ 9223372036854775807) (w : World) (hra : Rd w A (ptCells a)) (hrb : Rd w B (ptCells b)) :
    Calls Try.prog 17 #[.slice A a.length ca, .slice B b.length cb] w fun e w' => e = .returned (.bool (underB a b)) ∧ Below w.heap.size w w' :=
  (under_any A B ca cb a b hna hnb w hra hrb).mono fun e w' ⟨r, h1, h2, h3⟩ => by
    have : r = underB a b := by rw [Bool.eq_iff_iff, h2, underB_iff]
    exact ⟨this ▸ h1, h3⟩

end Go.Proofs.Ytonemgmmhjankaa
