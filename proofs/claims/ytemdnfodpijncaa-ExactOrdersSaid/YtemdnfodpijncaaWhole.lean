/- bournelaw01.whole. -/
import Derived.Test.YtemdnfodpijncaaSmall01
import Derived.Test.YtemdnfodpijncaaShrQ
namespace Go.Proofs.Ytemdnfodpijncaa
open Go.RowKit
set_option linter.unusedVariables false
set_option linter.unusedSimpArgs false

def WholePost (l : List Int) (w : World) (e : Ending) (w' : World) : Prop :=
  ((Wt l ∧ e = .returned (.tuple #[.int .i64 l.sum, .bool true])) ∨ (¬ Wt l ∧ e = .returned (.tuple #[.int .i64 0, .bool false]))) ∧ Below w.heap.size w w'
theorem whole_no {l : List Int} {w w' : World} (h : ¬ Wt l) (hb : Below w.heap.size w w') : WholePost l w (.returned (.tuple #[.int .i64 0, .bool false])) w' := ⟨.inr ⟨h, rfl⟩, hb⟩
def WhR (V : World) (l : List Int) (s4 s5 : Value) (wr : World) : Prop := ∃ k : Nat, k ≤ l.length ∧ s5 = .int .i64 (k : Int) ∧ s4 = .int .i64 (su (gi l) k) ∧ Hid (WtK l k) ∧ ∃ y : BelW V, wr = y.w

set_option maxHeartbeats 4000000 in
set_option maxRecDepth 100000 in
theorem whole_any (A : Option Addr) (c : Nat) (l : List Int) (hn : l.length ≤ 9223372036854775807) (w : World) (hr : Rd w A (ints l)) :
    Calls Try.prog 23 #[.slice A l.length c] w (WholePost l w) := by
  have HR := Lib.hid hr
  clear hr
  by_cases h64 : 64 < l.length
  · have t0 : decide ((64 : Int) < (l.length : Int)) = true := decide_eq_true (by omega)
    have hno : ¬ Wt l := fun h => by have := h.len; omega
    go_enter Try.func23, Try.ntmps23
    go_wp2_with fail
    go_ret2
    exact whole_no hno (Below.refl _ _)
  have t0 : decide ((64 : Int) < (l.length : Int)) = false := decide_eq_false (by omega)
  go_enter Try.func23, Try.ntmps23
  go_wp2_with fail
  go_loopw [4, 5] (fun s4 s5 wr => WhR w l s4 s5 wr) (fun _ i _ => l.length - (intOf i).toNat)
  case atStart => exact ⟨0, by omega, rfl, rfl, Lib.hid ⟨fun i hi => absurd hi (Nat.not_lt_zero _), by show (0 : Int) ≤ _; omega⟩, ⟨w, Below.refl _ _⟩, rfl⟩
  case round =>
    obtain ⟨k, hk, rfl, rfl, hwt, y, rfl⟩ := hrel
    have s1 := hwt.out.nonneg
    have s2 := hwt.out.sum
    by_cases hlt : k < l.length
    · have i3 : decide ((k : Int) < (l.length : Int)) = true := decide_eq_true (by omega)
      obtain ⟨ad, u, rfl, hadb, e1, e2⟩ := (HR.out.bel y).at (k := k) (by rw [ints_length]; exact hlt)
      rw [ints_at hlt] at e1
      cases e1
      have j1 : (0 : Int) ≤ (k : Int) := by omega
      have j2 : (k : Int) < (l.length : Int) := by omega
      have HL := Lib.hid hlt
      obtain ⟨S, hS⟩ : ∃ S, su (gi l) k = S := ⟨_, rfl⟩
      obtain ⟨v, hv⟩ : ∃ v, gi l k = v := ⟨_, rfl⟩
      rw [hS] at s1 s2
      rw [hv] at e2
      rw [hS]
      have wS : IntKind.i64.wrap (1125899906842624 - S) = 1125899906842624 - S := IntWalk.i64_in _ (by omega)
      have HS := Lib.hid hS
      have HV := Lib.hid hv
      clear hS hv
      by_cases v0 : v < 0
      · have v0' : decide (v < 0) = true := decide_eq_true v0
        go_wp2_with fail
        go_ret2
        exact whole_no (not_wt_neg HL.out (by rw [HV.out]; exact of_decide_eq_true v0')) y.2
      have v0' : decide (v < 0) = false := decide_eq_false v0
      by_cases v1 : 1125899906842624 - S < v
      · have v1' : decide (1125899906842624 - S < v) = true := decide_eq_true v1
        go_wp2_with fail
        go_ret2
        exact whole_no (not_wt_sum HL.out (by rw [HV.out, HS.out]; exact of_decide_eq_true v1')) y.2
      have v1' : decide (1125899906842624 - S < v) = false := decide_eq_false v1
      have wA : IntKind.i64.wrap (S + v) = S + v := IntWalk.i64_in _ (by omega)
      have HX := Lib.hid (hwt.out.step (by rw [HV.out]; omega) (by rw [HV.out, HS.out]; omega))
      have HZ := Lib.hid (show su (gi l) (k + 1) = S + v by show su (gi l) k + gi l k = _; rw [HV.out, HS.out])
      go_wp2_with fail
      go_roundw
      case rel => exact ⟨k + 1, by have := HL.out; omega, by go_num, by rw [HZ.out], HX, y, rfl⟩
      case measure => have := HL.out; simp [intOf]; omega
    · have i3 : decide ((k : Int) < (l.length : Int)) = false := decide_eq_false (by omega)
      obtain rfl : k = l.length := by omega
      have HW := hwt.out.all (by omega)
      have HWW := Lib.hid HW
      rw [← sum_su]
      clear HW
      go_wp2_with fail
      go_ret2
      exact ⟨.inl ⟨HWW.out, rfl⟩, y.2⟩
theorem whole_yes {V : World} (l : List Int) (hw : Wt l) (S : Int) (hS : l.sum = S) (A : Option Addr) (c : Nat) (hn : l.length ≤ 9223372036854775807) (y : BelW V) (hr : Rd V A (ints l)) :
    Calls Try.prog 23 #[.slice A l.length c] y.w fun e w' => e = .returned (.tuple #[.int .i64 S, .bool true]) ∧ ∃ z : BelW V, w' = z.w := by
  subst hS
  refine bel_of ((whole_any A c l hn y.w (hr.bel y)).mono ?_)
  rintro e w' ⟨⟨_, rfl⟩ | ⟨h, _⟩, hb⟩
  · exact ⟨rfl, hb⟩
  · exact absurd hw h
theorem whole_nil {V : World} (l : List Int) (hw : ¬ Wt l) (A : Option Addr) (c : Nat) (hn : l.length ≤ 9223372036854775807) (y : BelW V) (hr : Rd V A (ints l)) :
    Calls Try.prog 23 #[.slice A l.length c] y.w fun e w' => e = .returned (.tuple #[.int .i64 0, .bool false]) ∧ ∃ z : BelW V, w' = z.w := by
  refine bel_of ((whole_any A c l hn y.w (hr.bel y)).mono ?_)
  rintro e w' ⟨⟨h, _⟩ | ⟨_, rfl⟩, hb⟩
  · exact absurd h hw
  · exact ⟨rfl, hb⟩

end Go.Proofs.Ytemdnfodpijncaa
