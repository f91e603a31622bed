/- pool: has, Total, without. -/
import Derived.Test.YtfmnlnmajephlaaPoolA
namespace Go.Proofs.Ytfmnlnmajephlaa
open Go.RowKit
set_option linter.unusedVariables false
set_option linter.unusedSimpArgs false

theorem add_c {V : World} (a b v : Int) (ha : Fit a) (hb : Fit b) (h : Xa.add a b = v) (y : BelW V) :
    Calls Try.prog 26 #[.int .i64 a, .int .i64 b] y.w fun e w' => e = .returned (.int .i64 v) ∧ ∃ z : BelW V, w' = z.w :=
  bel_of_same (by have h' := add_any a b ha.1 ha.2 hb.1 hb.2 y.w; rw [h] at h'; exact h')
/-! has -/
def hasF (p : List Int) (i : Int) : Int := if 0 ≤ i ∧ i < (p.length : Int) ∧ 0 ≤ gi p i.toNat then gi p i.toNat else 0
theorem hasF_nat {p : List Int} {k : Nat} (hk : k < p.length) (h0 : 0 ≤ gi p k) : hasF p (k : Int) = gi p k := by
  unfold hasF
  rw [if_pos ⟨by omega, by omega, by simpa using h0⟩, Int.toNat_natCast]
theorem hasF_nonneg (p : List Int) (i : Int) : 0 ≤ hasF p i := by
  unfold hasF
  split
  · rename_i h; exact h.2.2
  · exact Int.le_refl _
set_option maxHeartbeats 4000000 in
theorem has_any (A : Option Addr) (c : Nat) (p : List Int) (i : Int) (hn : p.length ≤ 9223372036854775807) (w : World) (hr : Rd w A (ints p)) :
    Calls Try.prog 28 #[.slice A p.length c, .int .i64 i] w fun e w' => e = .returned (.int .i64 (hasF p i)) ∧ Below w.heap.size w w' := by
  by_cases h1 : i < 0
  · have t1 : decide (i < 0) = true := decide_eq_true h1
    have e : hasF p i = 0 := by unfold hasF; rw [if_neg (by omega)]
    rw [e]
    clear hr
    go_enter Try.func28, Try.ntmps28
    go_wp2_with fail
    go_ret
    exact ⟨rfl, Below.refl _ _⟩
  have t1 : decide (i < 0) = false := decide_eq_false h1
  by_cases h2 : (p.length : Int) ≤ i
  · have t2 : decide ((p.length : Int) ≤ i) = true := decide_eq_true h2
    have e : hasF p i = 0 := by unfold hasF; rw [if_neg (by omega)]
    rw [e]
    clear hr
    go_enter Try.func28, Try.ntmps28
    go_wp2_with fail
    go_ret
    exact ⟨rfl, Below.refl _ _⟩
  obtain ⟨k, rfl⟩ := Int.eq_ofNat_of_zero_le (show 0 ≤ i by omega)
  have t2 : decide ((p.length : Int) ≤ (k : Int)) = false := decide_eq_false h2
  have hk : k < p.length := by omega
  obtain ⟨ad, u, rfl, _, e1, e2⟩ := hr.at (k := k) (by rw [ints_length]; exact hk)
  rw [ints_at hk] at e1
  cases e1
  have j1 : (0 : Int) ≤ (k : Int) := by omega
  have j2 : (k : Int) < (p.length : Int) := by omega
  by_cases h3 : gi p k < 0
  · have e : hasF p (k : Int) = 0 := by unfold hasF; rw [if_neg (by simp; omega)]
    rw [e]
    obtain ⟨v, hv⟩ : ∃ v, gi p k = v := ⟨_, rfl⟩
    rw [hv] at e2 h3
    have t3 : decide (v < 0) = true := decide_eq_true h3
    clear hr hv
    go_enter Try.func28, Try.ntmps28
    go_wp2_with fail
    go_ret
    exact ⟨rfl, Below.refl _ _⟩
  · rw [hasF_nat hk (by omega)]
    obtain ⟨v, hv⟩ : ∃ v, gi p k = v := ⟨_, rfl⟩
    rw [hv] at e2 h3
    rw [hv]
    have t3 : decide (v < 0) = false := decide_eq_false h3
    clear hr hv
    go_enter Try.func28, Try.ntmps28
    go_wp2_with fail
    go_ret
    exact ⟨rfl, Below.refl _ _⟩

/-! Total -/
def tot (p : List Int) : Nat → Int
  | 0 => 0
  | k + 1 => Xa.add (tot p k) (gi p k)
theorem tot_fit (p : List Int) : ∀ k, Fit (tot p k)
  | 0 => by unfold Fit tot; omega
  | k + 1 => Xa.add_bd _ _
theorem tot_su {p : List Int} {k : Nat} (h : ∀ j, j ≤ k → -9223372036854775808 ≤ su (gi p) j ∧ su (gi p) j ≤ 9223372036854775807) : tot p k = su (gi p) k := by
  induction k with
  | zero => rfl
  | succ k ih =>
    show Xa.add (tot p k) (gi p k) = su (gi p) k + gi p k
    rw [ih fun j hj => h j (by omega)]
    have := h (k + 1) (Nat.le_refl _)
    have e : su (gi p) (k + 1) = su (gi p) k + gi p k := rfl
    unfold Xa.add
    rw [if_neg (by omega), if_neg (by omega)]
theorem tot_ri {p : List Int} (h : RiP p) {k : Nat} (hk : k ≤ p.length) : tot p k = su (gi p) k := by
  refine tot_su fun j hj => ?_
  have a := su_le (f := fun _ => 0) (g := gi p) (n := j) (fun i hi => h.pos i (by omega))
  rw [su_zero (fun _ _ => rfl)] at a
  have b := su_mono h.pos (k := j) (by omega)
  have c := h.sum
  omega
def ToR (V : World) (p : List Int) (s3 s8 : Value) (wr : World) : Prop := ∃ k : Nat, k ≤ p.length ∧ s8 = .int .i64 (k : Int) ∧ s3 = .int .i64 (tot p k) ∧ ∃ y : BelW V, wr = y.w
set_option maxHeartbeats 4000000 in
set_option maxRecDepth 100000 in
theorem total_any (A : Option Addr) (c : Nat) (p : List Int) (hn : p.length ≤ 9223372036854775807) (hf : ∀ i, i < p.length → Fit (gi p i)) (w : World) (hr : Rd w A (ints p)) :
    Calls Try.prog 11 #[.slice A p.length c] w fun e w' => e = .returned (.int .i64 (tot p p.length)) ∧ Below w.heap.size w w' := by
  have HR := Lib.hid hr
  have HF := Lib.hid hf
  clear hr hf
  go_enter Try.func11, Try.ntmps11
  go_wp2_with fail
  go_loopw [3, 8] (fun s3 s8 wr => ToR w p s3 s8 wr) (fun _ i _ => p.length - (intOf i).toNat)
  case atStart => exact ⟨0, by omega, rfl, rfl, ⟨w, Below.refl _ _⟩, rfl⟩
  case round =>
    obtain ⟨k, hk, rfl, rfl, y, rfl⟩ := hrel
    by_cases hlt : k < p.length
    · have i3 : decide ((k : Int) < (p.length : Int)) = true := decide_eq_true (by omega)
      obtain ⟨ad, u, rfl, hadb, e1, e2⟩ := (HR.out.bel y).at (k := k) (by rw [ints_length]; exact hlt)
      rw [ints_at hlt] at e1
      cases e1
      have j1 : (0 : Int) ≤ (k : Int) := by omega
      have j2 : (k : Int) < (p.length : Int) := by omega
      obtain ⟨T', hT'⟩ : ∃ v, tot p (k + 1) = v := ⟨_, rfl⟩
      have hT2 : Xa.add (tot p k) (gi p k) = T' := hT'
      have f1 := tot_fit p k
      have f2 := HF.out k hlt
      have HZ := Lib.hid hT'
      obtain ⟨v, hv⟩ : ∃ v, gi p k = v := ⟨_, rfl⟩
      obtain ⟨T, hT⟩ : ∃ v, tot p k = v := ⟨_, rfl⟩
      rw [hv] at e2 f2 hT2
      rw [hT] at f1 hT2 ⊢
      have C := Lib.hid (fun u : BelW w => add_c T v T' f1 f2 hT2 u)
      clear hv hT hT' hT2 f1 f2
      go_wp2_with (first | (go_at_call 26; with_reducible refine (C.out _).mono ?_; rintro e w' ⟨rfl, yy, rfl⟩))
      go_roundw
      case rel => exact ⟨k + 1, by omega, by go_num, by rw [HZ.out], _, rfl⟩
      case measure => simp [intOf]; omega
    · have i3 : decide ((k : Int) < (p.length : Int)) = false := decide_eq_false (by omega)
      obtain rfl : k = p.length := by omega
      have hB : Below w.heap.size w y.w := y.2
      go_wp2_with fail
      go_ret
      exact ⟨rfl, hB⟩

end Go.Proofs.Ytfmnlnmajephlaa
