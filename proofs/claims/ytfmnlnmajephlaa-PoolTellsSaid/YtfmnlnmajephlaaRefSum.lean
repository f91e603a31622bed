/- bourneref01.Sum. -/
import Derived.Test.YtfmnlnmajephlaaShareW
import Derived.Test.YtfmnlnmajephlaaShrQ
import Derived.Laws.Bits128
namespace Go.Proofs.Ytfmnlnmajephlaa
open Go.RowKit
set_option linter.unusedVariables false
set_option linter.unusedSimpArgs false

theorem and32 (n : Int) : bits .and .i64 n 4294967295 = n % 4294967296 := by
  have hm : (BitVec.ofInt 64 4294967295).toNat = 2 ^ 32 - 1 := by decide
  have key : (BitVec.ofInt 64 n &&& BitVec.ofInt 64 4294967295).toNat = (n % ((2 ^ 64 : Nat) : Int)).toNat % 2 ^ 32 := by
    rw [BitVec.toNat_and, BitVec.toNat_ofInt, hm, Nat.and_two_pow_sub_one_eq_mod]
  show IntKind.i64.wrap ((BitVec.ofInt 64 n &&& BitVec.ofInt 64 4294967295).toNat : Nat) = n % 4294967296
  rw [key, IntKind.wrap_i64]
  omega
def sumR (l : List Int) : Int × Bool := if -9223372036854775808 ≤ l.sum ∧ l.sum ≤ 9223372036854775807 then (l.sum, true) else (0, false)
def hiS (l : List Int) : Nat → Int := su fun i => gi l i / 4294967296
def loS (l : List Int) : Nat → Int := su fun i => gi l i % 4294967296
theorem hl_bd {l : List Int} : ∀ {k : Nat}, (∀ i, i < k → Fit (gi l i)) → -2147483648 * (k : Int) ≤ hiS l k ∧ hiS l k ≤ 2147483647 * (k : Int) ∧ 0 ≤ loS l k ∧ loS l k ≤ 4294967296 * (k : Int) ∧ su (gi l) k = hiS l k * 4294967296 + loS l k
  | 0, _ => by show -2147483648 * (0 : Int) ≤ 0 ∧ (0 : Int) ≤ 2147483647 * (0 : Int) ∧ (0 : Int) ≤ 0 ∧ (0 : Int) ≤ 4294967296 * (0 : Int) ∧ (0 : Int) = 0 * 4294967296 + 0; omega
  | k + 1, h => by
    have h1 := hl_bd (k := k) (fun i hi => h i (by omega))
    have h2 := h k (by omega)
    unfold Fit at h2
    show -2147483648 * ((k + 1 : Nat) : Int) ≤ hiS l k + gi l k / 4294967296 ∧ hiS l k + gi l k / 4294967296 ≤ 2147483647 * ((k + 1 : Nat) : Int) ∧ 0 ≤ loS l k + gi l k % 4294967296 ∧ loS l k + gi l k % 4294967296 ≤ 4294967296 * ((k + 1 : Nat) : Int) ∧ su (gi l) k + gi l k = (hiS l k + gi l k / 4294967296) * 4294967296 + (loS l k + gi l k % 4294967296)
    omega
def RsR (V : World) (l : List Int) (s4 s5 s6 : Value) (wr : World) : Prop := ∃ k : Nat, k ≤ l.length ∧ s6 = .int .i64 (k : Int) ∧ s4 = .int .i64 (hiS l k) ∧ s5 = .int .i64 (loS l k) ∧ ∃ y : BelW V, wr = y.w

set_option maxHeartbeats 4000000 in
set_option maxRecDepth 100000 in
theorem refsum_any (A : Option Addr) (c : Nat) (l : List Int) (hn : l.length ≤ 1000) (hf : ∀ i, i < l.length → Fit (gi l i)) (w : World) (hr : Rd w A (ints l)) :
    Calls Try.prog 38 #[.slice A l.length c] w fun e w' => e = .returned (.tuple #[.int .i64 (sumR l).1, .bool (sumR l).2]) ∧ Below w.heap.size w w' := by
  have HR := Lib.hid hr
  have HF := Lib.hid hf
  obtain ⟨R, rb, hR⟩ : ∃ R rb, sumR l = (R, rb) := ⟨_, _, rfl⟩
  rw [hR]
  have HRR := Lib.hid hR
  clear hr hf hR
  go_enter Try.func38, Try.ntmps38
  go_wp2_with fail
  go_loopw [4, 5, 6] (fun s4 s5 s6 wr => RsR w l s4 s5 s6 wr) (fun _ _ i _ => l.length - (intOf i).toNat)
  case atStart => exact ⟨0, by omega, rfl, rfl, rfl, ⟨w, Below.refl _ _⟩, rfl⟩
  case round =>
    obtain ⟨k, hk, rfl, rfl, rfl, y, rfl⟩ := hrel
    have hb := hl_bd (l := l) (k := k) (fun i hi => HF.out i (by omega))
    by_cases hlt : k < l.length
    · have i3 : decide ((k : Int) < (l.length : Int)) = true := decide_eq_true (by omega)
      obtain ⟨ad, u, rfl, hadb, e1, e2⟩ := (HR.out.bel y).at (k := k) (by rw [ints_length]; exact hlt)
      rw [ints_at hlt] at e1
      cases e1
      have j1 : (0 : Int) ≤ (k : Int) := by omega
      have j2 : (k : Int) < (l.length : Int) := by omega
      have hfx := HF.out k hlt
      unfold Fit at hfx
      have HH := Lib.hid (show hiS l (k + 1) = hiS l k + gi l k / 4294967296 from rfl)
      have HL := Lib.hid (show loS l (k + 1) = loS l k + gi l k % 4294967296 from rfl)
      obtain ⟨x, hx⟩ : ∃ x, gi l k = x := ⟨_, rfl⟩
      obtain ⟨H, hH⟩ : ∃ x, hiS l k = x := ⟨_, rfl⟩
      obtain ⟨L, hL⟩ : ∃ x, loS l k = x := ⟨_, rfl⟩
      obtain ⟨xh, hxh⟩ : ∃ v, x / 4294967296 = v := ⟨_, rfl⟩
      obtain ⟨xl, hxl⟩ : ∃ v, x % 4294967296 = v := ⟨_, rfl⟩
      have a1 : bits .and .i64 x 4294967295 = xl := by rw [and32, hxl]
      rw [hx] at e2 hfx HH HL
      rw [hH] at hb HH ⊢
      rw [hL] at hb HL ⊢
      rw [hxh] at HH
      rw [hxl] at HL
      have w1 : IntKind.i64.wrap (H + xh) = H + xh := IntWalk.i64_in _ (by omega)
      have w2 : IntKind.i64.wrap (L + xl) = L + xl := IntWalk.i64_in _ (by omega)
      clear hx hH hL hxl hb hfx
      go_wp2_with fail
      go_roundw
      case rel => exact ⟨k + 1, by omega, by go_num, by rw [HH.out], by rw [HL.out], y, rfl⟩
      case measure => simp [intOf]; omega
    · have i3 : decide ((k : Int) < (l.length : Int)) = false := decide_eq_false (by omega)
      obtain rfl : k = l.length := by omega
      obtain ⟨H, hH⟩ : ∃ x, hiS l l.length = x := ⟨_, rfl⟩
      obtain ⟨L, hL⟩ : ∃ x, loS l l.length = x := ⟨_, rfl⟩
      rw [hH, hL, ← sum_su] at hb
      rw [hH, hL]
      obtain ⟨L1, hL1⟩ : ∃ v, L / 4294967296 = v := ⟨_, rfl⟩
      obtain ⟨L0, hL0⟩ : ∃ v, L % 4294967296 = v := ⟨_, rfl⟩
      obtain ⟨H', hH'⟩ : ∃ v, H + L1 = v := ⟨_, rfl⟩
      have a1 : bits .and .i64 L 4294967295 = L0 := by rw [and32, hL0]
      have w1 : IntKind.i64.wrap (H + L1) = H' := by rw [IntWalk.i64_in _ (by omega)]; exact hH'
      have hS : l.sum = H' * 4294967296 + L0 := by omega
      have hL0b : 0 ≤ L0 ∧ L0 < 4294967296 := by omega
      have hB : Below w.heap.size w y.w := y.2
      have hR := HRR.out
      clear hH hL hL0 hH' hb
      by_cases q1 : H' < -2147483648
      · have q1' : decide (H' < -2147483648) = true := decide_eq_true q1
        unfold sumR at hR
        rw [if_neg (by omega)] at hR
        cases hR
        go_wp2_with fail
        go_ret2
        exact ⟨rfl, hB⟩
      have q1' : decide (H' < -2147483648) = false := decide_eq_false q1
      by_cases q2 : 2147483647 < H'
      · have q2' : decide (2147483647 < H') = true := decide_eq_true q2
        unfold sumR at hR
        rw [if_neg (by omega)] at hR
        cases hR
        go_wp2_with fail
        go_ret2
        exact ⟨rfl, hB⟩
      have q2' : decide (2147483647 < H') = false := decide_eq_false q2
      have w2 : IntKind.i64.wrap (H' * 4294967296) = H' * 4294967296 := IntWalk.i64_in _ (by omega)
      have w3 : IntKind.i64.wrap (H' * 4294967296 + L0) = l.sum := by rw [IntWalk.i64_in _ (by omega)]; exact hS.symm
      unfold sumR at hR
      rw [if_pos (by omega)] at hR
      cases hR
      clear q1 q2 hS
      go_wp2_with fail
      go_ret2
      exact ⟨rfl, hB⟩

end Go.Proofs.Ytfmnlnmajephlaa
