/- GroupField: for all ints the products modulo P and the sums, differences and products modulo Q obey the laws of a field and a ring. No condition. -/
import Derived.Test.YtenbinclccnlgaaSmall
namespace Go.Proofs.Ytenbinclccnlgaa
open Go.RowKit

namespace FieldLaw
theorem mul_bd (a b : Int) : 0 ≤ Grp.gMul a b ∧ Grp.gMul a b < 2305843009213691579 := by
  unfold Grp.gMul
  rw [Pc]
  exact ⟨Int.emod_nonneg _ (by omega), Int.emod_lt_of_pos _ (by omega)⟩
theorem addQ_bd (a b : Int) : 0 ≤ Grp.gAddQ a b ∧ Grp.gAddQ a b < 1152921504606845789 := by
  unfold Grp.gAddQ
  rw [Qc]
  exact ⟨Int.emod_nonneg _ (by omega), Int.emod_lt_of_pos _ (by omega)⟩
theorem exp_bd (a e : Int) : 0 ≤ Grp.gExp a e ∧ Grp.gExp a e < 2305843009213691579 := by
  unfold Grp.gExp
  have := Nat.mod_lt (Grp.rs a ^ Grp.ex e) (show 0 < Grp.Pn by decide +kernel)
  have := Pc
  omega
theorem mul_assoc (a b c : Int) : Grp.gMul (Grp.gMul a b) c = Grp.gMul a (Grp.gMul b c) := by
  have h : ∀ x y p : Int, x % p * y % p = x * y % p := fun x y p => by rw [Int.mul_emod, Int.emod_emod, ← Int.mul_emod]
  have h' : ∀ x y p : Int, x * (y % p) % p = x * y % p := fun x y p => by rw [Int.mul_emod, Int.emod_emod, ← Int.mul_emod]
  unfold Grp.gMul
  rw [h, h', Int.mul_assoc]
theorem mulQ_assoc (a b c : Int) : Grp.gMulQ (Grp.gMulQ a b) c = Grp.gMulQ a (Grp.gMulQ b c) := by
  have h : ∀ x y p : Int, x % p * y % p = x * y % p := fun x y p => by rw [Int.mul_emod, Int.emod_emod, ← Int.mul_emod]
  have h' : ∀ x y p : Int, x * (y % p) % p = x * y % p := fun x y p => by rw [Int.mul_emod, Int.emod_emod, ← Int.mul_emod]
  unfold Grp.gMulQ
  rw [h, h', Int.mul_assoc]
theorem addQ_assoc (a b c : Int) : Grp.gAddQ (Grp.gAddQ a b) c = Grp.gAddQ a (Grp.gAddQ b c) := by
  unfold Grp.gAddQ
  rw [Int.emod_add_emod, Int.add_emod_emod, Int.add_assoc]
theorem sub_add (a b : Int) : Grp.gSubQ (Grp.gAddQ a b) b = Grp.gAddQ a 0 := by
  unfold Grp.gAddQ Grp.gSubQ
  rw [Int.emod_sub_emod, Int.add_sub_cancel, Int.add_zero]
theorem distrib (a b c : Int) : Grp.gMulQ a (Grp.gAddQ b c) = Grp.gAddQ (Grp.gMulQ a b) (Grp.gMulQ a c) := by
  have h' : ∀ x y p : Int, x * (y % p) % p = x * y % p := fun x y p => by rw [Int.mul_emod, Int.emod_emod, ← Int.mul_emod]
  unfold Grp.gAddQ Grp.gMulQ
  rw [h', Int.emod_add_emod, Int.add_emod_emod, Int.mul_add]
theorem mulQ_one (a : Int) : Grp.gMulQ a 1 = Grp.gAddQ a 0 := by
  unfold Grp.gAddQ Grp.gMulQ
  rw [Int.mul_one, Int.add_zero]
theorem mulQ_comm (a b : Int) : Grp.gMulQ a b = Grp.gMulQ b a := by unfold Grp.gMulQ; rw [Int.mul_comm]
theorem addQ_comm (a b : Int) : Grp.gAddQ a b = Grp.gAddQ b a := by unfold Grp.gAddQ; rw [Int.add_comm]
theorem mul_zero_left {a : Int} (h : Grp.rs a = 0) (b : Int) : Grp.gMul a b = 0 := by rw [Grp.gMul_nat, h, Nat.zero_mul]; rfl
theorem mul_zero_right (a : Int) {b : Int} (h : Grp.rs b = 0) : Grp.gMul a b = 0 := by rw [Grp.gMul_nat, h, Nat.mul_zero]; rfl
theorem mul_ne_zero {a b : Int} (ha : Grp.rs a ≠ 0) (hb : Grp.rs b ≠ 0) : Grp.gMul a b ≠ 0 := by
  have := Grp.mul_ne ha hb (Grp.rs_lt a) (Grp.rs_lt b)
  rw [Grp.gMul_nat]
  omega
theorem bt {a b : Int} (h : a = b) : (a == b) = true := by rw [h]; simp
theorem bf {a b : Int} (h : a ≠ b) : (a == b) = false := beq_eq_false_iff_ne.2 h
theorem nt {a b : Int} (h : a ≠ b) : (a != b) = true := by simp [h]
theorem nf {a b : Int} (h : a = b) : (a != b) = false := by simp [h]
end FieldLaw
open FieldLaw

set_option maxHeartbeats 1000000 in
set_option maxRecDepth 100000 in
theorem field_walk (a b c : Int) (w : World) : Calls Try.prog 7 #[.int .i64 a, .int .i64 b, .int .i64 c] w fun e w' => e = .returned (.bool true) ∧ ∃ n, w' = w.drewN n := by
  obtain ⟨b1, b2⟩ := mul_bd a 1
  obtain ⟨b3, b4⟩ := addQ_bd a 0
  have t1 : decide (0 ≤ Grp.gMul a 1) = true := decide_eq_true b1
  have t2 : decide (Grp.gMul a 1 < 2305843009213691579) = true := decide_eq_true b2
  have t3 : decide (0 ≤ Grp.gAddQ a 0) = true := decide_eq_true b3
  have t4 : decide (Grp.gAddQ a 0 < 1152921504606845789) = true := decide_eq_true b4
  have f1 := bt (Grp.gMul_comm a b)
  have f2 := bt (mul_assoc a b c)
  have f3 := bt (addQ_comm a b)
  have f4 := bt (addQ_assoc a b c)
  have f5 := bt (sub_add a b)
  have f6 := bt (mulQ_comm a b)
  have f7 := bt (mulQ_assoc a b c)
  have f8 := bt (distrib a b c)
  have f9 := bt (mulQ_one a)
  by_cases h : Grp.rs a = 0
  · have x1 := Grp.gInv_none h
    have x2 := bt (mul_zero_left h 1)
    have x3 := nf (mul_zero_left h 1)
    have x4 := bt (mul_zero_left h b)
    clear b1 b2 b3 b4 h
    go_enter Try.func7, Try.ntmps7
    go_wp2_with (first | (go_at_call 8; refine (small_any _).mono ?_; rintro e w' ⟨rfl, n, rfl⟩) | (go_at_call 9; refine (inv_any _ _).mono ?_; rintro e w' ⟨rfl, n, rfl⟩) | (go_at_call 13; refine (exp_any _ _ (by first | omega | assumption) _).mono ?_; rintro e w' ⟨rfl, n, rfl⟩) | (go_at_call 15; refine (in_any _ _).mono ?_; rintro e w' ⟨rfl, n, rfl⟩) | (go_at_call 11; refine (mul_any _ _ _).mono ?_; rintro e w' ⟨rfl, n, rfl⟩) | (go_at_call 17; refine (addQ_any _ _ _).mono ?_; rintro e w' ⟨rfl, rfl⟩) | (go_at_call 19; refine (subQ_any _ _ _).mono ?_; rintro e w' ⟨rfl, rfl⟩) | (go_at_call 21; refine (mulQ_any _ _ _).mono ?_; rintro e w' ⟨rfl, n, rfl⟩))
    go_ret
    exact ⟨rfl, _, rfl⟩
  · obtain ⟨i, hi⟩ : ∃ i, Grp.gExp a ((Grp.Pn : Int) - 2) = i := ⟨_, rfl⟩
    have x1 := Grp.gInv_some h
    rw [hi] at x1
    have hbd := exp_bd a ((Grp.Pn : Int) - 2)
    rw [hi] at hbd
    have hne : i ≠ 0 := hi ▸ Grp.exp_ne_zero h
    have y1 : decide (1 ≤ i) = true := decide_eq_true (by omega)
    have y2 : decide (i < 2305843009213691579) = true := decide_eq_true (by omega)
    have hiv : Grp.gMul a i = 1 := by rw [← hi, Grp.gMul_comm]; exact Grp.inv_mul' h
    have y3 := bt hiv
    have x2 := bf (mul_ne_zero (b := 1) h (by decide +kernel))
    have x3 := nt (mul_ne_zero (b := 1) h (by decide +kernel))
    by_cases h' : Grp.rs b = 0
    · have x4 := bt (mul_zero_right a h')
      have x5 := bt (mul_zero_left h' 1)
      clear b1 b2 b3 b4 h h' hi hne hiv hbd
      go_enter Try.func7, Try.ntmps7
      go_wp2_with (first | (go_at_call 8; refine (small_any _).mono ?_; rintro e w' ⟨rfl, n, rfl⟩) | (go_at_call 9; refine (inv_any _ _).mono ?_; rintro e w' ⟨rfl, n, rfl⟩) | (go_at_call 13; refine (exp_any _ _ (by first | omega | assumption) _).mono ?_; rintro e w' ⟨rfl, n, rfl⟩) | (go_at_call 15; refine (in_any _ _).mono ?_; rintro e w' ⟨rfl, n, rfl⟩) | (go_at_call 11; refine (mul_any _ _ _).mono ?_; rintro e w' ⟨rfl, n, rfl⟩) | (go_at_call 17; refine (addQ_any _ _ _).mono ?_; rintro e w' ⟨rfl, rfl⟩) | (go_at_call 19; refine (subQ_any _ _ _).mono ?_; rintro e w' ⟨rfl, rfl⟩) | (go_at_call 21; refine (mulQ_any _ _ _).mono ?_; rintro e w' ⟨rfl, n, rfl⟩))
      go_ret
      exact ⟨rfl, _, rfl⟩
    · have x4 := bf (mul_ne_zero h h')
      have x5 := bf (mul_ne_zero (b := 1) h' (by decide +kernel))
      clear b1 b2 b3 b4 h h' hi hne hiv hbd
      go_enter Try.func7, Try.ntmps7
      go_wp2_with (first | (go_at_call 8; refine (small_any _).mono ?_; rintro e w' ⟨rfl, n, rfl⟩) | (go_at_call 9; refine (inv_any _ _).mono ?_; rintro e w' ⟨rfl, n, rfl⟩) | (go_at_call 13; refine (exp_any _ _ (by first | omega | assumption) _).mono ?_; rintro e w' ⟨rfl, n, rfl⟩) | (go_at_call 15; refine (in_any _ _).mono ?_; rintro e w' ⟨rfl, n, rfl⟩) | (go_at_call 11; refine (mul_any _ _ _).mono ?_; rintro e w' ⟨rfl, n, rfl⟩) | (go_at_call 17; refine (addQ_any _ _ _).mono ?_; rintro e w' ⟨rfl, rfl⟩) | (go_at_call 19; refine (subQ_any _ _ _).mono ?_; rintro e w' ⟨rfl, rfl⟩) | (go_at_call 21; refine (mulQ_any _ _ _).mono ?_; rintro e w' ⟨rfl, n, rfl⟩))
      go_ret
      exact ⟨rfl, _, rfl⟩

end Go.Proofs.Ytenbinclccnlgaa
