/- Contracts of package group: Mul, Exp, Inv, In, AddQ, SubQ, MulQ compute what the plain text Grp says. -/
import Derived.Test.YtenbinclccnlgaaRem
import Derived.Test.YtenbinclccnlgaaGrp
namespace Go.Proofs.Ytenbinclccnlgaa
open Go.RowKit

theorem Pc : ((Grp.Pn : Nat) : Int) = 2305843009213691579 := by decide +kernel
theorem Qc : ((Grp.Qn : Nat) : Int) = 1152921504606845789 := by decide +kernel

theorem mul_any (a b : Int) (w : World) :
    Calls Try.prog 11 #[.int .i64 a, .int .i64 b] w fun e w' => e = .returned (.int .i64 (Grp.gMul a b)) ∧ ∃ n, w' = w.drewN n := by
  have c := product_any a b 2305843009213691579 (by omega) (by omega) w
  rw [← Pc] at c
  have e : a * b % (Grp.Pn : Int) = Grp.gMul a b := rfl
  rw [e, Pc] at c
  have HC := Lib.hid c
  clear c e
  go_enter Try.func11, Try.ntmps11
  go_wp2_with fail
  refine HC.out.mono ?_
  rintro e w' ⟨rfl, n, rfl⟩
  go_wp2_with fail
  go_ret
  exact ⟨rfl, _, rfl⟩

/-- the power after i rounds -/
def pw (a : Int) (E i : Nat) : Int := ((Grp.rs a ^ (E / 2 ^ (63 - i)) % Grp.Pn : Nat) : Int)
theorem rs_pw (a : Int) (E i : Nat) : Grp.rs (pw a E i) = Grp.rs a ^ (E / 2 ^ (63 - i)) % Grp.Pn := by unfold pw; rw [Grp.rs_mod]
theorem pw_zero (a : Int) (E : Nat) (h : E < 9223372036854775808) : pw a E 0 = 1 := by
  unfold pw
  rw [Nat.div_eq_of_lt (by simpa using h), Nat.pow_zero]
  decide +kernel
theorem halves (E i : Nat) (hi : i < 63) : E / 2 ^ (63 - i) = E / 2 ^ (62 - i) / 2 := by
  rw [Nat.div_div_eq_div_mul, ← Nat.pow_succ, show (62 - i).succ = 63 - i from by omega]
theorem pw_even (a : Int) (E i : Nat) (hi : i < 63) (hb : E / 2 ^ (62 - i) % 2 = 0) : Grp.gMul (pw a E i) (pw a E i) = pw a E (i + 1) := by
  rw [Grp.gMul_nat, rs_pw, ← Nat.mul_mod, ← Nat.pow_add, halves E i hi]
  unfold pw
  rw [show 63 - (i + 1) = 62 - i from by omega, show E / 2 ^ (62 - i) / 2 + E / 2 ^ (62 - i) / 2 = E / 2 ^ (62 - i) from by omega]
theorem pw_odd (a : Int) (E i : Nat) (hi : i < 63) (hb : E / 2 ^ (62 - i) % 2 = 1) : Grp.gMul (Grp.gMul (pw a E i) (pw a E i)) a = pw a E (i + 1) := by
  rw [Grp.gMul_nat, Grp.rs_gMul, rs_pw, ← Nat.mul_mod, ← Nat.pow_add, halves E i hi, Nat.mod_mul_mod, ← Nat.pow_succ]
  unfold pw
  rw [show 63 - (i + 1) = 62 - i from by omega, show (E / 2 ^ (62 - i) / 2 + E / 2 ^ (62 - i) / 2).succ = E / 2 ^ (62 - i) from by omega]

theorem ofInt_i64 (a : Nat) (ha : a < 9223372036854775808) : (BitVec.ofInt 64 (a : Int)).toNat = a := by
  rw [BitVec.ofInt_natCast, BitVec.toNat_ofNat]; exact Nat.mod_eq_of_lt (by omega)
theorem i64_and_nat (a b : Nat) (ha : a < 9223372036854775808) (hb : b < 9223372036854775808) : bits .and .i64 (a : Int) (b : Int) = ((a &&& b : Nat) : Int) := by
  have hx : a &&& b < 2 ^ 63 := Nat.and_lt_two_pow _ (by omega)
  show IntKind.i64.wrap ((BitVec.ofInt 64 (a : Int) &&& BitVec.ofInt 64 (b : Int)).toNat : Int) = _
  rw [BitVec.toNat_and, ofInt_i64 a ha, ofInt_i64 b hb, IntKind.wrap_i64]
  omega
theorem i64_and_one (a : Nat) (ha : a < 9223372036854775808) : bits .and .i64 (a : Int) 1 = ((a % 2 : Nat) : Int) := by
  have h := i64_and_nat a 1 ha (by omega)
  rw [Nat.and_one_is_mod] at h
  exact h

theorem bit_of (E i : Nat) (h : E < 9223372036854775808) : bits .and .i64 ((E : Int) / 2 ^ (62 - i)) 1 = ((E / 2 ^ (62 - i) % 2 : Nat) : Int) := by
  rw [pow_cast, ← Int.natCast_ediv]
  exact i64_and_one _ (Nat.lt_of_le_of_lt (Nat.div_le_self _ _) h)

set_option maxHeartbeats 1000000 in
theorem exp_any (a e : Int) (he : e ≤ 9223372036854775807) (w : World) :
    Calls Try.prog 13 #[.int .i64 a, .int .i64 e] w fun e' w' => e' = .returned (.int .i64 (Grp.gExp a e)) ∧ ∃ n, w' = w.drewN n := by
  obtain ⟨E, hE⟩ : ∃ E : Nat, Grp.ex e = E := ⟨_, rfl⟩
  have hx := Grp.ex_nonneg_cast e
  rw [hE, Qc] at hx
  have hE63 : E < 9223372036854775808 := by
    have := Int.emod_lt_of_pos e (show (0 : Int) < 1152921504606845789 by omega)
    split at hx <;> omega
  have hfin : Grp.gExp a e = pw a E 63 := by
    unfold Grp.gExp pw
    rw [hE, Nat.sub_self, Nat.pow_zero, Nat.div_one]
  rw [hfin]
  have hz := pw_zero a E hE63
  have HZ := Lib.hid hz
  have HX := Lib.hid hx
  clear hfin hx hE hz
  by_cases hn : e < 0
  all_goals
    have hx := HX.out
  · rw [if_pos hn] at hx
    have c := residue_any e 1152921504606845789 (by omega) (by omega) w
    rw [← hx] at c
    have HC := Lib.hid c
    clear c hx HX
    go_enter Try.func13, Try.ntmps13
    go_wp2_with (go_at_call 23; refine HC.out.mono ?_; rintro e w' ⟨rfl, rfl⟩)
    go_loopg [5, 11] 63 (fun k s5 s11 wr => ∃ i n : Nat, i ≤ 63 ∧ 63 ≤ i + k ∧ s5 = .int .i64 (pw a E i) ∧ s11 = .int .i64 (i : Int) ∧ wr = w.drewN n)
    case atStart => exact ⟨0, 0, by omega, by omega, by rw [HZ.out], rfl, rfl⟩
    case round =>
      obtain ⟨i, n, hi, hk, rfl, rfl, rfl⟩ := hrel
      by_cases hlt : i < 63
      · have eb := bit_of E i hE63
        have HE := Lib.hid (pw_even a E i hlt)
        have HO := Lib.hid (pw_odd a E i hlt)
        by_cases hb : E / 2 ^ (62 - i) % 2 = 1
        · have tb : (bits .and .i64 ((E : Int) / 2 ^ (62 - i)) 1 == 1) = true := by rw [eb, hb]; rfl
          have HP := Lib.hid (HO.out hb)
          clear eb hb HE HO
          go_wp2_with fail
          refine (mul_any _ _ _).mono ?_
          rintro e w' ⟨rfl, n2, rfl⟩
          go_wp2_with fail
          refine (mul_any _ _ _).mono ?_
          rintro e w' ⟨rfl, n3, rfl⟩
          go_wp2_with fail
          go_roundg (63 - (i + 1))
          case measure => omega
          case rel => exact ⟨i + 1, _, by omega, by omega, by rw [HP.out], by go_num, rfl⟩
        · have tb : (bits .and .i64 ((E : Int) / 2 ^ (62 - i)) 1 == 1) = false := by rw [eb]; exact beq_eq_false_iff_ne.2 (by omega)
          have HP := Lib.hid (HE.out (by omega))
          clear eb hb HE HO
          go_wp2_with fail
          refine (mul_any _ _ _).mono ?_
          rintro e w' ⟨rfl, n2, rfl⟩
          go_wp2_with fail
          go_roundg (63 - (i + 1))
          case measure => omega
          case rel => exact ⟨i + 1, _, by omega, by omega, by rw [HP.out], by go_num, rfl⟩
      · obtain rfl : i = 63 := by omega
        go_wp2_with fail
        go_ret
        exact ⟨rfl, _, rfl⟩
  · rw [if_neg hn] at hx
    obtain rfl : (E : Int) = e := hx
    clear HX
    go_enter Try.func13, Try.ntmps13
    go_wp2_with fail
    go_loopg [5, 11] 63 (fun k s5 s11 wr => ∃ i n : Nat, i ≤ 63 ∧ 63 ≤ i + k ∧ s5 = .int .i64 (pw a E i) ∧ s11 = .int .i64 (i : Int) ∧ wr = w.drewN n)
    case atStart => exact ⟨0, 0, by omega, by omega, by rw [HZ.out], rfl, rfl⟩
    case round =>
      obtain ⟨i, n, hi, hk, rfl, rfl, rfl⟩ := hrel
      by_cases hlt : i < 63
      · have eb := bit_of E i hE63
        have HE := Lib.hid (pw_even a E i hlt)
        have HO := Lib.hid (pw_odd a E i hlt)
        by_cases hb : E / 2 ^ (62 - i) % 2 = 1
        · have tb : (bits .and .i64 ((E : Int) / 2 ^ (62 - i)) 1 == 1) = true := by rw [eb, hb]; rfl
          have HP := Lib.hid (HO.out hb)
          clear eb hb HE HO
          go_wp2_with fail
          refine (mul_any _ _ _).mono ?_
          rintro e w' ⟨rfl, n2, rfl⟩
          go_wp2_with fail
          refine (mul_any _ _ _).mono ?_
          rintro e w' ⟨rfl, n3, rfl⟩
          go_wp2_with fail
          go_roundg (63 - (i + 1))
          case measure => omega
          case rel => exact ⟨i + 1, _, by omega, by omega, by rw [HP.out], by go_num, rfl⟩
        · have tb : (bits .and .i64 ((E : Int) / 2 ^ (62 - i)) 1 == 1) = false := by rw [eb]; exact beq_eq_false_iff_ne.2 (by omega)
          have HP := Lib.hid (HE.out (by omega))
          clear eb hb HE HO
          go_wp2_with fail
          refine (mul_any _ _ _).mono ?_
          rintro e w' ⟨rfl, n2, rfl⟩
          go_wp2_with fail
          go_roundg (63 - (i + 1))
          case measure => omega
          case rel => exact ⟨i + 1, _, by omega, by omega, by rw [HP.out], by go_num, rfl⟩
      · obtain rfl : i = 63 := by omega
        go_wp2_with fail
        go_ret
        exact ⟨rfl, _, rfl⟩

end Go.Proofs.Ytenbinclccnlgaa
