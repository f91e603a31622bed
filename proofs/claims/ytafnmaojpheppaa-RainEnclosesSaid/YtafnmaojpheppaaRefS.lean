/- The contract of bourneref01.Scale: the loop over the bits of num. -/
import Derived.Test.YtafnmaojpheppaaExact
import Derived.WalkKit
import Derived.WalkLawsBesides
import Derived.WalkSpells
import Derived.Deep.LoopGhost
import Derived.OwnWalk
import Derived.Lib.Hide
namespace Go.Proofs.Ytafnmaojpheppaa
open Go.RowKit
set_option linter.unusedVariables false
set_option linter.unusedSimpArgs false

def sq (a n d i : Nat) : Nat := a * (n / 2 ^ (51 - i)) / d
def sr (a n d i : Nat) : Nat := a * (n / 2 ^ (51 - i)) % d
def sb (i : Nat) : Nat := 2 ^ 51 / 2 ^ (i + 1)
theorem sb_half (i : Nat) : sb i / 2 = sb (i + 1) := by
  unfold sb
  rw [Nat.div_div_eq_div_mul, ← Nat.pow_succ]
theorem sb_pow {i : Nat} (h : i ≤ 50) : sb i = 2 ^ (50 - i) := by
  unfold sb
  rw [Nat.pow_div (by omega) (by omega)]
  congr 1
  omega
theorem sb_last : sb 51 = 0 := by decide
theorem sn_step (n i : Nat) (h : i ≤ 50) : n / 2 ^ (51 - (i + 1)) = 2 * (n / 2 ^ (51 - i)) + n / 2 ^ (50 - i) % 2 := by
  have e : n / 2 ^ (51 - i) = n / 2 ^ (50 - i) / 2 := by
    rw [Nat.div_div_eq_div_mul, ← Nat.pow_succ]
    congr 2
    omega
  rw [e, show 51 - (i + 1) = 50 - i from by omega]
  omega
theorem s_step (a d m t q r : Nat) (hd : 0 < d) (hq : a * m / d = q) (hr : a * m % d = r) : a * (2 * m + t) / d = 2 * q + (2 * r + t * a) / d ∧ a * (2 * m + t) % d = (2 * r + t * a) % d := by
  have h := Nat.div_add_mod (a * m) d
  rw [hq, hr] at h
  have e : a * (2 * m + t) = d * (2 * q) + (2 * r + t * a) := by
    rw [Nat.mul_add, Nat.mul_left_comm, ← h, Nat.mul_comm t a, Nat.mul_add, Nat.mul_left_comm 2 d q]
    omega
  rw [e, Nat.mul_add_div hd, Nat.mul_add_mod]
  exact ⟨rfl, rfl⟩
theorem ofInt_i64' (a : Nat) (ha : a < 9223372036854775808) : (BitVec.ofInt 64 (a : Int)).toNat = a := by
  rw [BitVec.ofInt_natCast, BitVec.toNat_ofNat]; exact Nat.mod_eq_of_lt (by omega)
theorem i64_and_nat' (a b : Nat) (ha : a < 9223372036854775808) (hb : b < 9223372036854775808) : bits .and .i64 (a : Int) (b : Int) = ((a &&& b : Nat) : Int) := by
  have hx : a &&& b < 2 ^ 63 := Nat.and_lt_two_pow _ (by omega)
  show IntKind.i64.wrap ((BitVec.ofInt 64 (a : Int) &&& BitVec.ofInt 64 (b : Int)).toNat : Int) = _
  rw [BitVec.toNat_and, ofInt_i64' a ha, ofInt_i64' b hb, IntKind.wrap_i64]
  omega
theorem bit_at (n i : Nat) (h : i ≤ 50) : n &&& sb i = n / 2 ^ (50 - i) % 2 * sb i := by
  rw [sb_pow h]
  generalize 50 - i = k
  have hp : 0 < 2 ^ k := Nat.pow_pos (by omega)
  have e1 : (n &&& 2 ^ k) / 2 ^ k = n / 2 ^ k % 2 := by rw [Nat.and_div_two_pow, Nat.div_self hp, Nat.and_one_is_mod]
  have e2 : (n &&& 2 ^ k) % 2 ^ k = 0 := by rw [Nat.and_mod_two_pow, Nat.mod_self, Nat.and_zero]
  have h := Nat.div_add_mod (n &&& 2 ^ k) (2 ^ k)
  rw [e1, e2, Nat.mul_comm] at h
  exact h.symm
theorem ref_over {a n d i : Nat} (h : 1125899906842624 < sq a n d i) : ¬ a * n / d ≤ 1125899906842624 := by
  unfold sq at h
  have : a * (n / 2 ^ (51 - i)) / d ≤ a * n / d := Nat.div_le_div_right (Nat.mul_le_mul_left a (Nat.div_le_self _ _))
  omega

set_option maxHeartbeats 1000000 in
theorem refscale_in (a n d : Nat) (ha : a ≤ 1125899906842624) (hn : n ≤ 1125899906842624) (hd1 : 1 ≤ d) (hd : d ≤ 1125899906842624) (w : World) :
    Calls Try.prog 43 #[.int .i64 (a : Int), .int .i64 (n : Int), .int .i64 (d : Int)] w fun e w' => e = .returned (.tuple (if a * n / d ≤ 1125899906842624 then #[.int .i64 ((a * n / d : Nat) : Int), .int .i64 ((a * n % d : Nat) : Int), .bool true] else #[.int .i64 0, .int .i64 0, .bool false])) ∧ w = w' := by
  have t1 : decide ((a : Int) < 0) = false := decide_eq_false (by omega)
  have t2 : decide ((1125899906842624 : Int) < (a : Int)) = false := decide_eq_false (by omega)
  have t3 : decide ((n : Int) < 0) = false := decide_eq_false (by omega)
  have t4 : decide ((1125899906842624 : Int) < (n : Int)) = false := decide_eq_false (by omega)
  have t5 : decide ((d : Int) < 1) = false := decide_eq_false (by omega)
  have t6 : decide ((1125899906842624 : Int) < (d : Int)) = false := decide_eq_false (by omega)
  have hs0 : sq a n d 0 = 0 ∧ sr a n d 0 = 0 := by
    unfold sq sr
    rw [Nat.sub_zero, Nat.div_eq_of_lt (show n < 2 ^ 51 by omega), Nat.mul_zero, Nat.zero_div, Nat.zero_mod]
    exact ⟨rfl, rfl⟩
  have HS := Lib.hid hs0
  clear hs0
  obtain ⟨res, hv⟩ : ∃ res : Array Value, (if a * n / d ≤ 1125899906842624 then #[.int .i64 ((a * n / d : Nat) : Int), .int .i64 ((a * n % d : Nat) : Int), .bool true] else #[.int .i64 0, .int .i64 0, .bool false]) = res := ⟨_, rfl⟩
  rw [hv]
  have HV := Lib.hid hv
  clear hv
  go_enter Try.func43, Try.ntmps43
  go_wp2_with fail
  go_loopg [9, 10, 11] 51 (fun k s9 s10 s11 wr => ∃ i : Nat, i ≤ 51 ∧ 51 ≤ i + k ∧ s9 = .int .i64 (sq a n d i : Int) ∧ s10 = .int .i64 (sr a n d i : Int) ∧ s11 = .int .i64 (sb i : Int) ∧ sq a n d i ≤ 1125899906842624 ∧ wr = w)
  case atStart => exact ⟨0, by omega, by omega, by rw [HS.out.1]; rfl, by rw [HS.out.2]; rfl, rfl, by rw [HS.out.1]; omega, rfl⟩
  case round =>
    obtain ⟨i, hi, hk, rfl, rfl, rfl, hq50, rfl⟩ := hrel
    by_cases hlt : i ≤ 50
    · have hbp : 0 < sb i := by rw [sb_pow hlt]; exact Nat.pow_pos (by omega)
      have hbl : sb i ≤ 1125899906842624 := by rw [sb_pow hlt]; exact Nat.pow_le_pow_right (j := 50) (by omega) (by omega)
      have t7 : decide ((0 : Int) < (sb i : Int)) = true := decide_eq_true (by omega)
      have hR : sr a n d i < d := Nat.mod_lt _ (by omega)
      have e5 : ((sb i : Nat) : Int).tdiv 2 = (sb (i + 1) : Int) := by rw [← sb_half, Int.tdiv_eq_ediv_of_nonneg (by omega), Int.natCast_ediv]; rfl
      have hbn : sb (i + 1) ≤ 1125899906842624 := by rw [← sb_half]; omega
      rcases Nat.mod_two_eq_zero_or_one (n / 2 ^ (50 - i)) with k | k
      · have tb : (bits .and .i64 (n : Int) (sb i : Int) != 0) = false := by
          rw [i64_and_nat' _ _ (by omega) (by omega), bit_at n i hlt, k, Nat.zero_mul]
          rfl
        obtain ⟨s1, s2⟩ := s_step a d (n / 2 ^ (51 - i)) 0 (sq a n d i) (sr a n d i) (by omega) rfl rfl
        have e0 := sn_step n i hlt
        rw [k] at e0
        rw [← e0, Nat.zero_mul, Nat.add_zero] at s1 s2
        obtain ⟨D1, hD⟩ : ∃ D1, 2 * sr a n d i / d = D1 := ⟨_, rfl⟩
        obtain ⟨M1, hM⟩ : ∃ M1, 2 * sr a n d i % d = M1 := ⟨_, rfl⟩
        have hDb : D1 ≤ 2251799813685248 := by rw [← hD]; exact Nat.le_trans (Nat.div_le_self _ _) (by omega)
        have hMb : M1 ≤ 1125899906842624 := by rw [← hM]; exact Nat.le_trans (Nat.le_of_lt (Nat.mod_lt _ (by omega))) hd
        have e3 : (2 * (sr a n d i : Int)).tdiv (d : Int) = (D1 : Int) := by rw [Int.tdiv_eq_ediv_of_nonneg (by omega), ← hD, Int.natCast_ediv]; rfl
        have e4 : (2 * (sr a n d i : Int)).tmod (d : Int) = (M1 : Int) := by rw [Int.tmod_eq_emod_of_nonneg (by omega), ← hM, Int.natCast_emod]; rfl
        have x1 : sq a n d (i + 1) = 2 * sq a n d i + D1 := by rw [← hD]; exact s1
        have x2 : sr a n d (i + 1) = M1 := by rw [← hM]; exact s2
        clear s1 s2 e0 hD hM k
        by_cases ho : sq a n d (i + 1) ≤ 1125899906842624
        · have t8 : decide ((1125899906842624 : Int) < 2 * (sq a n d i : Int) + (D1 : Int)) = false := decide_eq_false (by omega)
          have X1 := Lib.hid x1
          have X2 := Lib.hid x2
          have HO := Lib.hid ho
          clear x1 x2 ho
          go_wp2_with fail
          go_roundg (51 - (i + 1))
          case measure => omega
          case rel => exact ⟨i + 1, by omega, by omega, by rw [X1.out]; rfl, by rw [X2.out], rfl, HO.out, rfl⟩
        · have hno := ref_over (by omega : 1125899906842624 < sq a n d (i + 1))
          have hv := HV.out
          rw [if_neg hno] at hv
          subst hv
          have t8 : decide ((1125899906842624 : Int) < 2 * (sq a n d i : Int) + (D1 : Int)) = true := decide_eq_true (by omega)
          clear x1 x2 ho hno
          go_wp2_with fail
          go_ret3
          exact ⟨rfl, rfl⟩
      · have tb : (bits .and .i64 (n : Int) (sb i : Int) != 0) = true := by
          rw [i64_and_nat' _ _ (by omega) (by omega), bit_at n i hlt, k, Nat.one_mul]
          exact bne_iff_ne.2 (by omega)
        obtain ⟨s1, s2⟩ := s_step a d (n / 2 ^ (51 - i)) 1 (sq a n d i) (sr a n d i) (by omega) rfl rfl
        have e0 := sn_step n i hlt
        rw [k] at e0
        rw [← e0, Nat.one_mul] at s1 s2
        obtain ⟨D1, hD⟩ : ∃ D1, (2 * sr a n d i + a) / d = D1 := ⟨_, rfl⟩
        obtain ⟨M1, hM⟩ : ∃ M1, (2 * sr a n d i + a) % d = M1 := ⟨_, rfl⟩
        have hDb : D1 ≤ 4503599627370496 := by rw [← hD]; exact Nat.le_trans (Nat.div_le_self _ _) (by omega)
        have hMb : M1 ≤ 1125899906842624 := by rw [← hM]; exact Nat.le_trans (Nat.le_of_lt (Nat.mod_lt _ (by omega))) hd
        have e3 : (2 * (sr a n d i : Int) + (a : Int)).tdiv (d : Int) = (D1 : Int) := by rw [Int.tdiv_eq_ediv_of_nonneg (by omega), ← hD, Int.natCast_ediv]; rfl
        have e4 : (2 * (sr a n d i : Int) + (a : Int)).tmod (d : Int) = (M1 : Int) := by rw [Int.tmod_eq_emod_of_nonneg (by omega), ← hM, Int.natCast_emod]; rfl
        have x1 : sq a n d (i + 1) = 2 * sq a n d i + D1 := by rw [← hD]; exact s1
        have x2 : sr a n d (i + 1) = M1 := by rw [← hM]; exact s2
        clear s1 s2 e0 hD hM k
        by_cases ho : sq a n d (i + 1) ≤ 1125899906842624
        · have t8 : decide ((1125899906842624 : Int) < 2 * (sq a n d i : Int) + (D1 : Int)) = false := decide_eq_false (by omega)
          have X1 := Lib.hid x1
          have X2 := Lib.hid x2
          have HO := Lib.hid ho
          clear x1 x2 ho
          go_wp2_with fail
          go_roundg (51 - (i + 1))
          case measure => omega
          case rel => exact ⟨i + 1, by omega, by omega, by rw [X1.out]; rfl, by rw [X2.out], rfl, HO.out, rfl⟩
        · have hno := ref_over (by omega : 1125899906842624 < sq a n d (i + 1))
          have hv := HV.out
          rw [if_neg hno] at hv
          subst hv
          have t8 : decide ((1125899906842624 : Int) < 2 * (sq a n d i : Int) + (D1 : Int)) = true := decide_eq_true (by omega)
          clear x1 x2 ho hno
          go_wp2_with fail
          go_ret3
          exact ⟨rfl, rfl⟩
    · obtain rfl : i = 51 := by omega
      have t7 : decide ((0 : Int) < (sb 51 : Int)) = false := by rw [sb_last]; rfl
      have e1 : sq a n d 51 = a * n / d := by unfold sq; rw [Nat.sub_self, Nat.pow_zero, Nat.div_one]
      have e2 : sr a n d 51 = a * n % d := by unfold sr; rw [Nat.sub_self, Nat.pow_zero, Nat.div_one]
      have hv := HV.out
      rw [if_pos (by rw [← e1]; exact hq50), ← e1, ← e2] at hv
      subst hv
      clear e1 e2
      go_wp2_with fail
      go_ret3
      exact ⟨rfl, rfl⟩

theorem refscale_any (a n d : Int) (w : World) :
    Calls Try.prog 43 #[.int .i64 a, .int .i64 n, .int .i64 d] w fun e w' => e = .returned (.tuple #[.int .i64 (Xa.scale a n d).1, .int .i64 (Xa.scale a n d).2.1, .bool (Xa.scale a n d).2.2]) ∧ w = w' := by
  by_cases h : 0 ≤ a ∧ a ≤ 1125899906842624 ∧ 0 ≤ n ∧ n ≤ 1125899906842624 ∧ 1 ≤ d ∧ d ≤ 1125899906842624
  · obtain ⟨h1, h2, h3, h4, h5, h6⟩ := h
    obtain ⟨A, rfl⟩ := Int.eq_ofNat_of_zero_le h1
    obtain ⟨N, rfl⟩ := Int.eq_ofNat_of_zero_le h3
    obtain ⟨D, rfl⟩ := Int.eq_ofNat_of_zero_le (show 0 ≤ d by omega)
    have c := refscale_in A N D (by omega) (by omega) (by omega) (by omega) w
    rw [Xa.scale_nat (by omega) (by omega) (by omega) (by omega)]
    by_cases hq : A * N / D ≤ 1125899906842624
    · rw [if_pos hq] at c ⊢
      exact c
    · rw [if_neg hq] at c ⊢
      exact c
  · rw [Xa.scale_no (fun x => h ⟨x.1, x.2.1, x.2.2.1, x.2.2.2.1, x.2.2.2.2.1, x.2.2.2.2.2.1⟩)]
    obtain ⟨x1, e1⟩ : ∃ b, decide (a < 0) = b := ⟨_, rfl⟩
    obtain ⟨x2, e2⟩ : ∃ b, decide (1125899906842624 < a) = b := ⟨_, rfl⟩
    obtain ⟨x3, e3⟩ : ∃ b, decide (n < 0) = b := ⟨_, rfl⟩
    obtain ⟨x4, e4⟩ : ∃ b, decide (1125899906842624 < n) = b := ⟨_, rfl⟩
    obtain ⟨x5, e5⟩ : ∃ b, decide (d < 1) = b := ⟨_, rfl⟩
    obtain ⟨x6, e6⟩ : ∃ b, decide (1125899906842624 < d) = b := ⟨_, rfl⟩
    have hx : (x1 || x2 || x3 || x4 || x5 || x6) = true := by
      subst e1 e2 e3 e4 e5 e6
      simp only [Bool.or_eq_true, decide_eq_true_eq]
      omega
    cases x1 with
    | true =>
      clear e2 e3 e4 e5 e6 h hx
      go_enter Try.func43, Try.ntmps43
      go_wp2_with fail
      go_ret3
      exact ⟨rfl, rfl⟩
    | false =>
    cases x2 with
    | true =>
      clear e3 e4 e5 e6 h hx
      go_enter Try.func43, Try.ntmps43
      go_wp2_with fail
      go_ret3
      exact ⟨rfl, rfl⟩
    | false =>
    cases x3 with
    | true =>
      clear e4 e5 e6 h hx
      go_enter Try.func43, Try.ntmps43
      go_wp2_with fail
      go_ret3
      exact ⟨rfl, rfl⟩
    | false =>
    cases x4 with
    | true =>
      clear e5 e6 h hx
      go_enter Try.func43, Try.ntmps43
      go_wp2_with fail
      go_ret3
      exact ⟨rfl, rfl⟩
    | false =>
    cases x5 with
    | true =>
      clear e6 h hx
      go_enter Try.func43, Try.ntmps43
      go_wp2_with fail
      go_ret3
      exact ⟨rfl, rfl⟩
    | false =>
    cases x6 with
    | true =>
      clear h hx
      go_enter Try.func43, Try.ntmps43
      go_wp2_with fail
      go_ret3
      exact ⟨rfl, rfl⟩
    | false => simp at hx


end Go.Proofs.Ytafnmaojpheppaa
