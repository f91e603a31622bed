/- Contracts of the reference bourneref04: Mod, times, Mul, Exp, In, AddQ, SubQ, MulQ compute the same plain functions as package group. -/
import Derived.Test.YtenbinclccnlgaaPowers
namespace Go.Proofs.Ytenbinclccnlgaa
open Go.RowKit

set_option maxHeartbeats 400000 in
theorem mod_any (n m : Int) (h0 : 0 < m) (h1 : m ≤ 4611686018427387904) (w : World) :
    Calls Try.prog 24 #[.int .i64 n, .int .i64 m] w fun e w' => e = .returned (.int .i64 (n % m)) ∧ w = w' := by
  by_cases hn : 0 ≤ n
  · have hr : ¬ n % m < 0 := by have := Int.emod_nonneg n (show m ≠ 0 from by omega); omega
    go_enter Try.func24, Try.ntmps24
    go_wp2
    go_ret
    exact ⟨rfl, rfl⟩
  · rcases tmod_neg (show n < 0 by omega) h0 with ⟨he, ht⟩ | ⟨h2, h3, ht⟩
    · go_enter Try.func24, Try.ntmps24
      go_wp2
      go_ret
      exact ⟨ret_int (by simp), rfl⟩
    · go_enter Try.func24, Try.ntmps24
      go_wp2
      go_ret
      exact ⟨ret_int (by simp), rfl⟩

namespace Tm
/-- x + a * b keeps its residue -/
def Inv (m r x a b : Nat) : Prop := (x + a * b) % m = r
theorem bit1 {m r x a b : Nat} (h : Inv m r x a b) (hb : b % 2 = 1) : Inv m r ((x + a) % m) (2 * a % m) (b / 2) := by
  unfold Inv at h ⊢
  rw [Nat.mod_add_mod, Nat.add_mod, Nat.mod_mul_mod, ← Nat.add_mod, ← h]
  congr 1
  have : b = 2 * (b / 2) + 1 := by omega
  generalize b / 2 = c at *
  subst this
  rw [Nat.mul_add, Nat.mul_comm 2 a, Nat.mul_assoc]
  omega
theorem bit0 {m r x a b : Nat} (h : Inv m r x a b) (hb : b % 2 = 0) : Inv m r x (2 * a % m) (b / 2) := by
  unfold Inv at h ⊢
  rw [Nat.add_mod, Nat.mod_mul_mod, ← Nat.add_mod, ← h]
  congr 1
  have : b = 2 * (b / 2) := by omega
  generalize b / 2 = c at *
  subst this
  rw [Nat.mul_comm 2 a, Nat.mul_assoc]
end Tm

set_option maxHeartbeats 1000000 in
theorem times_any (a b m : Nat) (ha : a < m) (hb : b < 4611686018427387904) (hm : m ≤ 4611686018427387904) (w : World) :
    Calls Try.prog 26 #[.int .i64 a, .int .i64 b, .int .i64 m] w fun e w' => e = .returned (.int .i64 ((a * b % m : Nat) : Int)) ∧ w = w' := by
  have hI : Tm.Inv m (a * b % m) 0 a b := by unfold Tm.Inv; rw [Nat.zero_add]
  generalize a * b % m = r at *
  have HI := Lib.hid hI
  clear hI
  go_enter Try.func26, Try.ntmps26
  go_wp2_with fail
  go_loopg [0, 1, 7] b (fun k s0 s1 s7 wr => ∃ A B X : Nat, s0 = .int .i64 (A : Int) ∧ s1 = .int .i64 (B : Int) ∧ s7 = .int .i64 (X : Int) ∧ A < m ∧ X < m ∧ B < 4611686018427387904 ∧ B ≤ k ∧ Hid (Tm.Inv m r X A B) ∧ w = wr)
  case atStart => exact ⟨a, b, 0, rfl, rfl, rfl, ha, by omega, hb, by omega, HI, rfl⟩
  case round =>
    obtain ⟨A, B, X, rfl, rfl, rfl, hA, hX, hB, hk, H, rfl⟩ := hrel
    by_cases h0 : 0 < B
    · have eb := i64_and_one B (by omega)
      have e2 : (2 * A) % m = if m ≤ 2 * A then 2 * A - m else 2 * A := by
        split
        · rw [Nat.mod_eq_sub_mod (by omega), Nat.mod_eq_of_lt (by omega)]
        · exact Nat.mod_eq_of_lt (by omega)
      have ex : (X + A) % m = if m ≤ X + A then X + A - m else X + A := by
        split
        · rw [Nat.mod_eq_sub_mod (by omega), Nat.mod_eq_of_lt (by omega)]
        · exact Nat.mod_eq_of_lt (by omega)
      have H1 := Lib.hid (fun h => Tm.bit1 H.out h)
      have H0 := Lib.hid (fun h => Tm.bit0 H.out h)
      have E2 := Lib.hid e2
      have EX := Lib.hid ex
      clear e2 ex
      by_cases h1 : B % 2 = 1
      · have tb : (bits .and .i64 (B : Int) 1 == 1) = true := by rw [eb, h1]; rfl
        have G := Lib.hid (H1.out h1)
        clear eb h1
        by_cases c1 : m ≤ X + A <;> by_cases c2 : m ≤ 2 * A
        all_goals
          have e2 := E2.out
          have ex := EX.out
          first | rw [if_pos c1] at ex | rw [if_neg c1] at ex
          first | rw [if_pos c2] at e2 | rw [if_neg c2] at e2
          have g := G.out
          rw [e2, ex] at g
          have G2 := Lib.hid g
          clear e2 ex g
          go_wp2_with fail
          go_roundg (B / 2)
          case measure => omega
          case rel => exact ⟨_, B / 2, _, by go_num, by go_num, by go_num, by omega, by omega, by omega, by omega, G2, rfl⟩
      · have tb : (bits .and .i64 (B : Int) 1 == 1) = false := by rw [eb]; exact beq_eq_false_iff_ne.2 (by omega)
        have G := Lib.hid (H0.out (by omega))
        clear eb h1
        by_cases c2 : m ≤ 2 * A
        all_goals
          have e2 := E2.out
          first | rw [if_pos c2] at e2 | rw [if_neg c2] at e2
          have g := G.out
          rw [e2] at g
          have G2 := Lib.hid g
          clear e2 g
          go_wp2_with fail
          go_roundg (B / 2)
          case measure => omega
          case rel => exact ⟨_, B / 2, _, by go_num, by go_num, by go_num, by omega, by omega, by omega, by omega, G2, rfl⟩
    · obtain rfl : B = 0 := by omega
      have hr : X = r := by
        have := H.out
        unfold Tm.Inv at this
        rwa [Nat.mul_zero, Nat.add_zero, Nat.mod_eq_of_lt hX] at this
      have HR := Lib.hid hr
      clear hr
      go_wp2_with fail
      go_ret
      exact ⟨ret_int (by rw [← HR.out]), rfl⟩

theorem rmul_any (a b : Int) (w : World) :
    Calls Try.prog 12 #[.int .i64 a, .int .i64 b] w fun e w' => e = .returned (.int .i64 (Grp.gMul a b)) ∧ w = w' := by
  have ca := mod_any a 2305843009213691579 (by omega) (by omega) w
  have cb := mod_any b 2305843009213691579 (by omega) (by omega) w
  have la := Grp.rs_lt a
  have lb := Grp.rs_lt b
  rw [← Pc, ← Grp.rs_cast, Pc] at ca cb
  have hP : Grp.Pn = 2305843009213691579 := by decide +kernel
  have ct := times_any (Grp.rs a) (Grp.rs b) 2305843009213691579 (by omega) (by omega) (by omega) w
  rw [Grp.gMul_nat, hP]
  generalize Grp.rs a * Grp.rs b % 2305843009213691579 = R at *
  generalize Grp.rs a = x at *
  generalize Grp.rs b = y at *
  have CA := Lib.hid ca
  have CB := Lib.hid cb
  have CT := Lib.hid ct
  clear ca cb ct hP la lb
  go_enter Try.func12, Try.ntmps12
  go_wp2_with fail
  refine CA.out.mono ?_
  rintro e w' ⟨rfl, rfl⟩
  go_wp2_with fail
  refine CB.out.mono ?_
  rintro e w' ⟨rfl, rfl⟩
  go_wp2_with fail
  refine CT.out.mono ?_
  rintro e w' ⟨rfl, rfl⟩
  go_wp2_with fail
  go_ret
  exact ⟨rfl, rfl⟩

theorem rmulQ_any (a b : Int) (w : World) :
    Calls Try.prog 22 #[.int .i64 a, .int .i64 b] w fun e w' => e = .returned (.int .i64 (Grp.gMulQ a b)) ∧ w = w' := by
  have ca := mod_any a 1152921504606845789 (by omega) (by omega) w
  have cb := mod_any b 1152921504606845789 (by omega) (by omega) w
  have na := Int.emod_nonneg a (show (1152921504606845789 : Int) ≠ 0 by omega)
  have nb := Int.emod_nonneg b (show (1152921504606845789 : Int) ≠ 0 by omega)
  have la := Int.emod_lt_of_pos a (show (0 : Int) < 1152921504606845789 by omega)
  have lb := Int.emod_lt_of_pos b (show (0 : Int) < 1152921504606845789 by omega)
  have hr : Grp.gMulQ a b = (a % 1152921504606845789) * (b % 1152921504606845789) % 1152921504606845789 := by unfold Grp.gMulQ; rw [Qc, Int.mul_emod]
  rw [hr]
  clear hr
  generalize a % 1152921504606845789 = x at *
  generalize b % 1152921504606845789 = y at *
  obtain ⟨X, rfl⟩ := Int.eq_ofNat_of_zero_le na
  obtain ⟨Y, rfl⟩ := Int.eq_ofNat_of_zero_le nb
  have ct := times_any X Y 1152921504606845789 (by omega) (by omega) (by omega) w
  have he : (X : Int) * (Y : Int) % 1152921504606845789 = ((X * Y % 1152921504606845789 : Nat) : Int) := by rw [Int.natCast_emod, Int.natCast_mul]; rfl
  rw [he]
  generalize X * Y % 1152921504606845789 = R at *
  have CA := Lib.hid ca
  have CB := Lib.hid cb
  have CT := Lib.hid ct
  clear ca cb ct la lb na nb he
  go_enter Try.func22, Try.ntmps22
  go_wp2_with fail
  refine CA.out.mono ?_
  rintro e w' ⟨rfl, rfl⟩
  go_wp2_with fail
  refine CB.out.mono ?_
  rintro e w' ⟨rfl, rfl⟩
  go_wp2_with fail
  refine CT.out.mono ?_
  rintro e w' ⟨rfl, rfl⟩
  go_wp2_with fail
  go_ret
  exact ⟨rfl, rfl⟩

theorem raddQ_any (a b : Int) (w : World) :
    Calls Try.prog 18 #[.int .i64 a, .int .i64 b] w fun e w' => e = .returned (.int .i64 (Grp.gAddQ a b)) ∧ w = w' := by
  have ca := mod_any a 1152921504606845789 (by omega) (by omega) w
  have cb := mod_any b 1152921504606845789 (by omega) (by omega) w
  have na := Int.emod_nonneg a (show (1152921504606845789 : Int) ≠ 0 by omega)
  have nb := Int.emod_nonneg b (show (1152921504606845789 : Int) ≠ 0 by omega)
  have la := Int.emod_lt_of_pos a (show (0 : Int) < 1152921504606845789 by omega)
  have lb := Int.emod_lt_of_pos b (show (0 : Int) < 1152921504606845789 by omega)
  have hr : Grp.gAddQ a b = (a % 1152921504606845789 + b % 1152921504606845789) % 1152921504606845789 := by unfold Grp.gAddQ; rw [Qc, Int.add_emod]
  rw [hr]
  clear hr
  generalize a % 1152921504606845789 = x at *
  generalize b % 1152921504606845789 = y at *
  have CA := Lib.hid ca
  have CB := Lib.hid cb
  clear ca cb
  go_enter Try.func18, Try.ntmps18
  go_wp2_with fail
  refine CA.out.mono ?_
  rintro e w' ⟨rfl, rfl⟩
  go_wp2_with fail
  refine CB.out.mono ?_
  rintro e w' ⟨rfl, rfl⟩
  go_wp2_with fail
  refine (mod_any _ _ (by omega) (by omega) _).mono ?_
  rintro e w' ⟨rfl, rfl⟩
  go_wp2_with fail
  go_ret
  exact ⟨rfl, rfl⟩

theorem rsubQ_any (a b : Int) (w : World) :
    Calls Try.prog 20 #[.int .i64 a, .int .i64 b] w fun e w' => e = .returned (.int .i64 (Grp.gSubQ a b)) ∧ w = w' := by
  have ca := mod_any a 1152921504606845789 (by omega) (by omega) w
  have cb := mod_any b 1152921504606845789 (by omega) (by omega) w
  have na := Int.emod_nonneg a (show (1152921504606845789 : Int) ≠ 0 by omega)
  have nb := Int.emod_nonneg b (show (1152921504606845789 : Int) ≠ 0 by omega)
  have la := Int.emod_lt_of_pos a (show (0 : Int) < 1152921504606845789 by omega)
  have lb := Int.emod_lt_of_pos b (show (0 : Int) < 1152921504606845789 by omega)
  have hr : Grp.gSubQ a b = (a % 1152921504606845789 - b % 1152921504606845789) % 1152921504606845789 := by unfold Grp.gSubQ; rw [Qc, Int.sub_emod]
  rw [hr]
  clear hr
  generalize a % 1152921504606845789 = x at *
  generalize b % 1152921504606845789 = y at *
  have CA := Lib.hid ca
  have CB := Lib.hid cb
  clear ca cb
  go_enter Try.func20, Try.ntmps20
  go_wp2_with fail
  refine CA.out.mono ?_
  rintro e w' ⟨rfl, rfl⟩
  go_wp2_with fail
  refine CB.out.mono ?_
  rintro e w' ⟨rfl, rfl⟩
  go_wp2_with fail
  refine (mod_any _ _ (by omega) (by omega) _).mono ?_
  rintro e w' ⟨rfl, rfl⟩
  go_wp2_with fail
  go_ret
  exact ⟨rfl, rfl⟩

namespace Re
/-- x * b ^ e keeps its residue modulo P -/
def Inv (r x b e : Nat) : Prop := x * b ^ e % Grp.Pn = r
theorem odd {r x b e : Nat} (h : Inv r x b e) (he : e % 2 = 1) : Inv r (x * b % Grp.Pn) (b * b % Grp.Pn) (e / 2) := by
  unfold Inv at h ⊢
  rw [Nat.mod_mul_mod, Nat.mul_mod, ← Nat.pow_mod, ← Nat.mul_mod, ← h, ← Nat.pow_two, ← Nat.pow_mul, Nat.mul_assoc, Nat.mul_comm b, ← Nat.pow_succ, show (2 * (e / 2)).succ = e from by omega]
theorem even {r x b e : Nat} (h : Inv r x b e) (he : e % 2 = 0) : Inv r x (b * b % Grp.Pn) (e / 2) := by
  unfold Inv at h ⊢
  rw [Nat.mul_mod, ← Nat.pow_mod, ← Nat.mul_mod, ← h, ← Nat.pow_two, ← Nat.pow_mul, show 2 * (e / 2) = e from by omega]
end Re

set_option maxHeartbeats 1000000 in
theorem rexp_any (a e : Int) (he : e ≤ 9223372036854775807) (w : World) :
    Calls Try.prog 14 #[.int .i64 a, .int .i64 e] w fun e' w' => e' = .returned (.int .i64 (Grp.gExp a e)) ∧ w = w' := by
  obtain ⟨E, hE⟩ : ∃ E : Nat, Grp.ex e = E := ⟨_, rfl⟩
  have hx := Grp.ex_nonneg_cast e
  rw [hE, Qc] at hx
  have hE63 : E < 9223372036854775808 := by
    have := Int.emod_lt_of_pos e (show (0 : Int) < 1152921504606845789 by omega)
    split at hx <;> omega
  have hP : Grp.Pn = 2305843009213691579 := by decide +kernel
  have la := Grp.rs_lt a
  have cb := mod_any a 2305843009213691579 (by omega) (by omega) w
  rw [← Pc, ← Grp.rs_cast, Pc] at cb
  have hI : Re.Inv (Grp.rs a ^ E % Grp.Pn) 1 (Grp.rs a) E := by unfold Re.Inv; rw [Nat.one_mul]
  unfold Grp.gExp
  rw [hE]
  have hr := Nat.mod_lt (Grp.rs a ^ E) (show 0 < Grp.Pn by omega)
  generalize Grp.rs a ^ E % Grp.Pn = r at *
  generalize Grp.rs a = ra at *
  rw [hP] at la hr
  have HI := Lib.hid hI
  have HX := Lib.hid hx
  have CB := Lib.hid cb
  have HP := Lib.hid hP
  clear hx hE hI cb hP
  have hloop : ∀ (x b e : Nat), Re.Inv r x b e → e = 0 → x < 2305843009213691579 → x = r := by
    intro x b e h h0 hx
    unfold Re.Inv at h
    rw [h0, Nat.pow_zero, Nat.mul_one, Nat.mod_eq_of_lt (by rw [HP.out]; exact hx)] at h
    exact h
  have HL := Lib.hid hloop
  clear hloop
  by_cases hn : e < 0
  all_goals
    have hx := HX.out
  · rw [if_pos hn] at hx
    have c := mod_any e 1152921504606845789 (by omega) (by omega) w
    rw [← hx] at c
    have HC := Lib.hid c
    clear c hx HX
    go_enter Try.func14, Try.ntmps14
    go_wp2_with fail
    refine HC.out.mono ?_
    rintro e w' ⟨rfl, rfl⟩
    go_wp2_with fail
    refine CB.out.mono ?_
    rintro e w' ⟨rfl, rfl⟩
    go_wp2_with fail
    go_loopg [1, 5, 6] E (fun k s1 s5 s6 wr => ∃ e x b : Nat, s1 = .int .i64 (e : Int) ∧ s5 = .int .i64 (x : Int) ∧ s6 = .int .i64 (b : Int) ∧ e < 9223372036854775808 ∧ e ≤ k ∧ x < 2305843009213691579 ∧ b < 2305843009213691579 ∧ Hid (Re.Inv r x b e) ∧ w = wr)
    case atStart => exact ⟨E, 1, ra, rfl, rfl, rfl, hE63, by omega, by omega, la, HI, rfl⟩
    case round =>
      obtain ⟨e, x, b, rfl, rfl, rfl, he, hk, hx, hb, H, rfl⟩ := hrel
      by_cases h0 : 0 < e
      · have hbb := Nat.mod_lt (b * b) (show 0 < 2305843009213691579 by omega)
        have hxb := Nat.mod_lt (x * b) (show 0 < 2305843009213691579 by omega)
        have G1 := Lib.hid (fun h => Re.odd H.out h)
        have G0 := Lib.hid (fun h => Re.even H.out h)
        rw [HP.out] at G1 G0
        have CXB := Lib.hid (times_any x b 2305843009213691579 hx (by omega) (by omega) w)
        have CBB := Lib.hid (times_any b b 2305843009213691579 hb (by omega) (by omega) w)
        generalize b * b % 2305843009213691579 = bb at *
        generalize x * b % 2305843009213691579 = xb at *
        by_cases h1 : e % 2 = 1
        · have tb : ((e : Int) % 2 == 1) = true := beq_iff_eq.2 (by omega)
          have G := Lib.hid (G1.out h1)
          clear G0 G1 h1
          go_wp2_with fail
          refine CXB.out.mono ?_
          rintro e w' ⟨rfl, rfl⟩
          go_wp2_with fail
          refine CBB.out.mono ?_
          rintro e w' ⟨rfl, rfl⟩
          go_wp2_with fail
          go_roundg (e / 2)
          case measure => omega
          case rel => exact ⟨e / 2, xb, bb, by go_num, rfl, rfl, by omega, by omega, hxb, hbb, G, rfl⟩
        · have tb : ((e : Int) % 2 == 1) = false := beq_eq_false_iff_ne.2 (by omega)
          have G := Lib.hid (G0.out (by omega))
          clear G0 G1 h1
          go_wp2_with fail
          refine CBB.out.mono ?_
          rintro e w' ⟨rfl, rfl⟩
          go_wp2_with fail
          go_roundg (e / 2)
          case measure => omega
          case rel => exact ⟨e / 2, x, bb, by go_num, rfl, rfl, by omega, by omega, hx, hbb, G, rfl⟩
      · obtain rfl : e = 0 := by omega
        have HR := Lib.hid (HL.out x b 0 H.out rfl hx)
        go_wp2_with fail
        go_ret
        exact ⟨ret_int (by rw [← HR.out]), rfl⟩
  · rw [if_neg hn] at hx
    obtain rfl : (E : Int) = e := hx
    clear HX
    go_enter Try.func14, Try.ntmps14
    go_wp2_with fail
    refine CB.out.mono ?_
    rintro e w' ⟨rfl, rfl⟩
    go_wp2_with fail
    go_loopg [1, 5, 6] E (fun k s1 s5 s6 wr => ∃ e x b : Nat, s1 = .int .i64 (e : Int) ∧ s5 = .int .i64 (x : Int) ∧ s6 = .int .i64 (b : Int) ∧ e < 9223372036854775808 ∧ e ≤ k ∧ x < 2305843009213691579 ∧ b < 2305843009213691579 ∧ Hid (Re.Inv r x b e) ∧ w = wr)
    case atStart => exact ⟨E, 1, ra, rfl, rfl, rfl, hE63, by omega, by omega, la, HI, rfl⟩
    case round =>
      obtain ⟨e, x, b, rfl, rfl, rfl, he, hk, hx, hb, H, rfl⟩ := hrel
      by_cases h0 : 0 < e
      · have hbb := Nat.mod_lt (b * b) (show 0 < 2305843009213691579 by omega)
        have hxb := Nat.mod_lt (x * b) (show 0 < 2305843009213691579 by omega)
        have G1 := Lib.hid (fun h => Re.odd H.out h)
        have G0 := Lib.hid (fun h => Re.even H.out h)
        rw [HP.out] at G1 G0
        have CXB := Lib.hid (times_any x b 2305843009213691579 hx (by omega) (by omega) w)
        have CBB := Lib.hid (times_any b b 2305843009213691579 hb (by omega) (by omega) w)
        generalize b * b % 2305843009213691579 = bb at *
        generalize x * b % 2305843009213691579 = xb at *
        by_cases h1 : e % 2 = 1
        · have tb : ((e : Int) % 2 == 1) = true := beq_iff_eq.2 (by omega)
          have G := Lib.hid (G1.out h1)
          clear G0 G1 h1
          go_wp2_with fail
          refine CXB.out.mono ?_
          rintro e w' ⟨rfl, rfl⟩
          go_wp2_with fail
          refine CBB.out.mono ?_
          rintro e w' ⟨rfl, rfl⟩
          go_wp2_with fail
          go_roundg (e / 2)
          case measure => omega
          case rel => exact ⟨e / 2, xb, bb, by go_num, rfl, rfl, by omega, by omega, hxb, hbb, G, rfl⟩
        · have tb : ((e : Int) % 2 == 1) = false := beq_eq_false_iff_ne.2 (by omega)
          have G := Lib.hid (G0.out (by omega))
          clear G0 G1 h1
          go_wp2_with fail
          refine CBB.out.mono ?_
          rintro e w' ⟨rfl, rfl⟩
          go_wp2_with fail
          go_roundg (e / 2)
          case measure => omega
          case rel => exact ⟨e / 2, x, bb, by go_num, rfl, rfl, by omega, by omega, hx, hbb, G, rfl⟩
      · obtain rfl : e = 0 := by omega
        have HR := Lib.hid (HL.out x b 0 H.out rfl hx)
        go_wp2_with fail
        go_ret
        exact ⟨ret_int (by rw [← HR.out]), rfl⟩

theorem rin_any (y : Int) (w : World) :
    Calls Try.prog 16 #[.int .i64 y] w fun e w' => e = .returned (.bool (Grp.gIn y)) ∧ w = w' := by
  have hg : Grp.gIn y = (decide (1 ≤ y) && decide (y < 2305843009213691579) && Grp.gExp y 1152921504606845789 == 1) := by unfold Grp.gIn; rw [Pc, Qc]
  rw [hg]
  clear hg
  by_cases h1 : 1 ≤ y
  · by_cases h2 : y < 2305843009213691579
    · have t1 : decide (1 ≤ y) = true := decide_eq_true h1
      have t2 : decide (y < 2305843009213691579) = true := decide_eq_true h2
      go_enter Try.func16, Try.ntmps16
      go_wp2_with fail
      refine (rexp_any _ _ (by omega) _).mono ?_
      rintro e w' ⟨rfl, rfl⟩
      go_wp2_with fail
      go_ret
      exact ⟨ret_bool (by simp [h1, h2]), rfl⟩
    · have t1 : decide (1 ≤ y) = true := decide_eq_true h1
      have t2 : decide (y < 2305843009213691579) = false := decide_eq_false h2
      go_enter Try.func16, Try.ntmps16
      go_wp2_with fail
      go_ret
      exact ⟨ret_bool (by simp), rfl⟩
  · have t1 : decide (1 ≤ y) = false := decide_eq_false h1
    go_enter Try.func16, Try.ntmps16
    go_wp2_with fail
    go_ret
    exact ⟨ret_bool (by simp), rfl⟩

end Go.Proofs.Ytenbinclccnlgaa
