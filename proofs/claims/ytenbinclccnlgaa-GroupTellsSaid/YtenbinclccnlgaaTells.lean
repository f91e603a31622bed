/- GroupTells: for all ints a and b every function of package group returns what the reference returns. -/
import Derived.Test.YtenbinclccnlgaaRef
namespace Go.Proofs.Ytenbinclccnlgaa
open Go.RowKit
open FieldLaw

namespace Eu
/-- what holds at the head of Euclid's loop -/
def St (s0 r s : Nat) (x y : Int) : Prop :=
  x * (s0 : Int) % (Grp.Pn : Int) = (r : Int) % (Grp.Pn : Int) ∧ y * (s0 : Int) % (Grp.Pn : Int) = (s : Int) % (Grp.Pn : Int) ∧ Nat.gcd r s = 1 ∧
    ∃ X Y : Nat, ((x = -(X : Int) ∧ y = (Y : Int)) ∨ (x = (X : Int) ∧ y = -(Y : Int))) ∧ Y * r + X * s = Grp.Pn

theorem init {s0 : Nat} (h0 : s0 ≠ 0) (h : s0 < Grp.Pn) : St s0 Grp.Pn s0 0 1 :=
  ⟨by rw [Int.zero_mul, Int.emod_self]; decide +kernel, by rw [Int.one_mul], Grp.prP.cop (Grp.not_dvd h0 h), 0, 1, .inl ⟨rfl, rfl⟩, by omega⟩

theorem step {s0 r s : Nat} {x y : Int} (h : St s0 r s x y) (hs : 0 < s) :
    St s0 s (r % s) y (x - ((r / s : Nat) : Int) * y) ∧ -(Grp.Pn : Int) ≤ ((r / s : Nat) : Int) * y ∧ ((r / s : Nat) : Int) * y ≤ (Grp.Pn : Int) ∧ -(Grp.Pn : Int) ≤ x - ((r / s : Nat) : Int) * y ∧ x - ((r / s : Nat) : Int) * y ≤ (Grp.Pn : Int) := by
  obtain ⟨h1, h2, h3, X, Y, hxy, hP⟩ := h
  have hdm := Nat.div_add_mod r s
  have hP' : (X + r / s * Y) * s + Y * (r % s) = Grp.Pn := by
    rw [← hP]
    have e : Y * r = Y * (s * (r / s)) + Y * (r % s) := by rw [← Nat.mul_add, hdm]
    rw [e, Nat.add_mul, Nat.mul_right_comm, Nat.mul_comm (r / s * s), Nat.mul_comm (r / s)]
    omega
  have hle : X + r / s * Y ≤ Grp.Pn := by
    have := Nat.le_mul_of_pos_right (X + r / s * Y) hs
    omega
  have hcast : ((r / s : Nat) : Int) * (Y : Int) = ((r / s * Y : Nat) : Int) := (Int.natCast_mul _ _).symm
  refine ⟨⟨h2, ?_, ?_, Y, X + r / s * Y, ?_, hP'⟩, ?_⟩
  · rw [Int.sub_mul, Int.mul_assoc, Int.sub_emod, Int.mul_emod ((r / s : Nat) : Int), h2, h1, ← Int.mul_emod, ← Int.sub_emod]
    congr 1
    rw [← Int.natCast_mul, Nat.mul_comm]
    omega
  · rw [Nat.gcd_comm, ← Nat.gcd_rec, Nat.gcd_comm]
    exact h3
  · rcases hxy with ⟨rfl, rfl⟩ | ⟨rfl, rfl⟩
    · right
      refine ⟨rfl, ?_⟩
      rw [hcast]
      omega
    · left
      refine ⟨rfl, ?_⟩
      rw [Int.mul_neg, hcast]
      omega
  · rcases hxy with ⟨rfl, rfl⟩ | ⟨rfl, rfl⟩
    · rw [hcast]
      omega
    · rw [Int.mul_neg, hcast]
      omega

theorem last {a : Int} {r : Nat} {x y : Int} (ha : Grp.rs a ≠ 0) (h : St (Grp.rs a) r 0 x y) : x % (Grp.Pn : Int) = Grp.gExp a ((Grp.Pn : Int) - 2) := by
  obtain ⟨h1, _, h3, _⟩ := h
  rw [Nat.gcd_zero_right] at h3
  rw [h3] at h1
  have e1 := Grp.inv_mul' ha
  rw [Grp.gMul_comm, Grp.gMul_nat] at e1
  have e2 : Grp.rs a * Grp.rs x % Grp.Pn = 1 := by
    have h4 : ((Grp.rs a * Grp.rs x % Grp.Pn : Nat) : Int) = ((1 : Nat) : Int) % (Grp.Pn : Int) := by
      rw [Int.natCast_emod, Int.natCast_mul, Int.mul_comm, Grp.rs_cast x, Int.mul_emod, Int.emod_emod, ← Int.mul_emod]
      exact h1
    have h5 : ((1 : Nat) : Int) % (Grp.Pn : Int) = 1 := by decide +kernel
    omega
  have e3 := Grp.cancel ha (Grp.rs_lt a) (a := Grp.rs x) (b := Grp.rs (Grp.gExp a ((Grp.Pn : Int) - 2))) (by omega) (Grp.rs_lt _) (Grp.rs_lt _)
  rw [← Grp.rs_cast, e3, Grp.rs_gExp]
  rfl
end Eu

set_option maxHeartbeats 1000000 in
theorem rinv_any (a : Int) (w : World) :
    Calls Try.prog 10 #[.int .i64 a] w fun e w' => e = .returned (.tuple #[.int .i64 (Grp.gInv a).1, .bool (Grp.gInv a).2]) ∧ w = w' := by
  have c := mod_any a 2305843009213691579 (by omega) (by omega) w
  rw [← Pc, ← Grp.rs_cast, Pc] at c
  have hP : Grp.Pn = 2305843009213691579 := by decide +kernel
  have la := Grp.rs_lt a
  by_cases h : Grp.rs a = 0
  · have hg := Grp.gInv_none h
    rw [hg]
    rw [h] at c
    have HC := Lib.hid c
    clear c h hg hP la
    go_enter Try.func10, Try.ntmps10
    go_wp2_with fail
    refine HC.out.mono ?_
    rintro e w' ⟨rfl, rfl⟩
    go_wp2_with fail
    go_ret2
    exact ⟨rfl, rfl⟩
  · have hg := Grp.gInv_some h
    rw [hg]
    have hi := Eu.init h la
    have HLast := Lib.hid (fun (r : Nat) (x y : Int) => Eu.last (a := a) (r := r) (x := x) (y := y) h)
    rw [hP] at hi la
    have t1 : ((Grp.rs a : Int) == 0) = false := beq_eq_false_iff_ne.2 (by omega)
    generalize Grp.gExp a ((Grp.Pn : Int) - 2) = v at *
    generalize Grp.rs a = s0 at *
    have HI := Lib.hid hi
    have HC := Lib.hid c
    have HP := Lib.hid hP
    clear c hi hg h hP
    go_enter Try.func10, Try.ntmps10
    go_wp2_with fail
    refine HC.out.mono ?_
    rintro e w' ⟨rfl, rfl⟩
    go_wp2_with fail
    go_loopg [4, 5, 6, 7, 8] s0 (fun k s4 s5 s6 s7 _ wr => ∃ (r s : Nat) (x y : Int), s4 = .int .i64 (r : Int) ∧ s5 = .int .i64 (s : Int) ∧ s6 = .int .i64 x ∧ s7 = .int .i64 y ∧ s ≤ k ∧ r ≤ 2305843009213691579 ∧ s ≤ 2305843009213691579 ∧ Hid (Eu.St s0 r s x y) ∧ w = wr)
    case atStart => exact ⟨2305843009213691579, s0, 0, 1, rfl, rfl, rfl, rfl, by omega, by omega, by omega, HI, rfl⟩
    case round =>
      obtain ⟨r, s, x, y, rfl, rfl, rfl, rfl, hk, hr, hs, H, rfl⟩ := hrel
      by_cases h0 : 0 < s
      · obtain ⟨g1, g2, g3, g4, g5⟩ := Eu.step H.out h0
        rw [HP.out] at g2 g3 g4 g5
        have k1 : (r : Int) / (s : Int) = ((r / s : Nat) : Int) := (Int.natCast_ediv _ _).symm
        have k2 : IntKind.i64.wrap (((r / s : Nat) : Int) * (s : Int)) = ((r / s * s : Nat) : Int) := by
          have := Nat.div_mul_le_self r s
          rw [← Int.natCast_mul, IntKind.wrap_i64]
          omega
        have k3 : (r : Int) - ((r / s * s : Nat) : Int) = ((r % s : Nat) : Int) := by
          have := Nat.div_add_mod' r s
          omega
        have k5 : r / s ≤ 2305843009213691579 := Nat.le_trans (Nat.div_le_self r s) hr
        have k6 := Nat.div_mul_le_self r s
        have k7 := Nat.mod_lt r h0
        have k4 : IntKind.i64.wrap (((r / s : Nat) : Int) * y) = ((r / s : Nat) : Int) * y := by
          rw [IntKind.wrap_i64]
          omega
        obtain ⟨t, ht⟩ : ∃ t, ((r / s : Nat) : Int) * y = t := ⟨_, rfl⟩
        have k4' := k4.trans ht
        rw [ht] at g1 g2 g3 g4 g5
        clear k4 ht
        generalize r / s * s = p at *
        generalize r / s = q at *
        generalize r % s = m at *
        have G := Lib.hid g1
        clear g1
        go_wp2_with fail
        go_roundg m
        case measure => omega
        case rel => exact ⟨s, m, y, x - t, rfl, rfl, rfl, rfl, by omega, by omega, by omega, G, rfl⟩
      · obtain rfl : s = 0 := by omega
        have hl := HLast.out r x y H.out
        have cm := mod_any x 2305843009213691579 (by omega) (by omega) w
        rw [← Pc, hl, Pc] at cm
        have HM := Lib.hid cm
        clear cm hl
        go_wp2_with fail
        refine HM.out.mono ?_
        rintro e w' ⟨rfl, rfl⟩
        go_wp2_with fail
        go_ret2
        exact ⟨rfl, rfl⟩

set_option maxHeartbeats 2000000 in
set_option maxRecDepth 100000 in
theorem tells_walk (a b : Int) (hb : b ≤ 9223372036854775807) (w : World) : Calls Try.prog 3 #[.int .i64 a, .int .i64 b] w fun e w' => e = .returned (.bool true) ∧ ∃ n, w' = w.drewN n := by
  go_enter Try.func3, Try.ntmps3
  go_wp2_with (first | (go_at_call 8; refine (small_any _).mono ?_; rintro e w' ⟨rfl, n, rfl⟩) | (go_at_call 9; refine (inv_any _ _).mono ?_; rintro e w' ⟨rfl, n, rfl⟩) | (go_at_call 13; refine (exp_any _ _ (by first | omega | assumption) _).mono ?_; rintro e w' ⟨rfl, n, rfl⟩) | (go_at_call 15; refine (in_any _ _).mono ?_; rintro e w' ⟨rfl, n, rfl⟩) | (go_at_call 11; refine (mul_any _ _ _).mono ?_; rintro e w' ⟨rfl, n, rfl⟩) | (go_at_call 17; refine (addQ_any _ _ _).mono ?_; rintro e w' ⟨rfl, rfl⟩) | (go_at_call 19; refine (subQ_any _ _ _).mono ?_; rintro e w' ⟨rfl, rfl⟩) | (go_at_call 21; refine (mulQ_any _ _ _).mono ?_; rintro e w' ⟨rfl, n, rfl⟩) | (go_at_call 12; refine (rmul_any _ _ _).mono ?_; rintro e w' ⟨rfl, rfl⟩) | (go_at_call 10; refine (rinv_any _ _).mono ?_; rintro e w' ⟨rfl, rfl⟩) | (go_at_call 14; refine (rexp_any _ _ (by first | omega | assumption) _).mono ?_; rintro e w' ⟨rfl, rfl⟩) | (go_at_call 16; refine (rin_any _ _).mono ?_; rintro e w' ⟨rfl, rfl⟩) | (go_at_call 18; refine (raddQ_any _ _ _).mono ?_; rintro e w' ⟨rfl, rfl⟩) | (go_at_call 20; refine (rsubQ_any _ _ _).mono ?_; rintro e w' ⟨rfl, rfl⟩) | (go_at_call 22; refine (rmulQ_any _ _ _).mono ?_; rintro e w' ⟨rfl, rfl⟩))
  go_ret
  exact ⟨rfl, _, rfl⟩

end Go.Proofs.Ytenbinclccnlgaa
