/- Contracts: math/bits.Rem64; group.product: the residue of the exact product. -/
import Derived.Test.YtenbinclccnlgaaDivW
import Derived.Test.YtenbinclccnlgaaWalkA
namespace Go.Proofs.Ytenbinclccnlgaa
open Go.RowKit

theorem rem_fold (hi lo y : Nat) : (hi % y * 18446744073709551616 + lo) % y = (hi * 18446744073709551616 + lo) % y := by
  rw [Nat.add_mod, Nat.mod_mul_mod, ← Nat.add_mod]

set_option maxHeartbeats 1000000 in
theorem rem64_any (hi lo y : Nat) (h0 : hi < 18446744073709551616) (h1 : lo < 18446744073709551616) (h2 : y < 18446744073709551616) (h3 : 0 < y) (w : World) :
    Calls Try.prog 28 #[.int .u64 hi, .int .u64 lo, .int .u64 y] w fun e w' => e = .returned (.int .u64 (((hi * 18446744073709551616 + lo) % y : Nat) : Int)) ∧ ∃ n, w' = w.drewN n := by
  have hy : (1 : Int) ≤ (y : Int) := by omega
  have c := div64_any (hi % y) lo y h1 h2 (Nat.mod_lt _ h3) w
  rw [rem_fold] at c
  have em : (hi : Int) % (y : Int) = ((hi % y : Nat) : Int) := (Int.natCast_emod _ _).symm
  generalize (hi * 18446744073709551616 + lo) % y = r at c
  generalize (hi % y * 18446744073709551616 + lo) / y = qq at c
  generalize hi % y = h' at c em
  have HC := Lib.hid c
  clear c
  go_enter Try.func28, Try.ntmps28
  go_wp2_with (go_at_call 29; refine HC.out.mono ?_; rintro e w' ⟨rfl, n, rfl⟩)
  go_ret
  exact ⟨rfl, _, rfl⟩

set_option maxHeartbeats 1000000 in
theorem product_any (a b m : Int) (h0 : 0 < m) (h1 : m ≤ 4611686018427387904) (w : World) :
    Calls Try.prog 25 #[.int .i64 a, .int .i64 b, .int .i64 m] w fun e w' => e = .returned (.int .i64 (a * b % m)) ∧ ∃ n, w' = w.drewN n := by
  obtain ⟨M, rfl⟩ := Int.eq_ofNat_of_zero_le (Int.le_of_lt h0)
  have ca := residue_any a M h0 h1 w
  have cb := residue_any b M h0 h1 w
  have na := Int.emod_nonneg a (show (M : Int) ≠ 0 from by omega)
  have nb := Int.emod_nonneg b (show (M : Int) ≠ 0 from by omega)
  have la := Int.emod_lt_of_pos a h0
  have lb := Int.emod_lt_of_pos b h0
  have hres : a * b % (M : Int) = (a % (M : Int)) * (b % (M : Int)) % (M : Int) := Int.mul_emod a b M
  rw [hres]
  clear hres
  generalize a % (M : Int) = x at *
  generalize b % (M : Int) = y at *
  obtain ⟨X, rfl⟩ := Int.eq_ofNat_of_zero_le na
  obtain ⟨Y, rfl⟩ := Int.eq_ofNat_of_zero_le nb
  have cm := mul64_any X Y (by omega) (by omega) w
  have hXY : X * Y < 18446744073709551616 * 18446744073709551616 := Nat.mul_lt_mul_of_lt_of_le (by omega) (by omega) (by omega)
  have cr := rem64_any (X * Y / 18446744073709551616) (X * Y % 18446744073709551616) M (by rw [Nat.div_lt_iff_lt_mul (by omega)]; exact hXY) (Nat.mod_lt _ (by omega)) (by omega) (by omega) w
  rw [Nat.div_add_mod'] at cr
  have hrl : X * Y % M < M := Nat.mod_lt _ (by omega)
  rw [← Int.natCast_mul, ← Int.natCast_emod]
  generalize X * Y % M = R at *
  generalize X * Y / 18446744073709551616 = HI at *
  generalize X * Y % 18446744073709551616 = LO at *
  have CA := Lib.hid ca
  have CB := Lib.hid cb
  have CM := Lib.hid cm
  have CR := Lib.hid cr
  clear ca cb cm cr hXY
  go_enter Try.func25, Try.ntmps25
  go_wp2_with fail
  refine CA.out.mono ?_
  rintro e w' ⟨rfl, rfl⟩
  go_wp2_with fail
  refine CB.out.mono ?_
  rintro e w' ⟨rfl, rfl⟩
  go_wp2_with fail
  refine CM.out.mono ?_
  rintro e w' ⟨rfl, rfl⟩
  go_wp2_with fail
  refine CR.out.mono ?_
  rintro e w' ⟨rfl, n, rfl⟩
  go_wp2_with fail
  go_ret
  exact ⟨rfl, _, rfl⟩

end Go.Proofs.Ytenbinclccnlgaa
