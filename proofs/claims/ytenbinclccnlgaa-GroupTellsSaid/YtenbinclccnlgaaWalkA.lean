/- Contracts of the small functions of package group and of its reference: residues. -/
import Derived.Test.YtenbinclccnlgaaProg
import Derived.WalkKit
import Derived.WalkLawsBesides
import Derived.WalkSpells
import Derived.Lib.Hide
namespace Go.Proofs.Ytenbinclccnlgaa
open Go.RowKit

theorem ret_int {k : IntKind} {a b : Int} (h : a = b) : Ending.returned (.int k a) = .returned (.int k b) := by rw [h]

theorem tmod_neg {n m : Int} (hn : n < 0) (hm : 0 < m) : (n % m = 0 ∧ n.tmod m = 0) ∨ (0 < n % m ∧ n % m < m ∧ n.tmod m = n % m - m) := by
  have h1 := Int.emod_nonneg n (show m ≠ 0 from by omega)
  have h2 := Int.emod_lt_of_pos n hm
  have h3 := Int.tmod_eq_emod (a := n) (b := m)
  by_cases h : n % m = 0
  · left
    rw [if_pos (.inr (Int.dvd_of_emod_eq_zero h))] at h3
    omega
  · right
    rw [if_neg (by
      rintro (x | x)
      · omega
      · exact h (Int.emod_eq_zero_of_dvd x))] at h3
    omega

set_option maxHeartbeats 400000 in
theorem residue_any (n m : Int) (h0 : 0 < m) (h1 : m ≤ 4611686018427387904) (w : World) :
    Calls Try.prog 23 #[.int .i64 n, .int .i64 m] w fun e w' => e = .returned (.int .i64 (n % m)) ∧ w = w' := by
  by_cases hn : 0 ≤ n
  · have hr : ¬ n % m < 0 := by have := Int.emod_nonneg n (show m ≠ 0 from by omega); omega
    go_enter Try.func23, Try.ntmps23
    go_wp2
    go_ret
    exact ⟨rfl, rfl⟩
  · rcases tmod_neg (show n < 0 by omega) h0 with ⟨he, ht⟩ | ⟨h2, h3, ht⟩
    · go_enter Try.func23, Try.ntmps23
      go_wp2
      go_ret
      exact ⟨ret_int (by simp), rfl⟩
    · go_enter Try.func23, Try.ntmps23
      go_wp2
      go_ret
      exact ⟨ret_int (by simp), rfl⟩

end Go.Proofs.Ytenbinclccnlgaa
