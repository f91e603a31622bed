/- sort.Search over a closure that reads. -/
import Derived.Test.YtonemgmmhjankaaPts
import Derived.Deep.LoopGhost
namespace Go.Proofs.Ytonemgmmhjankaa
open Go.RowKit
set_option linter.unusedVariables false
set_option linter.unusedSimpArgs false

def SearchPost (n : Nat) (p : Nat → Bool) (w : World) (e : Ending) (w' : World) : Prop :=
  ∃ r : Nat, r ≤ n ∧ e = .returned (.int .i64 (r : Int)) ∧ (∀ t, t < r → p t = false) ∧ (∀ t, r ≤ t → t < n → p t = true) ∧ Below w.heap.size w w'
def SearchI (n : Nat) (p : Nat → Bool) (lo hi : Nat) : Prop := (∀ t, t < lo → p t = false) ∧ (∀ t, hi ≤ t → t < n → p t = true)

set_option maxHeartbeats 2000000 in
theorem search_any (g : Nat) (eg : ∀ args w, (callFunc g args).run Try.prog w = .ok (.enter g args) w) (cb : Array Value) (n : Nat) (hn : n ≤ 4611686018427387903) (p : Nat → Bool) (w : World)
    (hf : ∀ (k : Nat), k < n → ∀ y : BelW w, Calls Try.prog g (#[.int .i64 (k : Int)] ++ cb) y.w fun e w' => e = .returned (.bool (p k)) ∧ ∃ m, w' = y.w.drewN m)
    (hm : ∀ a b, a ≤ b → b < n → p a = true → p b = true) :
    Calls Try.prog 22 #[.int .i64 (n : Int), .func (.func g) #[] cb] w (SearchPost n p w) := by
  have HF := Lib.hid hf
  have M := Lib.hid hm
  clear hf hm
  go_enter Try.func22, Try.ntmps22
  go_wp2_with fail
  go_loopg [5, 6] n (fun kx s5 s6 wr => ∃ (lo hi : Nat) (y : BelW w), s5 = .int .i64 (lo : Int) ∧ s6 = .int .i64 (hi : Int) ∧ lo ≤ hi ∧ hi ≤ n ∧ hi - lo ≤ kx ∧ wr = y.w ∧ Hid (SearchI n p lo hi))
  case atStart => exact ⟨0, n, ⟨w, Below.refl _ _⟩, rfl, rfl, Nat.zero_le _, Nat.le_refl _, by omega, rfl, Lib.hid ⟨fun t ht => absurd ht (Nat.not_lt_zero _), fun t h1 h2 => by omega⟩⟩
  case round =>
    obtain ⟨lo, hi, y, rfl, rfl, hlh, hin, hg, rfl, I⟩ := hrel
    by_cases hlt : lo < hi
    · have hc := HF.out ((lo + hi) / 2) (by omega) y
      have em : (((lo + hi) / 2 : Nat) : Int) = ((lo : Int) + (hi : Int)) / 2 := by omega
      cases hp : p ((lo + hi) / 2) <;> rw [hp, em] at hc
      · have HP := Lib.hid hp
        have HC := Lib.hid hc
        clear hp hc em
        go_wp2_with fail
        refine HC.out.mono ?_
        rintro e w' ⟨rfl, nq, rfl⟩
        go_wp2_with fail
        go_roundg (hi - ((lo + hi) / 2 + 1))
        case measure => omega
        case rel =>
          refine ⟨(lo + hi) / 2 + 1, hi, ⟨y.w.drewN nq, below_drewN y.2 nq⟩, by rw [Int.natCast_add, Int.natCast_ediv, Int.natCast_add]; rfl, rfl, by omega, hin, by omega, rfl, Lib.hid ⟨fun t ht => ?_, I.out.2⟩⟩
          cases ht' : p t with
          | false => rfl
          | true =>
            have := M.out t ((lo + hi) / 2) (by omega) (by omega) ht'
            rw [HP.out] at this
            cases this
      · have HP := Lib.hid hp
        have HC := Lib.hid hc
        clear hp hc em
        go_wp2_with fail
        refine HC.out.mono ?_
        rintro e w' ⟨rfl, nq, rfl⟩
        go_wp2_with fail
        go_roundg ((lo + hi) / 2 - lo)
        case measure => omega
        case rel =>
          exact ⟨lo, (lo + hi) / 2, ⟨y.w.drewN nq, below_drewN y.2 nq⟩, rfl, by rw [Int.natCast_ediv, Int.natCast_add]; rfl, by omega, by omega, by omega, rfl, Lib.hid ⟨I.out.1, fun t h1 h2 => M.out _ t h1 h2 HP.out⟩⟩
    · obtain rfl : lo = hi := by omega
      have hB : Below w.heap.size w y.w := y.2
      go_wp2_with fail
      go_ret
      exact ⟨lo, hin, rfl, I.out.1, I.out.2, hB⟩

end Go.Proofs.Ytonemgmmhjankaa
