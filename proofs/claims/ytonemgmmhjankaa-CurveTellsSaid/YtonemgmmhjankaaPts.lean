/- Lists of points in memory. -/
import Derived.Test.YtonemgmmhjankaaWords
import Derived.Test.YtonemgmmhjankaaExact
namespace Go.Proofs.Ytonemgmmhjankaa
open Go.RowKit
set_option linter.unusedVariables false
set_option linter.unusedSimpArgs false

def ptCells (l : List (Int × Int)) : List Value := l.flatMap fun p => [Value.int .i64 p.1, Value.int .i64 p.2]
theorem ptCells_length (l : List (Int × Int)) : (ptCells l).length = 2 * l.length := by
  induction l with
  | nil => rfl
  | cons p l ih => simp only [ptCells, List.flatMap_cons, List.length_append, List.length_cons, List.length_nil] at *; omega
theorem ptCells_at : ∀ (l : List (Int × Int)) (k : Nat) (h : k < l.length), (ptCells l)[k * 2]? = some (.int .i64 (l[k]).1) ∧ (ptCells l)[k * 2 + 1]? = some (.int .i64 (l[k]).2)
  | p :: l, 0, _ => ⟨rfl, rfl⟩
  | p :: l, k + 1, h => by
    have := ptCells_at l k (by simpa using h)
    rw [show (k + 1) * 2 = k * 2 + 2 by omega]
    exact this
theorem Rd.point {A : Option Addr} {l : List (Int × Int)} {w : World} (h : Rd w A (ptCells l)) {k : Nat} (hk : k < l.length) :
    ∃ ad, A = some ad ∧ ad.block < w.heap.size ∧ w.cell? (ad.add (k * 2)) = some (.int .i64 (l[k]).1) ∧ w.cell? ⟨(ad.add (k * 2)).block, (ad.add (k * 2)).off + 1, none⟩ = some (.int .i64 (l[k]).2) := by
  obtain ⟨ad, e, hb, hc⟩ := h (by rw [ptCells_length]; omega)
  obtain ⟨h1, h2⟩ := ptCells_at l k hk
  refine ⟨ad, e, hb, hc _ _ h1, ?_⟩
  have := hc _ _ h2
  have e2 : (⟨(ad.add (k * 2)).block, (ad.add (k * 2)).off + 1, none⟩ : Addr) = ad.add (k * 2 + 1) := by
    unfold Addr.add
    by_cases hz : k * 2 = 0
    · simp [hz]
    · simp [hz, Nat.add_assoc]
  rw [e2]
  exact this

theorem vcl_any (A : Option Addr) (c : Nat) (l : List (Int × Int)) (x : Int) (Bc Bx k : Nat) (w : World) (hc : w.cell? ⟨Bc, 0, none⟩ = some (.slice A l.length c)) (hx : w.cell? ⟨Bx, 0, none⟩ = some (.int .i64 x)) (hr : Rd w A (ptCells l)) (hk : k < l.length) :
    Calls Try.prog 30 #[.int .i64 (k : Int), .pointer (some ⟨Bc, 0, none⟩), .pointer (some ⟨Bx, 0, none⟩)] w fun e w' => e = .returned (.bool (decide (x < (l[k]).1))) ∧ ∃ n, w' = w.drewN n := by
  obtain ⟨ad, rfl, hb, h1, h2⟩ := hr.point hk
  have i1 : (0 : Int) ≤ (k : Int) := by omega
  have i2 : (k : Int) < (l.length : Int) := by omega
  generalize (l[k]).1 = u at *
  generalize (l[k]).2 = v at *
  clear hr
  go_enter Try.func30, Try.ntmps30
  go_wp2_with fail
  go_quiet (fail)
  go_wp2_with fail
  go_ret
  exact ⟨rfl, _, rfl⟩

end Go.Proofs.Ytonemgmmhjankaa
