/- Part 4 of the proof of TopRights: Slices that came in, as lists of cells. -/
import Derived.Test.YtngjakahanmepaaGreatDoorM03
import Derived.ChangeSlices
import Derived.WideShapes
import Derived.ChangeAt
import Derived.ProofKit
import Derived.Lib.SmallJoins
namespace Go.Proofs.YtngjakahanmepaaGreatDoor
open Go.RowKit Go.ChangeShapes Go.WideShapes Go.Joins
set_option linter.unusedVariables false
set_option linter.unusedSimpArgs false
theorem add_block (a : Addr) (n : Nat) : (a.add n).block = a.block := by unfold Addr.add; split <;> rfl
/-- the slice value '.slice A n _' has m cells, and these are vs (m: n times the cells of an element) -/
def Rd (w : World) (A : Option Addr) (vs : List Value) : Prop := 0 < vs.length → ∃ ad, A = some ad ∧ ad.block < w.heap.size ∧ ∀ j u, vs[j]? = some u → w.cell? (ad.add j) = some u
theorem Rd.nil (w : World) (A : Option Addr) : Rd w A [] := fun h => absurd h (by simp)
theorem Rd.below {B : Nat} {A : Option Addr} {vs : List Value} {w w' : World} (h : Rd w A vs) (hB : w.heap.size ≤ B) (hb : Below B w w') : Rd w' A vs := fun hn => by
  obtain ⟨ad, e, hlt, hc⟩ := h hn
  have := hb.size
  exact ⟨ad, e, by omega, fun j u hu => (hb.cell (p := ad.add j) (by rw [add_block]; omega)).trans (hc j u hu)⟩
theorem Rd.bel {A : Option Addr} {vs : List Value} {V : World} (h : Rd V A vs) (y : BelW V) : Rd y.w A vs := h.below (Nat.le_refl _) y.2
theorem Rd.alloc {A : Option Addr} {vs : List Value} {w : World} (h : Rd w A vs) (o : Obj) : Rd (w.alloc o) A vs := h.below (Nat.le_refl _) ((Below.refl _ _).alloc (Nat.le_refl _) o)
theorem Rd.drew {A : Option Addr} {vs : List Value} {w : World} (h : Rd w A vs) : Rd w.drew A vs := h
theorem Rd.at {A : Option Addr} {vs : List Value} {w : World} (h : Rd w A vs) {k : Nat} (hk : k < vs.length) : ∃ ad u, A = some ad ∧ ad.block < w.heap.size ∧ vs[k]? = some u ∧ w.cell? (ad.add k) = some u := by
  obtain ⟨ad, e, hb, hc⟩ := h (by omega)
  exact ⟨ad, vs[k], e, hb, List.getElem?_eq_getElem hk, hc k _ (List.getElem?_eq_getElem hk)⟩
/-- an int's bounds -/
def Fit (x : Int) : Prop := -9223372036854775808 ≤ x ∧ x ≤ 9223372036854775807
end Go.Proofs.YtngjakahanmepaaGreatDoor
