/- Slices that came in, as lists of cells. -/
import Derived.Test.YtafnmaojpheppaaLoad
import Derived.ChangeSlices
import Derived.WideShapes
import Derived.ChangeAt
import Derived.ProofKit
import Derived.Lib.SmallJoins
namespace Go.Proofs.Ytafnmaojpheppaa
open Go.RowKit Go.ChangeShapes Go.WideShapes Go.Joins
set_option linter.unusedVariables false
set_option linter.unusedSimpArgs false

theorem add_block (a : Addr) (n : Nat) : (a.add n).block = a.block := by unfold Addr.add; split <;> rfl
/-- the slice value '.slice A n _' has m cells, and these are vs (m: n times the cells of an element) -/
def Rd (w : World) (A : Option Addr) (vs : List Value) : Prop := 0 < vs.length → ∃ ad, A = some ad ∧ ad.block < w.heap.size ∧ ∀ j u, vs[j]? = some u → w.cell? (ad.add j) = some u
theorem Rd.nil (w : World) (A : Option Addr) : Rd w A [] := fun h => absurd h (by simp)
theorem Rd.below {B : Nat} {A : Option Addr} {vs : List Value} {w w' : World} (h : Rd w A vs) (hB : w.heap.size ≤ B) (hb : Below B w w') : Rd w' A vs := fun hn => by
  obtain ⟨ad, e, hlt, hc⟩ := h hn
  have := hb.size
  exact ⟨ad, e, by omega, fun j u hu => (hb.cell (p := ad.add j) (by rw [add_block]; omega)).trans (hc j u hu)⟩
theorem Rd.bel {A : Option Addr} {vs : List Value} {V : World} (h : Rd V A vs) (y : BelW V) : Rd y.w A vs := h.below (Nat.le_refl _) y.2
theorem Rd.alloc {A : Option Addr} {vs : List Value} {w : World} (h : Rd w A vs) (o : Obj) : Rd (w.alloc o) A vs := h.below (Nat.le_refl _) ((Below.refl _ _).alloc (Nat.le_refl _) o)
theorem Rd.drew {A : Option Addr} {vs : List Value} {w : World} (h : Rd w A vs) : Rd w.drew A vs := h
theorem Rd.at {A : Option Addr} {vs : List Value} {w : World} (h : Rd w A vs) {k : Nat} (hk : k < vs.length) : ∃ ad u, A = some ad ∧ ad.block < w.heap.size ∧ vs[k]? = some u ∧ w.cell? (ad.add k) = some u := by
  obtain ⟨ad, e, hb, hc⟩ := h (by omega)
  exact ⟨ad, vs[k], e, hb, List.getElem?_eq_getElem hk, hc k _ (List.getElem?_eq_getElem hk)⟩

/-- an int's bounds -/
def Fit (x : Int) : Prop := -9223372036854775808 ≤ x ∧ x ≤ 9223372036854775807
theorem open_row_ints {H : Type} {enc : TypeId × Value → H} {P : Program} {w : World} {base : Nat} {spare : Nat → Bool} {held : Bool} {r : Reach} {b0 : Nat} {t e : TypeId} {v : Value} {d : DataW H} {p : List MemPlace} (ht : P.underlying t = some (.slice e)) (he : P.underlying e = some (.int .i64)) (hc : P.cellsOf e = 1)
    (hv : Value.okWide P w r b0 t v) (h : DataW.Trod enc P w base spare held t v d p) : ∃ (A : Option Addr) (c : Nat) (xs : List Int), v = .slice A xs.length c ∧ Rd w A (xs.map (Value.int .i64)) ∧ xs.length ≤ maxLen ∧ xs.length ≤ c ∧ ∀ x ∈ xs, Fit x := by
  obtain ⟨a, len, cap, rfl⟩ := okWide_slice ht hv
  obtain ⟨fuel, hf⟩ := h
  rcases open_ints ht he hc hf with ⟨h1, _⟩ | ⟨ad, n, c, zs, h1, _, hn, hm, hz, _, hcell, hwf⟩
  · simp [Value.cells] at h1
    obtain ⟨rfl, rfl, rfl⟩ := h1
    exact ⟨none, 0, [], rfl, Rd.nil _ _, by simp, by simp, by simp⟩
  · simp [Value.cells] at h1
    obtain ⟨rfl, rfl, rfl⟩ := h1
    have hl : len ≤ zs.length := by split at hz <;> omega
    have hlen : (zs.take len).length = len := by simp; omega
    refine ⟨some ad, cap, zs.take len, by rw [hlen], ?_, by omega, by omega, fun x hx => ?_⟩
    · intro hn0
      rw [List.length_map, hlen] at hn0
      have h0 := hcell 0 (by omega)
      refine ⟨ad, rfl, by have := World.block_lt_of_cell? w _ h0; rwa [add_block] at this, fun j u hu => ?_⟩
      rw [List.getElem?_map] at hu
      obtain ⟨x, hx, rfl⟩ := Option.map_eq_some_iff.1 hu
      have hj : j < len := by have := (List.getElem?_eq_some_iff.1 hx).1; omega
      rw [hcell j (by omega)]
      rw [List.getElem?_take_of_lt hj] at hx
      simp [List.getD, hx]
    · have := hwf x (List.mem_of_mem_take hx)
      exact bounds_i64 this

end Go.Proofs.Ytafnmaojpheppaa
