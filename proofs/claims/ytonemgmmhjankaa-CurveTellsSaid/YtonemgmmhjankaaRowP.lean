/- Slices of points that came in. -/
import Derived.Test.YtonemgmmhjankaaPts
import Derived.Deep.SlicePairs
namespace Go.Proofs.Ytonemgmmhjankaa
open Go.RowKit Go.ChangeShapes Go.WideShapes Go.Joins Go.Deep
set_option linter.unusedVariables false
set_option linter.unusedSimpArgs false

def numOfV (v : Value) : Int := match v with | .int _ n => n | _ => 0
theorem open_row_pts {H : Type} {enc : TypeId × Value → H} {P : Program} {w : World} {base : Nat} {spare : Nat → Bool} {held : Bool} {r : Reach} {b0 : Nat} {t e : TypeId} {f0 f1 : Field} {v : Value} {d : DataW H} {p : List MemPlace} (ht : P.underlying t = some (.slice e)) (he : P.underlying e = some (.struct #[f0, f1]))
    (ce : P.cellsOf e = 2) (o0 : f0.offset = 0) (o1 : f1.offset = 1) (c0 : P.cellsOf f0.type = 1) (c1 : P.cellsOf f1.type = 1) (k0 : P.underlying f0.type = some (.int .i64)) (k1 : P.underlying f1.type = some (.int .i64))
    (hv : Value.okWide P w r b0 t v) (h : DataW.Trod enc P w base spare held t v d p) : ∃ (A : Option Addr) (c : Nat) (xs : List (Int × Int)), v = .slice A xs.length c ∧ Rd w A (ptCells xs) ∧ xs.length ≤ 9223372036854775807 ∧ xs.length ≤ c ∧ ∀ q ∈ xs, Fit q.1 ∧ Fit q.2 := by
  obtain ⟨a, len, cap, rfl⟩ := okWide_slice ht hv
  obtain ⟨fuel, hf⟩ := h
  rcases open_slice_pairs ht he ce o0 o1 c0 c1 hf with ⟨h1, _⟩ | ⟨ad, n, c, m, n', V0, V1, D0, D1, P0, P1, h1, _, hn, hm, hz, _, hcell⟩
  · simp [Value.cells] at h1
    obtain ⟨rfl, rfl, rfl⟩ := h1
    exact ⟨none, 0, [], rfl, Rd.nil _ _, by simp, by simp, by simp⟩
  · simp [Value.cells] at h1
    obtain ⟨rfl, rfl, rfl⟩ := h1
    have hl : len ≤ m := by split at hz <;> omega
    have each : ∀ i, i < len → V0 i = .int .i64 (numOfV (V0 i)) ∧ V1 i = .int .i64 (numOfV (V1 i)) ∧ Fit (numOfV (V0 i)) ∧ Fit (numOfV (V1 i)) := by
      intro i hi
      obtain ⟨_, _, t0, t1⟩ := hcell i (by omega)
      obtain ⟨x, e0, _, w0⟩ := DataW.trod_int k0 t0
      obtain ⟨y, e1, _, w1⟩ := DataW.trod_int k1 t1
      simp at e0 e1
      rw [e0, e1]
      exact ⟨rfl, rfl, bounds_i64 w0, bounds_i64 w1⟩
    have hlen : ((List.range len).map fun i => (numOfV (V0 i), numOfV (V1 i))).length = len := by simp
    refine ⟨some ad, cap, (List.range len).map fun i => (numOfV (V0 i), numOfV (V1 i)), by rw [hlen], ?_, ?_, by omega, fun q hq => ?_⟩
    · intro hn0
      rw [ptCells_length, hlen] at hn0
      have hz0 := (hcell 0 (by omega)).1
      refine ⟨ad, rfl, by have := World.block_lt_of_cell? w _ hz0; rwa [add_block] at this, fun j u hu => ?_⟩
      have hj2 : j < 2 * len := by
        have := (List.getElem?_eq_some_iff.1 hu).1
        rwa [ptCells_length, hlen] at this
      have hk : j / 2 < ((List.range len).map fun i => (numOfV (V0 i), numOfV (V1 i))).length := by rw [hlen]; omega
      obtain ⟨q1, q2⟩ := ptCells_at _ (j / 2) hk
      obtain ⟨e0, e1, _⟩ := each (j / 2) (by omega)
      obtain ⟨s0, s1, _⟩ := hcell (j / 2) (by omega)
      simp only [List.getElem_map, List.getElem_range] at q1 q2
      rw [← e0] at q1
      rw [← e1] at q2
      rcases Nat.mod_two_eq_zero_or_one j with hj | hj
      · rw [show j / 2 * 2 = j by omega] at q1 s0
        rw [s0, ← hu, q1]
      · rw [show j / 2 * 2 + 1 = j by omega] at q2 s1
        rw [s1, ← hu, q2]
    · rw [hlen]
      have : maxLen = 9223372036854775807 := rfl
      omega
    · obtain ⟨i, hi, rfl⟩ := List.mem_map.1 hq
      exact (each i (List.mem_range.1 hi)).2.2

end Go.Proofs.Ytonemgmmhjankaa
