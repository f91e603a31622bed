/- Part 10 of the proof of TopRights: Slices that came in, whatever their elements. -/
import Derived.Test.YtngjakahanmepaaGreatDoorM09
import Derived.Deep.Slices
namespace Go.Proofs.YtngjakahanmepaaGreatDoor
open Go.RowKit Go.ChangeShapes Go.WideShapes Go.Joins Go.Deep
set_option linter.unusedVariables false
set_option linter.unusedSimpArgs false
theorem flat_len {α : Type} (f : α → List Value) (n : Nat) (hf : ∀ x, (f x).length = n) : ∀ l : List α, (l.flatMap f).length = l.length * n
  | [] => by simp
  | x :: l => by rw [List.flatMap_cons, List.length_append, hf, flat_len f n hf l, List.length_cons, Nat.add_mul]; omega
theorem flat_get {α : Type} (f : α → List Value) (n : Nat) (hf : ∀ x, (f x).length = n) : ∀ (l : List α) (k j : Nat) (h : k < l.length), j < n → (l.flatMap f)[k * n + j]? = (f l[k])[j]?
  | x :: l, 0, j, _, hj => by
    rw [List.flatMap_cons, Nat.zero_mul, Nat.zero_add, List.getElem?_append_left (by rw [hf]; exact hj)]
    rfl
  | x :: l, k + 1, j, h, hj => by
    rw [List.flatMap_cons, List.getElem?_append_right (by rw [hf, Nat.add_mul]; omega), hf, show (k + 1) * n + j - n = k * n + j by rw [Nat.add_mul]; omega]
    exact flat_get f n hf l k j (by simpa using h) hj
section
variable {H : Type} {enc : TypeId × Value → H} {P : Program} {w : World} {base : Nat} {spare : Nat → Bool} {held : Bool}
theorem open_rowsT {α : Type} [Inhabited α] {K : Nat} {f : α → List Value} {Good : α → Prop} (hfl : ∀ x, (f x).length = K) (hK : 0 < K) {fuel : Nat} {t e : TypeId} {v : Value} {x : DataW H × List MemPlace}
    (ht : P.underlying t = some (.slice e)) (hc : P.cellsOf e = K)
    (dec : ∀ (n : Nat) (cs : List Value) (y : DataW H × List MemPlace), DataW.trod enc P w base spare held n e cs = some y → cs.length = K → ∃ x : α, f x = cs ∧ Good x)
    (hf : DataW.trod enc P w base spare held fuel t [v] = some x) :
    ∃ (A : Option Addr) (c : Nat) (xs : List α), v = .slice A xs.length c ∧ Rd w A (xs.flatMap f) ∧ xs.length ≤ c ∧ c ≤ 9223372036854775807 ∧ (A = none → c = 0) ∧ ∀ x ∈ xs, Good x := by
  rcases open_slice ht hf with ⟨h1, _⟩ | ⟨ad, len, cap, m, n', D, Pl, h1, _, hn, hm, hmm, _, hel⟩
  · simp at h1
    subst h1
    exact ⟨none, 0, [], rfl, Rd.nil _ _, by simp, by simp, fun _ => rfl, by simp⟩
  · simp at h1
    subst h1
    have hlm : len ≤ m := by split at hmm <;> omega
    have each : ∀ i, i < len → ∃ x : α, (∀ j u, (f x)[j]? = some u → w.cell? (ad.add (i * K + j)) = some u) ∧ Good x := by
      intro i hi
      obtain ⟨cs', hcs, htr⟩ := hel i (by omega)
      obtain ⟨_, hl, hat⟩ := World.cells?_some hcs
      rw [hc] at hl hat
      obtain ⟨x, hx, hg⟩ := dec _ _ _ htr hl
      refine ⟨x, fun j u hu => ?_, hg⟩
      rw [hx] at hu
      have hj : j < K := by have := (List.getElem?_eq_some_iff.1 hu).1; omega
      rw [← add_add, hat j hj, hu]
    obtain ⟨g, hg⟩ := choose_lt each
    have hlen : ((List.range len).map g).length = len := by simp
    refine ⟨some ad, cap, (List.range len).map g, by rw [hlen], ?_, by rw [hlen]; exact hn, ?_, (fun h => by cases h), fun x hx => ?_⟩
    · intro hn0
      rw [flat_len f K hfl, hlen] at hn0
      have h0 : 0 < len := Nat.pos_of_mul_pos_right hn0
      have hfx : (f (g 0))[0]? = some ((f (g 0))[0]'(by rw [hfl]; exact hK)) := List.getElem?_eq_getElem _
      have hc0 := (hg 0 h0).1 0 _ hfx
      refine ⟨ad, rfl, by have := World.block_lt_of_cell? w _ hc0; rwa [add_block] at this, fun j u hu => ?_⟩
      have hj : j < len * K := by
        have := (List.getElem?_eq_some_iff.1 hu).1
        rwa [flat_len f K hfl, hlen] at this
      have hq : j / K < len := (Nat.div_lt_iff_lt_mul hK).2 hj
      have hr : j % K < K := Nat.mod_lt _ hK
      have e := flat_get f K hfl ((List.range len).map g) (j / K) (j % K) (by rw [hlen]; exact hq) hr
      have ej : j / K * K + j % K = j := Nat.div_add_mod' j K
      rw [ej] at e
      simp only [List.getElem_map, List.getElem_range] at e
      have := (hg (j / K) hq).1 (j % K) u (by rw [← e]; exact hu)
      rwa [ej] at this
    · have : maxLen = 9223372036854775807 := rfl
      omega
    · obtain ⟨i, hi, rfl⟩ := List.mem_map.1 hx
      exact (hg i (List.mem_range.1 hi)).2
theorem open_rows {α : Type} [Inhabited α] {K : Nat} {f : α → List Value} {Good : α → Prop} (hfl : ∀ x, (f x).length = K) (hK : 0 < K) {r : Reach} {b0 : Nat} {t e : TypeId} {v : Value} {d : DataW H} {p : List MemPlace}
    (ht : P.underlying t = some (.slice e)) (hc : P.cellsOf e = K)
    (dec : ∀ (n : Nat) (cs : List Value) (y : DataW H × List MemPlace), DataW.trod enc P w base spare held n e cs = some y → cs.length = K → ∃ x : α, f x = cs ∧ Good x)
    (hv : Value.okWide P w r b0 t v) (h : DataW.Trod enc P w base spare held t v d p) :
    ∃ (A : Option Addr) (c : Nat) (xs : List α), v = .slice A xs.length c ∧ Rd w A (xs.flatMap f) ∧ xs.length ≤ c ∧ c ≤ 9223372036854775807 ∧ (A = none → c = 0) ∧ ∀ x ∈ xs, Good x := by
  obtain ⟨a, len, cap, rfl⟩ := okWide_slice ht hv
  obtain ⟨fuel, hf⟩ := h
  exact open_rowsT hfl hK ht hc dec (by simpa [Value.cells] using hf)
theorem open_cell_ints {fuel : Nat} {t e : TypeId} {v : Value} {x : DataW H × List MemPlace} (ht : P.underlying t = some (.slice e)) (he : P.underlying e = some (.int .i64)) (hc : P.cellsOf e = 1)
    (h : DataW.trod enc P w base spare held fuel t [v] = some x) : ∃ (A : Option Addr) (c : Nat) (xs : List Int), v = .slice A xs.length c ∧ Rd w A (xs.map (Value.int .i64)) ∧ xs.length ≤ c ∧ c ≤ 9223372036854775807 ∧ (A = none → c = 0) ∧ ∀ x ∈ xs, Fit x := by
  rcases open_ints ht he hc h with ⟨h1, _⟩ | ⟨ad, n, c, zs, h1, _, hn, hm, hz, _, hcell, hwf⟩
  · simp at h1
    subst h1
    exact ⟨none, 0, [], rfl, Rd.nil _ _, by simp, by simp, fun _ => rfl, by simp⟩
  · simp at h1
    subst h1
    have hl : n ≤ zs.length := by split at hz <;> omega
    have hlen : (zs.take n).length = n := by simp; omega
    refine ⟨some ad, c, zs.take n, by rw [hlen], ?_, by omega, by have : maxLen = 9223372036854775807 := rfl; omega, (fun h => by cases h), fun x hx => bounds_i64 (hwf x (List.mem_of_mem_take hx))⟩
    intro hn0
    rw [List.length_map, hlen] at hn0
    have h0 := hcell 0 (by omega)
    refine ⟨ad, rfl, by have := World.block_lt_of_cell? w _ h0; rwa [add_block] at this, fun j u hu => ?_⟩
    rw [List.getElem?_map] at hu
    obtain ⟨x, hx, rfl⟩ := Option.map_eq_some_iff.1 hu
    have hj : j < n := by have := (List.getElem?_eq_some_iff.1 hx).1; omega
    rw [hcell j (by omega)]
    rw [List.getElem?_take_of_lt hj] at hx
    simp [List.getD, hx]
theorem open_row_ints3 {r : Reach} {b0 : Nat} {t e : TypeId} {v : Value} {d : DataW H} {p : List MemPlace} (ht : P.underlying t = some (.slice e)) (he : P.underlying e = some (.int .i64)) (hc : P.cellsOf e = 1) (hv : Value.okWide P w r b0 t v) (h : DataW.Trod enc P w base spare held t v d p) :
    ∃ (A : Option Addr) (c : Nat) (xs : List Int), v = .slice A xs.length c ∧ Rd w A (xs.map (Value.int .i64)) ∧ xs.length ≤ 9223372036854775807 ∧ xs.length ≤ c ∧ (A = none → c = 0) ∧ ∀ x ∈ xs, Fit x := by
  obtain ⟨a, len, cap, rfl⟩ := okWide_slice ht hv
  obtain ⟨fuel, hf⟩ := h
  obtain ⟨A, c, xs, e1, hr, h1, h2, h3, h4⟩ := open_cell_ints ht he hc (by simpa [Value.cells] using hf)
  exact ⟨A, c, xs, e1, hr, by omega, h1, h3, h4⟩
end
end Go.Proofs.YtngjakahanmepaaGreatDoor
