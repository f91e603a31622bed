/- Queues and places that came in. -/
import Derived.Test.YthbjechgdjcogaaOpenR
import Derived.Test.YthbjechgdjcogaaUnd18
namespace Go.Proofs.Ythbjechgdjcogaa
open Go.RowKit Go.ChangeShapes Go.WideShapes Go.Joins Go.Deep
set_option linter.unusedVariables false
set_option linter.unusedSimpArgs false

theorem kc_int : Try.prog.cellsOf 3 = 1 := by kernel_rfl
theorem kc_ints : Try.prog.cellsOf 29 = 1 := by kernel_rfl
theorem kc_load : Try.prog.cellsOf 53 = 3 := by kernel_rfl
theorem kc_place : Try.prog.cellsOf 40 = 12 := by kernel_rfl
instance : Inhabited Ld := ⟨⟨0, 0, none, 0, []⟩⟩
instance : Inhabited Pl := ⟨⟨undef, undef, 0, undef, undef, undef, 0, 0, undef, undef, undef, undef⟩⟩
section
variable {H : Type} {enc : TypeId × Value → H} {w : World} {base : Nat} {spare : Nat → Bool} {held : Bool}
theorem dec_load (n : Nat) (cs : List Value) (y : DataW H × List MemPlace) (h : DataW.trod enc Try.prog w base spare held n 53 cs = some y) (hl : cs.length = 3) : ∃ x : Ld, ldc x = cs ∧ (LdOk x ∧ (x.A = none → x.c = 0)) ∧ Rd w x.A (ints x.part) := by
  match cs, hl with
  | [c0, c1, c2], _ =>
    obtain ⟨xs, n', _, _, _, hlen, hg⟩ := DataW.trod_struct Try.underlying53 h
    have g0 := (hg 0 _ rfl).trans (List.getElem?_eq_getElem (by rw [hlen]; decide))
    have g1 := (hg 1 _ rfl).trans (List.getElem?_eq_getElem (by rw [hlen]; decide))
    have g2 := (hg 2 _ rfl).trans (List.getElem?_eq_getElem (by rw [hlen]; decide))
    obtain ⟨a, ea, _, wa⟩ := DataW.trod_int Try.underlying3 g0
    obtain ⟨b, eb, _, wb⟩ := DataW.trod_int Try.underlying3 g1
    simp [kc_int] at ea eb
    subst ea eb
    simp [kc_ints] at g2
    obtain ⟨A, c, p, rfl, hr, hc, hm, hn, hf⟩ := open_cell_ints Try.underlying29 Try.underlying3 kc_int g2
    refine ⟨⟨a, b, A, c, p⟩, rfl, ⟨⟨bounds_i64 wa, bounds_i64 wb, by have : maxLen = 9223372036854775807 := rfl; show p.length ≤ maxLen; omega, fun i hi => ?_⟩, hn⟩, hr⟩
    have : gi p i = p[i] := by simp [gi, List.getD, hi]
    show Fit (gi p i)
    rw [this]
    exact hf _ (List.getElem_mem hi)
theorem dec_place (n : Nat) (cs : List Value) (y : DataW H × List MemPlace) (h : DataW.trod enc Try.prog w base spare held n 40 cs = some y) (hl : cs.length = 12) : ∃ x : Pl, plc x = cs ∧ Fit x.office := by
  match cs, hl with
  | [c0, c1, c2, c3, c4, c5, c6, c7, c8, c9, c10, c11], _ =>
    obtain ⟨xs, n', _, _, _, hlen, hg⟩ := DataW.trod_struct Try.underlying40 h
    have g2 := (hg 2 _ rfl).trans (List.getElem?_eq_getElem (by rw [hlen]; decide))
    have g6 := (hg 6 _ rfl).trans (List.getElem?_eq_getElem (by rw [hlen]; decide))
    have g7 := (hg 7 _ rfl).trans (List.getElem?_eq_getElem (by rw [hlen]; decide))
    obtain ⟨a, ea, _, wa⟩ := DataW.trod_int Try.underlying3 g2
    obtain ⟨b, eb, _, wb⟩ := DataW.trod_int Try.underlying3 g6
    obtain ⟨c, ec, _, wc⟩ := DataW.trod_int Try.underlying3 g7
    simp [kc_int] at ea eb ec
    subst ea eb ec
    exact ⟨⟨c0, c1, a, c3, c4, c5, b, c, c8, c9, c10, c11⟩, rfl, bounds_i64 wa⟩
theorem open_row_loads {r : Reach} {b0 : Nat} {v : Value} {d : DataW H} {p : List MemPlace} (hv : Value.okWide Try.prog w r b0 32 v) (h : DataW.Trod enc Try.prog w base spare held 32 v d p) :
    ∃ (A : Option Addr) (c : Nat) (xs : List Ld), v = .slice A xs.length c ∧ Qu w A xs ∧ xs.length ≤ 9223372036854775807 ∧ xs.length ≤ c ∧ c ≤ 9223372036854775807 ∧ (A = none → c = 0) ∧ QOk xs := by
  obtain ⟨A, c, xs, rfl, hr, h1, h2, h3, h4⟩ := open_rows (Good := fun x : Ld => (LdOk x ∧ (x.A = none → x.c = 0)) ∧ Rd w x.A (ints x.part)) ldc_length (by omega) Try.underlying32 kc_load dec_load hv h
  exact ⟨A, c, xs, rfl, ⟨hr, fun x hx => (h4 x hx).2⟩, by omega, h1, h2, h3, fun x hx => (h4 x hx).1⟩
theorem open_row_places {r : Reach} {b0 : Nat} {v : Value} {d : DataW H} {p : List MemPlace} (hv : Value.okWide Try.prog w r b0 23 v) (h : DataW.Trod enc Try.prog w base spare held 23 v d p) :
    ∃ (A : Option Addr) (c : Nat) (xs : List Pl), v = .slice A xs.length c ∧ Rd w A (plCells xs) ∧ xs.length ≤ 9223372036854775807 := by
  obtain ⟨A, c, xs, rfl, hr, h1, h2, h3, h4⟩ := open_rows (Good := fun x : Pl => Fit x.office) plc_length (by omega) Try.underlying23 kc_place dec_place hv h
  exact ⟨A, c, xs, rfl, hr, by omega⟩
theorem open_cells_places {n : Nat} {v : Value} {y : DataW H × List MemPlace} (h : DataW.trod enc Try.prog w base spare held n 23 [v] = some y) :
    ∃ (A : Option Addr) (c : Nat) (xs : List Pl), v = .slice A xs.length c ∧ Rd w A (plCells xs) ∧ xs.length ≤ 9223372036854775807 := by
  have hs : ∃ A m c, v = .slice A m c := by
    rcases DataW.trod_slice Try.underlying23 h with ⟨e, _⟩ | ⟨a, len, cap, _, _, _, _, e, _⟩
    · simp at e; exact ⟨_, _, _, e⟩
    · simp at e; exact ⟨_, _, _, e⟩
  obtain ⟨A, m, c, rfl⟩ := hs
  obtain ⟨A, c, xs, e, hr, h1, h2, h3, h4⟩ := open_rowsT (Good := fun x : Pl => Fit x.office) plc_length (by omega) Try.underlying23 kc_place dec_place h
  exact ⟨A, c, xs, e, hr, by omega⟩
theorem kc_basin : Try.prog.cellsOf 31 = 11 := by kernel_rfl
theorem kc_places : Try.prog.cellsOf 23 = 1 := by kernel_rfl
theorem open_basin {r : Reach} {b0 : Nat} {v : Value} {d : DataW H} {p : List MemPlace} (hv : Value.okWide Try.prog w r b0 31 v) (h : DataW.Trod enc Try.prog w base spare held 31 v d p) :
    ∃ (d0 d1 d2 : Value) (B : Option Addr) (cb : Nat) (ps : List Pl) (d4 d5 d6 d7 d8 d9 d10 : Value), v = .agg #[d0, d1, d2, .slice B ps.length cb, d4, d5, d6, d7, d8, d9, d10] ∧ Rd w B (plCells ps) ∧ ps.length ≤ 9223372036854775807 := by
  obtain ⟨cs, rfl, hsz⟩ := okWide_struct Try.underlying31 hv
  obtain ⟨l⟩ := cs
  obtain ⟨fuel, hf⟩ := h
  have hl : l.length = 11 := hsz.trans kc_basin
  match l, hl with
  | [c0, c1, c2, c3, c4, c5, c6, c7, c8, c9, c10], _ =>
    obtain ⟨xs, n', _, _, _, hlen, hg⟩ := DataW.trod_struct Try.underlying31 hf
    have g3 := (hg 3 _ rfl).trans (List.getElem?_eq_getElem (by rw [hlen]; decide))
    simp [Value.cells, kc_places] at g3
    obtain ⟨B, cb, ps, rfl, hr, hn⟩ := open_cells_places g3
    exact ⟨c0, c1, c2, B, cb, ps, c4, c5, c6, c7, c8, c9, c10, rfl, hr, hn⟩
end

end Go.Proofs.Ythbjechgdjcogaa
