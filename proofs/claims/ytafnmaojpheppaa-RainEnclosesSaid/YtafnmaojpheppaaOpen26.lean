/- Basins, readings, spans and bools that came in. -/
import Derived.Test.YtafnmaojpheppaaMisc26
namespace Go.Proofs.Ytafnmaojpheppaa
open Go.RowKit Go.ChangeShapes Go.WideShapes Go.Joins Go.Deep
set_option linter.unusedVariables false
set_option linter.unusedSimpArgs false

theorem kc_int : Try.prog.cellsOf 3 = 1 := by kernel_rfl
theorem kc_string : Try.prog.cellsOf 9 = 1 := by kernel_rfl
theorem kc_span : Try.prog.cellsOf 40 = 2 := by kernel_rfl
theorem kc_cell : Try.prog.cellsOf 63 = 2 := by kernel_rfl
theorem kc_reading : Try.prog.cellsOf 47 = 4 := by kernel_rfl
theorem kc_gauge : Try.prog.cellsOf 67 = 5 := by kernel_rfl
theorem kc_place : Try.prog.cellsOf 53 = 12 := by kernel_rfl
theorem kc_basin : Try.prog.cellsOf 31 = 11 := by kernel_rfl
theorem kc_scells : Try.prog.cellsOf 51 = 1 := by kernel_rfl
theorem kc_splaces : Try.prog.cellsOf 23 = 1 := by kernel_rfl
theorem kc_sgauges : Try.prog.cellsOf 26 = 1 := by kernel_rfl
theorem kc_spoints : Try.prog.cellsOf 50 = 1 := by kernel_rfl
theorem kc_ints : Try.prog.cellsOf 29 = 1 := by kernel_rfl
theorem kc_bool : Try.prog.cellsOf 4 = 1 := by kernel_rfl
instance : Inhabited Rg := ⟨⟨0, 0, 0, 0⟩⟩
instance : Inhabited Gg := ⟨⟨undef, 0, 0, undef, undef⟩⟩
instance : Inhabited Pr := ⟨⟨undef, undef, undef, undef, undef, undef, undef, undef, undef, undef, undef, none, 0, []⟩⟩
section
variable {H : Type} {enc : TypeId × Value → H} {w : World} {base : Nat} {spare : Nat → Bool} {held : Bool}
theorem slice_form {n : Nat} {t e : TypeId} {v : Value} {y : DataW H × List MemPlace} (ht : Try.prog.underlying t = some (.slice e)) (h : DataW.trod enc Try.prog w base spare held n t [v] = some y) : ∃ A m c, v = .slice A m c := by
  rcases DataW.trod_slice ht h with ⟨e, _⟩ | ⟨a, len, cap, _, _, _, _, e, _⟩
  · simp at e; exact ⟨_, _, _, e⟩
  · simp at e; exact ⟨_, _, _, e⟩
theorem dec_cell (n : Nat) (cs : List Value) (y : DataW H × List MemPlace) (h : DataW.trod enc Try.prog w base spare held n 63 cs = some y) (hl : cs.length = 2) : ∃ x : Sp, spc x = cs ∧ Fit2 x := by
  match cs, hl with
  | [c0, c1], _ =>
    obtain ⟨xs, n', _, _, _, hlen, hg⟩ := DataW.trod_struct Try.underlying63 h
    have g0 := (hg 0 _ rfl).trans (List.getElem?_eq_getElem (by rw [hlen]; decide))
    have g1 := (hg 1 _ rfl).trans (List.getElem?_eq_getElem (by rw [hlen]; decide))
    obtain ⟨a, ea, _, wa⟩ := DataW.trod_int Try.underlying3 g0
    obtain ⟨b, eb, _, wb⟩ := DataW.trod_int Try.underlying3 g1
    simp [kc_int] at ea eb
    subst ea eb
    exact ⟨(a, b), rfl, bounds_i64 wa, bounds_i64 wb⟩
theorem dec_span (n : Nat) (cs : List Value) (y : DataW H × List MemPlace) (h : DataW.trod enc Try.prog w base spare held n 40 cs = some y) (hl : cs.length = 2) : ∃ x : Sp, spc x = cs ∧ Fit2 x := by
  match cs, hl with
  | [c0, c1], _ =>
    obtain ⟨xs, n', _, _, _, hlen, hg⟩ := DataW.trod_struct Try.underlying40 h
    have g0 := (hg 0 _ rfl).trans (List.getElem?_eq_getElem (by rw [hlen]; decide))
    have g1 := (hg 1 _ rfl).trans (List.getElem?_eq_getElem (by rw [hlen]; decide))
    obtain ⟨a, ea, _, wa⟩ := DataW.trod_int Try.underlying3 g0
    obtain ⟨b, eb, _, wb⟩ := DataW.trod_int Try.underlying3 g1
    simp [kc_int] at ea eb
    subst ea eb
    exact ⟨(a, b), rfl, bounds_i64 wa, bounds_i64 wb⟩
theorem dec_reading (n : Nat) (cs : List Value) (y : DataW H × List MemPlace) (h : DataW.trod enc Try.prog w base spare held n 47 cs = some y) (hl : cs.length = 4) : ∃ x : Rg, rgc x = cs ∧ RgOk x := by
  match cs, hl with
  | [c0, c1, c2, c3], _ =>
    obtain ⟨xs, n', _, _, _, hlen, hg⟩ := DataW.trod_struct Try.underlying47 h
    have g0 := (hg 0 _ rfl).trans (List.getElem?_eq_getElem (by rw [hlen]; decide))
    have g1 := (hg 1 _ rfl).trans (List.getElem?_eq_getElem (by rw [hlen]; decide))
    have g2 := (hg 2 _ rfl).trans (List.getElem?_eq_getElem (by rw [hlen]; decide))
    obtain ⟨a, ea, _, wa⟩ := DataW.trod_int Try.underlying3 g0
    obtain ⟨b, eb, _, wb⟩ := DataW.trod_int Try.underlying3 g1
    simp [kc_int] at ea eb
    subst ea eb
    simp [kc_span] at g2
    obtain ⟨⟨lo, hi⟩, e, f1, f2⟩ := dec_span _ _ _ g2 rfl
    simp [spc] at e
    obtain ⟨rfl, rfl⟩ := e
    exact ⟨⟨a, b, lo, hi⟩, rfl, bounds_i64 wa, f1, f2⟩
theorem dec_gauge (n : Nat) (cs : List Value) (y : DataW H × List MemPlace) (h : DataW.trod enc Try.prog w base spare held n 67 cs = some y) (hl : cs.length = 5) : ∃ x : Gg, ggc x = cs ∧ GgOne x := by
  match cs, hl with
  | [c0, c1, c2, c3, c4], _ =>
    obtain ⟨xs, n', _, _, _, hlen, hg⟩ := DataW.trod_struct Try.underlying67 h
    have g0 := (hg 0 _ rfl).trans (List.getElem?_eq_getElem (by rw [hlen]; decide))
    have g1 := (hg 1 _ rfl).trans (List.getElem?_eq_getElem (by rw [hlen]; decide))
    have g2 := (hg 2 _ rfl).trans (List.getElem?_eq_getElem (by rw [hlen]; decide))
    have g3 := (hg 3 _ rfl).trans (List.getElem?_eq_getElem (by rw [hlen]; decide))
    have g4 := (hg 4 _ rfl).trans (List.getElem?_eq_getElem (by rw [hlen]; decide))
    obtain ⟨s, es, _⟩ := DataW.trod_string Try.underlying9 g0
    obtain ⟨a, ea, _, wa⟩ := DataW.trod_int Try.underlying3 g1
    obtain ⟨b, eb, _, wb⟩ := DataW.trod_int Try.underlying3 g2
    obtain ⟨c, ec, _, wc⟩ := DataW.trod_int Try.underlying3 g3
    obtain ⟨d, ed, _, wd⟩ := DataW.trod_int Try.underlying3 g4
    simp [kc_int, kc_string] at es ea eb ec ed
    subst es ea eb ec ed
    exact ⟨⟨.string s, a, b, .int .i64 c, .int .i64 d⟩, rfl, rfl, bounds_i64 wb⟩
theorem dec_place (n : Nat) (cs : List Value) (y : DataW H × List MemPlace) (h : DataW.trod enc Try.prog w base spare held n 53 cs = some y) (hl : cs.length = 12) : ∃ x : Pr, prc x = cs ∧ (PrOk x ∧ PrOne x) ∧ Rd w x.A (spCells x.rain) := by
  match cs, hl with
  | [c0, c1, c2, c3, c4, c5, c6, c7, c8, c9, c10, c11], _ =>
    obtain ⟨xs, n', _, _, _, hlen, hg⟩ := DataW.trod_struct Try.underlying53 h
    have g0 := (hg 0 _ rfl).trans (List.getElem?_eq_getElem (by rw [hlen]; decide))
    have g1 := (hg 1 _ rfl).trans (List.getElem?_eq_getElem (by rw [hlen]; decide))
    have g2 := (hg 2 _ rfl).trans (List.getElem?_eq_getElem (by rw [hlen]; decide))
    have g3 := (hg 3 _ rfl).trans (List.getElem?_eq_getElem (by rw [hlen]; decide))
    have g4 := (hg 4 _ rfl).trans (List.getElem?_eq_getElem (by rw [hlen]; decide))
    have g5 := (hg 5 _ rfl).trans (List.getElem?_eq_getElem (by rw [hlen]; decide))
    have g6 := (hg 6 _ rfl).trans (List.getElem?_eq_getElem (by rw [hlen]; decide))
    have g7 := (hg 7 _ rfl).trans (List.getElem?_eq_getElem (by rw [hlen]; decide))
    have g8 := (hg 8 _ rfl).trans (List.getElem?_eq_getElem (by rw [hlen]; decide))
    have g9 := (hg 9 _ rfl).trans (List.getElem?_eq_getElem (by rw [hlen]; decide))
    have g10 := (hg 10 _ rfl).trans (List.getElem?_eq_getElem (by rw [hlen]; decide))
    have g11 := (hg 11 _ rfl).trans (List.getElem?_eq_getElem (by rw [hlen]; decide))
    obtain ⟨s, e0, _⟩ := DataW.trod_string Try.underlying9 g0
    obtain ⟨a1, e1, _, _⟩ := DataW.trod_int Try.underlying3 g1
    obtain ⟨a2, e2, _, _⟩ := DataW.trod_int Try.underlying3 g2
    obtain ⟨a3, e3, _, _⟩ := DataW.trod_int Try.underlying3 g3
    obtain ⟨a6, e6, _, _⟩ := DataW.trod_int Try.underlying3 g6
    obtain ⟨a7, e7, _, _⟩ := DataW.trod_int Try.underlying3 g7
    obtain ⟨a8, e8, _, _⟩ := DataW.trod_int Try.underlying3 g8
    obtain ⟨a9, e9, _, _⟩ := DataW.trod_int Try.underlying3 g9
    obtain ⟨a10, e10, _, _⟩ := DataW.trod_int Try.underlying3 g10
    simp [kc_int, kc_string] at e0 e1 e2 e3 e6 e7 e8 e9 e10
    subst e0 e1 e2 e3 e6 e7 e8 e9 e10
    simp [kc_spoints] at g4
    simp [kc_ints] at g5
    simp [kc_scells] at g11
    obtain ⟨A4, m4, k4, rfl⟩ := slice_form Try.underlying50 g4
    obtain ⟨A5, m5, k5, rfl⟩ := slice_form Try.underlying29 g5
    obtain ⟨A11, m11, k11, rfl⟩ := slice_form Try.underlying51 g11
    obtain ⟨A, c, rain, e, hr, h1, h2, h3, h4⟩ := open_rowsT (Good := Fit2) spc_length (by omega) Try.underlying51 kc_cell dec_cell g11
    cases e
    exact ⟨⟨.string s, .int .i64 a1, .int .i64 a2, .int .i64 a3, .slice A4 m4 k4, .slice A5 m5 k5, .int .i64 a6, .int .i64 a7, .int .i64 a8, .int .i64 a9, .int .i64 a10, A11, k11, rain⟩, rfl, ⟨⟨by show rain.length ≤ _; omega, h4⟩, rfl⟩, hr⟩

theorem open_row_spans {r : Reach} {b0 : Nat} {v : Value} {d : DataW H} {p : List MemPlace} (hv : Value.okWide Try.prog w r b0 33 v) (h : DataW.Trod enc Try.prog w base spare held 33 v d p) :
    ∃ (A : Option Addr) (c : Nat) (xs : List Sp), v = .slice A xs.length c ∧ Rd w A (spCells xs) ∧ xs.length ≤ 9223372036854775807 ∧ xs.length ≤ c ∧ c ≤ 9223372036854775807 ∧ (A = none → c = 0) ∧ ∀ x ∈ xs, Fit2 x := by
  obtain ⟨A, c, xs, rfl, hr, h1, h2, h3, h4⟩ := open_rows (Good := Fit2) spc_length (by omega) Try.underlying33 kc_span dec_span hv h
  exact ⟨A, c, xs, rfl, hr, by omega, h1, h2, h3, h4⟩
theorem open_row_readings {r : Reach} {b0 : Nat} {v : Value} {d : DataW H} {p : List MemPlace} (hv : Value.okWide Try.prog w r b0 32 v) (h : DataW.Trod enc Try.prog w base spare held 32 v d p) :
    ∃ (A : Option Addr) (c : Nat) (xs : List Rg), v = .slice A xs.length c ∧ Rd w A (rgCells xs) ∧ xs.length ≤ 9223372036854775807 ∧ (A = none → c = 0) ∧ ∀ x ∈ xs, RgOk x := by
  obtain ⟨A, c, xs, rfl, hr, h1, h2, h3, h4⟩ := open_rows (Good := RgOk) rgc_length (by omega) Try.underlying32 kc_reading dec_reading hv h
  exact ⟨A, c, xs, rfl, hr, by omega, h3, h4⟩
def bools (l : List Bool) : List Value := l.flatMap fun b => [.bool b]
theorem open_row_bools {r : Reach} {b0 : Nat} {v : Value} {d : DataW H} {p : List MemPlace} (hv : Value.okWide Try.prog w r b0 55 v) (h : DataW.Trod enc Try.prog w base spare held 55 v d p) :
    ∃ (A : Option Addr) (c : Nat) (xs : List Bool), v = .slice A xs.length c ∧ Rd w A (bools xs) ∧ xs.length ≤ 9223372036854775807 := by
  obtain ⟨A, c, xs, rfl, hr, h1, h2, h3, h4⟩ := open_rows (K := 1) (f := fun b : Bool => [Value.bool b]) (Good := fun _ => True) (fun _ => rfl) (by omega) Try.underlying55 kc_bool (fun n cs y h hl => by
    obtain ⟨b, e, _⟩ := DataW.trod_bool Try.underlying4 h
    exact ⟨b, e.symm, trivial⟩) hv h
  exact ⟨A, c, xs, rfl, hr, by omega⟩
theorem open_cells_gauges {n : Nat} {v : Value} {y : DataW H × List MemPlace} (h : DataW.trod enc Try.prog w base spare held n 26 [v] = some y) :
    ∃ (A : Option Addr) (c : Nat) (xs : List Gg), v = .slice A xs.length c ∧ Rd w A (ggCells xs) ∧ xs.length ≤ 9223372036854775807 ∧ ∀ x ∈ xs, GgOne x := by
  obtain ⟨A, m, c, rfl⟩ := slice_form Try.underlying26 h
  obtain ⟨A, c, xs, e, hr, h1, h2, h3, h4⟩ := open_rowsT (Good := GgOne) ggc_length (by omega) Try.underlying26 kc_gauge dec_gauge h
  exact ⟨A, c, xs, e, hr, by omega, h4⟩
theorem open_cells_places {n : Nat} {v : Value} {y : DataW H × List MemPlace} (h : DataW.trod enc Try.prog w base spare held n 23 [v] = some y) :
    ∃ (A : Option Addr) (c : Nat) (xs : List Pr), v = .slice A xs.length c ∧ Ps w A xs ∧ xs.length ≤ 9223372036854775807 ∧ ∀ x ∈ xs, PrOk x ∧ PrOne x := by
  obtain ⟨A, m, c, rfl⟩ := slice_form Try.underlying23 h
  obtain ⟨A, c, xs, e, hr, h1, h2, h3, h4⟩ := open_rowsT (Good := fun x : Pr => (PrOk x ∧ PrOne x) ∧ Rd w x.A (spCells x.rain)) prc_length (by omega) Try.underlying23 kc_place dec_place h
  exact ⟨A, c, xs, e, ⟨hr, fun x hx => (h4 x hx).2⟩, by omega, fun x hx => (h4 x hx).1⟩
/-- what a basin that came in is -/
structure Bas (w : World) (cn : Int) (B : Option Addr) (ps : List Pr) (GA : Option Addr) (G : List Gg) : Prop where
  cnf : Fit cn
  psm : Ps w B ps
  gm : Rd w GA (ggCells G)
  pn : ps.length ≤ 9223372036854775807
  gn : G.length ≤ 9223372036854775807
  pok : ∀ x ∈ ps, PrOk x ∧ PrOne x
  gok : ∀ x ∈ G, GgOne x
theorem Bas.below {B0 : Nat} {w w' : World} {cn : Int} {B : Option Addr} {ps : List Pr} {GA : Option Addr} {G : List Gg} (h : Bas w cn B ps GA G) (hB : w.heap.size ≤ B0) (hb : Below B0 w w') : Bas w' cn B ps GA G :=
  ⟨h.cnf, h.psm.below hB hb, h.gm.below hB hb, h.pn, h.gn, h.pok, h.gok⟩
theorem Bas.bel {V : World} {cn : Int} {B : Option Addr} {ps : List Pr} {GA : Option Addr} {G : List Gg} (h : Bas V cn B ps GA G) (y : BelW V) : Bas y.w cn B ps GA G := h.below (Nat.le_refl _) y.2
theorem open_basin {r : Reach} {b0 : Nat} {v : Value} {d : DataW H} {p : List MemPlace} (hv : Value.okWide Try.prog w r b0 31 v) (h : DataW.Trod enc Try.prog w base spare held 31 v d p) :
    ∃ (d0 d1 : Value) (cn : Int) (B : Option Addr) (cb : Nat) (ps : List Pr) (d4 d5 : Value) (GA : Option Addr) (gc : Nat) (G : List Gg) (d7 d8 d9 d10 : Value), v = .agg #[d0, d1, .int .i64 cn, .slice B ps.length cb, d4, d5, .slice GA G.length gc, d7, d8, d9, d10] ∧ Bas w cn B ps GA G := by
  obtain ⟨cs, rfl, hsz⟩ := okWide_struct Try.underlying31 hv
  obtain ⟨l⟩ := cs
  obtain ⟨fuel, hf⟩ := h
  have hl : l.length = 11 := hsz.trans kc_basin
  match l, hl with
  | [c0, c1, c2, c3, c4, c5, c6, c7, c8, c9, c10], _ =>
    obtain ⟨xs, n', _, _, _, hlen, hg⟩ := DataW.trod_struct Try.underlying31 hf
    have g2 := (hg 2 _ rfl).trans (List.getElem?_eq_getElem (by rw [hlen]; decide))
    have g3 := (hg 3 _ rfl).trans (List.getElem?_eq_getElem (by rw [hlen]; decide))
    have g6 := (hg 6 _ rfl).trans (List.getElem?_eq_getElem (by rw [hlen]; decide))
    obtain ⟨a, ea, _, wa⟩ := DataW.trod_int Try.underlying3 g2
    simp [Value.cells, kc_int] at ea
    subst ea
    simp [Value.cells, kc_splaces] at g3
    simp [Value.cells, kc_sgauges] at g6
    obtain ⟨B, cb, ps, rfl, hr, hn, hp⟩ := open_cells_places g3
    obtain ⟨GA, gc, G, rfl, hgr, hgn, hgp⟩ := open_cells_gauges g6
    exact ⟨c0, c1, a, B, cb, ps, c4, c5, GA, gc, G, c7, c8, c9, c10, rfl, bounds_i64 wa, hr, hgr, hn, hgn, hp, hgp⟩
end

end Go.Proofs.Ytafnmaojpheppaa
