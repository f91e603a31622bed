/- Spans, readings, gauges and places in memory; what the rain is. No walk. -/
import Derived.Test.YtafnmaojpheppaaRainA
import Derived.Test.YtafnmaojpheppaaOpenR
namespace Go.Proofs.Ytafnmaojpheppaa
open Go.RowKit
set_option linter.unusedVariables false
set_option linter.unusedSimpArgs false

theorem add_off (ad : Addr) (i j : Nat) (h : 0 < j) : (⟨(ad.add i).block, (ad.add i).off + j, none⟩ : Addr) = ad.add (i + j) := by
  unfold Addr.add
  by_cases hi : i = 0
  · subst hi; simp [show j ≠ 0 by omega]
  · simp [hi, show i + j ≠ 0 by omega, Nat.add_assoc]
theorem flat_take {α : Type} (f : α → List Value) (l : List α) {k : Nat} (hk : k < l.length) : (l.take (k + 1)).flatMap f = (l.take k).flatMap f ++ f l[k] := by
  rw [List.take_succ_eq_append_getElem hk, List.flatMap_append]
  simp

/-- the element k of a row, where it lies -/
theorem Rd.row {α : Type} (f : α → List Value) (K : Nat) (hfl : ∀ x, (f x).length = K) (hK : 0 < K) {A : Option Addr} {l : List α} {w : World} (h : Rd w A (l.flatMap f)) {k : Nat} (hk : k < l.length) :
    ∃ ad b o, A = some ad ∧ b < w.heap.size ∧ ad.add (k * K) = ⟨b, o, none⟩ ∧ w.rangeAt b o (f l[k]) := by
  have h1 : (k + 1) * K ≤ l.length * K := Nat.mul_le_mul_right K hk
  rw [Nat.add_mul] at h1
  obtain ⟨ad, e, hb, hc⟩ := h (by rw [flat_len f K hfl]; omega)
  have hget : ∀ j, j < K → (l.flatMap f)[k * K + j]? = (f l[k])[j]? := fun j hj => flat_get f K hfl l k j hk hj
  have h00 : (f l[k])[0]? = some ((f l[k])[0]'(by rw [hfl]; exact hK)) := List.getElem?_eq_getElem _
  have hc0 := hc (k * K + 0) _ ((hget 0 hK).trans h00)
  have hsp : (ad.add (k * K)).spot = none := by
    rw [Nat.add_zero] at hc0
    unfold World.cell? at hc0
    cases hh : w.heap[(ad.add (k * K)).block]? with
    | none => rw [hh] at hc0; cases hc0
    | some ob =>
      rw [hh] at hc0
      cases ob <;> simp at hc0
      cases hs : (ad.add (k * K)).spot with
      | none => rfl
      | some s => rw [hs] at hc0; simp at hc0
  have hE : ad.add (k * K) = ⟨(ad.add (k * K)).block, (ad.add (k * K)).off, none⟩ := by rw [← hsp]
  refine ⟨ad, _, _, e, by rw [add_block]; exact hb, hE, fun j v hv => ?_⟩
  have hj : j < K := by have := (List.getElem?_eq_some_iff.1 hv).1; rwa [hfl] at this
  rcases Nat.eq_zero_or_pos j with rfl | h0
  · have := hc (k * K + 0) v ((hget 0 hj).trans hv)
    rw [Nat.add_zero, hE] at this
    exact this
  · rw [add_off _ _ _ h0]
    exact hc _ _ ((hget j hj).trans hv)

/-! spans (and cells of places) -/
abbrev Sp := Int × Int
def spc (p : Sp) : List Value := [.int .i64 p.1, .int .i64 p.2]
theorem spc_length (p : Sp) : (spc p).length = 2 := rfl
def spCells (l : List Sp) : List Value := l.flatMap spc
theorem spCells_length (l : List Sp) : (spCells l).length = l.length * 2 := flat_len spc 2 spc_length l
theorem spCells_snoc (l : List Sp) (p : Sp) : spCells (l ++ [p]) = spCells l ++ spc p := by simp [spCells]
theorem spCells_append (l m : List Sp) : spCells (l ++ m) = spCells l ++ spCells m := by simp [spCells]
theorem spCells_take {l : List Sp} {k : Nat} (hk : k < l.length) : spCells (l.take (k + 1)) = spCells (l.take k) ++ spc l[k] := flat_take spc l hk
theorem spCells_one (l : List Sp) : ∀ u ∈ spCells l, u.oneCell' = true := fun u hu => by
  unfold spCells at hu
  obtain ⟨x, _, hx⟩ := List.mem_flatMap.1 hu
  simp only [spc, List.mem_cons, List.not_mem_nil, or_false] at hx
  rcases hx with rfl | rfl <;> rfl
def gs (l : List Sp) (i : Nat) : Sp := l.getD i (0, 0)
theorem gs_at {l : List Sp} {i : Nat} (h : i < l.length) : gs l i = l[i] := by simp [gs, List.getD, h]
theorem gs_map {f : Nat → Sp} {n i : Nat} (h : i < n) : gs ((List.range n).map f) i = f i := by simp [gs, List.getD, h]
theorem gs_ext {l m : List Sp} (h : l.length = m.length) (hg : ∀ i, i < l.length → gs l i = gs m i) : l = m := List.ext_getElem h fun i h1 h2 => by
  have := hg i h1
  simpa [gs, List.getD, h1, h2] using this
/-- the ends of a span that the machine can hold -/
def Fit2 (p : Sp) : Prop := Fit p.1 ∧ Fit p.2
theorem Rd.span {A : Option Addr} {l : List Sp} {w : World} (h : Rd w A (spCells l)) {k : Nat} (hk : k < l.length) :
    ∃ ad b o, A = some ad ∧ b < w.heap.size ∧ ad.add (k * 2) = ⟨b, o, none⟩ ∧ w.cell? ⟨b, o, none⟩ = some (.int .i64 (gs l k).1) ∧ w.cell? ⟨b, o + 1, none⟩ = some (.int .i64 (gs l k).2) := by
  obtain ⟨ad, b, o, e, hb, hE, hr⟩ := Rd.row spc 2 spc_length (by omega) h hk
  rw [gs_at hk]
  exact ⟨ad, b, o, e, hb, hE, hr 0 _ rfl, hr 1 _ rfl⟩

/-! readings -/
structure Rg where
  g : Int
  hr : Int
  lo : Int
  hi : Int
def rgc (x : Rg) : List Value := [.int .i64 x.g, .int .i64 x.hr, .int .i64 x.lo, .int .i64 x.hi]
theorem rgc_length (x : Rg) : (rgc x).length = 4 := rfl
def rgCells (l : List Rg) : List Value := l.flatMap rgc
theorem rgCells_length (l : List Rg) : (rgCells l).length = l.length * 4 := flat_len rgc 4 rgc_length l
def RgOk (x : Rg) : Prop := Fit x.g ∧ Fit x.lo ∧ Fit x.hi
def rg (l : List Rg) (k : Nat) : Rg := l.getD k ⟨0, 0, 0, 0⟩
theorem rg_at {l : List Rg} {i : Nat} (h : i < l.length) : rg l i = l[i] := by simp [rg, List.getD, h]
theorem Rd.reading {A : Option Addr} {l : List Rg} {w : World} (h : Rd w A (rgCells l)) {k : Nat} (hk : k < l.length) :
    ∃ ad b o, A = some ad ∧ b < w.heap.size ∧ ad.add (k * 4) = ⟨b, o, none⟩ ∧ w.rangeAt b o (rgc (rg l k)) := by
  rw [rg_at hk]
  exact Rd.row rgc 4 rgc_length (by omega) h hk

/-! gauges -/
structure Gg where
  nm : Value
  kind : Int
  tgt : Int
  e : Value
  d : Value
def ggc (x : Gg) : List Value := [x.nm, .int .i64 x.kind, .int .i64 x.tgt, x.e, x.d]
theorem ggc_length (x : Gg) : (ggc x).length = 5 := rfl
def ggCells (l : List Gg) : List Value := l.flatMap ggc
theorem ggCells_length (l : List Gg) : (ggCells l).length = l.length * 5 := flat_len ggc 5 ggc_length l

def gg (l : List Gg) (k : Nat) : Gg := l.getD k ⟨undef, 0, 0, undef, undef⟩
theorem gg_at {l : List Gg} {i : Nat} (h : i < l.length) : gg l i = l[i] := by simp [gg, List.getD, h]
theorem Rd.gauge {A : Option Addr} {l : List Gg} {w : World} (h : Rd w A (ggCells l)) {k : Nat} (hk : k < l.length) :
    ∃ ad b o, A = some ad ∧ b < w.heap.size ∧ ad.add (k * 5) = ⟨b, o, none⟩ ∧ w.rangeAt b o (ggc (gg l k)) := by
  rw [gg_at hk]
  exact Rd.row ggc 5 ggc_length (by omega) h hk

/-! places -/
structure Pr where
  v0 : Value
  v1 : Value
  v2 : Value
  v3 : Value
  v4 : Value
  v5 : Value
  v6 : Value
  v7 : Value
  v8 : Value
  v9 : Value
  v10 : Value
  A : Option Addr
  c : Nat
  rain : List Sp
def prc (x : Pr) : List Value := [x.v0, x.v1, x.v2, x.v3, x.v4, x.v5, x.v6, x.v7, x.v8, x.v9, x.v10, .slice x.A x.rain.length x.c]
theorem prc_length (x : Pr) : (prc x).length = 12 := rfl
def prCells (l : List Pr) : List Value := l.flatMap prc
theorem prCells_length (l : List Pr) : (prCells l).length = l.length * 12 := flat_len prc 12 prc_length l

structure Ps (w : World) (A : Option Addr) (l : List Pr) : Prop where
  rd : Rd w A (prCells l)
  rows : ∀ x ∈ l, Rd w x.A (spCells x.rain)
theorem Ps.below {B : Nat} {A : Option Addr} {l : List Pr} {w w' : World} (h : Ps w A l) (hB : w.heap.size ≤ B) (hb : Below B w w') : Ps w' A l := ⟨h.rd.below hB hb, fun x hx => (h.rows x hx).below hB hb⟩
theorem Ps.bel {V : World} {A : Option Addr} {l : List Pr} (h : Ps V A l) (y : BelW V) : Ps y.w A l := h.below (Nat.le_refl _) y.2
def pr (l : List Pr) (k : Nat) : Pr := l.getD k ⟨undef, undef, undef, undef, undef, undef, undef, undef, undef, undef, undef, none, 0, []⟩
theorem pr_at {l : List Pr} {i : Nat} (h : i < l.length) : pr l i = l[i] := by simp [pr, List.getD, h]
theorem Ps.at {A : Option Addr} {l : List Pr} {w : World} (h : Ps w A l) {k : Nat} (hk : k < l.length) :
    ∃ ad b o, A = some ad ∧ b < w.heap.size ∧ ad.add (k * 12) = ⟨b, o, none⟩ ∧ w.rangeAt b o (prc (pr l k)) ∧ Rd w (pr l k).A (spCells (pr l k).rain) := by
  rw [pr_at hk]
  obtain ⟨ad, b, o, e, hb, hE, hr⟩ := Rd.row prc 12 prc_length (by omega) h.rd hk
  exact ⟨ad, b, o, e, hb, hE, hr, h.rows _ (List.getElem_mem hk)⟩
/-- what falls where -/
def PrOk (x : Pr) : Prop := x.rain.length ≤ 9223372036854775807 ∧ ∀ c ∈ x.rain, Fit2 c

/-! the rain on a place -/
def meshStep (f : Sp → Int) (cs : List Sp) (s : Int) (c : Sp) : Int := if 0 ≤ c.1 ∧ c.1 < (cs.length : Int) then Xa.add s (litF (f (gs cs c.1.toNat)) c.2) else s
def meshS (f : Sp → Int) (cs rain : List Sp) : Int := rain.foldl (meshStep f cs) 0
def meshF (f : Sp → Int) (cs rain : List Sp) : Int := min (meshS f cs rain) 1125899906842624
def meshP (cs rain : List Sp) : Sp := (meshF Prod.fst cs rain, meshF Prod.snd cs rain)
def meshL (cs : List Sp) (ps : List Pr) : List Sp := ps.map fun p => meshP cs p.rain
theorem meshS_snoc (f : Sp → Int) (cs rain : List Sp) (c : Sp) : meshS f cs (rain ++ [c]) = meshStep f cs (meshS f cs rain) c := by
  unfold meshS
  rw [List.foldl_append]; rfl
theorem meshS_take (f : Sp → Int) (cs : List Sp) {rain : List Sp} {k : Nat} (hk : k < rain.length) : meshS f cs (rain.take (k + 1)) = meshStep f cs (meshS f cs (rain.take k)) (gs rain k) := by
  rw [List.take_succ_eq_append_getElem hk, meshS_snoc, gs_at hk]
theorem list_snoc {α : Type} {R : List α → Prop} (h0 : R []) (hs : ∀ l x, R l → R (l ++ [x])) (l : List α) : R l := by
  have h : ∀ m : List α, R m.reverse := fun m => by
    induction m with
    | nil => exact h0
    | cons x m ih => rw [List.reverse_cons]; exact hs _ _ ih
  have := h l.reverse
  rwa [List.reverse_reverse] at this
theorem meshS_fit (f : Sp → Int) (cs rain : List Sp) : Fit (meshS f cs rain) := by
  refine list_snoc (R := fun r => Fit (meshS f cs r)) (by unfold meshS Fit; simp) (fun l x ih => ?_) rain
  rw [meshS_snoc]
  unfold meshStep
  split
  · exact Xa.add_bd _ _
  · exact ih

/-! the rain in a cell -/
def ofR (G : List Gg) (r : Rg) (i : Nat) : Prop := 0 ≤ r.g ∧ r.g < (G.length : Int) ∧ (gg G r.g.toNat).kind = 1 ∧ (gg G r.g.toNat).tgt = (i : Int)
instance (G : List Gg) (r : Rg) (i : Nat) : Decidable (ofR G r i) := by unfold ofR; exact inferInstance
def meets (s : Sp) (r : Rg) : Prop := r.lo ≤ r.hi ∧ max s.1 r.lo ≤ min s.2 r.hi
instance (s : Sp) (r : Rg) : Decidable (meets s r) := by unfold meets; exact inferInstance
def cellStep (G : List Gg) (i : Nat) (s : Sp) (r : Rg) : Sp := if ofR G r i ∧ meets s r then (max s.1 r.lo, min s.2 r.hi) else s
def cellAt (G : List Gg) (radar : List Int) (p : Int) (rs : List Rg) (i : Nat) : Sp := rs.foldl (cellStep G i) (radLo (gi radar i) p, radHi (gi radar i) p)
def cellN (c : Int) : Nat := (max 0 (min c 64)).toNat
def cellsL (G : List Gg) (radar : List Int) (p : Int) (rs : List Rg) (n : Nat) : List Sp := (List.range n).map (cellAt G radar p rs)
theorem cellsL_length (G : List Gg) (radar : List Int) (p : Int) (rs : List Rg) (n : Nat) : (cellsL G radar p rs n).length = n := by simp [cellsL]
theorem cellsL_at (G : List Gg) (radar : List Int) (p : Int) (rs : List Rg) {n i : Nat} (h : i < n) : gs (cellsL G radar p rs n) i = cellAt G radar p rs i := gs_map h
theorem cellAt_snoc (G : List Gg) (radar : List Int) (p : Int) (rs : List Rg) (r : Rg) (i : Nat) : cellAt G radar p (rs ++ [r]) i = cellStep G i (cellAt G radar p rs i) r := by
  unfold cellAt
  rw [List.foldl_append]; rfl
theorem cellAt_take (G : List Gg) (radar : List Int) (p : Int) {rs : List Rg} {k : Nat} (hk : k < rs.length) (i : Nat) : cellAt G radar p (rs.take (k + 1)) i = cellStep G i (cellAt G radar p (rs.take k) i) (rg rs k) := by
  rw [List.take_succ_eq_append_getElem hk, cellAt_snoc, rg_at hk]
theorem rad_fit (v p : Int) : Fit2 (radLo v p, radHi v p) := by
  obtain ⟨_, h1, h2⟩ := rad_lo v p
  obtain ⟨h3, h4, _, _⟩ := rad_bd v p
  refine ⟨⟨by show _ ≤ radLo v p; omega, by show radLo v p ≤ _; omega⟩, ?_⟩
  show Fit (radHi v p)
  unfold Fit
  rcases rad_hi v p with ⟨_, h⟩ | ⟨q, r, _, h5, h6, _, _, h⟩
  · omega
  · split at h <;> omega
theorem cellAt_fit (G : List Gg) (radar : List Int) (p : Int) (rs : List Rg) (i : Nat) (hrs : ∀ r ∈ rs, RgOk r) : Fit2 (cellAt G radar p rs i) := by
  revert hrs
  refine list_snoc (R := fun rs => (∀ r ∈ rs, RgOk r) → Fit2 (cellAt G radar p rs i)) (fun _ => rad_fit _ _) (fun l x ih h => ?_) rs
  rw [cellAt_snoc]
  have ih' := ih fun r hr => h r (List.mem_append_left _ hr)
  unfold cellStep
  split
  · obtain ⟨_, hl, hh⟩ := h x (by simp)
    obtain ⟨⟨a1, a2⟩, ⟨a3, a4⟩⟩ := ih'
    exact ⟨⟨by show _ ≤ max _ _; have := hl.1; omega, by show max _ _ ≤ _; have := hl.2; omega⟩, ⟨by show _ ≤ min _ _; have := hh.1; omega, by show min _ _ ≤ _; have := hh.2; omega⟩⟩
  · exact ih'
/-- a reading changes its own cell alone -/
theorem cells_none {G : List Gg} {radar : List Int} {p : Int} {rs : List Rg} {n k : Nat} (hk : k < rs.length) (h : ∀ i, i < n → ¬ (ofR G (rg rs k) i ∧ meets (cellAt G radar p (rs.take k) i) (rg rs k))) : cellsL G radar p (rs.take (k + 1)) n = cellsL G radar p (rs.take k) n :=
  gs_ext (by rw [cellsL_length, cellsL_length]) fun i hi => by
    rw [cellsL_length] at hi
    rw [cellsL_at _ _ _ _ hi, cellsL_at _ _ _ _ hi, cellAt_take _ _ _ hk]
    unfold cellStep
    rw [if_neg (h i hi)]
theorem cells_put {G : List Gg} {radar : List Int} {p : Int} {rs : List Rg} {n k t : Nat} (hk : k < rs.length) (hof : ofR G (rg rs k) t) (hm : meets (cellAt G radar p (rs.take k) t) (rg rs k)) :
    cellsL G radar p (rs.take (k + 1)) n = (cellsL G radar p (rs.take k) n).set t (max (cellAt G radar p (rs.take k) t).1 (rg rs k).lo, min (cellAt G radar p (rs.take k) t).2 (rg rs k).hi) :=
  gs_ext (by rw [cellsL_length, List.length_set, cellsL_length]) fun i hi => by
    rw [cellsL_length] at hi
    rw [cellsL_at _ _ _ _ hi, cellAt_take _ _ _ hk]
    unfold cellStep
    by_cases e : i = t
    · subst e
      rw [if_pos ⟨hof, hm⟩]
      simp [gs, List.getD, cellsL_length, hi]
    · have : ¬ ofR G (rg rs k) i := fun h => e (by have h1 := h.2.2.2; have h2 := hof.2.2.2; omega)
      rw [if_neg fun h => this h.1]
      rw [← cellsL_at _ _ _ _ hi]
      simp [gs, List.getD, Ne.symm e]

/-! the sum -/
def sumL (l : List Sp) : Sp := l.foldl (fun s x => (Xa.add s.1 x.1, Xa.add s.2 x.2)) (0, 0)
theorem sumL_snoc (l : List Sp) (x : Sp) : sumL (l ++ [x]) = (Xa.add (sumL l).1 x.1, Xa.add (sumL l).2 x.2) := by
  unfold sumL
  rw [List.foldl_append]; rfl
theorem sumL_take {l : List Sp} {k : Nat} (hk : k < l.length) : sumL (l.take (k + 1)) = (Xa.add (sumL (l.take k)).1 (gs l k).1, Xa.add (sumL (l.take k)).2 (gs l k).2) := by
  rw [List.take_succ_eq_append_getElem hk, sumL_snoc, gs_at hk]
theorem sumL_fit (l : List Sp) : Fit2 (sumL l) := by
  refine list_snoc (R := fun r => Fit2 (sumL r)) (by unfold sumL Fit2 Fit; simp) (fun l x ih => ?_) l
  rw [sumL_snoc]
  exact ⟨Xa.add_bd _ _, Xa.add_bd _ _⟩

end Go.Proofs.Ytafnmaojpheppaa
