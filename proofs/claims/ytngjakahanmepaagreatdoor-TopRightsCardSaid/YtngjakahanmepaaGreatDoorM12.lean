/- Part 12 of the proof of TopRights: Rows of structs in memory, rows that a call made. No walk. -/
import Derived.Test.YtngjakahanmepaaGreatDoorM10
import Derived.Test.YtngjakahanmepaaGreatDoorM11
namespace Go.Proofs.YtngjakahanmepaaGreatDoor
open Go.RowKit
set_option linter.unusedVariables false
set_option linter.unusedSimpArgs false
theorem add_off (ad : Addr) (i j : Nat) (h : 0 < j) : (⟨(ad.add i).block, (ad.add i).off + j, none⟩ : Addr) = ad.add (i + j) := by
  unfold Addr.add
  by_cases hi : i = 0
  · subst hi; simp [show j ≠ 0 by omega]
  · simp [hi, show i + j ≠ 0 by omega, Nat.add_assoc]
/-- the element k of a row, where it lies -/
theorem Rd.row {α : Type} (f : α → List Value) (K : Nat) (hfl : ∀ x, (f x).length = K) (hK : 0 < K) {A : Option Addr} {l : List α} {w : World} (h : Rd w A (l.flatMap f)) {k : Nat} (hk : k < l.length) :
    ∃ ad b o, A = some ad ∧ b < w.heap.size ∧ ad.add (k * K) = ⟨b, o, none⟩ ∧ w.rangeAt b o (f l[k]) := by
  have h1 : (k + 1) * K ≤ l.length * K := Nat.mul_le_mul_right K hk
  rw [Nat.add_mul] at h1
  obtain ⟨ad, e, hb, hc⟩ := h (by rw [flat_len f K hfl]; omega)
  have hget : ∀ j, j < K → (l.flatMap f)[k * K + j]? = (f l[k])[j]? := fun j hj => flat_get f K hfl l k j hk hj
  have h00 : (f l[k])[0]? = some ((f l[k])[0]'(by rw [hfl]; exact hK)) := List.getElem?_eq_getElem _
  have hc0 := hc (k * K + 0) _ ((hget 0 hK).trans h00)
  have hsp : (ad.add (k * K)).spot = none := by
    rw [Nat.add_zero] at hc0
    unfold World.cell? at hc0
    cases hh : w.heap[(ad.add (k * K)).block]? with
    | none => rw [hh] at hc0; cases hc0
    | some ob =>
      rw [hh] at hc0
      cases ob <;> simp at hc0
      cases hs : (ad.add (k * K)).spot with
      | none => rfl
      | some s => rw [hs] at hc0; simp at hc0
  have hE : ad.add (k * K) = ⟨(ad.add (k * K)).block, (ad.add (k * K)).off, none⟩ := by rw [← hsp]
  refine ⟨ad, _, _, e, by rw [add_block]; exact hb, hE, fun j v hv => ?_⟩
  have hj : j < K := by have := (List.getElem?_eq_some_iff.1 hv).1; rwa [hfl] at this
  rcases Nat.eq_zero_or_pos j with rfl | h0
  · have := hc (k * K + 0) v ((hget 0 hj).trans hv)
    rw [Nat.add_zero, hE] at this
    exact this
  · rw [add_off _ _ _ h0]
    exact hc _ _ ((hget j hj).trans hv)
/-! spans (and cells of places) -/
abbrev Sp := Int × Int
def spc (p : Sp) : List Value := [.int .i64 p.1, .int .i64 p.2]
theorem spc_length (p : Sp) : (spc p).length = 2 := rfl
def spCells (l : List Sp) : List Value := l.flatMap spc
theorem spCells_snoc (l : List Sp) (p : Sp) : spCells (l ++ [p]) = spCells l ++ spc p := by simp [spCells]
def gs (l : List Sp) (i : Nat) : Sp := l.getD i (0, 0)
theorem gs_at {l : List Sp} {i : Nat} (h : i < l.length) : gs l i = l[i] := by simp [gs, List.getD, h]
theorem Rd.span {A : Option Addr} {l : List Sp} {w : World} (h : Rd w A (spCells l)) {k : Nat} (hk : k < l.length) :
    ∃ ad b o, A = some ad ∧ b < w.heap.size ∧ ad.add (k * 2) = ⟨b, o, none⟩ ∧ w.cell? ⟨b, o, none⟩ = some (.int .i64 (gs l k).1) ∧ w.cell? ⟨b, o + 1, none⟩ = some (.int .i64 (gs l k).2) := by
  obtain ⟨ad, b, o, e, hb, hE, hr⟩ := Rd.row spc 2 spc_length (by omega) h hk
  rw [gs_at hk]
  exact ⟨ad, b, o, e, hb, hE, hr 0 _ rfl, hr 1 _ rfl⟩
theorem own_base {w : World} {B B' : Nat} {e : TypeId} {size : Nat} {v : Value} {n : Nat} {xs : List Value} (h : w.ownsRow B e size v n xs) (hb : B' ≤ B) : w.ownsRow B' e size v n xs := by
  refine ⟨h.1, ?_⟩
  rcases h.2 with h0 | ⟨g, cap, cur, h1, h2, h3⟩
  · exact .inl h0
  · exact .inr ⟨g, cap, cur, h1, Nat.le_trans hb h2, h3⟩
theorem own_below {u u' : World} {base : Nat} {e : TypeId} {size : Nat} {v : Value} {n : Nat} {xs : List Value} (h : u.ownsRow base e size v n xs) (hb : Below u.heap.size u u') : u'.ownsRow base e size v n xs := own_bel h ⟨u', hb⟩
theorem own_slice {w : World} {base : Nat} {e : TypeId} {size : Nat} {v : Value} {n : Nat} {xs : List Value} (h : w.ownsRow base e size v n xs) : ∃ A c, v = .slice A n c ∧ (A = none → c = 0) ∧ Rd w A xs := by
  rcases Nat.eq_zero_or_pos n with h0 | h0
  · subst h0
    have hx : xs = [] := List.eq_nil_of_length_eq_zero (by have := h.1; simpa using this)
    subst hx
    rcases h.2 with ⟨rfl, _⟩ | ⟨g, cap, cur, rfl, _⟩
    · exact ⟨none, 0, rfl, fun _ => rfl, Rd.nil _ _⟩
    · exact ⟨_, _, rfl, (fun h => by cases h), Rd.nil _ _⟩
  · obtain ⟨g, cap, rfl, hr⟩ := own_rd h h0
    exact ⟨_, _, rfl, (fun h => by cases h), hr⟩
theorem rd_row {A : Option Addr} {l : List Int} {w : World} (h : Rd w A (ints l)) {k : Nat} (hk : k < l.length) : ∃ ad, A = some ad ∧ w.cell? (ad.add k) = some (.int .i64 (gi l k)) := by
  obtain ⟨ad, u, e, _, hu, hc⟩ := h.at (k := k) (by rw [ints_length]; exact hk)
  rw [ints_at hk] at hu
  cases hu
  exact ⟨ad, e, hc⟩
def Apart (u v : Value) : Prop := ∀ g, u.ownBlock = some g → v.ownBlock = some g → False
theorem Apart.symm {u v : Value} (h : Apart u v) : Apart v u := fun g a b => h g b a
theorem Apart.keep {u v : Value} (h : Apart u v) : v.ownBlock = none ∨ v.ownBlock ≠ u.ownBlock := by
  cases hv : v.ownBlock with
  | none => exact .inl rfl
  | some g => exact .inr fun e => h g e.symm hv
theorem rd_new (w : World) (l : List Value) (t : TypeId) : Rd (w.alloc (.cells l.toArray t)) (some ⟨w.heap.size, 0, none⟩) l := fun _ => by
  refine ⟨⟨w.heap.size, 0, none⟩, rfl, by rw [World.size_alloc]; exact Nat.lt_succ_self _, fun j u hu => ?_⟩
  exact World.news_of_block (cs := l.toArray) (t := t) (fr := (0, 0)) (heap_alloc_new w _) j u (by simpa using hu)
theorem rangeXo {V : World} {b o : Nat} {cs : List Value} (h : V.rangeAt b o cs) : ∀ w, (∃ y : BelW V, w = y.w) → w.rangeAt b o cs := fun _ ⟨y, e⟩ j v hv => e ▸ BelW.cells (h j v hv) y
theorem range_bel {V : World} {b o : Nat} {cs : List Value} (h : V.rangeAt b o cs) (y : BelW V) : y.w.rangeAt b o cs := fun j v hv => BelW.cells (h j v hv) y
theorem ints_snoc (R : List Int) (v : Int) : ints (R ++ [v]) = ints R ++ [.int .i64 v] := by simp [ints]
/-- a row of whole numbers that the call has made -/
def InPost (l : List Int) (w : World) (e : Ending) (w' : World) : Prop := ∃ A c, e = .returned (.slice A l.length c) ∧ (A = none → c = 0) ∧ w'.ownsRow w.heap.size 3 1 (.slice A l.length c) l.length (ints l) ∧ Rd w' A (ints l) ∧ Below w.heap.size w w'
theorem InPost.of {l : List Int} {w w' V : World} {v : Value} {n : Nat} (hn : l.length = n) (h : w'.ownsRow V.heap.size 3 1 v n (ints l)) (hV : w.heap.size ≤ V.heap.size) (hb : Below w.heap.size w w') : InPost l w (.returned v) w' := by
  subst hn
  obtain ⟨A, c, rfl, hA, hr⟩ := own_slice h
  exact ⟨A, c, rfl, hA, own_base h hV, hr, hb⟩
end Go.Proofs.YtngjakahanmepaaGreatDoor
