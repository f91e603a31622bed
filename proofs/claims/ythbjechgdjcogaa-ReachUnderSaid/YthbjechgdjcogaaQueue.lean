/- Queues of loads in memory. -/
import Derived.Test.YthbjechgdjcogaaPoolI
namespace Go.Proofs.Ythbjechgdjcogaa
open Go.RowKit
set_option linter.unusedVariables false
set_option linter.unusedSimpArgs false

/-- rows of k cells each -/
theorem flat_length {α : Type} (f : α → List Value) (n : Nat) (hf : ∀ x, (f x).length = n) : ∀ l : List α, (l.flatMap f).length = l.length * n
  | [] => by simp
  | x :: l => by rw [List.flatMap_cons, List.length_append, hf, flat_length f n hf l, List.length_cons, Nat.add_mul]; omega
theorem flat_at {α : Type} (f : α → List Value) (n : Nat) (hf : ∀ x, (f x).length = n) : ∀ (l : List α) (k j : Nat) (h : k < l.length), j < n → (l.flatMap f)[k * n + j]? = (f l[k])[j]?
  | x :: l, 0, j, _, hj => by
    rw [List.flatMap_cons, Nat.zero_mul, Nat.zero_add, List.getElem?_append_left (by rw [hf]; exact hj)]
    rfl
  | x :: l, k + 1, j, h, hj => by
    rw [List.flatMap_cons, List.getElem?_append_right (by rw [hf, Nat.add_mul]; omega), hf, show (k + 1) * n + j - n = k * n + j by rw [Nat.add_mul]; omega]
    exact flat_at f n hf l k j (by simpa using h) hj
theorem flat_drop {α : Type} (f : α → List Value) (n : Nat) (hf : ∀ x, (f x).length = n) : ∀ (k : Nat) (l : List α), (l.drop k).flatMap f = (l.flatMap f).drop (k * n)
  | 0, l => by simp
  | k + 1, [] => by simp
  | k + 1, x :: l => by
    rw [List.drop_succ_cons, flat_drop f n hf k l, List.flatMap_cons, show (k + 1) * n = n + k * n by rw [Nat.add_mul]; omega, ← List.drop_drop, List.drop_left' (hf x)]
theorem flat_take {α : Type} (f : α → List Value) (l : List α) {k : Nat} (hk : k < l.length) : (l.take (k + 1)).flatMap f = (l.take k).flatMap f ++ f l[k] := by
  rw [List.take_succ_eq_append_getElem hk, List.flatMap_append]
  simp
theorem add_mid (ad : Addr) (i j : Nat) (h : 0 < j) : (⟨(ad.add i).block, (ad.add i).off + j, none⟩ : Addr) = ad.add (i + j) := by
  unfold Addr.add
  by_cases hi : i = 0
  · subst hi; simp [show j ≠ 0 by omega]
  · simp [hi, show i + j ≠ 0 by omega, Nat.add_assoc]

/-- a load: its hour, its place, its parts and where they lie -/
structure Ld where
  hr : Int
  pl : Int
  A : Option Addr
  c : Nat
  part : List Int
def ldc (x : Ld) : List Value := [.int .i64 x.hr, .int .i64 x.pl, .slice x.A x.part.length x.c]
theorem ldc_length (x : Ld) : (ldc x).length = 3 := rfl
def ldCells (l : List Ld) : List Value := l.flatMap ldc
theorem ldCells_length (l : List Ld) : (ldCells l).length = l.length * 3 := flat_length ldc 3 ldc_length l
/-- what a load says -/
def Ld.key (x : Ld) : Int × Int × List Int := (x.hr, x.pl, x.part)
def keys (l : List Ld) : List (Int × Int × List Int) := l.map Ld.key
structure LdOk (x : Ld) : Prop where
  hr : Fit x.hr
  pl : Fit x.pl
  len : x.part.length ≤ maxLen
  fit : ∀ i, i < x.part.length → Fit (gi x.part i)
structure Qu (w : World) (A : Option Addr) (l : List Ld) : Prop where
  rd : Rd w A (ldCells l)
  parts : ∀ x ∈ l, Rd w x.A (ints x.part)
theorem Qu.nil (w : World) (A : Option Addr) : Qu w A [] := ⟨Rd.nil _ _, fun _ h => by cases h⟩
theorem Qu.below {B : Nat} {A : Option Addr} {l : List Ld} {w w' : World} (h : Qu w A l) (hB : w.heap.size ≤ B) (hb : Below B w w') : Qu w' A l := ⟨h.rd.below hB hb, fun x hx => (h.parts x hx).below hB hb⟩
theorem Qu.bel {V : World} {A : Option Addr} {l : List Ld} (h : Qu V A l) (y : BelW V) : Qu y.w A l := h.below (Nat.le_refl _) y.2
theorem Qu.at {w : World} {A : Option Addr} {l : List Ld} (h : Qu w A l) {k : Nat} (hk : k < l.length) :
    ∃ ad, A = some ad ∧ ad.block < w.heap.size ∧ w.cell? (ad.add (k * 3)) = some (.int .i64 (l[k]).hr) ∧ w.cell? ⟨(ad.add (k * 3)).block, (ad.add (k * 3)).off + 1, none⟩ = some (.int .i64 (l[k]).pl)
      ∧ w.cell? ⟨(ad.add (k * 3)).block, (ad.add (k * 3)).off + 2, none⟩ = some (.slice (l[k]).A (l[k]).part.length (l[k]).c) ∧ Rd w (l[k]).A (ints (l[k]).part) := by
  obtain ⟨ad, e, hb, hc⟩ := h.rd (by rw [ldCells_length]; omega)
  have h0 := flat_at ldc 3 ldc_length l k 0 hk (by omega)
  have h1 := flat_at ldc 3 ldc_length l k 1 hk (by omega)
  have h2 := flat_at ldc 3 ldc_length l k 2 hk (by omega)
  refine ⟨ad, e, hb, hc _ _ h0, ?_, ?_, h.parts _ (List.getElem_mem hk)⟩
  · rw [add_mid _ _ _ (by omega)]; exact hc _ _ h1
  · rw [add_mid _ _ _ (by omega)]; exact hc _ _ h2

/-- a row of rows -/
structure Rw where
  A : Option Addr
  c : Nat
  part : List Int
def rwc (x : Rw) : Value := .slice x.A x.part.length x.c
def rwCells (l : List Rw) : List Value := l.map rwc
theorem rwCells_length (l : List Rw) : (rwCells l).length = l.length := by simp [rwCells]
def parts (l : List Rw) : List (List Int) := l.map Rw.part
structure Mx (w : World) (A : Option Addr) (l : List Rw) : Prop where
  rd : Rd w A (rwCells l)
  rows : ∀ x ∈ l, Rd w x.A (ints x.part)
theorem Mx.below {B : Nat} {A : Option Addr} {l : List Rw} {w w' : World} (h : Mx w A l) (hB : w.heap.size ≤ B) (hb : Below B w w') : Mx w' A l := ⟨h.rd.below hB hb, fun x hx => (h.rows x hx).below hB hb⟩
theorem Mx.bel {V : World} {A : Option Addr} {l : List Rw} (h : Mx V A l) (y : BelW V) : Mx y.w A l := h.below (Nat.le_refl _) y.2
theorem Mx.at {w : World} {A : Option Addr} {l : List Rw} (h : Mx w A l) {k : Nat} (hk : k < l.length) :
    ∃ ad, A = some ad ∧ ad.block < w.heap.size ∧ w.cell? (ad.add k) = some (.slice (l[k]).A (l[k]).part.length (l[k]).c) ∧ Rd w (l[k]).A (ints (l[k]).part) := by
  obtain ⟨ad, e, hb, hc⟩ := h.rd (by rw [rwCells_length]; omega)
  exact ⟨ad, e, hb, hc k _ (by simp [rwCells, hk, rwc]), h.rows _ (List.getElem_mem hk)⟩

end Go.Proofs.Ythbjechgdjcogaa
