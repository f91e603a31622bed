/- reach.Due: what it computes, and the memory that it makes. -/
import Derived.Test.YthbjechgdjcogaaSame18
import Derived.Test.YthbjechgdjcogaaKtail
namespace Go.Proofs.Ythbjechgdjcogaa
open Go.RowKit
set_option linter.unusedVariables false
set_option linter.unusedSimpArgs false

theorem info_ints : (Try.prog.info? 29).map (fun i => (i.zero, i.size, i.bytes)) = some (some (.slice none 0 0), 1, 24) := by kernel_rfl

/-! what it computes -/
def dueB (h p : Int) (x : Int × Int × List Int) : Bool := decide (x.1 ≤ h) && decide (0 ≤ x.2.1) && decide (x.2.1 < p)
def addV (s q : List Int) : List Int := addF (max s.length q.length) s q
def rowK (O : Nat) (h p : Int) (pl : Nat) (K : List (Int × Int × List Int)) : List Int := K.foldl (fun s x => if dueB h p x = true ∧ x.2.1 = (pl : Int) then addV s x.2.2 else s) (gl O fun _ => 0)
def restK (h p : Int) (K : List (Int × Int × List Int)) : List (Int × Int × List Int) := K.filter fun x => !dueB h p x
theorem rowK_nil (O : Nat) (h p : Int) (pl : Nat) : rowK O h p pl [] = gl O fun _ => 0 := rfl
theorem rowK_snoc (O : Nat) (h p : Int) (pl : Nat) (K : List (Int × Int × List Int)) (x : Int × Int × List Int) : rowK O h p pl (K ++ [x]) = if dueB h p x = true ∧ x.2.1 = (pl : Int) then addV (rowK O h p pl K) x.2.2 else rowK O h p pl K := by
  unfold rowK
  rw [List.foldl_append]; rfl
theorem restK_snoc (h p : Int) (K : List (Int × Int × List Int)) (x : Int × Int × List Int) : restK h p (K ++ [x]) = if dueB h p x = true then restK h p K else restK h p K ++ [x] := by
  unfold restK
  rw [List.filter_append]
  cases hd : dueB h p x <;> simp [hd]
theorem addV_length (s q : List Int) : (addV s q).length = max s.length q.length := gl_length _ _
theorem list_snoc {α : Type} {R : List α → Prop} (h0 : R []) (hs : ∀ l x, R l → R (l ++ [x])) (l : List α) : R l := by
  rw [← List.take_length (l := l)]
  generalize l.length = n
  induction n with
  | zero => simpa using h0
  | succ n ih =>
    by_cases hn : n < l.length
    · rw [List.take_succ_eq_append_getElem hn]; exact hs _ _ ih
    · rw [List.take_of_length_le (by omega)] at ih ⊢; exact ih
theorem rowK_len {O : Nat} {h p : Int} {pl : Nat} (hO : O ≤ 1000) (K : List (Int × Int × List Int)) (hK : ∀ x ∈ K, x.2.2.length ≤ 1000) : (rowK O h p pl K).length ≤ 1000 := by
  revert hK
  refine list_snoc (R := fun K => (∀ x ∈ K, x.2.2.length ≤ 1000) → (rowK O h p pl K).length ≤ 1000) (fun _ => by rw [rowK_nil, gl_length]; exact hO) (fun l x ih hK => ?_) K
  rw [rowK_snoc]
  have := ih fun y hy => hK y (List.mem_append.2 (.inl hy))
  have := hK x (List.mem_append.2 (.inr (List.mem_singleton.2 rfl)))
  split
  · rw [addV_length]; omega
  · assumption
theorem gl_fit {n : Nat} {f : Nat → Int} (h : ∀ i, Fit (f i)) (i : Nat) : Fit (gi (gl n f) i) := by
  by_cases hi : i < n
  · rw [gl_at hi]; exact h i
  · rw [gi_out (by rw [gl_length]; omega)]; unfold Fit; omega
theorem rowK_fit {O : Nat} {h p : Int} {pl : Nat} (K : List (Int × Int × List Int)) : ∀ i, Fit (gi (rowK O h p pl K) i) := by
  refine list_snoc (R := fun K => ∀ i, Fit (gi (rowK O h p pl K) i)) (fun i => by rw [rowK_nil]; exact gl_fit (fun _ => by unfold Fit; omega) i) (fun l x ih => ?_) K
  rw [rowK_snoc]
  split
  · exact fun i => gl_fit (fun j => Xa.add_bd _ _) i
  · exact ih
theorem restK_le (h p : Int) (K : List (Int × Int × List Int)) : (restK h p K).length ≤ K.length := List.length_filter_le _ _
theorem keys_take {l : List Ld} {k : Nat} (hk : k < l.length) : keys (l.take (k + 1)) = keys (l.take k) ++ [(l[k]).key] := by
  rw [List.take_succ_eq_append_getElem hk, keys_snoc]

/-! the memory -/
theorem own_ne {w : World} {B B' : Nat} {e e' : TypeId} {size size' : Nat} {v v' : Value} {n n' : Nat} {xs xs' : List Value} (h : w.ownsRow B e size v n xs) (h' : w.ownsRow B' e' size' v' n' xs') (hne : e ≠ e') : v.ownBlock = none ∨ v.ownBlock ≠ v'.ownBlock := by
  rcases h.2 with ⟨rfl, _⟩ | ⟨g, cap, cur, rfl, _, hg, _⟩
  · exact .inl rfl
  right
  rcases h'.2 with ⟨rfl, _⟩ | ⟨g', cap', cur', rfl, _, hg', _⟩
  · simp [Value.ownBlock]
  · intro he
    have : g = g' := by simpa [Value.ownBlock] using he
    subst this
    rw [hg] at hg'
    injection hg' with hg'
    injection hg' with _ ht
    exact hne ht
theorem own_next {w w' : World} {B : Nat} {e : TypeId} {size : Nat} {v : Value} {n : Nat} {xs : List Value} (h : w.ownsRow B e size v n xs) (hb : Below w.heap.size w w') : w'.ownsRow B e size v n xs := own_bel h ⟨w', hb⟩
theorem own_none {w w' : World} {B : Nat} {e : TypeId} {size : Nat} {v : Value} {n : Nat} {xs : List Value} (h : w.ownsRow B e size v n xs) (hg : w.grownBy w' none) : w'.ownsRow B e size v n xs := h.kept hg (by cases v.ownBlock <;> simp)
theorem own_base {w : World} {B B' : Nat} {e : TypeId} {size : Nat} {v : Value} {n : Nat} {xs : List Value} (h : w.ownsRow B e size v n xs) (hb : B' ≤ B) : w.ownsRow B' e size v n xs := by
  refine ⟨h.1, ?_⟩
  rcases h.2 with hn | ⟨g, cap, cur, e1, hg, r⟩
  · exact .inl hn
  · exact .inr ⟨g, cap, cur, e1, Nat.le_trans hb hg, r⟩
theorem own_shape {w : World} {B : Nat} {e : TypeId} {v : Value} {n : Nat} {xs : List Int} (h : w.ownsRow B e 1 v n (ints xs)) : ∃ A c, v = .slice A n c ∧ Rd w A (ints xs) := by
  by_cases hn : 0 < n
  · obtain ⟨g, cap, rfl, hb, hl⟩ := h.form hn
    exact ⟨_, _, rfl, fun _ => ⟨⟨g, 0, none⟩, rfl, hl, fun j u hu => h.cells (g := g) rfl j u hu⟩⟩
  · have hl : (ints xs).length = 0 := by have := h.1; omega
    have hr : ∀ A, Rd w A (ints xs) := fun A h0 => by omega
    rcases h.2 with ⟨rfl, rfl⟩ | ⟨g, cap, cur, rfl, _⟩
    · exact ⟨_, _, rfl, hr _⟩
    · exact ⟨_, _, rfl, hr _⟩
def ownI (w : World) (B : Nat) (A : Option Addr) (c : Nat) (p : List Int) : Prop := w.ownsRow B 3 1 (.slice A p.length c) p.length (ints p)
theorem ownI.rd {w : World} {B : Nat} {A : Option Addr} {c : Nat} {p : List Int} (h : ownI w B A c p) : Rd w A (ints p) := by
  obtain ⟨A', c', e, hr⟩ := own_shape h
  cases e; exact hr
theorem ownI.cap {w : World} {B : Nat} {A : Option Addr} {c : Nat} {p : List Int} (h : ownI w B A c p) : (A = none → c = 0) ∧ p.length ≤ c := by
  have hl := h.1
  rcases h.2 with ⟨e, e2⟩ | ⟨g, cap, cur, e, _, _, hc, _⟩
  · injection e with e1 e3 e4; exact ⟨fun _ => e4, by omega⟩
  · injection e with e1 e3 e4; exact ⟨(fun h => by rw [h] at e1; cases e1), by omega⟩
/-- the outer row G of P rows, and the rows -/
structure DuM (V : World) (G P : Nat) (rows : List Rw) (w : World) : Prop where
  bel : Below V.heap.size V w
  top : w.ownsRow V.heap.size 29 1 (.slice (some ⟨G, 0, none⟩) P P) P (rwCells rows)
  rows : ∀ x ∈ rows, ownI w V.heap.size x.A x.c x.part
theorem DuM.len {V : World} {G P : Nat} {rows : List Rw} {w : World} (h : DuM V G P rows w) : rows.length = P := by have := h.top.1; rw [rwCells_length] at this; omega
theorem DuM.lt {V : World} {G P : Nat} {rows : List Rw} {w : World} (h : DuM V G P rows w) : V.heap.size ≤ G ∧ G < w.heap.size := World.ownsRow.lt h.top G rfl
theorem DuM.next {V : World} {G P : Nat} {rows : List Rw} {w w' : World} (h : DuM V G P rows w) (hb : Below w.heap.size w w') : DuM V G P rows w' :=
  ⟨below_next h.bel hb, own_next h.top hb, fun x hx => own_next (h.rows x hx) hb⟩
theorem rwCells_set (rows : List Rw) (k : Nat) (x : Rw) : (rwCells rows).set k (rwc x) = rwCells (rows.set k x) := by unfold rwCells; rw [List.map_set]
theorem DuM.store {V : World} {G P : Nat} {rows : List Rw} {w : World} (h : DuM V G P rows w) (k : Nat) (x : Rw) (hx : ownI w V.heap.size x.A x.c x.part) : DuM V G P (rows.set k x) (w.setCell ⟨G, k, none⟩ (rwc x)) := by
  have hg := grown_set w G k (rwc x)
  have hk : ∀ y : Rw, ownI w V.heap.size y.A y.c y.part → ownI (w.setCell ⟨G, k, none⟩ (rwc x)) V.heap.size y.A y.c y.part := fun y hy =>
    hy.kept hg (by have := own_ne hy h.top (by decide); simpa [Value.ownBlock] using this)
  refine ⟨h.bel.setCell (p := ⟨G, k, none⟩) h.lt.1 _, by rw [← rwCells_set]; exact (World.ownsRow.stored h.top k (rwc x)).1, fun y hy => ?_⟩
  rcases List.mem_or_eq_of_mem_set hy with h1 | h1
  · exact hk y (h.rows y h1)
  · subst h1; exact hk y hx
theorem DuM.at {V : World} {G P : Nat} {rows : List Rw} {w : World} (h : DuM V G P rows w) {k : Nat} (hk : k < rows.length) : w.cell? ⟨G, k, none⟩ = some (rwc rows[k]) ∧ w.frozen? ⟨G, k, none⟩ = false := by
  refine ⟨?_, World.ownsRow.frozenAt h.top k⟩
  rw [World.ownsRow.cellAt h.top k (by have := h.len; omega)]
  simp [rwCells, hk]
theorem DuM.app {V : World} {G P : Nat} {rows : List Rw} {w w' : World} (h : DuM V G P rows w) {B n : Nat} {v : Value} {xs : List Value} (ho : w.ownsRow B 53 3 v n xs) (hb : V.heap.size ≤ B) (hg : w.grownBy w' v.ownBlock) : DuM V G P rows w' :=
  ⟨h.bel.grown hg h.bel.size (fun k hk => Nat.le_trans hb (ho.lt k hk).1), h.top.kept hg (own_ne h.top ho (by decide)), fun x hx => (h.rows x hx).kept hg (own_ne (h.rows x hx) ho (by decide))⟩
theorem DuM.mx {V : World} {G P : Nat} {rows : List Rw} {w : World} (h : DuM V G P rows w) : Mx w (some ⟨G, 0, none⟩) rows :=
  ⟨fun _ => ⟨⟨G, 0, none⟩, rfl, h.lt.2, fun j u hu => World.ownsRow.cells h.top (g := G) rfl j u hu⟩, fun x hx => (h.rows x hx).rd⟩

/-- the queue that remains, under way -/
structure ReM (V : World) (A : Option Addr) (l : List Ld) (v : Value) (w : World) : Prop where
  top : (l = [] ∧ v = .slice A 0 0) ∨ (0 < l.length ∧ w.ownsRow V.heap.size 53 3 v l.length (ldCells l))
  parts : ∀ x ∈ l, ownI w V.heap.size x.A x.c x.part
theorem ReM.next {V : World} {A : Option Addr} {l : List Ld} {v : Value} {w w' : World} (h : ReM V A l v w) (hb : Below w.heap.size w w') : ReM V A l v w' :=
  ⟨h.top.imp id (fun ⟨h0, h1⟩ => ⟨h0, own_next h1 hb⟩), fun x hx => own_next (h.parts x hx) hb⟩
theorem ReM.store {V : World} {A : Option Addr} {l : List Ld} {v : Value} {w : World} (h : ReM V A l v w) {G P : Nat} {rows : List Rw} (hd : DuM V G P rows w) (k : Nat) (u : Value) : ReM V A l v (w.setCell ⟨G, k, none⟩ u) := by
  have hg := grown_set w G k u
  have ne1 : ∀ {B : Nat} {e : TypeId} {size : Nat} {v : Value} {n : Nat} {xs : List Value}, w.ownsRow B e size v n xs → e ≠ 29 → v.ownBlock = none ∨ v.ownBlock ≠ some G := fun ho hne => by have := own_ne ho hd.top hne; simpa [Value.ownBlock] using this
  exact ⟨h.top.imp id (fun ⟨h0, h1⟩ => ⟨h0, h1.kept hg (ne1 h1 (by decide))⟩), fun x hx => (h.parts x hx).kept hg (ne1 (h.parts x hx) (by decide))⟩
/-- what is handed back -/
theorem ReM.qu {V : World} {A : Option Addr} {l : List Ld} {v : Value} {w : World} (h : ReM V A l v w) : ∃ B c, v = .slice B l.length c ∧ (A = none → B = none → c = 0) ∧ (B = none → c = 0) ∧ l.length ≤ c ∧ Qu w B l := by
  rcases h.top with ⟨rfl, rfl⟩ | ⟨h0, h1⟩
  · exact ⟨A, 0, rfl, fun _ _ => rfl, fun _ => rfl, Nat.le_refl _, Qu.nil _ _⟩
  · obtain ⟨g, cap, rfl, hc, _, _, _, hr⟩ := own_rd2 h1 h0
    exact ⟨_, cap, rfl, (fun _ h => by cases h), (fun h => by cases h), hc, hr, fun x hx => (h.parts x hx).rd⟩

def DuePost (O P : Nat) (h p : Int) (K : List (Int × Int × List Int)) (w : World) (e : Ending) (w' : World) : Prop :=
  ∃ A c B d rows l, e = .returned (.tuple #[.slice A P c, .slice B l.length d]) ∧ P ≤ c ∧ parts rows = (List.range P).map (fun pl => rowK O h p pl K) ∧ keys l = restK h p K ∧ QOk l ∧ (B = none → d = 0) ∧ l.length ≤ d ∧ (∀ x ∈ rows, (x.A = none → x.c = 0) ∧ x.part.length ≤ x.c) ∧ Mx w' A rows ∧ Qu w' B l ∧ Below w.heap.size w w'

end Go.Proofs.Ythbjechgdjcogaa
