/- Part 9 of the proof of TopRights: Rows of whole numbers, sums, rows that the call makes: no walk. TopRights: what a day's division does. No walk. pool: right, Total, Add. -/
import Derived.Test.YtngjakahanmepaaGreatDoorM04
import Derived.Test.YtngjakahanmepaaGreatDoorM08
import Derived.OwnWalk
import Derived.Deep.LoopGhost
import Derived.Deep.RegionHeld3
import Derived.Deep.AppendLies
import Derived.Laws.CopyOwn
import Derived.ArgAppend
namespace Go.Proofs.YtngjakahanmepaaGreatDoor
open Go.RowKit
set_option linter.unusedVariables false
set_option linter.unusedSimpArgs false
def su (f : Nat → Int) : Nat → Int
  | 0 => 0
  | n + 1 => su f n + f n
theorem su_congr {f g : Nat → Int} : ∀ {n : Nat}, (∀ i, i < n → f i = g i) → su f n = su g n
  | 0, _ => rfl
  | n + 1, h => by show su f n + f n = su g n + g n; rw [su_congr fun i hi => h i (by omega), h n (by omega)]
theorem su_add (f g : Nat → Int) : ∀ n : Nat, su (fun i => f i + g i) n = su f n + su g n
  | 0 => rfl
  | n + 1 => by show su (fun i => f i + g i) n + (f n + g n) = su f n + f n + (su g n + g n); rw [su_add f g n]; omega
theorem su_mul (c : Int) (f : Nat → Int) : ∀ n : Nat, su (fun i => c * f i) n = c * su f n
  | 0 => (Int.mul_zero c).symm
  | n + 1 => by show su (fun i => c * f i) n + c * f n = c * (su f n + f n); rw [su_mul c f n, Int.mul_add]
theorem su_le {f g : Nat → Int} : ∀ {n : Nat}, (∀ i, i < n → f i ≤ g i) → su f n ≤ su g n
  | 0, _ => Int.le_refl _
  | n + 1, h => by
    have := su_le (n := n) (fun i hi => h i (by omega))
    have := h n (by omega)
    show su f n + f n ≤ su g n + g n
    omega
theorem su_lt {f g : Nat → Int} : ∀ {n : Nat}, (∀ i, i < n → f i ≤ g i) → ∀ {i}, i < n → f i < g i → su f n < su g n
  | 0, _, i, hi, _ => absurd hi (Nat.not_lt_zero _)
  | n + 1, h, i, hi, hlt => by
    show su f n + f n < su g n + g n
    by_cases e : i = n
    · subst e
      have := su_le (n := i) (fun i hi => h i (by omega))
      omega
    · have := su_lt (n := n) (fun i hi => h i (by omega)) (i := i) (by omega) hlt
      have := h n (by omega)
      omega
theorem su_zero : ∀ {n : Nat} {f : Nat → Int}, (∀ i, i < n → f i = 0) → su f n = 0
  | 0, _, _ => rfl
  | n + 1, f, h => by show su f n + f n = 0; rw [su_zero fun i hi => h i (by omega), h n (by omega)]; rfl
theorem su_one {a : Nat} : ∀ {n : Nat}, a < n → su (fun i => if i = a then 1 else 0) n = 1
  | 0, h => absurd h (Nat.not_lt_zero _)
  | n + 1, h => by
    show su (fun i => if i = a then 1 else 0) n + (if n = a then 1 else 0) = 1
    by_cases e : n = a
    · subst e
      rw [su_zero (fun i hi => if_neg (by omega)), if_pos rfl]; rfl
    · rw [su_one (n := n) (by omega), if_neg e]; rfl
theorem su_mem {n : Nat} : ∀ {D : List Nat}, D.Nodup → (∀ a, a ∈ D → a < n) → su (fun i => if i ∈ D then 1 else 0) n = (D.length : Int)
  | [], _, _ => su_zero (fun i _ => if_neg (by simp))
  | a :: D, hd, hm => by
    have hd' := List.nodup_cons.1 hd
    have e : su (fun i => if i ∈ a :: D then 1 else 0) n = su (fun i => (if i = a then 1 else 0) + (if i ∈ D then 1 else 0)) n := su_congr fun i _ => by
      by_cases e1 : i = a
      · subst e1
        rw [if_pos (by simp), if_pos rfl, if_neg hd'.1]; rfl
      · by_cases e2 : i ∈ D
        · rw [if_pos (by simp [e2]), if_neg e1, if_pos e2]; rfl
        · rw [if_neg (by simp [e1, e2]), if_neg e1, if_neg e2]; rfl
    rw [e, su_add, su_one (hm a (by simp)), su_mem hd'.2 (fun b hb => hm b (by simp [hb]))]
    simp only [List.length_cons]
    omega
def gi (l : List Int) (i : Nat) : Int := l.getD i 0
theorem gi_at {l : List Int} {i : Nat} (h : i < l.length) : l[i]? = some (gi l i) := by simp [gi, h]
theorem gi_map {f : Nat → Int} {n i : Nat} (h : i < n) : gi ((List.range n).map f) i = f i := by simp [gi, List.getD, h]
theorem gi_set_same {l : List Int} {i : Nat} {v : Int} (h : i < l.length) : gi (l.set i v) i = v := by simp [gi, List.getD, h]
theorem gi_set_other {l : List Int} {i j : Nat} {v : Int} (h : i ≠ j) : gi (l.set i v) j = gi l j := by simp [gi, List.getD, h]
theorem gi_ext {l m : List Int} (h : l.length = m.length) (hg : ∀ i, i < l.length → gi l i = gi m i) : l = m := List.ext_getElem h fun i h1 h2 => by
  have := hg i h1
  simpa [gi, List.getD, h1, h2] using this
theorem sum_take (l : List Int) : ∀ k, k ≤ l.length → (l.take k).sum = su (gi l) k
  | 0, _ => by simp [su]
  | k + 1, h => by
    rw [List.take_succ_eq_append_getElem (by omega), List.sum_append, sum_take l k (by omega)]
    show _ + ([l[k]] : List Int).sum = su (gi l) k + gi l k
    simp [gi, List.getD, show k < l.length by omega]
theorem sum_su (l : List Int) : l.sum = su (gi l) l.length := by
  have := sum_take l l.length (Nat.le_refl _)
  rwa [List.take_length] at this
def ints (xs : List Int) : List Value := xs.map (Value.int .i64)
theorem ints_length (xs : List Int) : (ints xs).length = xs.length := List.length_map _
theorem ints_at {xs : List Int} {i : Nat} (h : i < xs.length) : (ints xs)[i]? = some (.int .i64 (gi xs i)) := by unfold ints; rw [List.getElem?_map, gi_at h]; rfl
theorem ints_set (xs : List Int) (i : Nat) (v : Int) : (ints xs).set i (.int .i64 v) = ints (xs.set i v) := by unfold ints; rw [List.map_set]
/-- the first k filled -/
def fl (n k : Nat) (f : Nat → Int) : List Int := (List.range n).map fun i => if i < k then f i else 0
theorem fl_length (n k : Nat) (f : Nat → Int) : (fl n k f).length = n := by simp [fl]
theorem fl_at {n k i : Nat} {f : Nat → Int} (h : i < n) : gi (fl n k f) i = if i < k then f i else 0 := gi_map h
theorem fl_set {n k : Nat} {f : Nat → Int} (h : k < n) : (fl n k f).set k (f k) = fl n (k + 1) f := by
  refine gi_ext (by simp [fl_length]) fun i hi => ?_
  rw [List.length_set, fl_length] at hi
  by_cases e : k = i
  · subst e; rw [gi_set_same (by rw [fl_length]; exact h), fl_at h, if_pos (by omega)]
  · rw [gi_set_other e, fl_at hi, fl_at hi]
    by_cases h1 : i < k
    · rw [if_pos h1, if_pos (by omega)]
    · rw [if_neg h1, if_neg (by omega)]
theorem fl_zero (n : Nat) (f : Nat → Int) : ints (fl n 0 f) = List.replicate n (.int .i64 0) := by
  refine List.ext_getElem (by simp [ints, fl]) fun i h1 h2 => by simp [ints, fl]
/-- a row of whole numbers that the call has made -/
def IR (w : World) (B g n : Nat) (xs : List Int) : Prop := w.ownsRow B 3 1 (.slice (some ⟨g, 0, none⟩) n n) n (ints xs)
theorem IR.lt {w : World} {B g n : Nat} {xs : List Int} (h : IR w B g n xs) : B ≤ g ∧ g < w.heap.size := World.ownsRow.lt h g rfl
theorem IR.len {w : World} {B g n : Nat} {xs : List Int} (h : IR w B g n xs) : xs.length = n := by have := h.1; rw [ints_length] at this; omega
theorem IR.cell {w : World} {B g n : Nat} {xs : List Int} (h : IR w B g n xs) {i : Nat} (hi : i < n) : w.cell? ⟨g, i, none⟩ = some (.int .i64 (gi xs i)) := by
  rw [World.ownsRow.cellAt h i (by omega), ints_at (by rw [h.len]; exact hi)]
theorem IR.frozen {w : World} {B g n : Nat} {xs : List Int} (h : IR w B g n xs) (i : Nat) : w.frozen? ⟨g, i, none⟩ = false := World.ownsRow.frozenAt h i
theorem IR.drew {w : World} {B g n : Nat} {xs : List Int} (h : IR w B g n xs) : IR w.drew B g n xs := h
theorem IR.kept {w w' : World} {B g n : Nat} {xs : List Int} {r : Option Nat} (h : IR w B g n xs) (hg : w.grownBy w' r) (hne : some g ≠ r) : IR w' B g n xs := World.ownsRow.kept h hg (.inr hne)
theorem IR.set {w : World} {B g n : Nat} {xs : List Int} (h : IR w B g n xs) (i : Nat) (v : Int) : IR (w.setCell ⟨g, i, none⟩ (.int .i64 v)) B g n (xs.set i v) := by
  have := (World.ownsRow.stored h i (.int .i64 v)).1
  rw [ints_set] at this
  exact this
theorem grown_set (w : World) (g i : Nat) (v : Value) : w.grownBy (w.setCell ⟨g, i, none⟩ v) (some g) :=
  ⟨rfl, rfl, rfl, by simp [World.setCell], fun k _ hk => heap_setCell_other w ⟨g, i, none⟩ k v (fun e => hk (by simp [e]))⟩
theorem grown_bel {w : World} (y : BelW w) : w.grownBy y.w none := ⟨y.2.os, y.2.tape, y.2.output, y.2.size, fun k hk _ => y.2.block k hk⟩
theorem grown_alloc (w : World) (o : Obj) : w.grownBy (w.alloc o) none := World.grownBy_alloc w o none
theorem below_grown {V w w' : World} {r : Option Nat} (h : Below V.heap.size V w) (hg : w.grownBy w' r) (hr : ∀ k, r = some k → V.heap.size ≤ k) : Below V.heap.size V w' := h.grown hg h.size hr
structure WtK (l : List Int) (k : Nat) : Prop where
  pos : ∀ i, i < k → 0 ≤ gi l i
  sum : su (gi l) k ≤ 1125899906842624
theorem WtK.nonneg {l : List Int} {k : Nat} (h : WtK l k) : 0 ≤ su (gi l) k := by
  have := su_le (f := fun _ => 0) (g := gi l) (n := k) h.pos
  rw [su_zero (fun _ _ => rfl)] at this
  exact this
theorem WtK.step {l : List Int} {k : Nat} (h : WtK l k) (h1 : 0 ≤ gi l k) (h2 : gi l k ≤ 1125899906842624 - su (gi l) k) : WtK l (k + 1) :=
  ⟨fun i hi => by by_cases e : i = k; · subst e; exact h1
                  · exact h.pos i (by omega), by show su (gi l) k + gi l k ≤ _; omega⟩
theorem info_int : (Tryz.prog.info? 3).map (fun i => (i.zero, i.size, i.bytes)) = some (some (.int .i64 0), 1, 8) := by kernel_rfl
theorem ir_made {w : World} {B g n : Nat} (f : Nat → Int) (h : w.ownsRow B 3 1 (.slice (some ⟨g, 0, none⟩) n n) n (madeCells #[Value.int .i64 0] n).toList) : IR w B g n (fl n 0 f) := by
  unfold IR
  rw [fl_zero, ← toList_madeCells_one]
  exact h
/-! rows -/
theorem IR.heap {w : World} {B g n : Nat} {xs : List Int} (h : IR w B g n xs) : w.heap[g]? = some (.cells (ints xs).toArray 3 (0, 0)) := by
  rcases h.2 with ⟨e, _⟩ | ⟨g', cap, cur, e, _, hg, _, _, hs, ht⟩
  · cases e
  · cases e
    rw [hg, ← ht]
    congr 2
    rw [List.take_of_length_le (by rw [Array.length_toList, hs]; exact Nat.le_refl _)]
theorem IR.of {w : World} {B g n : Nat} {xs : List Int} (h : w.heap[g]? = some (.cells (ints xs).toArray 3 (0, 0))) (hl : xs.length = n) (hb : B ≤ g) (hm : n ≤ maxLen) : IR w B g n xs :=
  ⟨by rw [ints_length, hl, Nat.mul_one], .inr ⟨g, n, (ints xs).toArray, rfl, hb, h, Nat.le_refl _, hm, by simp [ints_length, hl], by rw [List.take_of_length_le (by simp [ints_length, hl])]⟩⟩
theorem IR.next {w w' : World} {B g n : Nat} {xs : List Int} (h : IR w B g n xs) (hb : Below w.heap.size w w') : IR w' B g n xs := h.kept (grown_bel ⟨w', hb⟩) (by simp)
theorem IR.rd {w : World} {B g n : Nat} {xs : List Int} (h : IR w B g n xs) : Rd w (some ⟨g, 0, none⟩) (ints xs) := fun _ =>
  ⟨⟨g, 0, none⟩, rfl, h.lt.2, fun j u hu => World.ownsRow.cells h (g := g) rfl j u hu⟩
theorem splice_all (n : Nat) (f : Nat → Int) {p : List Int} (h : p.length = n) : splice (ints (fl n 0 f)) 0 (ints p) = ints p := by
  unfold splice
  rw [List.take_zero, List.nil_append, List.drop_eq_nil_of_le (by rw [ints_length, ints_length, fl_length]; omega), List.append_nil]
theorem info_i1 : (Tryz.prog.info? 3).map (·.size) = some 1 := by kernel_rfl
theorem ints_one (p : List Int) : ∀ v ∈ ints p, v.oneCell' = true := fun v hv => by
  unfold ints at hv
  obtain ⟨a, _, rfl⟩ := List.mem_map.1 hv
  rfl
/-- a row's list by its places -/
def gl (n : Nat) (f : Nat → Int) : List Int := (List.range n).map f
theorem gl_length (n : Nat) (f : Nat → Int) : (gl n f).length = n := by simp [gl]
theorem gl_at {n i : Nat} {f : Nat → Int} (h : i < n) : gi (gl n f) i = f i := gi_map h
theorem gl_self {p : List Int} {n : Nat} (h : p.length = n) : gl n (gi p) = p := gi_ext (by rw [gl_length, h]) fun i hi => by rw [gl_length] at hi; rw [gl_at hi]
theorem gl_congr {n : Nat} {f g : Nat → Int} (h : ∀ i, i < n → f i = g i) : gl n f = gl n g := gi_ext (by rw [gl_length, gl_length]) fun i hi => by rw [gl_length] at hi; rw [gl_at hi, gl_at hi, h i hi]
theorem gl_set {n k : Nat} {f : Nat → Int} (h : k < n) (v : Int) : (gl n f).set k v = gl n (fun i => if i = k then v else f i) := by
  refine gi_ext (by simp [gl_length]) fun i hi => ?_
  rw [List.length_set, gl_length] at hi
  by_cases e : k = i
  · subst e; rw [gi_set_same (by rw [gl_length]; exact h), gl_at h, if_pos rfl]
  · rw [gi_set_other e, gl_at hi, gl_at hi, if_neg (Ne.symm e)]
/-- k places turned -/
def upto (k : Nat) (f g : Nat → Int) (i : Nat) : Int := if i < k then f i else g i
theorem gl_step {n k : Nat} {f g : Nat → Int} (h : k < n) : (gl n (upto k f g)).set k (f k) = gl n (upto (k + 1) f g) := by
  rw [gl_set h]
  refine gl_congr fun i _ => ?_
  unfold upto
  by_cases e : i = k
  · subst e; rw [if_pos rfl, if_pos (by omega)]
  · rw [if_neg e]
    by_cases h1 : i < k
    · rw [if_pos h1, if_pos (by omega)]
    · rw [if_neg h1, if_neg (by omega)]
theorem gl_none (n : Nat) (f g : Nat → Int) : gl n (upto 0 f g) = gl n g := gl_congr fun i _ => by unfold upto; rw [if_neg (by omega)]
theorem gl_all (n : Nat) (f g : Nat → Int) : gl n (upto n f g) = gl n f := gl_congr fun i hi => by unfold upto; rw [if_pos hi]
theorem info_int2 : (Tryz.prog.info? 3).map (fun i => (i.zero, i.size, i.bytes)) = some (some (.int .i64 0), 1, 8) := by kernel_rfl
theorem heap_ir {w : World} {B g n : Nat} {f : Nat → Int} {p : List Int} (h : w.heap[g]? = some (.cells (splice (ints (fl n 0 f)) 0 (ints p)).toArray 3 (0, 0))) (hl : p.length = n) (hb : B ≤ g) (hm : n ≤ maxLen) : IR w B g n p := by
  rw [splice_all n f hl] at h
  exact IR.of h hl hb hm
theorem copy_pos {w : World} {A : Option Addr} {p : List Int} {g : Nat} (hr : Rd w A (ints p)) : 0 < (ints p).length → (some (⟨g, 0, none⟩ : Addr) = some ⟨g, 0, none⟩) ∧ ∃ ad, A = some ad ∧ ∀ j v, (ints p)[j]? = some v → w.cell? (ad.add j) = some v := fun h => by
  obtain ⟨ad, e, _, hc⟩ := hr h
  exact ⟨rfl, ad, e, hc⟩
def MkPost (n : Nat) (x : List Int) (w : World) (e : Ending) (w' : World) : Prop := ∃ g, e = .returned (.slice (some ⟨g, 0, none⟩) n n) ∧ IR w' w.heap.size g n x ∧ Below w.heap.size w w'
theorem ir_made2 {w : World} {B g n : Nat} (h : w.ownsRow B 3 1 (.slice (some ⟨g, 0, none⟩) n n) n (madeCells #[Value.int .i64 0] n).toList) : IR w B g n (gl n fun _ => 0) := by
  have h' := ir_made (fun _ => 0) h
  rwa [show fl n 0 (fun _ => 0) = gl n (fun _ => 0) from gi_ext (by rw [fl_length, gl_length]) fun i hi => by rw [fl_length] at hi; rw [fl_at hi, gl_at hi, if_neg (by omega)]] at h'
theorem IR.base {w : World} {B B' g n : Nat} {xs : List Int} (h : IR w B g n xs) (hb : B' ≤ B) : IR w B' g n xs := IR.of h.heap h.len (Nat.le_trans hb h.lt.1) (by
  rcases h.2 with ⟨e, _⟩ | ⟨g', cap, cur, e, _, _, hc, hm, _⟩
  · cases e
  · cases e; exact hm)
theorem splice_gl {n : Nat} {p : List Int} (h : p.length ≤ n) : splice (ints (fl n 0 fun _ => 0)) 0 (ints p) = ints (gl n (gi p)) := by
  unfold splice
  rw [List.take_zero, List.nil_append]
  refine List.ext_getElem (by simp [ints_length, fl_length, gl_length]; omega) fun i h1 h2 => ?_
  rw [ints_length, gl_length] at h2
  rw [List.getElem_append]
  split
  · rename_i h3
    rw [ints_length] at h3
    simp [ints, gl, gi, List.getD, h3]
  · rename_i h3
    rw [ints_length] at h3
    simp [ints, gl, gi, List.getD, fl, h3]
theorem gi_out {p : List Int} {i : Nat} (h : p.length ≤ i) : gi p i = 0 := by simp [gi, List.getD, h]
theorem gi_fit {p : List Int} (hf : ∀ i, i < p.length → Fit (gi p i)) (i : Nat) : Fit (gi p i) := by
  by_cases h : i < p.length
  · exact hf i h
  · rw [gi_out (by omega)]; unfold Fit; omega
theorem own_bel {V : World} {base : Nat} {e : TypeId} {size : Nat} {v : Value} {n : Nat} {xs : List Value} (h : V.ownsRow base e size v n xs) (y : BelW V) : y.w.ownsRow base e size v n xs :=
  h.kept (row := none) ⟨y.2.os, y.2.tape, y.2.output, y.2.size, fun k hk _ => y.2.block k hk⟩ (by cases v.ownBlock <;> simp)
theorem own_grown {V w w' : World} {e : TypeId} {size : Nat} {v : Value} {n : Nat} {xs : List Value} (h : Below V.heap.size V w) (ho : w.ownsRow V.heap.size e size v n xs) (hg : w.grownBy w' v.ownBlock) : Below V.heap.size V w' :=
  h.grown hg h.size fun k hk => (ho.lt k hk).1
theorem own_rd {w : World} {base : Nat} {e : TypeId} {size : Nat} {v : Value} {n : Nat} {xs : List Value} (h : w.ownsRow base e size v n xs) (hn : 0 < n) :
    ∃ g cap, v = .slice (some ⟨g, 0, none⟩) n cap ∧ Rd w (some ⟨g, 0, none⟩) xs := by
  obtain ⟨g, cap, rfl, hb, hl⟩ := h.form hn
  exact ⟨g, cap, rfl, fun _ => ⟨⟨g, 0, none⟩, rfl, hl, fun j u hu => h.cells (g := g) rfl j u hu⟩⟩
end Go.Proofs.YtngjakahanmepaaGreatDoor
namespace Go.Proofs.YtngjakahanmepaaGreatDoor
open Go.RowKit
set_option linter.unusedVariables false
set_option linter.unusedSimpArgs false
/-! the places that water reaches within the day -/
/-- a place's Down and Delay -/
abbrev Dn := Int × Int
def dn (D : List Dn) (i : Nat) : Dn := D.getD i (0, 0)
def reachGo (D : List Dn) : Nat → Int → List Nat → List Nat
  | 0, _, acc => acc
  | f + 1, p, acc => if 0 ≤ p ∧ p < (D.length : Int) ∧ p.toNat ∉ acc then (if 24 ≤ (dn D p.toNat).2 then acc ++ [p.toNat] else reachGo D f (dn D p.toNat).1 (acc ++ [p.toNat])) else acc
def reachF (D : List Dn) (p : Int) : List Nat := reachGo D D.length p []
/-- a list of different places -/
def DisL (n : Nat) (l : List Nat) : Prop := l.Nodup ∧ ∀ q ∈ l, q < n
theorem su_ones : ∀ n : Nat, su (fun _ => 1) n = (n : Int)
  | 0 => rfl
  | n + 1 => by show su (fun _ => 1) n + 1 = _; rw [su_ones n]; omega
theorem DisL.len {n : Nat} {l : List Nat} (h : DisL n l) : l.length ≤ n := by
  have h1 := su_mem h.1 h.2
  have h2 : su (fun i => if i ∈ l then 1 else 0) n ≤ su (fun _ => 1) n := su_le fun i _ => by split <;> omega
  rw [h1, su_ones] at h2
  omega
theorem DisL.snoc {n : Nat} {l : List Nat} {p : Nat} (h : DisL n l) (hp : p < n) (hn : p ∉ l) : DisL n (l ++ [p]) := by
  refine ⟨?_, fun q hq => ?_⟩
  · rw [List.nodup_append]
    exact ⟨h.1, by simp, fun a ha b hb e => by rw [List.mem_singleton.1 hb] at e; subst e; exact hn ha⟩
  · rcases List.mem_append.1 hq with h1 | h1
    · exact h.2 q h1
    · rw [List.mem_singleton.1 h1]; exact hp
theorem reachGo_dis (D : List Dn) : ∀ (f : Nat) (p : Int) (acc : List Nat), DisL D.length acc → DisL D.length (reachGo D f p acc)
  | 0, _, _, h => h
  | f + 1, p, acc, h => by
    unfold reachGo
    split
    · rename_i hp
      have hs := h.snoc (p := p.toNat) (by omega) hp.2.2
      split
      · exact hs
      · exact reachGo_dis D f _ _ hs
    · exact h
theorem reachF_dis (D : List Dn) (p : Int) : DisL D.length (reachF D p) := reachGo_dis D _ _ _ ⟨List.nodup_nil, fun q hq => by cases hq⟩
/-- a step of the loop: with as much fuel as places are left -/
theorem reachGo_end {D : List Dn} {f : Nat} {p : Int} {acc : List Nat} (h : ¬ (0 ≤ p ∧ p < (D.length : Int) ∧ p.toNat ∉ acc)) : reachGo D f p acc = acc := by
  cases f with
  | zero => rfl
  | succ f => unfold reachGo; rw [if_neg h]
theorem reachGo_step {D : List Dn} {f : Nat} {p : Nat} {acc : List Nat} (hd : DisL D.length acc) (hf : D.length ≤ acc.length + f) (h1 : p < D.length) (h2 : p ∉ acc) :
    reachGo D f (p : Int) acc = if 24 ≤ (dn D p).2 then acc ++ [p] else reachGo D (f - 1) (dn D p).1 (acc ++ [p]) := by
  have hl := (hd.snoc h1 h2).len
  rw [List.length_append] at hl
  simp only [List.length_cons, List.length_nil] at hl
  cases f with
  | zero => omega
  | succ f =>
    rw [reachGo, if_pos ⟨by omega, by omega, by rw [Int.toNat_natCast]; exact h2⟩, Int.toNat_natCast]
    rfl
theorem reachF_start {D : List Dn} {p : Nat} (h : p < D.length) : p ∈ reachF D (p : Int) := by
  have mono : ∀ (f : Nat) (p : Int) (acc : List Nat) (q : Nat), q ∈ acc → q ∈ reachGo D f p acc := by
    intro f
    induction f with
    | zero => exact fun _ _ _ h => h
    | succ f ih =>
      intro p acc q hq
      unfold reachGo
      split
      · split
        · exact List.mem_append_left _ hq
        · exact ih _ _ _ (List.mem_append_left _ hq)
      · exact hq
  unfold reachF
  rw [reachGo_step ⟨List.nodup_nil, fun q hq => by cases hq⟩ (by simp) h (by simp)]
  split
  · simp
  · exact mono _ _ _ _ (by simp)
/-! a day -/
/-- the least of a number and of what is left at some places -/
def leastF (L : List Int) : Int → List Nat → Int
  | r, [] => r
  | r, q :: l => leastF L (min r (gi L q)) l
theorem leastF_le (L : List Int) : ∀ (l : List Nat) (r : Int), leastF L r l ≤ r ∧ ∀ q ∈ l, leastF L r l ≤ gi L q
  | [], r => ⟨Int.le_refl _, fun q h => by cases h⟩
  | q :: l, r => by
    obtain ⟨h1, h2⟩ := leastF_le L l (min r (gi L q))
    refine ⟨?_, fun p hp => ?_⟩
    · show leastF L (min r (gi L q)) l ≤ r
      omega
    · show leastF L (min r (gi L q)) l ≤ gi L p
      rcases List.mem_cons.1 hp with rfl | hp
      · omega
      · exact h2 p hp
theorem leastF_is (L : List Int) : ∀ (l : List Nat) (r : Int), leastF L r l = r ∨ ∃ q ∈ l, leastF L r l = gi L q
  | [], r => .inl rfl
  | q :: l, r => by
    show leastF L (min r (gi L q)) l = r ∨ ∃ p ∈ q :: l, leastF L (min r (gi L q)) l = gi L p
    rcases leastF_is L l (min r (gi L q)) with h | ⟨p, hp, h⟩
    · by_cases e : r ≤ gi L q
      · left; rw [h]; omega
      · right; exact ⟨q, by simp, by rw [h]; omega⟩
    · right; exact ⟨p, List.mem_cons_of_mem _ hp, h⟩
/-- what a right gets -/
def getF (L : List Int) (rate : Int) (R : List Nat) : Int := if R = [] then 0 else max 0 (leastF L rate R)
/-- what is left behind it -/
def lessF (L : List Int) (R : List Nat) (g : Int) : List Int := (List.range L.length).map fun q => if q ∈ R then gi L q - g else gi L q
theorem lessF_length (L : List Int) (R : List Nat) (g : Int) : (lessF L R g).length = L.length := by simp [lessF]
theorem lessF_at {L : List Int} {R : List Nat} {g : Int} {q : Nat} (h : q < L.length) : gi (lessF L R g) q = if q ∈ R then gi L q - g else gi L q := gi_map h
def NonN (L : List Int) : Prop := ∀ q, q < L.length → 0 ≤ gi L q
theorem getF_spec {L : List Int} {rate : Int} {R : List Nat} (hr : 0 ≤ rate) (hL : NonN L) (hR : ∀ q ∈ R, q < L.length) : 0 ≤ getF L rate R ∧ getF L rate R ≤ rate ∧ (∀ q ∈ R, getF L rate R ≤ gi L q) ∧ (R ≠ [] → getF L rate R ≠ rate → ∃ q ∈ R, getF L rate R = gi L q) := by
  unfold getF
  split
  · rename_i e
    exact ⟨Int.le_refl _, hr, fun q hq => hL q (hR q hq), fun h => absurd e h⟩
  · obtain ⟨h1, h2⟩ := leastF_le L R rate
    have h0 : 0 ≤ leastF L rate R := by
      rcases leastF_is L R rate with h | ⟨q, hq, h⟩
      · omega
      · rw [h]; exact hL q (hR q hq)
    have hm : max 0 (leastF L rate R) = leastF L rate R := by omega
    rw [hm]
    refine ⟨h0, h1, h2, fun _ hne => ?_⟩
    rcases leastF_is L R rate with h | h
    · exact absurd h hne
    · exact h
theorem lessF_nonN {L : List Int} {rate : Int} {R : List Nat} (hr : 0 ≤ rate) (hL : NonN L) (hR : ∀ q ∈ R, q < L.length) : NonN (lessF L R (getF L rate R)) := fun q hq => by
  rw [lessF_length] at hq
  rw [lessF_at hq]
  split
  · rename_i h
    have := (getF_spec hr hL hR).2.2.1 q h
    omega
  · exact hL q hq
/-- a right, as far as the day is concerned: its rate and the places that its water reaches -/
abbrev Ra := Int × List Nat
/-- the grants and what is left behind some rights -/
def dayG : List Int → List Ra → List Int
  | _, [] => []
  | L, r :: l => getF L r.1 r.2 :: dayG (lessF L r.2 (getF L r.1 r.2)) l
def dayL : List Int → List Ra → List Int
  | L, [] => L
  | L, r :: l => dayL (lessF L r.2 (getF L r.1 r.2)) l
def RaOk (n : Nat) (r : Ra) : Prop := 0 ≤ r.1 ∧ ∀ q ∈ r.2, q < n
theorem dayG_length : ∀ (l : List Ra) (L : List Int), (dayG L l).length = l.length
  | [], _ => rfl
  | r :: l, L => by simp [dayG, dayG_length l]
theorem dayL_length : ∀ (l : List Ra) (L : List Int), (dayL L l).length = L.length
  | [], _ => rfl
  | r :: l, L => by
    show (dayL (lessF L r.2 _) l).length = _
    rw [dayL_length l, lessF_length]
/-- a place at which nothing is left stays so, and nobody whose water reaches it gets any -/
theorem day_zero : ∀ (l : List Ra) (L : List Int) (q : Nat), NonN L → (∀ r ∈ l, RaOk L.length r) → q < L.length → gi L q = 0 →
    gi (dayL L l) q = 0 ∧ ∀ (j : Nat) (h : j < l.length), 0 < gi (dayG L l) j → q ∉ (l[j]).2
  | [], _, _, _, _, _, h0 => ⟨h0, fun j h => absurd h (Nat.not_lt_zero _)⟩
  | r :: l, L, q, hL, hok, hq, h0 => by
    have hr := hok r (by simp)
    have hs := getF_spec hr.1 hL hr.2
    have hz : gi (lessF L r.2 (getF L r.1 r.2)) q = 0 := by
      rw [lessF_at hq]
      split
      · rename_i h
        have := hs.2.2.1 q h
        omega
      · exact h0
    obtain ⟨h1, h2⟩ := day_zero l (lessF L r.2 (getF L r.1 r.2)) q (lessF_nonN hr.1 hL hr.2) (fun x hx => by rw [lessF_length]; exact hok x (by simp [hx])) (by rw [lessF_length]; exact hq) hz
    refine ⟨h1, fun j hj => ?_⟩
    cases j with
    | zero =>
      intro hg hm
      have hg' : 0 < getF L r.1 r.2 := hg
      have := hs.2.2.1 q hm
      omega
    | succ j => exact h2 j (by simpa using hj)
/-- THE LAW -/
theorem day_stops : ∀ (l : List Ra) (L : List Int) (i : Nat) (hi : i < l.length), NonN L → (∀ r ∈ l, RaOk L.length r) →
    (0 ≤ gi (dayG L l) i ∧ gi (dayG L l) i ≤ (l[i]).1) ∧ ((l[i]).2 ≠ [] → gi (dayG L l) i ≠ (l[i]).1 → ∃ q ∈ (l[i]).2, gi (dayL L l) q = 0 ∧ ∀ (j : Nat) (hj : j < l.length), i < j → 0 < gi (dayG L l) j → q ∉ (l[j]).2)
  | [], _, i, hi, _, _ => absurd hi (Nat.not_lt_zero _)
  | r :: l, L, 0, _, hL, hok => by
    have hr := hok r (by simp)
    have hs := getF_spec hr.1 hL hr.2
    refine ⟨⟨hs.1, hs.2.1⟩, fun hne hg => ?_⟩
    obtain ⟨q, hq, he⟩ := hs.2.2.2 hne hg
    have hz : gi (lessF L r.2 (getF L r.1 r.2)) q = 0 := by
      rw [lessF_at (hr.2 q hq), if_pos hq]
      omega
    obtain ⟨h1, h2⟩ := day_zero l (lessF L r.2 (getF L r.1 r.2)) q (lessF_nonN hr.1 hL hr.2) (fun x hx => by rw [lessF_length]; exact hok x (by simp [hx])) (by rw [lessF_length]; exact hr.2 q hq) hz
    refine ⟨q, hq, h1, fun j hj hij => ?_⟩
    cases j with
    | zero => exact absurd hij (Nat.not_lt_zero _)
    | succ j => exact h2 j (by simpa using hj)
  | r :: l, L, i + 1, hi, hL, hok => by
    have hr := hok r (by simp)
    obtain ⟨h1, h2⟩ := day_stops l (lessF L r.2 (getF L r.1 r.2)) i (by simpa using hi) (lessF_nonN hr.1 hL hr.2) (fun x hx => by rw [lessF_length]; exact hok x (by simp [hx]))
    refine ⟨h1, fun hne hg => ?_⟩
    obtain ⟨q, hq, h3, h4⟩ := h2 hne hg
    refine ⟨q, hq, h3, fun j hj hij => ?_⟩
    cases j with
    | zero => exact absurd hij (by omega)
    | succ j => exact h4 j (by simpa using hj) (by omega)
end Go.Proofs.YtngjakahanmepaaGreatDoor
namespace Go.Proofs.YtngjakahanmepaaGreatDoor
open Go.RowKit
set_option linter.unusedVariables false
set_option linter.unusedSimpArgs false
def RiP (l : List Int) : Prop := WtK l l.length
theorem not_ri_neg {l : List Int} {k : Nat} (hk : k < l.length) (h : gi l k < 0) : ¬ RiP l := fun hw => by have := hw.pos k hk; omega
theorem su_mono {l : List Int} (hp : ∀ i, i < l.length → 0 ≤ gi l i) {k : Nat} (hk : k ≤ l.length) : su (gi l) k ≤ su (gi l) l.length := by
  obtain ⟨j, e⟩ : ∃ j, l.length = k + j := ⟨l.length - k, by omega⟩
  have : ∀ j, k + j ≤ l.length → su (gi l) k ≤ su (gi l) (k + j) := fun j => by
    induction j with
    | zero => intro _; exact Int.le_refl _
    | succ j ih =>
      intro hj
      have := ih (by omega)
      have := hp (k + j) (by omega)
      show su (gi l) k ≤ su (gi l) (k + j) + gi l (k + j)
      omega
  rw [e]
  exact this j (by omega)
theorem not_ri_sum {l : List Int} {k : Nat} (hk : k < l.length) (h : 1125899906842624 - su (gi l) k < gi l k) : ¬ RiP l := fun hw => by
  have h1 : su (gi l) k + gi l k ≤ su (gi l) l.length := su_mono hw.pos (k := k + 1) (by omega)
  have := hw.sum
  omega
def RiR (V : World) (l : List Int) (s3 s8 : Value) (wr : World) : Prop := ∃ k : Nat, k ≤ l.length ∧ s8 = .int .i64 (k : Int) ∧ s3 = .int .i64 (su (gi l) k) ∧ Hid (WtK l k) ∧ ∃ y : BelW V, wr = y.w
def RiPost (l : List Int) (w : World) (e : Ending) (w' : World) : Prop := ∃ b : Bool, e = .returned (.bool b) ∧ (b = true ↔ RiP l) ∧ Below w.heap.size w w'
theorem ri_no {l : List Int} {w w' : World} (h : ¬ RiP l) (hb : Below w.heap.size w w') : RiPost l w (.returned (.bool false)) w' := ⟨false, rfl, ⟨fun h => absurd h Bool.false_ne_true, fun h' => absurd h' h⟩, hb⟩
set_option maxHeartbeats 4000000 in
set_option maxRecDepth 100000 in
theorem rightp_any (A : Option Addr) (c : Nat) (l : List Int) (hn : l.length ≤ 9223372036854775807) (w : World) (hr : Rd w A (ints l)) :
    Calls Tryz.prog 123 #[.slice A l.length c] w (RiPost l w) := by
  have HR := Lib.hid hr
  clear hr
  go_enter Tryz.func123, Tryz.ntmps123
  go_wp2_with fail
  go_loopw [3, 8] (fun s3 s8 wr => RiR w l s3 s8 wr) (fun _ i _ => l.length - (intOf i).toNat)
  case atStart => exact ⟨0, by omega, rfl, rfl, Lib.hid ⟨fun i hi => absurd hi (Nat.not_lt_zero _), by show (0 : Int) ≤ _; omega⟩, ⟨w, Below.refl _ _⟩, rfl⟩
  case round =>
    obtain ⟨k, hk, rfl, rfl, hwt, y, rfl⟩ := hrel
    have s1 := hwt.out.nonneg
    have s2 := hwt.out.sum
    by_cases hlt : k < l.length
    · have i3 : decide ((k : Int) < (l.length : Int)) = true := decide_eq_true (by omega)
      obtain ⟨ad, u, rfl, hadb, e1, e2⟩ := (HR.out.bel y).at (k := k) (by rw [ints_length]; exact hlt)
      rw [ints_at hlt] at e1
      cases e1
      have j1 : (0 : Int) ≤ (k : Int) := by omega
      have j2 : (k : Int) < (l.length : Int) := by omega
      have HL := Lib.hid hlt
      obtain ⟨S, hS⟩ : ∃ S, su (gi l) k = S := ⟨_, rfl⟩
      obtain ⟨v, hv⟩ : ∃ v, gi l k = v := ⟨_, rfl⟩
      rw [hS] at s1 s2
      rw [hv] at e2
      rw [hS]
      have wS : IntKind.i64.wrap (1125899906842624 - S) = 1125899906842624 - S := IntWalk.i64_in _ (by omega)
      have HS := Lib.hid hS
      have HV := Lib.hid hv
      clear hS hv
      by_cases v0 : v < 0
      · have v0' : decide (v < 0) = true := decide_eq_true v0
        go_wp2_with fail
        go_ret
        exact ri_no (not_ri_neg HL.out (by rw [HV.out]; exact of_decide_eq_true v0')) y.2
      have v0' : decide (v < 0) = false := decide_eq_false v0
      by_cases v1 : 1125899906842624 - S < v
      · have v1' : decide (1125899906842624 - S < v) = true := decide_eq_true v1
        go_wp2_with fail
        go_ret
        exact ri_no (not_ri_sum HL.out (by rw [HV.out, HS.out]; exact of_decide_eq_true v1')) y.2
      have v1' : decide (1125899906842624 - S < v) = false := decide_eq_false v1
      have wA : IntKind.i64.wrap (S + v) = S + v := IntWalk.i64_in _ (by omega)
      have HX := Lib.hid (hwt.out.step (by rw [HV.out]; omega) (by rw [HV.out, HS.out]; omega))
      have HZ := Lib.hid (show su (gi l) (k + 1) = S + v by show su (gi l) k + gi l k = _; rw [HV.out, HS.out])
      go_wp2_with fail
      go_roundw
      case rel => exact ⟨k + 1, by have := HL.out; omega, by go_num, by rw [HZ.out], HX, y, rfl⟩
      case measure => have := HL.out; simp [intOf]; omega
    · have i3 : decide ((k : Int) < (l.length : Int)) = false := decide_eq_false (by omega)
      obtain rfl : k = l.length := by omega
      have hB : Below w.heap.size w y.w := y.2
      go_wp2_with fail
      go_ret
      exact ⟨true, rfl, ⟨fun _ => hwt.out, fun _ => rfl⟩, hB⟩
theorem add_c {V : World} (a b v : Int) (ha : Fit a) (hb : Fit b) (h : Xa.add a b = v) (y : BelW V) :
    Calls Tryz.prog 58 #[.int .i64 a, .int .i64 b] y.w fun e w' => e = .returned (.int .i64 v) ∧ ∃ z : BelW V, w' = z.w :=
  bel_of_same (by have h' := add_any a b ha.1 ha.2 hb.1 hb.2 y.w; rw [h] at h'; exact h')
/-! Total -/
def tot (p : List Int) : Nat → Int
  | 0 => 0
  | k + 1 => Xa.add (tot p k) (gi p k)
theorem tot_fit (p : List Int) : ∀ k, Fit (tot p k)
  | 0 => by unfold Fit tot; omega
  | k + 1 => Xa.add_bd _ _
theorem tot_su {p : List Int} {k : Nat} (h : ∀ j, j ≤ k → -9223372036854775808 ≤ su (gi p) j ∧ su (gi p) j ≤ 9223372036854775807) : tot p k = su (gi p) k := by
  induction k with
  | zero => rfl
  | succ k ih =>
    show Xa.add (tot p k) (gi p k) = su (gi p) k + gi p k
    rw [ih fun j hj => h j (by omega)]
    have := h (k + 1) (Nat.le_refl _)
    have e : su (gi p) (k + 1) = su (gi p) k + gi p k := rfl
    unfold Xa.add
    rw [if_neg (by omega), if_neg (by omega)]
theorem tot_ri {p : List Int} (h : RiP p) {k : Nat} (hk : k ≤ p.length) : tot p k = su (gi p) k := by
  refine tot_su fun j hj => ?_
  have a := su_le (f := fun _ => 0) (g := gi p) (n := j) (fun i hi => h.pos i (by omega))
  rw [su_zero (fun _ _ => rfl)] at a
  have b := su_mono h.pos (k := j) (by omega)
  have c := h.sum
  omega
def ToR (V : World) (p : List Int) (s3 s8 : Value) (wr : World) : Prop := ∃ k : Nat, k ≤ p.length ∧ s8 = .int .i64 (k : Int) ∧ s3 = .int .i64 (tot p k) ∧ ∃ y : BelW V, wr = y.w
set_option maxHeartbeats 4000000 in
set_option maxRecDepth 100000 in
theorem total_any (A : Option Addr) (c : Nat) (p : List Int) (hn : p.length ≤ 9223372036854775807) (hf : ∀ i, i < p.length → Fit (gi p i)) (w : World) (hr : Rd w A (ints p)) :
    Calls Tryz.prog 45 #[.slice A p.length c] w fun e w' => e = .returned (.int .i64 (tot p p.length)) ∧ Below w.heap.size w w' := by
  have HR := Lib.hid hr
  have HF := Lib.hid hf
  clear hr hf
  go_enter Tryz.func45, Tryz.ntmps45
  go_wp2_with fail
  go_loopw [3, 8] (fun s3 s8 wr => ToR w p s3 s8 wr) (fun _ i _ => p.length - (intOf i).toNat)
  case atStart => exact ⟨0, by omega, rfl, rfl, ⟨w, Below.refl _ _⟩, rfl⟩
  case round =>
    obtain ⟨k, hk, rfl, rfl, y, rfl⟩ := hrel
    by_cases hlt : k < p.length
    · have i3 : decide ((k : Int) < (p.length : Int)) = true := decide_eq_true (by omega)
      obtain ⟨ad, u, rfl, hadb, e1, e2⟩ := (HR.out.bel y).at (k := k) (by rw [ints_length]; exact hlt)
      rw [ints_at hlt] at e1
      cases e1
      have j1 : (0 : Int) ≤ (k : Int) := by omega
      have j2 : (k : Int) < (p.length : Int) := by omega
      obtain ⟨T', hT'⟩ : ∃ v, tot p (k + 1) = v := ⟨_, rfl⟩
      have hT2 : Xa.add (tot p k) (gi p k) = T' := hT'
      have f1 := tot_fit p k
      have f2 := HF.out k hlt
      have HZ := Lib.hid hT'
      obtain ⟨v, hv⟩ : ∃ v, gi p k = v := ⟨_, rfl⟩
      obtain ⟨T, hT⟩ : ∃ v, tot p k = v := ⟨_, rfl⟩
      rw [hv] at e2 f2 hT2
      rw [hT] at f1 hT2 ⊢
      have C := Lib.hid (fun u : BelW w => add_c T v T' f1 f2 hT2 u)
      clear hv hT hT' hT2 f1 f2
      go_wp2_with (first | (go_at_call 58; with_reducible refine (C.out _).mono ?_; rintro e w' ⟨rfl, yy, rfl⟩))
      go_roundw
      case rel => exact ⟨k + 1, by omega, by go_num, by rw [HZ.out], _, rfl⟩
      case measure => simp [intOf]; omega
    · have i3 : decide ((k : Int) < (p.length : Int)) = false := decide_eq_false (by omega)
      obtain rfl : k = p.length := by omega
      have hB : Below w.heap.size w y.w := y.2
      go_wp2_with fail
      go_ret
      exact ⟨rfl, hB⟩
def WoR (V : World) (n g : Nat) (f h : Nat → Int) (s16 : Value) (wr : World) : Prop := ∃ k : Nat, k ≤ n ∧ s16 = .int .i64 (k : Int) ∧ Below V.heap.size V wr ∧ IR wr V.heap.size g n (gl n (upto k f h))
/-! Add -/
def addF (n : Nat) (p q : List Int) : List Int := gl n fun i => Xa.add (gi p i) (gi q i)
set_option maxHeartbeats 8000000 in
set_option maxRecDepth 100000 in
theorem padd_any (A B : Option Addr) (ca cb : Nat) (p q : List Int) (lp lq n : Nat) (hp : p.length = lp) (hq : q.length = lq) (hm : max lp lq = n) (hn : n ≤ 1000) (hfp : ∀ i, i < lp → Fit (gi p i)) (hfq : ∀ i, i < lq → Fit (gi q i)) (w : World) (hrp : Rd w A (ints p)) (hrq : Rd w B (ints q)) :
    Calls Tryz.prog 66 #[.slice A lp ca, .slice B lq cb] w (MkPost n (addF n p q) w) := by
  obtain ⟨i0, hi0, hz0, hz1, hz2⟩ := info_parts info_int2
  have hmk : i0.bytes * n ≤ 281474976710656 := by rw [hz2]; omega
  have hml : n ≤ maxLen := by unfold maxLen; omega
  have INF := Lib.hid (And.intro hi0 (And.intro hz0 (And.intro hz1 (And.intro hmk hml))))
  have HP := Lib.hid hrp
  have HQ := Lib.hid hrq
  have HFP := Lib.hid (gi_fit (p := p) (by rw [hp]; exact hfp))
  have HFQ := Lib.hid hfq
  have HM := Lib.hid hm
  have hmx : max (lp : Int) (lq : Int) = (n : Int) := by omega
  clear hi0 hz0 hz1 hz2 hmk hml hrp hrq hfp hfq hm
  go_enter Tryz.func66, Tryz.ntmps66
  go_upto_region 1 with fail
  go_wp2_with (first | (at_make; refine wpList_make_full _ rfl _ _ 29 rfl w.heap.size 3 i0 (.int .i64 0) 1 Tryz.underlying29 INF.out.1 INF.out.2.1 INF.out.2.2.1 _ _ _ _ n (by rfl) (by rfl) (by rfl) (by rfl) INF.out.2.2.2.1 INF.out.2.2.2.2 (Nat.le_refl _) ?_))
  intro w1 hown1 hg1
  have hI := ir_made (fun _ => 0) hown1
  have HB1 := Lib.hid (below_grown (Below.refl w.heap.size w) hg1 (fun k hk => by cases hk))
  have HH := Lib.hid hI.heap
  have HR1 := Lib.hid (HP.out.below (Nat.le_refl _) HB1.out)
  clear hown1 hg1 hI
  go_upto_region 2 with fail
  go_wp2_with (first | (refine wpList_copy_splice rfl (.tmp 14) (.tmp 15) 29 29 rfl 3 Tryz.underlying29 info_i1 (some ⟨w.heap.size, 0, none⟩) A n n lp ca (by rfl) (by rfl) w.heap.size 0 (ints (fl n 0 fun _ => 0)) 3 HH.out (ints p) (by rw [ints_length, hp]; have := HM.out; exact (Nat.min_eq_left (by omega)).symm) (copy_pos HR1.out) (by rw [ints_length, ints_length, fl_length]; have := HM.out; omega) (ints_one p) w.heap.size w HB1.out (Nat.le_refl _) ?_))
  intro w2 hg2 hB2
  have HI2 := Lib.hid (show IR w2 w.heap.size w.heap.size n (gl n (gi p)) from IR.of (by have := hg2.out; rwa [splice_gl (by have := HM.out; omega)] at this) (gl_length _ _) (Nat.le_refl _) INF.out.2.2.2.2)
  have HB2 := Lib.hid hB2
  clear hg2 hB2 HH HR1
  have HT2 := Lib.hid (fun w' (h : Below w.heap.size w w') => HQ.out.below (Nat.le_refl _) h)
  go_wp2_with fail
  go_loopw [19] (fun s19 wr => WoR w n w.heap.size (fun i => Xa.add (gi p i) (gi q i)) (gi p) s19 wr ∧ (intOf s19).toNat ≤ lq) (fun i _ => lq - (intOf i).toNat)
  case atStart => exact ⟨⟨0, by omega, rfl, HB2.out, by rw [gl_none]; exact HI2.out⟩, by simp [intOf]⟩
  case round =>
    obtain ⟨⟨k, hk, rfl, hB, hI⟩, hkq⟩ := hrel
    have hkq' : k ≤ lq := by simpa [intOf] using hkq
    clear hkq
    by_cases hlt : k < lq
    · have i3 : decide ((k : Int) < (lq : Int)) = true := decide_eq_true (by omega)
      have hkn : k < n := by have := HM.out; omega
      obtain ⟨bd, u, rfl, _, e1, e2⟩ := (HT2.out _ hB).at (k := k) (by rw [ints_length]; omega)
      rw [ints_at (by omega)] at e1
      cases e1
      have c1 := hI.cell hkn
      have f1 := hI.frozen k
      rw [gl_at hkn, show upto k (fun i => Xa.add (gi p i) (gi q i)) (gi p) k = gi p k by unfold upto; rw [if_neg (Nat.lt_irrefl _)]] at c1
      have hst := gl_step (n := n) (k := k) (f := fun i => Xa.add (gi p i) (gi q i)) (g := gi p) hkn
      have fa := HFP.out k
      have fb := HFQ.out k hlt
      have HX := Lib.hid (And.intro hB hI)
      have HST := Lib.hid hst
      obtain ⟨a, ha⟩ : ∃ a, gi p k = a := ⟨_, rfl⟩
      obtain ⟨b, hb⟩ : ∃ a, gi q k = a := ⟨_, rfl⟩
      obtain ⟨s, hs⟩ : ∃ s, Xa.add a b = s := ⟨_, rfl⟩
      rw [ha] at c1 fa
      rw [hb] at e2 fb
      have HS := Lib.hid (show Xa.add (gi p k) (gi q k) = s by rw [ha, hb]; exact hs)
      have C := Lib.hid (add_any a b fa.1 fa.2 fb.1 fb.2 wr)
      rw [hs] at C
      have j1 : (0 : Int) ≤ (k : Int) := by omega
      have j2 : (k : Int) < (lq : Int) := by omega
      have j3 : (k : Int) < (n : Int) := by omega
      clear hst ha hb hs hB hI fa fb
      go_wp2_with (first | (go_at_call 58; with_reducible refine C.out.mono ?_; rintro e w' ⟨rfl, rfl⟩))
      go_roundw
      case rel =>
        refine ⟨⟨k + 1, by omega, by go_num, HX.out.1.setCell (p := ⟨w.heap.size, k, none⟩) (Nat.le_refl _) _, ?_⟩, by simp [intOf]; omega⟩
        rw [← HST.out, HS.out]
        exact HX.out.2.set k s
      case measure => simp [intOf]; omega
    · have i3 : decide ((k : Int) < (lq : Int)) = false := decide_eq_false (by omega)
      have hkl : k = lq := by omega
      have hfin : gl n (upto k (fun i => Xa.add (gi p i) (gi q i)) (gi p)) = addF n p q := gl_congr fun i _ => by
        unfold upto
        by_cases hi : i < k
        · rw [if_pos hi]
        · rw [if_neg hi, gi_out (p := q) (by omega)]
          have := HFP.out i
          unfold Fit at this
          unfold Xa.add
          rw [if_neg (by omega), if_neg (by omega), Int.add_zero]
      rw [hfin] at hI
      have HX := Lib.hid (And.intro hI hB)
      clear hI hB hfin
      go_wp2_with fail
      go_ret
      exact ⟨_, rfl, HX.out⟩
end Go.Proofs.YtngjakahanmepaaGreatDoor
