/- Rows of whole numbers, sums, rows that the call makes: no walk. -/
import Derived.Test.YtafnmaojpheppaaWords
import Derived.Test.YtafnmaojpheppaaExact
import Derived.OwnWalk
import Derived.Deep.LoopGhost
import Derived.Deep.RegionHeld3
import Derived.Deep.AppendLies
import Derived.Laws.CopyOwn
import Derived.ArgAppend
namespace Go.Proofs.Ytafnmaojpheppaa
open Go.RowKit
set_option linter.unusedVariables false
set_option linter.unusedSimpArgs false

def su (f : Nat → Int) : Nat → Int
  | 0 => 0
  | n + 1 => su f n + f n
theorem su_congr {f g : Nat → Int} : ∀ {n : Nat}, (∀ i, i < n → f i = g i) → su f n = su g n
  | 0, _ => rfl
  | n + 1, h => by show su f n + f n = su g n + g n; rw [su_congr fun i hi => h i (by omega), h n (by omega)]
theorem su_add (f g : Nat → Int) : ∀ n : Nat, su (fun i => f i + g i) n = su f n + su g n
  | 0 => rfl
  | n + 1 => by show su (fun i => f i + g i) n + (f n + g n) = su f n + f n + (su g n + g n); rw [su_add f g n]; omega
theorem su_mul (c : Int) (f : Nat → Int) : ∀ n : Nat, su (fun i => c * f i) n = c * su f n
  | 0 => (Int.mul_zero c).symm
  | n + 1 => by show su (fun i => c * f i) n + c * f n = c * (su f n + f n); rw [su_mul c f n, Int.mul_add]
theorem su_le {f g : Nat → Int} : ∀ {n : Nat}, (∀ i, i < n → f i ≤ g i) → su f n ≤ su g n
  | 0, _ => Int.le_refl _
  | n + 1, h => by
    have := su_le (n := n) (fun i hi => h i (by omega))
    have := h n (by omega)
    show su f n + f n ≤ su g n + g n
    omega
theorem su_lt {f g : Nat → Int} : ∀ {n : Nat}, (∀ i, i < n → f i ≤ g i) → ∀ {i}, i < n → f i < g i → su f n < su g n
  | 0, _, i, hi, _ => absurd hi (Nat.not_lt_zero _)
  | n + 1, h, i, hi, hlt => by
    show su f n + f n < su g n + g n
    by_cases e : i = n
    · subst e
      have := su_le (n := i) (fun i hi => h i (by omega))
      omega
    · have := su_lt (n := n) (fun i hi => h i (by omega)) (i := i) (by omega) hlt
      have := h n (by omega)
      omega
theorem su_zero : ∀ {n : Nat} {f : Nat → Int}, (∀ i, i < n → f i = 0) → su f n = 0
  | 0, _, _ => rfl
  | n + 1, f, h => by show su f n + f n = 0; rw [su_zero fun i hi => h i (by omega), h n (by omega)]; rfl
theorem su_one {a : Nat} : ∀ {n : Nat}, a < n → su (fun i => if i = a then 1 else 0) n = 1
  | 0, h => absurd h (Nat.not_lt_zero _)
  | n + 1, h => by
    show su (fun i => if i = a then 1 else 0) n + (if n = a then 1 else 0) = 1
    by_cases e : n = a
    · subst e
      rw [su_zero (fun i hi => if_neg (by omega)), if_pos rfl]; rfl
    · rw [su_one (n := n) (by omega), if_neg e]; rfl
theorem su_mem {n : Nat} : ∀ {D : List Nat}, D.Nodup → (∀ a, a ∈ D → a < n) → su (fun i => if i ∈ D then 1 else 0) n = (D.length : Int)
  | [], _, _ => su_zero (fun i _ => if_neg (by simp))
  | a :: D, hd, hm => by
    have hd' := List.nodup_cons.1 hd
    have e : su (fun i => if i ∈ a :: D then 1 else 0) n = su (fun i => (if i = a then 1 else 0) + (if i ∈ D then 1 else 0)) n := su_congr fun i _ => by
      by_cases e1 : i = a
      · subst e1
        rw [if_pos (by simp), if_pos rfl, if_neg hd'.1]; rfl
      · by_cases e2 : i ∈ D
        · rw [if_pos (by simp [e2]), if_neg e1, if_pos e2]; rfl
        · rw [if_neg (by simp [e1, e2]), if_neg e1, if_neg e2]; rfl
    rw [e, su_add, su_one (hm a (by simp)), su_mem hd'.2 (fun b hb => hm b (by simp [hb]))]
    simp only [List.length_cons]
    omega

def gi (l : List Int) (i : Nat) : Int := l.getD i 0
theorem gi_at {l : List Int} {i : Nat} (h : i < l.length) : l[i]? = some (gi l i) := by simp [gi, h]
theorem gi_map {f : Nat → Int} {n i : Nat} (h : i < n) : gi ((List.range n).map f) i = f i := by simp [gi, List.getD, h]
theorem gi_set_same {l : List Int} {i : Nat} {v : Int} (h : i < l.length) : gi (l.set i v) i = v := by simp [gi, List.getD, h]
theorem gi_set_other {l : List Int} {i j : Nat} {v : Int} (h : i ≠ j) : gi (l.set i v) j = gi l j := by simp [gi, List.getD, h]
theorem gi_ext {l m : List Int} (h : l.length = m.length) (hg : ∀ i, i < l.length → gi l i = gi m i) : l = m := List.ext_getElem h fun i h1 h2 => by
  have := hg i h1
  simpa [gi, List.getD, h1, h2] using this
theorem sum_take (l : List Int) : ∀ k, k ≤ l.length → (l.take k).sum = su (gi l) k
  | 0, _ => by simp [su]
  | k + 1, h => by
    rw [List.take_succ_eq_append_getElem (by omega), List.sum_append, sum_take l k (by omega)]
    show _ + ([l[k]] : List Int).sum = su (gi l) k + gi l k
    simp [gi, List.getD, show k < l.length by omega]
theorem sum_su (l : List Int) : l.sum = su (gi l) l.length := by
  have := sum_take l l.length (Nat.le_refl _)
  rwa [List.take_length] at this

def ints (xs : List Int) : List Value := xs.map (Value.int .i64)
theorem ints_length (xs : List Int) : (ints xs).length = xs.length := List.length_map _
theorem ints_at {xs : List Int} {i : Nat} (h : i < xs.length) : (ints xs)[i]? = some (.int .i64 (gi xs i)) := by unfold ints; rw [List.getElem?_map, gi_at h]; rfl
theorem ints_set (xs : List Int) (i : Nat) (v : Int) : (ints xs).set i (.int .i64 v) = ints (xs.set i v) := by unfold ints; rw [List.map_set]
/-- the first k filled -/
def fl (n k : Nat) (f : Nat → Int) : List Int := (List.range n).map fun i => if i < k then f i else 0
theorem fl_length (n k : Nat) (f : Nat → Int) : (fl n k f).length = n := by simp [fl]
theorem fl_at {n k i : Nat} {f : Nat → Int} (h : i < n) : gi (fl n k f) i = if i < k then f i else 0 := gi_map h
theorem fl_set {n k : Nat} {f : Nat → Int} (h : k < n) : (fl n k f).set k (f k) = fl n (k + 1) f := by
  refine gi_ext (by simp [fl_length]) fun i hi => ?_
  rw [List.length_set, fl_length] at hi
  by_cases e : k = i
  · subst e; rw [gi_set_same (by rw [fl_length]; exact h), fl_at h, if_pos (by omega)]
  · rw [gi_set_other e, fl_at hi, fl_at hi]
    by_cases h1 : i < k
    · rw [if_pos h1, if_pos (by omega)]
    · rw [if_neg h1, if_neg (by omega)]
theorem fl_zero (n : Nat) (f : Nat → Int) : ints (fl n 0 f) = List.replicate n (.int .i64 0) := by
  refine List.ext_getElem (by simp [ints, fl]) fun i h1 h2 => by simp [ints, fl]
/-- a row of whole numbers that the call has made -/
def IR (w : World) (B g n : Nat) (xs : List Int) : Prop := w.ownsRow B 3 1 (.slice (some ⟨g, 0, none⟩) n n) n (ints xs)
theorem IR.lt {w : World} {B g n : Nat} {xs : List Int} (h : IR w B g n xs) : B ≤ g ∧ g < w.heap.size := World.ownsRow.lt h g rfl
theorem IR.len {w : World} {B g n : Nat} {xs : List Int} (h : IR w B g n xs) : xs.length = n := by have := h.1; rw [ints_length] at this; omega
theorem IR.cell {w : World} {B g n : Nat} {xs : List Int} (h : IR w B g n xs) {i : Nat} (hi : i < n) : w.cell? ⟨g, i, none⟩ = some (.int .i64 (gi xs i)) := by
  rw [World.ownsRow.cellAt h i (by omega), ints_at (by rw [h.len]; exact hi)]
theorem IR.frozen {w : World} {B g n : Nat} {xs : List Int} (h : IR w B g n xs) (i : Nat) : w.frozen? ⟨g, i, none⟩ = false := World.ownsRow.frozenAt h i
theorem IR.drew {w : World} {B g n : Nat} {xs : List Int} (h : IR w B g n xs) : IR w.drew B g n xs := h
theorem IR.kept {w w' : World} {B g n : Nat} {xs : List Int} {r : Option Nat} (h : IR w B g n xs) (hg : w.grownBy w' r) (hne : some g ≠ r) : IR w' B g n xs := World.ownsRow.kept h hg (.inr hne)
theorem IR.set {w : World} {B g n : Nat} {xs : List Int} (h : IR w B g n xs) (i : Nat) (v : Int) : IR (w.setCell ⟨g, i, none⟩ (.int .i64 v)) B g n (xs.set i v) := by
  have := (World.ownsRow.stored h i (.int .i64 v)).1
  rw [ints_set] at this
  exact this
theorem grown_set (w : World) (g i : Nat) (v : Value) : w.grownBy (w.setCell ⟨g, i, none⟩ v) (some g) :=
  ⟨rfl, rfl, rfl, by simp [World.setCell], fun k _ hk => heap_setCell_other w ⟨g, i, none⟩ k v (fun e => hk (by simp [e]))⟩
theorem grown_bel {w : World} (y : BelW w) : w.grownBy y.w none := ⟨y.2.os, y.2.tape, y.2.output, y.2.size, fun k hk _ => y.2.block k hk⟩
theorem grown_alloc (w : World) (o : Obj) : w.grownBy (w.alloc o) none := World.grownBy_alloc w o none
theorem below_grown {V w w' : World} {r : Option Nat} (h : Below V.heap.size V w) (hg : w.grownBy w' r) (hr : ∀ k, r = some k → V.heap.size ≤ k) : Below V.heap.size V w' := h.grown hg h.size hr

structure WtK (l : List Int) (k : Nat) : Prop where
  pos : ∀ i, i < k → 0 ≤ gi l i
  sum : su (gi l) k ≤ 1125899906842624
theorem WtK.nonneg {l : List Int} {k : Nat} (h : WtK l k) : 0 ≤ su (gi l) k := by
  have := su_le (f := fun _ => 0) (g := gi l) (n := k) h.pos
  rw [su_zero (fun _ _ => rfl)] at this
  exact this
theorem WtK.step {l : List Int} {k : Nat} (h : WtK l k) (h1 : 0 ≤ gi l k) (h2 : gi l k ≤ 1125899906842624 - su (gi l) k) : WtK l (k + 1) :=
  ⟨fun i hi => by by_cases e : i = k; · subst e; exact h1
                  · exact h.pos i (by omega), by show su (gi l) k + gi l k ≤ _; omega⟩
theorem info_int : (Try.prog.info? 3).map (fun i => (i.zero, i.size, i.bytes)) = some (some (.int .i64 0), 1, 8) := by kernel_rfl
theorem ir_made {w : World} {B g n : Nat} (f : Nat → Int) (h : w.ownsRow B 3 1 (.slice (some ⟨g, 0, none⟩) n n) n (madeCells #[Value.int .i64 0] n).toList) : IR w B g n (fl n 0 f) := by
  unfold IR
  rw [fl_zero, ← toList_madeCells_one]
  exact h
/-! rows -/
theorem IR.heap {w : World} {B g n : Nat} {xs : List Int} (h : IR w B g n xs) : w.heap[g]? = some (.cells (ints xs).toArray 3 (0, 0)) := by
  rcases h.2 with ⟨e, _⟩ | ⟨g', cap, cur, e, _, hg, _, _, hs, ht⟩
  · cases e
  · cases e
    rw [hg, ← ht]
    congr 2
    rw [List.take_of_length_le (by rw [Array.length_toList, hs]; exact Nat.le_refl _)]
theorem IR.of {w : World} {B g n : Nat} {xs : List Int} (h : w.heap[g]? = some (.cells (ints xs).toArray 3 (0, 0))) (hl : xs.length = n) (hb : B ≤ g) (hm : n ≤ maxLen) : IR w B g n xs :=
  ⟨by rw [ints_length, hl, Nat.mul_one], .inr ⟨g, n, (ints xs).toArray, rfl, hb, h, Nat.le_refl _, hm, by simp [ints_length, hl], by rw [List.take_of_length_le (by simp [ints_length, hl])]⟩⟩
theorem IR.next {w w' : World} {B g n : Nat} {xs : List Int} (h : IR w B g n xs) (hb : Below w.heap.size w w') : IR w' B g n xs := h.kept (grown_bel ⟨w', hb⟩) (by simp)
theorem IR.rd {w : World} {B g n : Nat} {xs : List Int} (h : IR w B g n xs) : Rd w (some ⟨g, 0, none⟩) (ints xs) := fun _ =>
  ⟨⟨g, 0, none⟩, rfl, h.lt.2, fun j u hu => World.ownsRow.cells h (g := g) rfl j u hu⟩
theorem splice_all (n : Nat) (f : Nat → Int) {p : List Int} (h : p.length = n) : splice (ints (fl n 0 f)) 0 (ints p) = ints p := by
  unfold splice
  rw [List.take_zero, List.nil_append, List.drop_eq_nil_of_le (by rw [ints_length, ints_length, fl_length]; omega), List.append_nil]
theorem info_i1 : (Try.prog.info? 3).map (·.size) = some 1 := by kernel_rfl
theorem ints_one (p : List Int) : ∀ v ∈ ints p, v.oneCell' = true := fun v hv => by
  unfold ints at hv
  obtain ⟨a, _, rfl⟩ := List.mem_map.1 hv
  rfl
/-- a row's list by its places -/
def gl (n : Nat) (f : Nat → Int) : List Int := (List.range n).map f
theorem gl_length (n : Nat) (f : Nat → Int) : (gl n f).length = n := by simp [gl]
theorem gl_at {n i : Nat} {f : Nat → Int} (h : i < n) : gi (gl n f) i = f i := gi_map h
theorem gl_self {p : List Int} {n : Nat} (h : p.length = n) : gl n (gi p) = p := gi_ext (by rw [gl_length, h]) fun i hi => by rw [gl_length] at hi; rw [gl_at hi]
theorem gl_congr {n : Nat} {f g : Nat → Int} (h : ∀ i, i < n → f i = g i) : gl n f = gl n g := gi_ext (by rw [gl_length, gl_length]) fun i hi => by rw [gl_length] at hi; rw [gl_at hi, gl_at hi, h i hi]
theorem gl_set {n k : Nat} {f : Nat → Int} (h : k < n) (v : Int) : (gl n f).set k v = gl n (fun i => if i = k then v else f i) := by
  refine gi_ext (by simp [gl_length]) fun i hi => ?_
  rw [List.length_set, gl_length] at hi
  by_cases e : k = i
  · subst e; rw [gi_set_same (by rw [gl_length]; exact h), gl_at h, if_pos rfl]
  · rw [gi_set_other e, gl_at hi, gl_at hi, if_neg (Ne.symm e)]
/-- k places turned -/
def upto (k : Nat) (f g : Nat → Int) (i : Nat) : Int := if i < k then f i else g i
theorem gl_step {n k : Nat} {f g : Nat → Int} (h : k < n) : (gl n (upto k f g)).set k (f k) = gl n (upto (k + 1) f g) := by
  rw [gl_set h]
  refine gl_congr fun i _ => ?_
  unfold upto
  by_cases e : i = k
  · subst e; rw [if_pos rfl, if_pos (by omega)]
  · rw [if_neg e]
    by_cases h1 : i < k
    · rw [if_pos h1, if_pos (by omega)]
    · rw [if_neg h1, if_neg (by omega)]
theorem gl_none (n : Nat) (f g : Nat → Int) : gl n (upto 0 f g) = gl n g := gl_congr fun i _ => by unfold upto; rw [if_neg (by omega)]
theorem gl_all (n : Nat) (f g : Nat → Int) : gl n (upto n f g) = gl n f := gl_congr fun i hi => by unfold upto; rw [if_pos hi]
theorem BelW.below6 {w : World} (x : BelW w) : Below w.heap.size w x.w := x.2

theorem info_int2 : (Try.prog.info? 3).map (fun i => (i.zero, i.size, i.bytes)) = some (some (.int .i64 0), 1, 8) := by kernel_rfl
theorem heap_ir {w : World} {B g n : Nat} {f : Nat → Int} {p : List Int} (h : w.heap[g]? = some (.cells (splice (ints (fl n 0 f)) 0 (ints p)).toArray 3 (0, 0))) (hl : p.length = n) (hb : B ≤ g) (hm : n ≤ maxLen) : IR w B g n p := by
  rw [splice_all n f hl] at h
  exact IR.of h hl hb hm
theorem copy_pos {w : World} {A : Option Addr} {p : List Int} {g : Nat} (hr : Rd w A (ints p)) : 0 < (ints p).length → (some (⟨g, 0, none⟩ : Addr) = some ⟨g, 0, none⟩) ∧ ∃ ad, A = some ad ∧ ∀ j v, (ints p)[j]? = some v → w.cell? (ad.add j) = some v := fun h => by
  obtain ⟨ad, e, _, hc⟩ := hr h
  exact ⟨rfl, ad, e, hc⟩

def MkPost (n : Nat) (x : List Int) (w : World) (e : Ending) (w' : World) : Prop := ∃ g, e = .returned (.slice (some ⟨g, 0, none⟩) n n) ∧ IR w' w.heap.size g n x ∧ Below w.heap.size w w'
theorem ir_made2 {w : World} {B g n : Nat} (h : w.ownsRow B 3 1 (.slice (some ⟨g, 0, none⟩) n n) n (madeCells #[Value.int .i64 0] n).toList) : IR w B g n (gl n fun _ => 0) := by
  have h' := ir_made (fun _ => 0) h
  rwa [show fl n 0 (fun _ => 0) = gl n (fun _ => 0) from gi_ext (by rw [fl_length, gl_length]) fun i hi => by rw [fl_length] at hi; rw [fl_at hi, gl_at hi, if_neg (by omega)]] at h'
theorem IR.base {w : World} {B B' g n : Nat} {xs : List Int} (h : IR w B g n xs) (hb : B' ≤ B) : IR w B' g n xs := IR.of h.heap h.len (Nat.le_trans hb h.lt.1) (by
  rcases h.2 with ⟨e, _⟩ | ⟨g', cap, cur, e, _, _, hc, hm, _⟩
  · cases e
  · cases e; exact hm)

theorem splice_gl {n : Nat} {p : List Int} (h : p.length ≤ n) : splice (ints (fl n 0 fun _ => 0)) 0 (ints p) = ints (gl n (gi p)) := by
  unfold splice
  rw [List.take_zero, List.nil_append]
  refine List.ext_getElem (by simp [ints_length, fl_length, gl_length]; omega) fun i h1 h2 => ?_
  rw [ints_length, gl_length] at h2
  rw [List.getElem_append]
  split
  · rename_i h3
    rw [ints_length] at h3
    simp [ints, gl, gi, List.getD, h3]
  · rename_i h3
    rw [ints_length] at h3
    simp [ints, gl, gi, List.getD, fl, h3]
theorem gi_out {p : List Int} {i : Nat} (h : p.length ≤ i) : gi p i = 0 := by simp [gi, List.getD, h]
theorem gi_fit {p : List Int} (hf : ∀ i, i < p.length → Fit (gi p i)) (i : Nat) : Fit (gi p i) := by
  by_cases h : i < p.length
  · exact hf i h
  · rw [gi_out (by omega)]; unfold Fit; omega
theorem own_bel {V : World} {base : Nat} {e : TypeId} {size : Nat} {v : Value} {n : Nat} {xs : List Value} (h : V.ownsRow base e size v n xs) (y : BelW V) : y.w.ownsRow base e size v n xs :=
  h.kept (row := none) ⟨y.2.os, y.2.tape, y.2.output, y.2.size, fun k hk _ => y.2.block k hk⟩ (by cases v.ownBlock <;> simp)
theorem own_grown {V w w' : World} {e : TypeId} {size : Nat} {v : Value} {n : Nat} {xs : List Value} (h : Below V.heap.size V w) (ho : w.ownsRow V.heap.size e size v n xs) (hg : w.grownBy w' v.ownBlock) : Below V.heap.size V w' :=
  h.grown hg h.size fun k hk => (ho.lt k hk).1
theorem own_rd {w : World} {base : Nat} {e : TypeId} {size : Nat} {v : Value} {n : Nat} {xs : List Value} (h : w.ownsRow base e size v n xs) (hn : 0 < n) :
    ∃ g cap, v = .slice (some ⟨g, 0, none⟩) n cap ∧ Rd w (some ⟨g, 0, none⟩) xs := by
  obtain ⟨g, cap, rfl, hb, hl⟩ := h.form hn
  exact ⟨g, cap, rfl, fun _ => ⟨⟨g, 0, none⟩, rfl, hl, fun j u hu => h.cells (g := g) rfl j u hu⟩⟩
end Go.Proofs.Ytafnmaojpheppaa
