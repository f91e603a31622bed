/- Part 3 of the proof of TopRights: Whole structs out of boxes: loads by range, in plain and in drawn regions. -/
import Derived.Test.YtngjakahanmepaaGreatDoorM02
import Derived.Deep.MidRow
import Derived.Laws.Tables
namespace Go.Proofs.YtngjakahanmepaaGreatDoor
open Go.RowKit
set_option linter.unusedVariables false
set_option linter.unusedSimpArgs false
theorem BelW.range {V : World} {b : Nat} {cs : List Value} (h : V.rangeAt b 0 cs) (y : BelW V) : y.w.rangeAt b 0 cs := fun j v hv => BelW.cells (h j v hv) y
theorem rangeX {V : World} {b : Nat} {cs : List Value} (h : V.rangeAt b 0 cs) : ∀ w, (∃ y : BelW V, w = y.w) → w.rangeAt b 0 cs := fun _ ⟨y, e⟩ => e ▸ BelW.range h y
theorem range_new (w : World) (t : TypeId) (cs : List Value) : (w.alloc (.cells cs.toArray t)).rangeAt w.heap.size 0 cs := fun j v hv => by
  rw [World.cell?_alloc_at _ _ _ _ rfl, Nat.zero_add, List.getElem?_toArray, hv]
theorem bfrozen {V : World} (y : BelW V) {b o : Nat} (hb : b < V.heap.size) (h : V.frozen? ⟨b, o, none⟩ = false) : y.w.frozen? ⟨b, o, none⟩ = false := (y.2.frozen (p := ⟨b, o, none⟩) hb).trans h
/-- block b of V may be written, in every world that holds all that V holds -/
def Fz (V : World) (b : Nat) : Prop := b < V.heap.size ∧ ∀ o, V.frozen? ⟨b, o, none⟩ = false
theorem Fz.new (w : World) (c : Array Value) (t : TypeId) {b : Nat} (hb : b = w.heap.size) : Fz (w.alloc (.cells c t)) b := ⟨by rw [World.size_alloc]; omega, fun o => World.frozen?_alloc_at c t _ o hb⟩
theorem Fz.old {w : World} {b : Nat} (h : Fz w b) (o : Obj) : Fz (w.alloc o) b := ⟨by rw [World.size_alloc]; have := h.1; omega, fun i => (World.frozen?_alloc_past o _ i h.1).trans (h.2 i)⟩
theorem Fz.bel {V : World} {b : Nat} (h : Fz V b) : ∀ (y : BelW V) (o : Nat), y.w.frozen? ⟨b, o, none⟩ = false := fun y o => bfrozen y h.1 (h.2 o)
theorem Fz.at {V U : World} {b : Nat} (h : V = U) (hf : Fz U b) : Fz V b := h ▸ hf
/-! with a guard that is decided -/
theorem wpQuiet_load_g {P : Program} {ops : Array Oper} {C : World → Prop} {Q : Act → Prop} {o : Oper} {rest : List Oper} {a : Act} (ty : TypeId) (x : Operand) (ho : o.op = .load ty x)
    (b off : Nat) (hx : a.eval x = .pointer (some ⟨b, off, none⟩)) (hw : Region.wanted o (yielded ops a.tmps) = true) (cs : List Value) (d : TypeDesc) (hc : ∀ w, C w → w.rangeAt b off cs)
    (hu : P.underlying ty = some d) (hd : d.isRow = true) (hi : (P.info? ty).map (·.size) = some cs.length)
    (h : wpQuiet P ops C Q rest (a.put o.dst (.agg cs.toArray))) : wpQuiet P ops C Q (o :: rest) a :=
  wpQuiet_step fun K hK => by
    rw [if_pos hw]
    refine ⟨_, fun w hw => ?_, hK _ h⟩
    unfold Oper.quietAt execOp
    simp only [ho, hx, Instr.loadAt, Instr.sureAddr, Sem.run_bind, Sem.run_pure, Result.andThen_ok, run_loadVar_mid w b off ty cs d (hc w hw) hu hd hi]
    exact ⟨rfl, rfl⟩
theorem wpList_load_g {P : Program} {ops : Array Oper} {rest : List Oper} {o : Oper} {a : Act} {w : World} {Q : Exit → Act → World → Prop} (ty : TypeId) (x : Operand) (ho : o.op = .load ty x)
    (b off : Nat) (hx : a.eval x = .pointer (some ⟨b, off, none⟩)) (hw : Region.wanted o (yielded ops a.tmps) = true) (cs : List Value) (d : TypeDesc) (hc : w.rangeAt b off cs)
    (hu : P.underlying ty = some d) (hd : d.isRow = true) (hi : (P.info? ty).map (·.size) = some cs.length)
    (h : wpList P ops Q rest (a.put o.dst (.agg cs.toArray)) w) : wpList P ops Q (o :: rest) a w :=
  wpList_step fun K hK => by
    rw [if_pos hw]
    exact wp_load_mid ty x ho b off hx cs d hc hu hd hi (hK _ _ h)
/-! a store that fills a block just laid -/
def putFrom (c : List Value) : Nat → List Value → List Value
  | _, [] => c
  | o, v :: r => putFrom (c.set o v) (o + 1) r
theorem putFrom_eq : ∀ (r : List Value) (c : List Value) (o : Nat), o + r.length = c.length → putFrom c o r = c.take o ++ r
  | [], c, o, h => by simp [putFrom] at *; rw [List.take_of_length_le (by omega)]
  | v :: r, c, o, h => by
    simp only [List.length_cons] at h
    rw [putFrom, putFrom_eq r _ (o + 1) (by simp; omega), List.take_succ_eq_append_getElem (by simp; omega), List.take_set, List.set_eq_of_length_le (by simp; omega)]
    simp
theorem setCells_alloc {w : World} {t : TypeId} {n : Nat} (hn : n = w.heap.size) : ∀ (r : List Value) (c : List Value) (o : Nat), (w.alloc (.cells c.toArray t)).setCells n o r = w.alloc (.cells (putFrom c o r).toArray t)
  | [], _, _ => rfl
  | v :: r, c, o => by
    rw [World.setCells, World.setCell_alloc_at _ _ _ _ _ hn, List.setIfInBounds_toArray, setCells_alloc hn r (c.set o v) (o + 1)]
    rfl
theorem wpList_store_new {P : Program} {ops : Array Oper} {rest : List Oper} {op : Oper} {a : Act} {w : World} {Q : Exit → Act → World → Prop} (ty : TypeId) (x y : Operand) (ho : op.op = .store ty x y) (hgd : op.guard = none)
    (b : Nat) (hb : b = w.heap.size) (z cs : List Value) (t : TypeId) (hx : a.eval x = .pointer (some ⟨b, 0, none⟩)) (hy : a.eval y = .agg cs.toArray)
    (hl : cs.length = z.length) (hi : (P.info? ty).map (·.size) = some cs.length) (h1 : cs.all (·.oneCell') = true)
    (h : wpList P ops Q rest (a.put op.dst undef) (w.alloc (.cells cs.toArray t))) : wpList P ops Q (op :: rest) a (w.alloc (.cells z.toArray t)) := by
  refine wpList_store_mid hgd ty x y ho b 0 cs.toArray hx hy ?_ (by simpa using hi) (by rw [List.all_toArray]; exact h1) ?_
  · intro j hj
    refine ⟨?_, World.frozen?_alloc_at _ t _ _ hb⟩
    rw [World.cell?_alloc_at _ t _ _ hb, Nat.zero_add, Array.getElem?_eq_getElem (by simpa [hl] using hj)]
    rfl
  · rw [setCells_alloc hb, putFrom_eq _ _ _ (by simpa using hl)]
    simpa using h
theorem wpList_build_as {P : Program} {ops : Array Oper} {rest : List Oper} {o : Oper} {a : Act} {w : World} {Q : Exit → Act → World → Prop} (t : TypeId) (parts : Array (Nat × Operand)) (ho : o.op = .build t parts) (hgd : o.guard = none)
    (cells : Array Value) (hf : P.built t (parts.map fun (i, x) => (i, a.eval x)).toList = some cells)
    (h : wpList P ops Q rest (a.put o.dst (.agg cells)) w) : wpList P ops Q (o :: rest) a w :=
  wpList_build hgd t parts ho (by rw [hf]; rfl) (by rw [hf]; exact h)
theorem wp_named {P : Program} {c : Code} {Q : Exit → Act → World → Prop} {a : Act} (w : World) (h : ∀ V : World, V = w → c.wp P Q a V) : c.wp P Q a w := h w rfl
end Go.Proofs.YtngjakahanmepaaGreatDoor
