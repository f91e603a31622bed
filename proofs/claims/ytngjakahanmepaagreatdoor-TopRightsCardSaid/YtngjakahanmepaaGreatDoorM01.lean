/- Part 1 of the proof of TopRights: Worlds that have only grown: a class for regions that draw their order and whose calls make memory but change none that was there. -/
import Derived.Test.YtngjakahanmepaaGreatDoorProg
import Derived.WalkKit
import Derived.WalkLawsBesides
import Derived.WalkSpells
import Derived.Lib.Hide
import Derived.Deep.QuietTactic
import Derived.BigQuiet
import Derived.Below
namespace Go.Proofs.YtngjakahanmepaaGreatDoor
open Go.RowKit
set_option linter.unusedVariables false
set_option linter.unusedSimpArgs false
/-- the worlds that hold all that w holds -/
def BelW (w : World) : Type := { w' : World // Below w.heap.size w w' }
instance (w : World) : Nonempty (BelW w) := ⟨⟨w, Below.refl _ _⟩⟩
def BelW.w {w : World} (x : BelW w) : World := x.1
theorem below_drewN {B : Nat} {a w : World} (h : Below B a w) (n : Nat) : Below B a (w.drewN n) := ⟨h.os, h.tape, h.output, h.size, h.block⟩
theorem below_of_drewN (w : World) (n : Nat) : Below w.heap.size w (w.drewN n) := below_drewN (Below.refl _ _) n
theorem below_next {a b c : World} (h : Below a.heap.size a b) (k : Below b.heap.size b c) : Below a.heap.size a c := h.trans (k.mono h.size)
theorem BelW.cell {w : World} {b o : Nat} {v : Value} (h : w.cell? ⟨b, o, none⟩ = some v) (x : BelW w) : x.w.cell? ⟨b, o, none⟩ = some v := by
  have hlt : b < w.heap.size := World.block_lt_of_cell? w _ h
  exact (x.2.cell (p := ⟨b, o, none⟩) hlt).trans h
theorem bel_of {P : Program} {f : FuncId} {args : Array Value} {w : World} {x : BelW w} {v : Value}
    (h : Calls P f args x.w fun e w' => e = .returned v ∧ Below x.w.heap.size x.w w') : Calls P f args x.w fun e w'' => e = .returned v ∧ ∃ y : BelW w, w'' = y.w :=
  h.mono fun _ w' ⟨he, hb⟩ => ⟨he, ⟨w', below_next x.2 hb⟩, rfl⟩
theorem bel_of_same {P : Program} {f : FuncId} {args : Array Value} {w : World} {x : BelW w} {v : Value}
    (h : Calls P f args x.w fun e w' => e = .returned v ∧ x.w = w') : Calls P f args x.w fun e w'' => e = .returned v ∧ ∃ y : BelW w, w'' = y.w :=
  h.mono fun _ _ ⟨he, hb⟩ => ⟨he, x, hb.symm⟩
theorem bel_of_drew {P : Program} {f : FuncId} {args : Array Value} {w : World} {x : BelW w} {v : Value}
    (h : Calls P f args x.w fun e w' => e = .returned v ∧ ∃ n, w' = x.w.drewN n) : Calls P f args x.w fun e w'' => e = .returned v ∧ ∃ y : BelW w, w'' = y.w :=
  h.mono fun _ _ ⟨he, n, hn⟩ => ⟨he, ⟨x.w.drewN n, below_drewN x.2 n⟩, hn⟩
theorem BelW.cells {w : World} {a : Addr} {v : Value} (h : w.cell? a = some v) (x : BelW w) : x.w.cell? a = some v := (x.2.cell (World.block_lt_of_cell? w _ h)).trans h
theorem cell_alloc {V : World} {a : Addr} {v : Value} (h : V.cell? a = some v) (o : Obj) : (V.alloc o).cell? a = some v := (World.cell?_alloc_lt V o a (World.block_lt_of_cell? V a h)).trans h
/-- cells that a world holds -/
def Cs (V : World) : List (Addr × Value) → Prop
  | [] => True
  | p :: r => V.cell? p.1 = some p.2 ∧ Cs V r
/-- cells that every world holds that holds all that V holds: rules for the walk -/
def Bx (V : World) : List (Addr × Value) → Prop
  | [] => True
  | p :: r => (∀ y : BelW V, y.w.cell? p.1 = some p.2) ∧ Bx V r
def newCells (b : Nat) : Nat → List Value → List (Addr × Value)
  | _, [] => []
  | j, v :: r => (⟨b, j, none⟩, v) :: newCells b (j + 1) r
def join : List (Addr × Value) → List (Addr × Value) → List (Addr × Value)
  | [], l => l
  | p :: r, l => p :: join r l
theorem Cs.bx {V : World} : ∀ {l : List (Addr × Value)}, Cs V l → Bx V l
  | [], _ => trivial
  | _ :: _, h => ⟨fun y => BelW.cells h.1 y, Cs.bx h.2⟩
theorem Cs.below {V : World} (y : BelW V) : ∀ {l : List (Addr × Value)}, Cs V l → Cs y.w l
  | [], _ => trivial
  | _ :: _, h => ⟨BelW.cells h.1 y, Cs.below y h.2⟩
theorem Cs.drewN {V : World} (n : Nat) : ∀ {l : List (Addr × Value)}, Cs V l → Cs (V.drewN n) l
  | [], _ => trivial
  | _ :: _, h => ⟨h.1, Cs.drewN n h.2⟩
theorem Cs.old {V : World} (o : Obj) : ∀ {l : List (Addr × Value)}, Cs V l → Cs (V.alloc o) l
  | [], _ => trivial
  | _ :: _, h => ⟨cell_alloc h.1 o, Cs.old o h.2⟩
theorem Cs.join {V : World} {m : List (Addr × Value)} (hm : Cs V m) : ∀ {l : List (Addr × Value)}, Cs V l → Cs V (Go.Proofs.YtngjakahanmepaaGreatDoor.join l m)
  | [], _ => hm
  | _ :: _, h => ⟨h.1, Cs.join hm h.2⟩
theorem Cs.new {V : World} {t : TypeId} {l : List Value} : ∀ (k : List Value) (j : Nat), (∀ i, k[i]? = l[j + i]?) → Cs (V.alloc (.cells l.toArray t)) (newCells V.heap.size j k)
  | [], _, _ => trivial
  | v :: r, j, h => by
    refine ⟨?_, Cs.new r (j + 1) fun i => ?_⟩
    · show (V.alloc (.cells l.toArray t)).cell? ⟨V.heap.size, j, none⟩ = some v
      rw [World.cell?_alloc_at _ _ _ _ rfl]
      have h0 := h 0
      simp only [List.getElem?_cons_zero, Nat.add_zero] at h0
      rw [List.getElem?_toArray, ← h0]
    · have := h (i + 1)
      simp only [List.getElem?_cons_succ] at this
      rw [this]
      congr 1
      omega
theorem Cs.alloc {V : World} {m : List (Addr × Value)} (hm : Cs V m) (t : TypeId) (l : List Value) : Cs (V.alloc (.cells l.toArray t)) (Go.Proofs.YtngjakahanmepaaGreatDoor.join (newCells V.heap.size 0 l) m) :=
  (hm.old _).join (Cs.new l 0 fun i => by rw [Nat.zero_add])
theorem Cs.at {V U : World} (h : V = U) {l : List (Addr × Value)} (hc : Cs U l) : Cs V l := h ▸ hc
theorem bel_at {w V U : World} (h : V = U) (hb : Below w.heap.size w U) : Below w.heap.size w V := h ▸ hb
theorem Cs.nil (V : World) : Cs V [] := trivial
theorem bel_alloc {w V : World} (h : Below w.heap.size w V) (o : Obj) : Below w.heap.size w (V.alloc o) := h.alloc h.size o
/-- the walk goes on from a world that is a letter, and from any that holds all that it holds -/
theorem rebase {P : Program} {f : FuncId} {args : Array Value} {Q : Ending → World → Prop} (V : World) (h : ∀ V' : World, V' = V → ∀ x : BelW V', Calls P f args x.w Q) : Calls P f args V Q :=
  h V rfl ⟨V, Below.refl _ _⟩
theorem wp_rebase {P : Program} {c : Code} {Q : Exit → Act → World → Prop} {a : Act} (V : World) (h : ∀ V' : World, V' = V → ∀ x : BelW V', c.wp P Q a x.w) : c.wp P Q a V :=
  h V rfl ⟨V, Below.refl _ _⟩
theorem wp_region_belx {P : Program} {id : Nat} {Q : Exit → Act → World → Prop} {a : Act} {V : World} {x : BelW V} {l : List Oper} (hm : P.follows .mixedOrders = true) (hB : Region.lexB .any l.toArray = true)
    (h : wpQuiet P l.toArray (fun w' => ∃ y : BelW V, w' = y.w) (fun a' => ∀ y : BelW V, Q .normal a' y.w) l a) : (Code.region id l.toArray true).wp P Q a x.w :=
  wp_region_quiet (C := fun w' => ∃ y : BelW V, w' = y.w) hm hB ⟨⟨_, x.2.drew⟩, rfl⟩ (by
    have e : (fun a' => ∀ w', (∃ y : BelW V, w' = y.w) → Q .normal a' w') = (fun a' => ∀ y : BelW V, Q .normal a' y.w) := by
      funext a'
      apply propext
      constructor
      · intro k y
        exact k _ ⟨y, rfl⟩
      · rintro k w' ⟨y, rfl⟩
        exact k y
    rw [e]
    simpa using h)
end Go.Proofs.YtngjakahanmepaaGreatDoor
