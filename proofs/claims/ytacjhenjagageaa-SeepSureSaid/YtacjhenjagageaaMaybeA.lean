/- seep.Maybe: what it computes. -/
import Derived.Test.YtacjhenjagageaaCorn
namespace Go.Proofs.Ytacjhenjagageaa
open Go.RowKit Go.Shelf
set_option linter.unusedVariables false
set_option linter.unusedSimpArgs false

theorem wpListIn_load_mid {F : Fence} {n : Nat} {P : Program} {ops : Array Oper} {rest : List Oper} {op : Oper} {a : Act} {w : World} {Q : Exit → Act → World → Prop} (hgd : op.guard = none) (ty : TypeId) (x : Operand) (ho : op.op = .load ty x)
    (b o : Nat) (hx : a.eval x = .pointer (some ⟨b, o, none⟩)) (cs : List Value) (d : TypeDesc) (hc : w.rangeAt b o cs)
    (hu : P.underlying ty = some d) (hd : d.isRow = true) (hi : (P.info? ty).map (·.size) = some cs.length)
    (h : wpListIn F n P ops Q rest (a.put op.dst (.agg cs.toArray)) w) : wpListIn F n P ops Q (op :: rest) a w :=
  wpListIn_plain hgd fun _ hK => by
    unfold Oper.wpIn
    rw [Oper.semAt_eq _ _ _ (by intro c; rw [ho]; simp)]
    refine ⟨fun f hf => by simp [Oper.about, ho] at hf, ?_⟩
    unfold execOp
    simp only [ho, hx, Instr.loadAt, Instr.sureAddr, Sem.run_bind, Sem.run_pure, Result.andThen_ok, run_loadVar_mid w b o ty cs d hc hu hd hi]
    exact hK _ _ h

def oneB (b : Bool) : Int := if b then 1 else 0
/-- one state before, one volume -/
def stepB (kind prime brk klo khi x : Int) (b : Bool) (st : Bool × Int × Int) : Bool × Int × Int :=
  if (decide (klo ≤ oneB b) && decide (oneB b ≤ khi)) = true then
    (if st.1 = true then (true, min st.2.1 (oneB (sipOpen kind prime brk x b)), max st.2.2 (oneB (sipOpen kind prime brk x b))) else (true, oneB (sipOpen kind prime brk x b), oneB (sipOpen kind prime brk x b)))
  else st
def stepX (kind prime brk klo khi : Int) (st : Bool × Int × Int) (x : Int) : Bool × Int × Int := stepB kind prime brk klo khi x true (stepB kind prime brk klo khi x false st)
def foldX (kind prime brk klo khi : Int) (l : List Int) : Bool × Int × Int := l.foldl (stepX kind prime brk klo khi) (false, 0, 0)
theorem foldX_snoc (kind prime brk klo khi : Int) (l : List Int) (x : Int) : foldX kind prime brk klo khi (l ++ [x]) = stepX kind prime brk klo khi (foldX kind prime brk klo khi l) x := by
  unfold foldX
  rw [List.foldl_append]
  rfl
/-- what is known of the state behind the step -/
def maybeOpen (kind prime brk klo khi vlo vhi : Int) : Int × Int :=
  if kind = 3 then (if (foldX kind prime brk klo khi (cornersOf vlo vhi brk)).1 = true then (foldX kind prime brk klo khi (cornersOf vlo vhi brk)).2 else (klo, khi)) else (klo, khi)

/-- the boxes of Maybe while its loop runs -/
structure MayI (w : World) (LKl Kl : List Value) (st : Bool × Int × Int) (W : World) : Prop where
  link : W.rangeAt w.heap.size 0 LKl
  known : W.rangeAt (w.heap.size + 1) 0 Kl
  knownW : W.there (w.heap.size + 1) 0 5
  res : W.there (w.heap.size + 1 + 1 + 1) 0 5
  found : W.cell? ⟨w.heap.size + 1 + 1 + 1 + 1, 0, none⟩ = some (.bool st.1)
  foundW : W.there (w.heap.size + 1 + 1 + 1 + 1) 0 1
  lo : W.cell? ⟨w.heap.size + 1 + 1 + 1 + 1 + 1, 0, none⟩ = some (.int .i64 st.2.1)
  hi : W.cell? ⟨w.heap.size + 1 + 1 + 1 + 1 + 1, 1, none⟩ = some (.int .i64 st.2.2)
  openW : W.there (w.heap.size + 1 + 1 + 1 + 1 + 1) 0 2
  below : Below w.heap.size w W
  big : w.heap.size + 7 < W.heap.size

theorem range_kept {A B : World} {row : Option Nat} {b o : Nat} {cs : List Value} (h : A.rangeAt b o cs) (hg : A.grownBy B row) (hr : ∀ r, row = some r → ∃ o : Obj, A.heap[r]? = some o ∧ o.isCells = false) : B.rangeAt b o cs := fun j v hv => cell_kept (h j v hv) hg hr
theorem there_kept {A B : World} {row : Option Nat} {b o n : Nat} (h : A.there b o n) (hg : A.grownBy B row) (hr : ∀ r, row = some r → ∃ o : Obj, A.heap[r]? = some o ∧ o.isCells = false) : B.there b o n := fun j hj => by
  obtain ⟨v, hv⟩ := Option.isSome_iff_exists.1 (h j hj).1
  exact ⟨by rw [cell_kept hv hg hr]; rfl, (frozen_kept hv hg hr).trans (h j hj).2⟩
theorem there_below {B b o n : Nat} {W W' : World} (h : W.there b o n) (hb : Below B W W') (hlt : b < B) : W'.there b o n := fun j hj => ⟨by rw [hb.cell (p := ⟨b, o + j, none⟩) hlt]; exact (h j hj).1, (hb.frozen (p := ⟨b, o + j, none⟩) hlt).trans (h j hj).2⟩
theorem range_below {B b o : Nat} {cs : List Value} {W W' : World} (h : W.rangeAt b o cs) (hb : Below B W W') (hlt : b < B) : W'.rangeAt b o cs := fun j v hv => (hb.cell (p := ⟨b, o + j, none⟩) hlt).trans (h j v hv)
theorem there_new (w : World) (t : TypeId) (c : Array Value) {b : Nat} (hb : b = w.heap.size) : (w.alloc (.cells c t)).there b 0 c.size := fun j hj => by
  refine ⟨?_, World.frozen?_alloc_at c t _ _ hb⟩
  rw [World.cell?_alloc_at c t _ _ hb, Nat.zero_add, Array.getElem?_eq_getElem hj]
  rfl

/-- the calls of a round lay new blocks alone -/
theorem MayI.below' {w : World} {LKl Kl : List Value} {st : Bool × Int × Int} {W W' : World} (h : MayI w LKl Kl st W) (hb : Below W.heap.size W W') : MayI w LKl Kl st W' := by
  have hw := h.big
  exact ⟨range_below h.link hb (by omega), range_below h.known hb (by omega), there_below h.knownW hb (by omega), there_below h.res hb (by omega), (hb.cell (p := ⟨w.heap.size + 1 + 1 + 1 + 1, 0, none⟩) (by simp; omega)).trans h.found, there_below h.foundW hb (by omega),
    (hb.cell (p := ⟨w.heap.size + 1 + 1 + 1 + 1 + 1, 0, none⟩) (by simp; omega)).trans h.lo, (hb.cell (p := ⟨w.heap.size + 1 + 1 + 1 + 1 + 1, 1, none⟩) (by simp; omega)).trans h.hi, there_below h.openW hb (by omega), h.below.trans (hb.mono (by omega)), by have := hb.size; omega⟩
theorem MayI.drew {w : World} {LKl Kl : List Value} {st : Bool × Int × Int} {W : World} (h : MayI w LKl Kl st W) : MayI w LKl Kl st W.drew :=
  ⟨h.link, h.known, h.knownW, h.res, h.found, h.foundW, h.lo, h.hi, h.openW, h.below.drew, h.big⟩
theorem there_set {W : World} {b o n : Nat} (h : W.there b o n) (a : Addr) (v : Value) : (W.setCell a v).there b o n := fun j hj => by
  refine ⟨?_, by rw [World.frozen?_setCell]; exact (h j hj).2⟩
  by_cases e : a = ⟨b, o + j, none⟩
  · subst e
    rw [World.cell?_setCell_same' _ _ _ (h j hj).1]
    rfl
  · rw [World.cell?_setCell_other _ _ _ _ e]
    exact (h j hj).1
theorem range_set {W : World} {b o : Nat} {cs : List Value} (h : W.rangeAt b o cs) (a : Addr) (ha : a.block ≠ b) (v : Value) : (W.setCell a v).rangeAt b o cs := fun j u hu => by
  rw [World.cell?_setCell_other _ _ _ _ (fun e => ha (by rw [e]))]
  exact h j u hu
theorem cell_set {W : World} {p : Addr} {u : Value} (h : W.cell? p = some u) (a : Addr) (ha : a ≠ p) (v : Value) : (W.setCell a v).cell? p = some u := by
  rw [World.cell?_setCell_other _ _ _ _ ha]
  exact h
theorem MayI.opened {w : World} {LKl Kl : List Value} {st : Bool × Int × Int} {W : World} (h : MayI w LKl Kl st W) (a b : Int) :
    MayI w LKl Kl (st.1, a, b) ((W.setCell ⟨w.heap.size + 1 + 1 + 1 + 1 + 1, 0, none⟩ (.int .i64 a)).setCell ⟨w.heap.size + 1 + 1 + 1 + 1 + 1, 1, none⟩ (.int .i64 b)) := by
  refine ⟨range_set (range_set h.link _ (by simp <;> omega) _) _ (by simp <;> omega) _, range_set (range_set h.known _ (by simp <;> omega) _) _ (by simp <;> omega) _, there_set (there_set h.knownW _ _) _ _, there_set (there_set h.res _ _) _ _,
    cell_set (cell_set h.found _ (by simp <;> omega) _) _ (by simp <;> omega) _, there_set (there_set h.foundW _ _) _ _, ?_, ?_, there_set (there_set h.openW _ _) _ _,
    (h.below.setCell (by simp <;> omega) _).setCell (by simp <;> omega) _, by rw [World.size_setCell, World.size_setCell]; exact h.big⟩
  · exact cell_set (World.cell?_setCell_same' _ _ _ (by rw [h.lo]; rfl)) _ (by simp <;> omega) _
  · exact World.cell?_setCell_same' _ _ _ (by rw [cell_set h.hi _ (by simp <;> omega) _]; rfl)
theorem MayI.foundT {w : World} {LKl Kl : List Value} {st : Bool × Int × Int} {W : World} (h : MayI w LKl Kl st W) :
    MayI w LKl Kl (true, st.2) (W.setCell ⟨w.heap.size + 1 + 1 + 1 + 1, 0, none⟩ (.bool true)) := by
  refine ⟨range_set h.link _ (by simp <;> omega) _, range_set h.known _ (by simp <;> omega) _, there_set h.knownW _ _, there_set h.res _ _, ?_, there_set h.foundW _ _,
    cell_set h.lo _ (by simp <;> omega) _, cell_set h.hi _ (by simp <;> omega) _, there_set h.openW _ _, h.below.setCell (by simp <;> omega) _, by rw [World.size_setCell]; exact h.big⟩
  exact World.cell?_setCell_same' _ _ _ (by rw [h.found]; rfl)
theorem MayI.ownFrom {w : World} {LKl Kl : List Value} {B : Nat} (hB : w.heap.size ≤ B) (f : List Int → Bool × Int × Int) : OwnFrom B (fun pre W => MayI w LKl Kl (f pre) W) := fun pre A C row h hg hr => by
  have hr' := fun r e => (hr r e).2
  exact ⟨range_kept h.link hg hr', range_kept h.known hg hr', there_kept h.knownW hg hr', there_kept h.res hg hr', cell_kept h.found hg hr', there_kept h.foundW hg hr', cell_kept h.lo hg hr', cell_kept h.hi hg hr', there_kept h.openW hg hr',
    h.below.grown hg (by have := h.big; omega) (fun k e => by have := (hr k e).1; omega), by have := hg.size; have := h.big; omega⟩
theorem keepsTwo_set {b1 b2 : Nat} (W : World) (a : Addr) (v : Value) (h1 : a.block ≠ b1) (h2 : a.block ≠ b2) : KeepsTwo b1 b2 W (W.setCell a v) := fun o =>
  ⟨World.cell?_setCell_other _ _ _ _ (fun e => h1 (by rw [e])), World.cell?_setCell_other _ _ _ _ (fun e => h2 (by rw [e]))⟩

theorem there_alloc' {w : World} {b o n : Nat} (h : w.there b o n) (ob : Obj) : (w.alloc ob).there b o n := World.there_alloc h ob
theorem mayI_start (w : World) (LKl Kl : List Value) (hK : Kl.length = 5) (t1 t2 t4 t5 t6 : TypeId) (o3 o7 o8 : Obj) (z0 z1 z2 z3 z4 : Value) :
    MayI w LKl Kl (false, 0, 0) ((((((((w.alloc (.cells LKl.toArray t1)).alloc (.cells Kl.toArray t2)).alloc o3).alloc (.cells #[z0, z1, z2, z3, z4] t4)).alloc (.cells #[.bool false] t5)).alloc (.cells #[.int .i64 0, .int .i64 0] t6)).alloc o7).alloc o8) := by
  refine ⟨?_, ?_, ?_, ?_, ?_, ?_, ?_, ?_, ?_, ?_, ?_⟩
  · exact World.rangeAt_alloc (World.rangeAt_alloc (World.rangeAt_alloc (World.rangeAt_alloc (World.rangeAt_alloc (World.rangeAt_alloc (World.rangeAt_alloc (range_new _ _ _) _) _) _) _) _) _) _
  · have h := range_new (w.alloc (.cells LKl.toArray t1)) t2 Kl
    rw [World.size_alloc] at h
    exact World.rangeAt_alloc (World.rangeAt_alloc (World.rangeAt_alloc (World.rangeAt_alloc (World.rangeAt_alloc (World.rangeAt_alloc h _) _) _) _) _) _
  · have h := there_new (w.alloc (.cells LKl.toArray t1)) t2 Kl.toArray (b := w.heap.size + 1) (by simp)
    have e : Kl.toArray.size = 5 := by rw [List.size_toArray, hK]
    rw [e] at h
    exact there_alloc' (there_alloc' (there_alloc' (there_alloc' (there_alloc' (there_alloc' h _) _) _) _) _) _
  · exact there_alloc' (there_alloc' (there_alloc' (there_alloc' (there_new _ t4 #[z0, z1, z2, z3, z4] (b := w.heap.size + 1 + 1 + 1) (by simp)) _) _) _) _
  · simp [go_sem]
  · exact there_alloc' (there_alloc' (there_alloc' (there_new _ t5 #[.bool false] (b := w.heap.size + 1 + 1 + 1 + 1) (by simp)) _) _) _
  · simp [go_sem]
  · simp [go_sem]
  · exact there_alloc' (there_alloc' (there_new _ t6 #[.int .i64 0, .int .i64 0] (b := w.heap.size + 1 + 1 + 1 + 1 + 1) (by simp)) _) _
  · exact bel_alloc (bel_alloc (bel_alloc (bel_alloc (bel_alloc (bel_alloc (bel_alloc (bel_alloc (Below.refl _ _) _) _) _) _) _) _) _) _
  · simp
theorem wpIn_named {F : Fence} {n : Nat} {P : Program} {c : Code} {Q : Exit → Act → World → Prop} {a : Act} (w : World) (h : ∀ W0 : World, W0 = w → c.wpIn F n P Q a W0) : c.wpIn F n P Q a w := h w rfl
/-- the state when k of the two states before are over -/
def stepK (kind prime brk klo khi x k : Int) (st : Bool × Int × Int) : Bool × Int × Int :=
  if k = 0 then st else if k = 1 then stepB kind prime brk klo khi x false st else stepX kind prime brk klo khi st x
/-- what holds at the head of the loop over the states before -/
def MayR (w : World) (LKl Kl : List Value) (kind prime brk klo khi x : Int) (st : Bool × Int × Int) (W : World) (v : Value) (wr : World) : Prop :=
  ∃ k : Int, (k = 0 ∨ k = 1 ∨ k = 2) ∧ v = .int .i64 k ∧ MayI w LKl Kl (stepK kind prime brk klo khi x k st) wr ∧ KeepsOthers W wr ∧ KeepsTwo (w.heap.size + 1 + 1 + 1 + 1 + 1 + 1) (w.heap.size + 1 + 1 + 1 + 1 + 1 + 1 + 1) W wr

theorem sip_tell (nm : ByteArray) (kind from' to' : Int) (r0 r1 r2 : Option Addr) (n0 n1 n2 c0 c1 c2 : Nat) (pos sp leak crest num den prime brk bnum bden delay : Int) (gp gt : Int) (gs go : Bool) (v : Int) (s : Bool) (h : sipOpen kind prime brk v go = s) (w : World) :
    Calls Try.prog 14 #[.agg #[.string nm, .int .i64 kind, .int .i64 from', .int .i64 to', .slice r0 n0 c0, .slice r1 n1 c1, .slice r2 n2 c2, .int .i64 pos, .int .i64 sp, .int .i64 leak, .int .i64 crest, .int .i64 num, .int .i64 den, .int .i64 prime, .int .i64 brk, .int .i64 bnum, .int .i64 bden, .int .i64 delay], .agg #[.int .i64 gp, .int .i64 gt, .bool gs, .bool go], .int .i64 v] w fun e w' => e = .returned (.agg #[.int .i64 gp, .int .i64 gt, .bool gs, .bool s]) ∧ Below w.heap.size w w' :=
  h ▸ siphon_any nm kind from' to' r0 r1 r2 n0 n1 n2 c0 c1 c2 pos sp leak crest num den prime brk bnum bden delay gp gt gs go v w

end Go.Proofs.Ytacjhenjagageaa
