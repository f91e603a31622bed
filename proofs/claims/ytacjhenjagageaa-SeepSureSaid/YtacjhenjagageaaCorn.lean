/- seep.corners: the iterator's contract. -/
import Derived.RangeFuncNested
import Derived.RangeFuncBound
import Derived.RangeFuncCalls
import Derived.RangeFuncLeaves
import Derived.Shelf.Abstract
import Derived.Shelf.RegionOpen
import Derived.WalkKit
import Derived.OwnWalkIn
import Derived.TacticsInMore
import Derived.LoopNIn
import Derived.LoopIn
import Derived.Outline
import Derived.Test.YtacjhenjagageaaSeepB
namespace Go.Proofs.Ytacjhenjagageaa
open Go.RowKit Go.Shelf
set_option linter.unusedVariables false
set_option linter.unusedSimpArgs false
attribute [local go_sem] Oper.semAt_some
theorem wide_fn (f : FuncId) : Fence.wide.fn f ↔ True := ⟨fun _ => trivial, fun _ => trivial⟩
attribute [local go_sem] wide_fn

/-- the volumes that corners yields -/
def cornersOf (lo hi brk : Int) : List Int := if lo ≤ hi then (if brk < 9223372036854775807 ∧ lo ≤ brk + 1 ∧ brk + 1 ≤ hi then [lo, hi, brk + 1] else [lo, hi]) else []
/-- what a round keeps: the cells of the two boxes that the iterator has captured -/
def KeepsTwo (b1 b2 : Nat) (A B : World) : Prop := ∀ o, B.cell? ⟨b1, o, none⟩ = A.cell? ⟨b1, o, none⟩ ∧ B.cell? ⟨b2, o, none⟩ = A.cell? ⟨b2, o, none⟩
theorem keepsTwo_t {b1 b2 : Nat} {A B C : World} (h : KeepsTwo b1 b2 A B) (k : KeepsTwo b1 b2 B C) : KeepsTwo b1 b2 A C := fun o => ⟨(k o).1.trans (h o).1, (k o).2.trans (h o).2⟩
theorem keepsTwo_below {b1 b2 B : Nat} {W W' : World} (h : Below B W W') (h1 : b1 < B) (h2 : b2 < B) : KeepsTwo b1 b2 W W' := fun o => ⟨h.cell (p := ⟨b1, o, none⟩) h1, h.cell (p := ⟨b2, o, none⟩) h2⟩
theorem keepsTwo_b {b1 b2 : Nat} {w : World} (h1 : b1 < w.heap.size) (h2 : b2 < w.heap.size) (W : World) (l : Nat) (o o' : Obj) (hl : w.heap.size ≤ l) (h : W.heap[l]? = some o) (_ : o.isCells = false) (_ : o.isWalk = false) : KeepsTwo b1 b2 W (W.putObj l o') :=
  keepsTwo_below (B := w.heap.size) ((Below.refl w.heap.size W).grown (grownBy_putObj' W l o') (by have := (Array.getElem?_eq_some_iff.1 h).1; omega) (fun k e => by cases e; omega)) h1 h2
theorem grownBy_of_below {W W' : World} (h : Below W.heap.size W W') : W.grownBy W' none := ⟨h.os, h.tape, h.output, h.size, fun k hk _ => h.block k hk⟩

theorem corners_in (n : Nat) (nm : ByteArray) (kind from' to' : Int) (r0 r1 r2 : Option Addr) (n0 n1 n2 c0 c1 c2 : Nat) (pos sp leak crest num den prime brk bnum bden delay : Int) (lo hi : Int) (w : World) :
    CallsIn Fence.wide n Try.prog 27 #[.agg #[.string nm, .int .i64 kind, .int .i64 from', .int .i64 to', .slice r0 n0 c0, .slice r1 n1 c1, .slice r2 n2 c2, .int .i64 pos, .int .i64 sp, .int .i64 leak, .int .i64 crest, .int .i64 num, .int .i64 den, .int .i64 prime, .int .i64 brk, .int .i64 bnum, .int .i64 bden, .int .i64 delay], .agg #[.int .i64 lo, .int .i64 hi]] w fun e w' => e = .returned (.func (.func 33) #[] #[.pointer (some ⟨w.heap.size + 1, 0, none⟩), .pointer (some ⟨w.heap.size, 0, none⟩)]) ∧ w' = (w.alloc (.cells #[.string nm, .int .i64 kind, .int .i64 from', .int .i64 to', .slice r0 n0 c0, .slice r1 n1 c1, .slice r2 n2 c2, .int .i64 pos, .int .i64 sp, .int .i64 leak, .int .i64 crest, .int .i64 num, .int .i64 den, .int .i64 prime, .int .i64 brk, .int .i64 bnum, .int .i64 bden, .int .i64 delay] 26)).alloc (.cells #[.int .i64 lo, .int .i64 hi] 30) := by
  refine callsIn_of_wp Try.func27 rfl trivial ?_ rfl
  simp only [Try.ntmps27, List.size_toArray, List.length_cons, List.length_nil, Nat.reduceAdd, Nat.reduceSub, Array.replicate_succ, Array.replicate_zero, List.push_toArray, List.append_toArray, List.nil_append, List.cons_append]
  gi_wp2
  go_ret
  exact ⟨rfl, rfl⟩

def Anyl (_ : List Int) : Prop := True
theorem right_tell' {lo hi : Int} {p : Bool} (h : decide (lo ≤ hi) = p) (w : World) :
    Calls Try.prog 23 #[.agg #[.int .i64 lo, .int .i64 hi]] w fun e w' => e = .returned (.bool p) ∧ Below w.heap.size w w' := h ▸ right_any lo hi w
theorem has_tell' {lo hi n : Int} {p : Bool} (h : (decide (lo ≤ n) && decide (n ≤ hi)) = p) (w : World) :
    Calls Try.prog 22 #[.agg #[.int .i64 lo, .int .i64 hi], .int .i64 n] w fun e w' => e = .returned (.bool p) ∧ Below w.heap.size w w' := h ▸ has_any lo hi n w

def CornPost (L : List Int) (J Jx : List Int → World → Prop) (e : Ending) (W' : World) : Prop := (∃ v, e = .returned v) ∧ ((∃ xs, xs = L ∧ J xs W') ∨ (∃ pre, Anyl pre ∧ Jx pre W'))

set_option maxRecDepth 100000 in
set_option maxHeartbeats 2000000 in
theorem corners1_no (L : List Int) (n : Nat) (hn : 2 ≤ n) (l Bl Bv : Nat) (lo hi brk : Int) (hbrk : -9223372036854775808 ≤ brk) (hbrk2 : brk ≤ 9223372036854775807) (J Jx : List Int → World → Prop) (W : World) (hJ : AbidesFrom W.heap.size J) (hY : ∀ pre x W1, J pre W1 → pre.length < 3 → YieldAt Fence.wide (n - 1) Try.prog l #[.int .i64 x] W1 fun e W' => (e = .returned (.bool true) ∧ J (pre ++ [x]) W' ∧ KeepsTwo Bl Bv W1 W') ∨ (e = .returned (.bool false) ∧ Jx (pre ++ [x]) W')) (h0 : J [] W) (v0 : W.cell? ⟨Bv, 0, none⟩ = some (.int .i64 lo)) (v1 : W.cell? ⟨Bv, 1, none⟩ = some (.int .i64 hi)) (c14 : W.cell? ⟨Bl, 14, none⟩ = some (.int .i64 brk)) (HL : Hid ([] = L)) (t1 : decide (lo ≤ hi) = false) :
    CallsIn Fence.wide n Try.prog 33 #[.func (.yield l) #[] #[], .pointer (some ⟨Bv, 0, none⟩), .pointer (some ⟨Bl, 0, none⟩)] W (CornPost L J Jx) := by
  have bv : Bv < W.heap.size := World.block_lt_of_cell? W _ v0
  have bl : Bl < W.heap.size := World.block_lt_of_cell? W _ c14
  have hn1 : 1 ≤ n := by omega
  refine callsIn_of_wp Try.func33 rfl trivial ?_ rfl
  simp only [Try.ntmps33, List.size_toArray, List.length_cons, List.length_nil, Nat.reduceAdd, Nat.reduceSub, Array.replicate_succ, Array.replicate_zero, List.push_toArray, List.append_toArray, List.nil_append, List.cons_append]
  gi_wp2_with fail
  refine (callsIn_wide.2 (right_tell' t1 _)).mono ?_
  rintro e W1 ⟨rfl, hb⟩
  gi_wp2_with fail
  refine bodyPost_ret (results_none rfl _ _ _) rfl ?_
  exact ⟨⟨_, rfl⟩, .inl ⟨[], HL.out, hJ _ _ _ none h0 (grownBy_of_below hb) (fun r e => by cases e)⟩⟩

set_option maxRecDepth 100000 in
set_option maxHeartbeats 2000000 in
theorem corners1_max (L : List Int) (n : Nat) (hn : 2 ≤ n) (l Bl Bv : Nat) (lo hi brk : Int) (hbrk : -9223372036854775808 ≤ brk) (hbrk2 : brk ≤ 9223372036854775807) (J Jx : List Int → World → Prop) (W : World) (hJ : AbidesFrom W.heap.size J) (hY : ∀ pre x W1, J pre W1 → pre.length < 3 → YieldAt Fence.wide (n - 1) Try.prog l #[.int .i64 x] W1 fun e W' => (e = .returned (.bool true) ∧ J (pre ++ [x]) W' ∧ KeepsTwo Bl Bv W1 W') ∨ (e = .returned (.bool false) ∧ Jx (pre ++ [x]) W')) (h0 : J [] W) (v0 : W.cell? ⟨Bv, 0, none⟩ = some (.int .i64 lo)) (v1 : W.cell? ⟨Bv, 1, none⟩ = some (.int .i64 hi)) (c14 : W.cell? ⟨Bl, 14, none⟩ = some (.int .i64 brk)) (HL : Hid ([lo, hi] = L)) (t1 : decide (lo ≤ hi) = true) (t2 : decide (brk < 9223372036854775807) = false) :
    CallsIn Fence.wide n Try.prog 33 #[.func (.yield l) #[] #[], .pointer (some ⟨Bv, 0, none⟩), .pointer (some ⟨Bl, 0, none⟩)] W (CornPost L J Jx) := by
  have bv : Bv < W.heap.size := World.block_lt_of_cell? W _ v0
  have bl : Bl < W.heap.size := World.block_lt_of_cell? W _ c14
  have hn1 : 1 ≤ n := by omega
  refine callsIn_of_wp Try.func33 rfl trivial ?_ rfl
  simp only [Try.ntmps33, List.size_toArray, List.length_cons, List.length_nil, Nat.reduceAdd, Nat.reduceSub, Array.replicate_succ, Array.replicate_zero, List.push_toArray, List.append_toArray, List.nil_append, List.cons_append]
  gi_wp2_with fail
  refine (callsIn_wide.2 (right_tell' t1 _)).mono ?_
  rintro e W1 ⟨rfl, hb⟩
  have hJ1 := hJ _ _ _ none h0 (grownBy_of_below hb) (fun r e => by cases e)
  have u0 := (hb.cell (p := ⟨Bv, 0, none⟩) bv).trans v0
  have u1 := (hb.cell (p := ⟨Bv, 1, none⟩) bv).trans v1
  have d14 := (hb.cell (p := ⟨Bl, 14, none⟩) bl).trans c14
  clear hb v0 v1 c14 h0
  obtain ⟨f1, m1, a1, b1, hy1, hR1⟩ := hY [] lo W1 hJ1 (by simp)
  gi_wp2_with fail
  refine hR1.mono ?_
  rintro e W2 (⟨rfl, hJ2, hk2⟩ | ⟨rfl, hx2⟩)
  · have u0' := (hk2 0).2.trans u0
    have u1' := (hk2 1).2.trans u1
    have d14' := (hk2 14).1.trans d14
    clear u0 u1 d14 hy1 hR1
    obtain ⟨f2, m2, a2, b2, hy2, hR2⟩ := hY ([] ++ [lo]) hi W2 hJ2 (by simp)
    gi_wp2_with fail
    refine hR2.mono ?_
    rintro e W3 (⟨rfl, hJ3, hk3⟩ | ⟨rfl, hx3⟩)
    · have u0'' := (hk3 0).2.trans u0'
      have u1'' := (hk3 1).2.trans u1'
      have d14'' := (hk3 14).1.trans d14'
      clear u0' u1' d14' hy2 hR2
      gi_wp2_with fail
      go_end0
      exact ⟨⟨_, rfl⟩, .inl ⟨_, HL.out, hJ3⟩⟩
    · gi_wp2_with fail
      refine bodyPost_ret (results_none rfl _ _ _) rfl ?_
      exact ⟨⟨_, rfl⟩, .inr ⟨_, trivial, hx3⟩⟩
  · gi_wp2_with fail
    refine bodyPost_ret (results_none rfl _ _ _) rfl ?_
    exact ⟨⟨_, rfl⟩, .inr ⟨_, trivial, hx2⟩⟩

set_option maxRecDepth 100000 in
set_option maxHeartbeats 2000000 in
theorem corners1_two (L : List Int) (n : Nat) (hn : 2 ≤ n) (l Bl Bv : Nat) (lo hi brk : Int) (hbrk : -9223372036854775808 ≤ brk) (hbrk2 : brk ≤ 9223372036854775807) (J Jx : List Int → World → Prop) (W : World) (hJ : AbidesFrom W.heap.size J) (hY : ∀ pre x W1, J pre W1 → pre.length < 3 → YieldAt Fence.wide (n - 1) Try.prog l #[.int .i64 x] W1 fun e W' => (e = .returned (.bool true) ∧ J (pre ++ [x]) W' ∧ KeepsTwo Bl Bv W1 W') ∨ (e = .returned (.bool false) ∧ Jx (pre ++ [x]) W')) (h0 : J [] W) (v0 : W.cell? ⟨Bv, 0, none⟩ = some (.int .i64 lo)) (v1 : W.cell? ⟨Bv, 1, none⟩ = some (.int .i64 hi)) (c14 : W.cell? ⟨Bl, 14, none⟩ = some (.int .i64 brk)) (HL : Hid ([lo, hi] = L)) (t1 : decide (lo ≤ hi) = true) (h2 : brk < 9223372036854775807) (t2 : decide (brk < 9223372036854775807) = true) (H3 : Hid ((decide (lo ≤ brk + 1) && decide (brk + 1 ≤ hi)) = false)) :
    CallsIn Fence.wide n Try.prog 33 #[.func (.yield l) #[] #[], .pointer (some ⟨Bv, 0, none⟩), .pointer (some ⟨Bl, 0, none⟩)] W (CornPost L J Jx) := by
  have bv : Bv < W.heap.size := World.block_lt_of_cell? W _ v0
  have bl : Bl < W.heap.size := World.block_lt_of_cell? W _ c14
  have hn1 : 1 ≤ n := by omega
  refine callsIn_of_wp Try.func33 rfl trivial ?_ rfl
  simp only [Try.ntmps33, List.size_toArray, List.length_cons, List.length_nil, Nat.reduceAdd, Nat.reduceSub, Array.replicate_succ, Array.replicate_zero, List.push_toArray, List.append_toArray, List.nil_append, List.cons_append]
  gi_wp2_with fail
  refine (callsIn_wide.2 (right_tell' t1 _)).mono ?_
  rintro e W1 ⟨rfl, hb⟩
  have hJ1 := hJ _ _ _ none h0 (grownBy_of_below hb) (fun r e => by cases e)
  have u0 := (hb.cell (p := ⟨Bv, 0, none⟩) bv).trans v0
  have u1 := (hb.cell (p := ⟨Bv, 1, none⟩) bv).trans v1
  have d14 := (hb.cell (p := ⟨Bl, 14, none⟩) bl).trans c14
  clear hb v0 v1 c14 h0
  obtain ⟨f1, m1, a1, b1, hy1, hR1⟩ := hY [] lo W1 hJ1 (by simp)
  gi_wp2_with fail
  refine hR1.mono ?_
  rintro e W2 (⟨rfl, hJ2, hk2⟩ | ⟨rfl, hx2⟩)
  · have u0' := (hk2 0).2.trans u0
    have u1' := (hk2 1).2.trans u1
    have d14' := (hk2 14).1.trans d14
    clear u0 u1 d14 hy1 hR1
    obtain ⟨f2, m2, a2, b2, hy2, hR2⟩ := hY ([] ++ [lo]) hi W2 hJ2 (by simp)
    gi_wp2_with fail
    refine hR2.mono ?_
    rintro e W3 (⟨rfl, hJ3, hk3⟩ | ⟨rfl, hx3⟩)
    · have u0'' := (hk3 0).2.trans u0'
      have u1'' := (hk3 1).2.trans u1'
      have d14'' := (hk3 14).1.trans d14'
      clear u0' u1' d14' hy2 hR2
      gi_wp2_with fail
      refine (callsIn_wide.2 (has_tell' H3.out _)).mono ?_
      rintro e W4 ⟨rfl, hb4⟩
      have hJ4 := hJ _ _ _ none hJ3 (grownBy_of_below hb4) (fun r e => by cases e)
      gi_wp2_with fail
      go_end0
      exact ⟨⟨_, rfl⟩, .inl ⟨_, HL.out, hJ4⟩⟩
    · gi_wp2_with fail
      refine bodyPost_ret (results_none rfl _ _ _) rfl ?_
      exact ⟨⟨_, rfl⟩, .inr ⟨_, trivial, hx3⟩⟩
  · gi_wp2_with fail
    refine bodyPost_ret (results_none rfl _ _ _) rfl ?_
    exact ⟨⟨_, rfl⟩, .inr ⟨_, trivial, hx2⟩⟩

set_option maxRecDepth 100000 in
set_option maxHeartbeats 2000000 in
theorem corners1_three (L : List Int) (n : Nat) (hn : 2 ≤ n) (l Bl Bv : Nat) (lo hi brk : Int) (hbrk : -9223372036854775808 ≤ brk) (hbrk2 : brk ≤ 9223372036854775807) (J Jx : List Int → World → Prop) (W : World) (hJ : AbidesFrom W.heap.size J) (hY : ∀ pre x W1, J pre W1 → pre.length < 3 → YieldAt Fence.wide (n - 1) Try.prog l #[.int .i64 x] W1 fun e W' => (e = .returned (.bool true) ∧ J (pre ++ [x]) W' ∧ KeepsTwo Bl Bv W1 W') ∨ (e = .returned (.bool false) ∧ Jx (pre ++ [x]) W')) (h0 : J [] W) (v0 : W.cell? ⟨Bv, 0, none⟩ = some (.int .i64 lo)) (v1 : W.cell? ⟨Bv, 1, none⟩ = some (.int .i64 hi)) (c14 : W.cell? ⟨Bl, 14, none⟩ = some (.int .i64 brk)) (HL : Hid ([lo, hi, brk + 1] = L)) (t1 : decide (lo ≤ hi) = true) (h2 : brk < 9223372036854775807) (t2 : decide (brk < 9223372036854775807) = true) (H3 : Hid ((decide (lo ≤ brk + 1) && decide (brk + 1 ≤ hi)) = true)) :
    CallsIn Fence.wide n Try.prog 33 #[.func (.yield l) #[] #[], .pointer (some ⟨Bv, 0, none⟩), .pointer (some ⟨Bl, 0, none⟩)] W (CornPost L J Jx) := by
  have bv : Bv < W.heap.size := World.block_lt_of_cell? W _ v0
  have bl : Bl < W.heap.size := World.block_lt_of_cell? W _ c14
  have hn1 : 1 ≤ n := by omega
  refine callsIn_of_wp Try.func33 rfl trivial ?_ rfl
  simp only [Try.ntmps33, List.size_toArray, List.length_cons, List.length_nil, Nat.reduceAdd, Nat.reduceSub, Array.replicate_succ, Array.replicate_zero, List.push_toArray, List.append_toArray, List.nil_append, List.cons_append]
  gi_wp2_with fail
  refine (callsIn_wide.2 (right_tell' t1 _)).mono ?_
  rintro e W1 ⟨rfl, hb⟩
  have hJ1 := hJ _ _ _ none h0 (grownBy_of_below hb) (fun r e => by cases e)
  have u0 := (hb.cell (p := ⟨Bv, 0, none⟩) bv).trans v0
  have u1 := (hb.cell (p := ⟨Bv, 1, none⟩) bv).trans v1
  have d14 := (hb.cell (p := ⟨Bl, 14, none⟩) bl).trans c14
  clear hb v0 v1 c14 h0
  obtain ⟨f1, m1, a1, b1, hy1, hR1⟩ := hY [] lo W1 hJ1 (by simp)
  gi_wp2_with fail
  refine hR1.mono ?_
  rintro e W2 (⟨rfl, hJ2, hk2⟩ | ⟨rfl, hx2⟩)
  · have u0' := (hk2 0).2.trans u0
    have u1' := (hk2 1).2.trans u1
    have d14' := (hk2 14).1.trans d14
    clear u0 u1 d14 hy1 hR1
    obtain ⟨f2, m2, a2, b2, hy2, hR2⟩ := hY ([] ++ [lo]) hi W2 hJ2 (by simp)
    gi_wp2_with fail
    refine hR2.mono ?_
    rintro e W3 (⟨rfl, hJ3, hk3⟩ | ⟨rfl, hx3⟩)
    · have u0'' := (hk3 0).2.trans u0'
      have u1'' := (hk3 1).2.trans u1'
      have d14'' := (hk3 14).1.trans d14'
      clear u0' u1' d14' hy2 hR2
      gi_wp2_with fail
      refine (callsIn_wide.2 (has_tell' H3.out _)).mono ?_
      rintro e W4 ⟨rfl, hb4⟩
      have hJ4 := hJ _ _ _ none hJ3 (grownBy_of_below hb4) (fun r e => by cases e)
      have e14 := (hb4.cell (p := ⟨Bl, 14, none⟩) (World.block_lt_of_cell? W3 _ d14'')).trans d14''
      obtain ⟨f3, m3, a3, b3, hy3, hR3⟩ := hY ([] ++ [lo] ++ [hi]) (brk + 1) W4 hJ4 (by simp)
      gi_wp2_with fail
      refine hR3.mono ?_
      rintro e W5 (⟨rfl, hJ5, hk5⟩ | ⟨rfl, hx5⟩)
      · gi_wp2_with fail
        go_end0
        exact ⟨⟨_, rfl⟩, .inl ⟨_, HL.out, hJ5⟩⟩
      · gi_wp2_with fail
        go_end0
        exact ⟨⟨_, rfl⟩, .inr ⟨_, trivial, hx5⟩⟩
    · gi_wp2_with fail
      refine bodyPost_ret (results_none rfl _ _ _) rfl ?_
      exact ⟨⟨_, rfl⟩, .inr ⟨_, trivial, hx3⟩⟩
  · gi_wp2_with fail
    refine bodyPost_ret (results_none rfl _ _ _) rfl ?_
    exact ⟨⟨_, rfl⟩, .inr ⟨_, trivial, hx2⟩⟩

theorem corners1_in (n : Nat) (hn : 2 ≤ n) (l Bl Bv : Nat) (lo hi brk : Int) (hbrk : -9223372036854775808 ≤ brk) (hbrk2 : brk ≤ 9223372036854775807) (J Jx : List Int → World → Prop) (W : World) (hJ : AbidesFrom W.heap.size J) (hY : ∀ pre x W1, J pre W1 → pre.length < 3 → YieldAt Fence.wide (n - 1) Try.prog l #[.int .i64 x] W1 fun e W' => (e = .returned (.bool true) ∧ J (pre ++ [x]) W' ∧ KeepsTwo Bl Bv W1 W') ∨ (e = .returned (.bool false) ∧ Jx (pre ++ [x]) W')) (h0 : J [] W) (v0 : W.cell? ⟨Bv, 0, none⟩ = some (.int .i64 lo)) (v1 : W.cell? ⟨Bv, 1, none⟩ = some (.int .i64 hi)) (c14 : W.cell? ⟨Bl, 14, none⟩ = some (.int .i64 brk)) :
    CallsIn Fence.wide n Try.prog 33 #[.func (.yield l) #[] #[], .pointer (some ⟨Bv, 0, none⟩), .pointer (some ⟨Bl, 0, none⟩)] W (CornPost (cornersOf lo hi brk) J Jx) := by
  by_cases h1 : lo ≤ hi
  · have t1 : decide (lo ≤ hi) = true := decide_eq_true h1
    by_cases h2 : brk < 9223372036854775807
    · have t2 : decide (brk < 9223372036854775807) = true := decide_eq_true h2
      by_cases h3 : lo ≤ brk + 1 ∧ brk + 1 ≤ hi
      · exact corners1_three _ n hn l Bl Bv lo hi brk hbrk hbrk2 J Jx W hJ hY h0 v0 v1 c14 (Lib.hid (by unfold cornersOf; rw [if_pos h1, if_pos ⟨h2, h3⟩])) t1 h2 t2 (Lib.hid (by rw [decide_eq_true h3.1, decide_eq_true h3.2]; rfl))
      · exact corners1_two _ n hn l Bl Bv lo hi brk hbrk hbrk2 J Jx W hJ hY h0 v0 v1 c14 (Lib.hid (by unfold cornersOf; rw [if_pos h1, if_neg (fun h => h3 h.2)])) t1 h2 t2 (Lib.hid (by rw [← Bool.not_eq_true]; simpa using h3))
    · exact corners1_max _ n hn l Bl Bv lo hi brk hbrk hbrk2 J Jx W hJ hY h0 v0 v1 c14 (Lib.hid (by unfold cornersOf; rw [if_pos h1, if_neg (fun h => h2 h.1)])) t1 (decide_eq_false h2)
  · exact corners1_no _ n hn l Bl Bv lo hi brk hbrk hbrk2 J Jx W hJ hY h0 v0 v1 c14 (Lib.hid (by unfold cornersOf; rw [if_neg h1])) (decide_eq_false h1)

theorem corners_stops (n : Nat) (hn : 2 ≤ n) (Bl Bv : Nat) (lo hi brk : Int) (hbrk : -9223372036854775808 ≤ brk) (hbrk2 : brk ≤ 9223372036854775807) (w : World) (v0 : w.cell? ⟨Bv, 0, none⟩ = some (.int .i64 lo)) (v1 : w.cell? ⟨Bv, 1, none⟩ = some (.int .i64 hi)) (c14 : w.cell? ⟨Bl, 14, none⟩ = some (.int .i64 brk)) :
    SeqStopsK Fence.wide n Try.prog 33 #[.pointer (some ⟨Bv, 0, none⟩), .pointer (some ⟨Bl, 0, none⟩)] (fun x : Int => #[Value.int .i64 x]) (KeepsTwo Bl Bv) (fun ys => ys = cornersOf lo hi brk) Anyl 3 w := fun l J Jx W hW hJ _ hY h0 =>
  corners1_in n hn l Bl Bv lo hi brk hbrk hbrk2 J Jx W hJ hY h0 ((hW.cell (p := ⟨Bv, 0, none⟩) (World.block_lt_of_cell? w _ v0)).trans v0) ((hW.cell (p := ⟨Bv, 1, none⟩) (World.block_lt_of_cell? w _ v1)).trans v1) ((hW.cell (p := ⟨Bl, 14, none⟩) (World.block_lt_of_cell? w _ c14)).trans c14)

end Go.Proofs.Ytacjhenjagageaa
