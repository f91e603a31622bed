/- bourneref20.Maybe. -/
import Derived.Test.YtacjhenjagageaaRef20
namespace Go.Proofs.Ytacjhenjagageaa
open Go.RowKit
set_option linter.unusedVariables false
set_option linter.unusedSimpArgs false

def RefPost (w : World) (plo phi tgt : Int) (m : Int × Int) (e : Ending) (w' : World) : Prop := ∃ a b : Int, e = .returned (.agg #[.int .i64 plo, .int .i64 phi, .int .i64 tgt, .int .i64 a, .int .i64 b]) ∧ m = (a, b) ∧ Below w.heap.size w w'

theorem refpost_ret {P : Program} {fn : Func} {w W : World} {act : Act} {plo phi tgt a b : Int} (h : (results fn act.tmps).run P W = .ok (.agg #[.int .i64 plo, .int .i64 phi, .int .i64 tgt, .int .i64 a, .int .i64 b]) W) (hd : act.defers = []) (hB : Below w.heap.size w W) : bodyPost P fn (RefPost w plo phi tgt (a, b)) .ret act W :=
  bodyPost_ret h hd ⟨a, b, rfl, rfl, hB⟩
theorem belx {w V : World} (h : Hid (Below w.heap.size w V)) (y : BelW V) : Below w.heap.size w y.w := below_next h.out y.2

set_option maxHeartbeats 8000000 in
set_option maxRecDepth 100000 in
theorem refmaybe_no (nm : ByteArray) (kind from' to' : Int) (r0 r1 r2 : Option Addr) (n0 n1 n2 c0 c1 c2 : Nat) (pos sp leak crest num den prime brk bnum bden delay : Int) (plo phi tgt klo khi lo hi : Int) (h : ¬ kind = 3 ∨ hi < lo) (w : World) :
    Calls Try.prog 17 #[.agg #[.string nm, .int .i64 kind, .int .i64 from', .int .i64 to', .slice r0 n0 c0, .slice r1 n1 c1, .slice r2 n2 c2, .int .i64 pos, .int .i64 sp, .int .i64 leak, .int .i64 crest, .int .i64 num, .int .i64 den, .int .i64 prime, .int .i64 brk, .int .i64 bnum, .int .i64 bden, .int .i64 delay], .agg #[.int .i64 plo, .int .i64 phi, .int .i64 tgt, .int .i64 klo, .int .i64 khi], .agg #[.int .i64 lo, .int .i64 hi]] w (RefPost w plo phi tgt (klo, khi)) := by
  go_enter Try.func17, Try.ntmps17
  go_upto_region 1 with fail
  refine wp_rebase _ (fun V1 hV x1 => ?_)
  have HB1 := Lib.hid (bel_at hV (bel_alloc (bel_alloc (bel_alloc (bel_alloc (Below.refl w.heap.size w) _) _) _) _))
  have HR1 := Lib.hid (show V1.rangeAt w.heap.size 0 [.string nm, .int .i64 kind, .int .i64 from', .int .i64 to', .slice r0 n0 c0, .slice r1 n1 c1, .slice r2 n2 c2, .int .i64 pos, .int .i64 sp, .int .i64 leak, .int .i64 crest, .int .i64 num, .int .i64 den, .int .i64 prime, .int .i64 brk, .int .i64 bnum, .int .i64 bden, .int .i64 delay] by rw [hV]; exact World.rangeAt_alloc (World.rangeAt_alloc (World.rangeAt_alloc (range_new _ _ _) _) _) _)
  have HC1 := Lib.hid (Cs.at hV (((Cs.nil (w.alloc (.cells #[.string nm, .int .i64 kind, .int .i64 from', .int .i64 to', .slice r0 n0 c0, .slice r1 n1 c1, .slice r2 n2 c2, .int .i64 pos, .int .i64 sp, .int .i64 leak, .int .i64 crest, .int .i64 num, .int .i64 den, .int .i64 prime, .int .i64 brk, .int .i64 bnum, .int .i64 bden, .int .i64 delay] 26))).alloc 32 [.int .i64 plo, .int .i64 phi, .int .i64 tgt, .int .i64 klo, .int .i64 khi]).alloc 30 [.int .i64 lo, .int .i64 hi] |>.alloc 32 [.int .i64 0, .int .i64 0, .int .i64 0, .int .i64 0, .int .i64 0]))
  have HF1 := Lib.hid (show Fz V1 (w.heap.size + 1) by rw [hV]; exact ((Fz.new _ _ _ (by simp)).old _).old _)
  have HF2 := Lib.hid (show Fz V1 (w.heap.size + 1 + 1 + 1) by rw [hV]; exact Fz.new _ _ _ (by simp))
  have hu1 := HC1.out.bx
  simp only [Bx, newCells, join, World.size_alloc] at hu1
  clear hV
  have g1 := HF1.out.bel
  have g2 := HF2.out.bel
  have f1 := fun z : BelW V1 => BelW.range HR1.out z 1 _ rfl
  have f12 := fun z : BelW V1 => BelW.range HR1.out z 13 _ rfl
  have f13 := fun z : BelW V1 => BelW.range HR1.out z 14 _ rfl
  simp only [Nat.zero_add] at f1 f12 f13
  by_cases hk : kind = 3
  · have tk : (kind != 3) = false := by subst hk; rfl
    have t2 : decide (hi < lo) = true := decide_eq_true (by omega)
    clear hk
    go_wp2_with fail
    have hB : Below w.heap.size w x1.w := below_next HB1.out x1.2
    exact bodyPost_ret (v := .agg #[.int .i64 plo, .int .i64 phi, .int .i64 tgt, .int .i64 klo, .int .i64 khi]) (by simp [results, Try.results17, go_sem, hu1]) rfl ⟨klo, khi, rfl, rfl, by repeat (first | with_reducible exact hB | refine Below.setCell ?_ (by simp <;> omega) _)⟩
  · have tk : (kind != 3) = true := bne_iff_ne.2 hk
    clear hk h
    go_wp2_with fail
    have hB : Below w.heap.size w x1.w := below_next HB1.out x1.2
    exact bodyPost_ret (v := .agg #[.int .i64 plo, .int .i64 phi, .int .i64 tgt, .int .i64 klo, .int .i64 khi]) (by simp [results, Try.results17, go_sem, hu1]) rfl ⟨klo, khi, rfl, rfl, by repeat (first | with_reducible exact hB | refine Below.setCell ?_ (by simp <;> omega) _)⟩

set_option maxHeartbeats 16000000 in
set_option maxRecDepth 100000 in
theorem refmaybe_ln (nm : ByteArray) (from' to' : Int) (r0 r1 r2 : Option Addr) (n0 n1 n2 c0 c1 c2 : Nat) (pos sp leak crest num den prime brk bnum bden delay : Int) (plo phi tgt klo khi lo hi : Int) (h : lo ≤ hi) (hc1 : klo ≤ 0) (hc2 : khi < 0) (w : World) :
    Calls Try.prog 17 #[.agg #[.string nm, .int .i64 3, .int .i64 from', .int .i64 to', .slice r0 n0 c0, .slice r1 n1 c1, .slice r2 n2 c2, .int .i64 pos, .int .i64 sp, .int .i64 leak, .int .i64 crest, .int .i64 num, .int .i64 den, .int .i64 prime, .int .i64 brk, .int .i64 bnum, .int .i64 bden, .int .i64 delay], .agg #[.int .i64 plo, .int .i64 phi, .int .i64 tgt, .int .i64 klo, .int .i64 khi], .agg #[.int .i64 lo, .int .i64 hi]] w (RefPost w plo phi tgt (klo, khi)) := by
  have t2 : decide (hi < lo) = false := decide_eq_false (by omega)
  have u0 : decide (klo ≤ 0) = true := decide_eq_true (by omega)
  have u1 : decide (klo ≤ 1) = true := decide_eq_true (by omega)
  have u2 : decide (0 ≤ khi) = false := decide_eq_false (by omega)
  have u3 : decide (1 ≤ khi) = false := decide_eq_false (by omega)
  have H1 := Lib.hid hc1
  have H2 := Lib.hid hc2
  clear hc1 hc2
  go_enter Try.func17, Try.ntmps17
  go_upto_region 1 with fail
  refine wp_rebase _ (fun V1 hV x1 => ?_)
  have HB1 := Lib.hid (bel_at hV (bel_alloc (bel_alloc (bel_alloc (bel_alloc (Below.refl w.heap.size w) _) _) _) _))
  have HR1 := Lib.hid (show V1.rangeAt w.heap.size 0 [.string nm, .int .i64 3, .int .i64 from', .int .i64 to', .slice r0 n0 c0, .slice r1 n1 c1, .slice r2 n2 c2, .int .i64 pos, .int .i64 sp, .int .i64 leak, .int .i64 crest, .int .i64 num, .int .i64 den, .int .i64 prime, .int .i64 brk, .int .i64 bnum, .int .i64 bden, .int .i64 delay] by rw [hV]; exact World.rangeAt_alloc (World.rangeAt_alloc (World.rangeAt_alloc (range_new _ _ _) _) _) _)
  have HC1 := Lib.hid (Cs.at hV (((Cs.nil (w.alloc (.cells #[.string nm, .int .i64 3, .int .i64 from', .int .i64 to', .slice r0 n0 c0, .slice r1 n1 c1, .slice r2 n2 c2, .int .i64 pos, .int .i64 sp, .int .i64 leak, .int .i64 crest, .int .i64 num, .int .i64 den, .int .i64 prime, .int .i64 brk, .int .i64 bnum, .int .i64 bden, .int .i64 delay] 26))).alloc 32 [.int .i64 plo, .int .i64 phi, .int .i64 tgt, .int .i64 klo, .int .i64 khi]).alloc 30 [.int .i64 lo, .int .i64 hi] |>.alloc 32 [.int .i64 0, .int .i64 0, .int .i64 0, .int .i64 0, .int .i64 0]))
  have HF1 := Lib.hid (show Fz V1 (w.heap.size + 1) by rw [hV]; exact ((Fz.new _ _ _ (by simp)).old _).old _)
  have HF2 := Lib.hid (show Fz V1 (w.heap.size + 1 + 1 + 1) by rw [hV]; exact Fz.new _ _ _ (by simp))
  have hu1 := HC1.out.bx
  simp only [Bx, newCells, join, World.size_alloc] at hu1
  clear hV
  have g1 := HF1.out.bel
  have g2 := HF2.out.bel
  have f1 := fun z : BelW V1 => BelW.range HR1.out z 1 _ rfl
  have f12 := fun z : BelW V1 => BelW.range HR1.out z 13 _ rfl
  have f13 := fun z : BelW V1 => BelW.range HR1.out z 14 _ rfl
  simp only [Nat.zero_add] at f1 f12 f13
  go_wp2_with fail
  have hB : Below w.heap.size w x1.w := below_next HB1.out x1.2
  exact bodyPost_ret (v := .agg #[.int .i64 plo, .int .i64 phi, .int .i64 tgt, .int .i64 klo, .int .i64 khi]) (by simp [results, Try.results17, go_sem, hu1]) rfl ⟨klo, khi, rfl, rfl, by repeat (first | with_reducible exact hB | refine Below.setCell ?_ (by simp <;> omega) _)⟩

set_option maxHeartbeats 16000000 in
set_option maxRecDepth 100000 in
theorem refmaybe_1n (nm : ByteArray) (from' to' : Int) (r0 r1 r2 : Option Addr) (n0 n1 n2 c0 c1 c2 : Nat) (pos sp leak crest num den prime brk bnum bden delay : Int) (plo phi tgt klo khi lo hi : Int) (h : lo ≤ hi) (hc1 : klo = 1) (hc2 : khi < 0) (w : World) :
    Calls Try.prog 17 #[.agg #[.string nm, .int .i64 3, .int .i64 from', .int .i64 to', .slice r0 n0 c0, .slice r1 n1 c1, .slice r2 n2 c2, .int .i64 pos, .int .i64 sp, .int .i64 leak, .int .i64 crest, .int .i64 num, .int .i64 den, .int .i64 prime, .int .i64 brk, .int .i64 bnum, .int .i64 bden, .int .i64 delay], .agg #[.int .i64 plo, .int .i64 phi, .int .i64 tgt, .int .i64 klo, .int .i64 khi], .agg #[.int .i64 lo, .int .i64 hi]] w (RefPost w plo phi tgt (klo, khi)) := by
  have t2 : decide (hi < lo) = false := decide_eq_false (by omega)
  have u0 : decide (klo ≤ 0) = false := decide_eq_false (by omega)
  have u1 : decide (klo ≤ 1) = true := decide_eq_true (by omega)
  have u2 : decide (0 ≤ khi) = false := decide_eq_false (by omega)
  have u3 : decide (1 ≤ khi) = false := decide_eq_false (by omega)
  have H1 := Lib.hid hc1
  have H2 := Lib.hid hc2
  clear hc1 hc2
  go_enter Try.func17, Try.ntmps17
  go_upto_region 1 with fail
  refine wp_rebase _ (fun V1 hV x1 => ?_)
  have HB1 := Lib.hid (bel_at hV (bel_alloc (bel_alloc (bel_alloc (bel_alloc (Below.refl w.heap.size w) _) _) _) _))
  have HR1 := Lib.hid (show V1.rangeAt w.heap.size 0 [.string nm, .int .i64 3, .int .i64 from', .int .i64 to', .slice r0 n0 c0, .slice r1 n1 c1, .slice r2 n2 c2, .int .i64 pos, .int .i64 sp, .int .i64 leak, .int .i64 crest, .int .i64 num, .int .i64 den, .int .i64 prime, .int .i64 brk, .int .i64 bnum, .int .i64 bden, .int .i64 delay] by rw [hV]; exact World.rangeAt_alloc (World.rangeAt_alloc (World.rangeAt_alloc (range_new _ _ _) _) _) _)
  have HC1 := Lib.hid (Cs.at hV (((Cs.nil (w.alloc (.cells #[.string nm, .int .i64 3, .int .i64 from', .int .i64 to', .slice r0 n0 c0, .slice r1 n1 c1, .slice r2 n2 c2, .int .i64 pos, .int .i64 sp, .int .i64 leak, .int .i64 crest, .int .i64 num, .int .i64 den, .int .i64 prime, .int .i64 brk, .int .i64 bnum, .int .i64 bden, .int .i64 delay] 26))).alloc 32 [.int .i64 plo, .int .i64 phi, .int .i64 tgt, .int .i64 klo, .int .i64 khi]).alloc 30 [.int .i64 lo, .int .i64 hi] |>.alloc 32 [.int .i64 0, .int .i64 0, .int .i64 0, .int .i64 0, .int .i64 0]))
  have HF1 := Lib.hid (show Fz V1 (w.heap.size + 1) by rw [hV]; exact ((Fz.new _ _ _ (by simp)).old _).old _)
  have HF2 := Lib.hid (show Fz V1 (w.heap.size + 1 + 1 + 1) by rw [hV]; exact Fz.new _ _ _ (by simp))
  have hu1 := HC1.out.bx
  simp only [Bx, newCells, join, World.size_alloc] at hu1
  clear hV
  have g1 := HF1.out.bel
  have g2 := HF2.out.bel
  have f1 := fun z : BelW V1 => BelW.range HR1.out z 1 _ rfl
  have f12 := fun z : BelW V1 => BelW.range HR1.out z 13 _ rfl
  have f13 := fun z : BelW V1 => BelW.range HR1.out z 14 _ rfl
  simp only [Nat.zero_add] at f1 f12 f13
  go_wp2_with fail
  have hB : Below w.heap.size w x1.w := below_next HB1.out x1.2
  exact bodyPost_ret (v := .agg #[.int .i64 plo, .int .i64 phi, .int .i64 tgt, .int .i64 klo, .int .i64 khi]) (by simp [results, Try.results17, go_sem, hu1]) rfl ⟨klo, khi, rfl, rfl, by repeat (first | with_reducible exact hB | refine Below.setCell ?_ (by simp <;> omega) _)⟩

set_option maxHeartbeats 16000000 in
set_option maxRecDepth 100000 in
theorem refmaybe_10 (nm : ByteArray) (from' to' : Int) (r0 r1 r2 : Option Addr) (n0 n1 n2 c0 c1 c2 : Nat) (pos sp leak crest num den prime brk bnum bden delay : Int) (plo phi tgt klo khi lo hi : Int) (h : lo ≤ hi) (hc1 : klo = 1) (hc2 : khi = 0) (w : World) :
    Calls Try.prog 17 #[.agg #[.string nm, .int .i64 3, .int .i64 from', .int .i64 to', .slice r0 n0 c0, .slice r1 n1 c1, .slice r2 n2 c2, .int .i64 pos, .int .i64 sp, .int .i64 leak, .int .i64 crest, .int .i64 num, .int .i64 den, .int .i64 prime, .int .i64 brk, .int .i64 bnum, .int .i64 bden, .int .i64 delay], .agg #[.int .i64 plo, .int .i64 phi, .int .i64 tgt, .int .i64 klo, .int .i64 khi], .agg #[.int .i64 lo, .int .i64 hi]] w (RefPost w plo phi tgt (klo, khi)) := by
  have t2 : decide (hi < lo) = false := decide_eq_false (by omega)
  have u0 : decide (klo ≤ 0) = false := decide_eq_false (by omega)
  have u1 : decide (klo ≤ 1) = true := decide_eq_true (by omega)
  have u2 : decide (0 ≤ khi) = true := decide_eq_true (by omega)
  have u3 : decide (1 ≤ khi) = false := decide_eq_false (by omega)
  have H1 := Lib.hid hc1
  have H2 := Lib.hid hc2
  clear hc1 hc2
  go_enter Try.func17, Try.ntmps17
  go_upto_region 1 with fail
  refine wp_rebase _ (fun V1 hV x1 => ?_)
  have HB1 := Lib.hid (bel_at hV (bel_alloc (bel_alloc (bel_alloc (bel_alloc (Below.refl w.heap.size w) _) _) _) _))
  have HR1 := Lib.hid (show V1.rangeAt w.heap.size 0 [.string nm, .int .i64 3, .int .i64 from', .int .i64 to', .slice r0 n0 c0, .slice r1 n1 c1, .slice r2 n2 c2, .int .i64 pos, .int .i64 sp, .int .i64 leak, .int .i64 crest, .int .i64 num, .int .i64 den, .int .i64 prime, .int .i64 brk, .int .i64 bnum, .int .i64 bden, .int .i64 delay] by rw [hV]; exact World.rangeAt_alloc (World.rangeAt_alloc (World.rangeAt_alloc (range_new _ _ _) _) _) _)
  have HC1 := Lib.hid (Cs.at hV (((Cs.nil (w.alloc (.cells #[.string nm, .int .i64 3, .int .i64 from', .int .i64 to', .slice r0 n0 c0, .slice r1 n1 c1, .slice r2 n2 c2, .int .i64 pos, .int .i64 sp, .int .i64 leak, .int .i64 crest, .int .i64 num, .int .i64 den, .int .i64 prime, .int .i64 brk, .int .i64 bnum, .int .i64 bden, .int .i64 delay] 26))).alloc 32 [.int .i64 plo, .int .i64 phi, .int .i64 tgt, .int .i64 klo, .int .i64 khi]).alloc 30 [.int .i64 lo, .int .i64 hi] |>.alloc 32 [.int .i64 0, .int .i64 0, .int .i64 0, .int .i64 0, .int .i64 0]))
  have HF1 := Lib.hid (show Fz V1 (w.heap.size + 1) by rw [hV]; exact ((Fz.new _ _ _ (by simp)).old _).old _)
  have HF2 := Lib.hid (show Fz V1 (w.heap.size + 1 + 1 + 1) by rw [hV]; exact Fz.new _ _ _ (by simp))
  have hu1 := HC1.out.bx
  simp only [Bx, newCells, join, World.size_alloc] at hu1
  clear hV
  have g1 := HF1.out.bel
  have g2 := HF2.out.bel
  have f1 := fun z : BelW V1 => BelW.range HR1.out z 1 _ rfl
  have f12 := fun z : BelW V1 => BelW.range HR1.out z 13 _ rfl
  have f13 := fun z : BelW V1 => BelW.range HR1.out z 14 _ rfl
  simp only [Nat.zero_add] at f1 f12 f13
  go_wp2_with fail
  have hB : Below w.heap.size w x1.w := below_next HB1.out x1.2
  exact bodyPost_ret (v := .agg #[.int .i64 plo, .int .i64 phi, .int .i64 tgt, .int .i64 klo, .int .i64 khi]) (by simp [results, Try.results17, go_sem, hu1]) rfl ⟨klo, khi, rfl, rfl, by repeat (first | with_reducible exact hB | refine Below.setCell ?_ (by simp <;> omega) _)⟩

set_option maxHeartbeats 16000000 in
set_option maxRecDepth 100000 in
theorem refmaybe_gn (nm : ByteArray) (from' to' : Int) (r0 r1 r2 : Option Addr) (n0 n1 n2 c0 c1 c2 : Nat) (pos sp leak crest num den prime brk bnum bden delay : Int) (plo phi tgt klo khi lo hi : Int) (h : lo ≤ hi) (hc1 : 1 < klo) (hc2 : khi < 0) (w : World) :
    Calls Try.prog 17 #[.agg #[.string nm, .int .i64 3, .int .i64 from', .int .i64 to', .slice r0 n0 c0, .slice r1 n1 c1, .slice r2 n2 c2, .int .i64 pos, .int .i64 sp, .int .i64 leak, .int .i64 crest, .int .i64 num, .int .i64 den, .int .i64 prime, .int .i64 brk, .int .i64 bnum, .int .i64 bden, .int .i64 delay], .agg #[.int .i64 plo, .int .i64 phi, .int .i64 tgt, .int .i64 klo, .int .i64 khi], .agg #[.int .i64 lo, .int .i64 hi]] w (RefPost w plo phi tgt (klo, khi)) := by
  have t2 : decide (hi < lo) = false := decide_eq_false (by omega)
  have u0 : decide (klo ≤ 0) = false := decide_eq_false (by omega)
  have u1 : decide (klo ≤ 1) = false := decide_eq_false (by omega)
  have u2 : decide (0 ≤ khi) = false := decide_eq_false (by omega)
  have u3 : decide (1 ≤ khi) = false := decide_eq_false (by omega)
  have H1 := Lib.hid hc1
  have H2 := Lib.hid hc2
  clear hc1 hc2
  go_enter Try.func17, Try.ntmps17
  go_upto_region 1 with fail
  refine wp_rebase _ (fun V1 hV x1 => ?_)
  have HB1 := Lib.hid (bel_at hV (bel_alloc (bel_alloc (bel_alloc (bel_alloc (Below.refl w.heap.size w) _) _) _) _))
  have HR1 := Lib.hid (show V1.rangeAt w.heap.size 0 [.string nm, .int .i64 3, .int .i64 from', .int .i64 to', .slice r0 n0 c0, .slice r1 n1 c1, .slice r2 n2 c2, .int .i64 pos, .int .i64 sp, .int .i64 leak, .int .i64 crest, .int .i64 num, .int .i64 den, .int .i64 prime, .int .i64 brk, .int .i64 bnum, .int .i64 bden, .int .i64 delay] by rw [hV]; exact World.rangeAt_alloc (World.rangeAt_alloc (World.rangeAt_alloc (range_new _ _ _) _) _) _)
  have HC1 := Lib.hid (Cs.at hV (((Cs.nil (w.alloc (.cells #[.string nm, .int .i64 3, .int .i64 from', .int .i64 to', .slice r0 n0 c0, .slice r1 n1 c1, .slice r2 n2 c2, .int .i64 pos, .int .i64 sp, .int .i64 leak, .int .i64 crest, .int .i64 num, .int .i64 den, .int .i64 prime, .int .i64 brk, .int .i64 bnum, .int .i64 bden, .int .i64 delay] 26))).alloc 32 [.int .i64 plo, .int .i64 phi, .int .i64 tgt, .int .i64 klo, .int .i64 khi]).alloc 30 [.int .i64 lo, .int .i64 hi] |>.alloc 32 [.int .i64 0, .int .i64 0, .int .i64 0, .int .i64 0, .int .i64 0]))
  have HF1 := Lib.hid (show Fz V1 (w.heap.size + 1) by rw [hV]; exact ((Fz.new _ _ _ (by simp)).old _).old _)
  have HF2 := Lib.hid (show Fz V1 (w.heap.size + 1 + 1 + 1) by rw [hV]; exact Fz.new _ _ _ (by simp))
  have hu1 := HC1.out.bx
  simp only [Bx, newCells, join, World.size_alloc] at hu1
  clear hV
  have g1 := HF1.out.bel
  have g2 := HF2.out.bel
  have f1 := fun z : BelW V1 => BelW.range HR1.out z 1 _ rfl
  have f12 := fun z : BelW V1 => BelW.range HR1.out z 13 _ rfl
  have f13 := fun z : BelW V1 => BelW.range HR1.out z 14 _ rfl
  simp only [Nat.zero_add] at f1 f12 f13
  go_wp2_with fail
  have hB : Below w.heap.size w x1.w := below_next HB1.out x1.2
  exact bodyPost_ret (v := .agg #[.int .i64 plo, .int .i64 phi, .int .i64 tgt, .int .i64 klo, .int .i64 khi]) (by simp [results, Try.results17, go_sem, hu1]) rfl ⟨klo, khi, rfl, rfl, by repeat (first | with_reducible exact hB | refine Below.setCell ?_ (by simp <;> omega) _)⟩

set_option maxHeartbeats 16000000 in
set_option maxRecDepth 100000 in
theorem refmaybe_g0 (nm : ByteArray) (from' to' : Int) (r0 r1 r2 : Option Addr) (n0 n1 n2 c0 c1 c2 : Nat) (pos sp leak crest num den prime brk bnum bden delay : Int) (plo phi tgt klo khi lo hi : Int) (h : lo ≤ hi) (hc1 : 1 < klo) (hc2 : khi = 0) (w : World) :
    Calls Try.prog 17 #[.agg #[.string nm, .int .i64 3, .int .i64 from', .int .i64 to', .slice r0 n0 c0, .slice r1 n1 c1, .slice r2 n2 c2, .int .i64 pos, .int .i64 sp, .int .i64 leak, .int .i64 crest, .int .i64 num, .int .i64 den, .int .i64 prime, .int .i64 brk, .int .i64 bnum, .int .i64 bden, .int .i64 delay], .agg #[.int .i64 plo, .int .i64 phi, .int .i64 tgt, .int .i64 klo, .int .i64 khi], .agg #[.int .i64 lo, .int .i64 hi]] w (RefPost w plo phi tgt (klo, khi)) := by
  have t2 : decide (hi < lo) = false := decide_eq_false (by omega)
  have u0 : decide (klo ≤ 0) = false := decide_eq_false (by omega)
  have u1 : decide (klo ≤ 1) = false := decide_eq_false (by omega)
  have u2 : decide (0 ≤ khi) = true := decide_eq_true (by omega)
  have u3 : decide (1 ≤ khi) = false := decide_eq_false (by omega)
  have H1 := Lib.hid hc1
  have H2 := Lib.hid hc2
  clear hc1 hc2
  go_enter Try.func17, Try.ntmps17
  go_upto_region 1 with fail
  refine wp_rebase _ (fun V1 hV x1 => ?_)
  have HB1 := Lib.hid (bel_at hV (bel_alloc (bel_alloc (bel_alloc (bel_alloc (Below.refl w.heap.size w) _) _) _) _))
  have HR1 := Lib.hid (show V1.rangeAt w.heap.size 0 [.string nm, .int .i64 3, .int .i64 from', .int .i64 to', .slice r0 n0 c0, .slice r1 n1 c1, .slice r2 n2 c2, .int .i64 pos, .int .i64 sp, .int .i64 leak, .int .i64 crest, .int .i64 num, .int .i64 den, .int .i64 prime, .int .i64 brk, .int .i64 bnum, .int .i64 bden, .int .i64 delay] by rw [hV]; exact World.rangeAt_alloc (World.rangeAt_alloc (World.rangeAt_alloc (range_new _ _ _) _) _) _)
  have HC1 := Lib.hid (Cs.at hV (((Cs.nil (w.alloc (.cells #[.string nm, .int .i64 3, .int .i64 from', .int .i64 to', .slice r0 n0 c0, .slice r1 n1 c1, .slice r2 n2 c2, .int .i64 pos, .int .i64 sp, .int .i64 leak, .int .i64 crest, .int .i64 num, .int .i64 den, .int .i64 prime, .int .i64 brk, .int .i64 bnum, .int .i64 bden, .int .i64 delay] 26))).alloc 32 [.int .i64 plo, .int .i64 phi, .int .i64 tgt, .int .i64 klo, .int .i64 khi]).alloc 30 [.int .i64 lo, .int .i64 hi] |>.alloc 32 [.int .i64 0, .int .i64 0, .int .i64 0, .int .i64 0, .int .i64 0]))
  have HF1 := Lib.hid (show Fz V1 (w.heap.size + 1) by rw [hV]; exact ((Fz.new _ _ _ (by simp)).old _).old _)
  have HF2 := Lib.hid (show Fz V1 (w.heap.size + 1 + 1 + 1) by rw [hV]; exact Fz.new _ _ _ (by simp))
  have hu1 := HC1.out.bx
  simp only [Bx, newCells, join, World.size_alloc] at hu1
  clear hV
  have g1 := HF1.out.bel
  have g2 := HF2.out.bel
  have f1 := fun z : BelW V1 => BelW.range HR1.out z 1 _ rfl
  have f12 := fun z : BelW V1 => BelW.range HR1.out z 13 _ rfl
  have f13 := fun z : BelW V1 => BelW.range HR1.out z 14 _ rfl
  simp only [Nat.zero_add] at f1 f12 f13
  go_wp2_with fail
  have hB : Below w.heap.size w x1.w := below_next HB1.out x1.2
  exact bodyPost_ret (v := .agg #[.int .i64 plo, .int .i64 phi, .int .i64 tgt, .int .i64 klo, .int .i64 khi]) (by simp [results, Try.results17, go_sem, hu1]) rfl ⟨klo, khi, rfl, rfl, by repeat (first | with_reducible exact hB | refine Below.setCell ?_ (by simp <;> omega) _)⟩

set_option maxHeartbeats 16000000 in
set_option maxRecDepth 100000 in
theorem refmaybe_gp (nm : ByteArray) (from' to' : Int) (r0 r1 r2 : Option Addr) (n0 n1 n2 c0 c1 c2 : Nat) (pos sp leak crest num den prime brk bnum bden delay : Int) (plo phi tgt klo khi lo hi : Int) (h : lo ≤ hi) (hc1 : 1 < klo) (hc2 : 1 ≤ khi) (w : World) :
    Calls Try.prog 17 #[.agg #[.string nm, .int .i64 3, .int .i64 from', .int .i64 to', .slice r0 n0 c0, .slice r1 n1 c1, .slice r2 n2 c2, .int .i64 pos, .int .i64 sp, .int .i64 leak, .int .i64 crest, .int .i64 num, .int .i64 den, .int .i64 prime, .int .i64 brk, .int .i64 bnum, .int .i64 bden, .int .i64 delay], .agg #[.int .i64 plo, .int .i64 phi, .int .i64 tgt, .int .i64 klo, .int .i64 khi], .agg #[.int .i64 lo, .int .i64 hi]] w (RefPost w plo phi tgt (klo, khi)) := by
  have t2 : decide (hi < lo) = false := decide_eq_false (by omega)
  have u0 : decide (klo ≤ 0) = false := decide_eq_false (by omega)
  have u1 : decide (klo ≤ 1) = false := decide_eq_false (by omega)
  have u2 : decide (0 ≤ khi) = true := decide_eq_true (by omega)
  have u3 : decide (1 ≤ khi) = true := decide_eq_true (by omega)
  have H1 := Lib.hid hc1
  have H2 := Lib.hid hc2
  clear hc1 hc2
  go_enter Try.func17, Try.ntmps17
  go_upto_region 1 with fail
  refine wp_rebase _ (fun V1 hV x1 => ?_)
  have HB1 := Lib.hid (bel_at hV (bel_alloc (bel_alloc (bel_alloc (bel_alloc (Below.refl w.heap.size w) _) _) _) _))
  have HR1 := Lib.hid (show V1.rangeAt w.heap.size 0 [.string nm, .int .i64 3, .int .i64 from', .int .i64 to', .slice r0 n0 c0, .slice r1 n1 c1, .slice r2 n2 c2, .int .i64 pos, .int .i64 sp, .int .i64 leak, .int .i64 crest, .int .i64 num, .int .i64 den, .int .i64 prime, .int .i64 brk, .int .i64 bnum, .int .i64 bden, .int .i64 delay] by rw [hV]; exact World.rangeAt_alloc (World.rangeAt_alloc (World.rangeAt_alloc (range_new _ _ _) _) _) _)
  have HC1 := Lib.hid (Cs.at hV (((Cs.nil (w.alloc (.cells #[.string nm, .int .i64 3, .int .i64 from', .int .i64 to', .slice r0 n0 c0, .slice r1 n1 c1, .slice r2 n2 c2, .int .i64 pos, .int .i64 sp, .int .i64 leak, .int .i64 crest, .int .i64 num, .int .i64 den, .int .i64 prime, .int .i64 brk, .int .i64 bnum, .int .i64 bden, .int .i64 delay] 26))).alloc 32 [.int .i64 plo, .int .i64 phi, .int .i64 tgt, .int .i64 klo, .int .i64 khi]).alloc 30 [.int .i64 lo, .int .i64 hi] |>.alloc 32 [.int .i64 0, .int .i64 0, .int .i64 0, .int .i64 0, .int .i64 0]))
  have HF1 := Lib.hid (show Fz V1 (w.heap.size + 1) by rw [hV]; exact ((Fz.new _ _ _ (by simp)).old _).old _)
  have HF2 := Lib.hid (show Fz V1 (w.heap.size + 1 + 1 + 1) by rw [hV]; exact Fz.new _ _ _ (by simp))
  have hu1 := HC1.out.bx
  simp only [Bx, newCells, join, World.size_alloc] at hu1
  clear hV
  have g1 := HF1.out.bel
  have g2 := HF2.out.bel
  have f1 := fun z : BelW V1 => BelW.range HR1.out z 1 _ rfl
  have f12 := fun z : BelW V1 => BelW.range HR1.out z 13 _ rfl
  have f13 := fun z : BelW V1 => BelW.range HR1.out z 14 _ rfl
  simp only [Nat.zero_add] at f1 f12 f13
  go_wp2_with fail
  have hB : Below w.heap.size w x1.w := below_next HB1.out x1.2
  exact bodyPost_ret (v := .agg #[.int .i64 plo, .int .i64 phi, .int .i64 tgt, .int .i64 klo, .int .i64 khi]) (by simp [results, Try.results17, go_sem, hu1]) rfl ⟨klo, khi, rfl, rfl, by repeat (first | with_reducible exact hB | refine Below.setCell ?_ (by simp <;> omega) _)⟩

end Go.Proofs.Ytacjhenjagageaa
