/- seep.Ask at every link; seep.Bounds. -/
import Derived.Test.YtacjhenjagageaaAskY
import Derived.Test.YtacjhenjagageaaSipT
import Derived.Test.YtacjhenjagageaaLoad
namespace Go.Proofs.Ytacjhenjagageaa
open Go.RowKit
set_option linter.unusedVariables false
set_option linter.unusedSimpArgs false

def askOf (kind num den bnum bden x y : Int) : Int := if kind = 4 then partOf x num den - partOf y bnum bden else 0
theorem ask_any (nm : ByteArray) (kind from' to' : Int) (r0 r1 r2 : Option Addr) (n0 n1 n2 c0 c1 c2 : Nat) (pos sp leak crest num den prime brk bnum bden delay : Int) (x y : Int) (w : World) :
    Calls Try.prog 10 #[.agg #[.string nm, .int .i64 kind, .int .i64 from', .int .i64 to', .slice r0 n0 c0, .slice r1 n1 c1, .slice r2 n2 c2, .int .i64 pos, .int .i64 sp, .int .i64 leak, .int .i64 crest, .int .i64 num, .int .i64 den, .int .i64 prime, .int .i64 brk, .int .i64 bnum, .int .i64 bden, .int .i64 delay], .int .i64 x, .int .i64 y] w fun e w' => e = .returned (.int .i64 (askOf kind num den bnum bden x y)) ∧ Below w.heap.size w w' := by
  unfold askOf
  by_cases h : kind = 4
  · subst h
    rw [if_pos rfl]
    exact ask_yes nm from' to' r0 r1 r2 n0 n1 n2 c0 c1 c2 pos sp leak crest num den prime brk bnum bden delay x y w
  · rw [if_neg h]
    exact ask_no nm kind from' to' r0 r1 r2 n0 n1 n2 c0 c1 c2 pos sp leak crest num den prime brk bnum bden delay x y h w

set_option maxHeartbeats 2000000 in
theorem bounds_any (nm : ByteArray) (kind from' to' : Int) (r0 r1 r2 : Option Addr) (n0 n1 n2 c0 c1 c2 : Nat) (pos sp leak crest num den prime brk bnum bden delay : Int) (a b c d : Int) (w : World) :
    Calls Try.prog 12 #[.agg #[.string nm, .int .i64 kind, .int .i64 from', .int .i64 to', .slice r0 n0 c0, .slice r1 n1 c1, .slice r2 n2 c2, .int .i64 pos, .int .i64 sp, .int .i64 leak, .int .i64 crest, .int .i64 num, .int .i64 den, .int .i64 prime, .int .i64 brk, .int .i64 bnum, .int .i64 bden, .int .i64 delay], .agg #[.int .i64 a, .int .i64 b], .agg #[.int .i64 c, .int .i64 d]] w fun e w' => e = .returned (.agg #[.int .i64 (askOf kind num den bnum bden a d), .int .i64 (askOf kind num den bnum bden b c)]) ∧ Below w.heap.size w w' := by
  go_enter Try.func12, Try.ntmps12
  go_upto_region 1 with fail
  refine wp_rebase _ (fun V hV x1 => ?_)
  have HB1 := Lib.hid (bel_at hV (bel_alloc (bel_alloc (bel_alloc (bel_alloc (Below.refl w.heap.size w) _) _) _) _))
  have HR1 := Lib.hid (show V.rangeAt w.heap.size 0 [.string nm, .int .i64 kind, .int .i64 from', .int .i64 to', .slice r0 n0 c0, .slice r1 n1 c1, .slice r2 n2 c2, .int .i64 pos, .int .i64 sp, .int .i64 leak, .int .i64 crest, .int .i64 num, .int .i64 den, .int .i64 prime, .int .i64 brk, .int .i64 bnum, .int .i64 bden, .int .i64 delay] by rw [hV]; exact World.rangeAt_alloc (World.rangeAt_alloc (World.rangeAt_alloc (range_new _ _ _) _) _) _)
  have HC1 := Lib.hid (Cs.at hV (((Cs.nil (w.alloc (.cells #[.string nm, .int .i64 kind, .int .i64 from', .int .i64 to', .slice r0 n0 c0, .slice r1 n1 c1, .slice r2 n2 c2, .int .i64 pos, .int .i64 sp, .int .i64 leak, .int .i64 crest, .int .i64 num, .int .i64 den, .int .i64 prime, .int .i64 brk, .int .i64 bnum, .int .i64 bden, .int .i64 delay] 26))).alloc 30 [.int .i64 a, .int .i64 b]).alloc 30 [.int .i64 c, .int .i64 d] |>.alloc 30 [.int .i64 0, .int .i64 0]))
  have HF1 := Lib.hid (show Fz V (w.heap.size + 1 + 1 + 1) by rw [hV]; exact Fz.new _ _ _ (by simp))
  have hu1 := HC1.out.bx
  simp only [Bx, newCells, join, World.size_alloc] at hu1
  clear hV
  have hg := HF1.out.bel
  refine wp_region_belt 13 (by kernel_rfl) (by kernel_rfl) ?_
  simp only [List.take_succ_cons, List.take_zero, List.drop_succ_cons, List.drop_zero]
  repeat (first | (refine wpQuiet_load_mid (by rfl) 26 _ (by rfl) _ _ (by rfl) _ _ (rangeX HR1.out) Try.underlying26 (by rfl) (by kernel_rfl) ?_; simp only [Act.put, List.setIfInBounds_toArray, List.set_cons_succ, List.set_cons_zero]) | go_big_quiet_step ((go_at_call 10; exact bel_of (ask_any _ _ _ _ _ _ _ _ _ _ _ _ _ _ _ _ _ _ _ _ _ _ _ _ _ _ _))))
  refine wpQuiet_nil ?_
  intro y1
  go_wp2_with fail
  have hB : Below w.heap.size w y1.w := below_next HB1.out y1.2
  exact bodyPost_ret (v := .agg #[.int .i64 (askOf kind num den bnum bden a d), .int .i64 (askOf kind num den bnum bden b c)]) (by simp [results, Try.results12, go_sem, hu1]) rfl ⟨rfl, by go_grown⟩

end Go.Proofs.Ytacjhenjagageaa
