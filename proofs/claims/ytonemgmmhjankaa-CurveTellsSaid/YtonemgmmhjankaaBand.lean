/- curve.Band. -/
import Derived.Test.YtonemgmmhjankaaUnder
import Derived.Test.YtonemgmmhjankaaLoad
namespace Go.Proofs.Ytonemgmmhjankaa
open Go.RowKit Go.Shelf
set_option linter.unusedVariables false
set_option linter.unusedSimpArgs false

theorem band_any (A B : Option Addr) (ca cb : Nat) (a b : List (Int × Int)) (hna : a.length ≤ 9223372036854775807) (hnb : b.length ≤ 9223372036854775807) (x : Int) (x_1 : -9223372036854775808 ≤ x) (x_2 : x ≤ 9223372036854775807) (w : World) (hra : Rd w A (ptCells a)) (hrb : Rd w B (ptCells b)) :
    Calls Try.prog 19 #[.agg #[.slice A a.length ca, .slice B b.length cb], .int .i64 x] w fun e w' => e = .returned (.agg #[.int .i64 (min (atF a x) (atF b x)), .int .i64 (max (atF a x) (atF b x))]) ∧ Below w.heap.size w w' := by
  have AI := Lib.hid (fun w' (h : Below w.heap.size w w') => at_any A ca a hna x x_1 x_2 w' (hra.below (Nat.le_refl _) h))
  have AJ := Lib.hid (fun w' (h : Below w.heap.size w w') => at_any B cb b hnb x x_1 x_2 w' (hrb.below (Nat.le_refl _) h))
  clear hra hrb hna hnb
  generalize atF a x = u at *
  generalize atF b x = v at *
  go_enter Try.func19, Try.ntmps19
  go_upto_region 1 with fail
  refine wp_rebase _ (fun V hV x1 => ?_)
  have HB1 := Lib.hid (bel_at hV (bel_alloc (bel_alloc (Below.refl w.heap.size w) _) _))
  have HC1 := Lib.hid (Cs.at hV (((Cs.nil w).alloc _ _).alloc _ _))
  have HF1 := Lib.hid (show Fz V (w.heap.size + 1) by rw [hV]; exact Fz.new _ _ _ (by simp))
  have hu1 := HC1.out.bx
  simp only [Bx, newCells, join, World.size_alloc] at hu1
  clear hV
  have hg := HF1.out.bel
  have CI := Lib.hid (fun y : BelW V => bel_of (AI.out y.w (below_next HB1.out y.2)))
  have CJ := Lib.hid (fun y : BelW V => bel_of (AJ.out y.w (below_next HB1.out y.2)))
  refine wp_region_belx (by kernel_rfl) (by kernel_rfl) ?_
  repeat (go_big_quiet_step (first | (go_at_call 13; with_reducible exact CI.out _) | (go_at_call 13; with_reducible exact CJ.out _)))
  refine wpQuiet_nil ?_
  intro y1
  go_wp2_with fail
  have hB : Below w.heap.size w y1.w := below_next HB1.out y1.2
  exact bodyPost_ret (v := .agg #[.int .i64 (min u v), .int .i64 (max u v)]) (by simp [results, Try.results19, go_sem, hu1]) rfl ⟨rfl, (hB.setCell (Nat.le_succ _) _).setCell (Nat.le_succ _) _⟩

end Go.Proofs.Ytonemgmmhjankaa
