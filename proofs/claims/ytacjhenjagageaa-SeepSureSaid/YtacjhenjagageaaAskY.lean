/- seep.Ask at a seep. -/
import Derived.Test.YtacjhenjagageaaAskT
import Derived.Deep.CutBlock
import Derived.Deep.DeepCutAuto
import Derived.Handy
namespace Go.Proofs.Ytacjhenjagageaa
open Go.RowKit
set_option linter.unusedVariables false
set_option linter.unusedSimpArgs false

theorem partOf_bd (v n d : Int) : 0 ≤ partOf v n d ∧ partOf v n d ≤ 1125899906842624 := by
  unfold partOf
  by_cases hf : Xa.fits v n d = true
  · rw [if_pos hf]
    unfold Xa.fits at hf
    have h := of_decide_eq_true hf
    exact ⟨Int.ediv_nonneg (Int.mul_nonneg h.1 h.2.2.1) (by omega), h.2.2.2.2.2.2⟩
  · rw [if_neg hf]
    omega
set_option maxHeartbeats 1000000 in
theorem ask_yes (nm : ByteArray) (from' to' : Int) (r0 r1 r2 : Option Addr) (n0 n1 n2 c0 c1 c2 : Nat) (pos sp leak crest num den prime brk bnum bden delay x y : Int) (w : World) :
    Calls Try.prog 10 #[.agg #[.string nm, .int .i64 4, .int .i64 from', .int .i64 to', .slice r0 n0 c0, .slice r1 n1 c1, .slice r2 n2 c2, .int .i64 pos, .int .i64 sp, .int .i64 leak, .int .i64 crest, .int .i64 num, .int .i64 den, .int .i64 prime, .int .i64 brk, .int .i64 bnum, .int .i64 bden, .int .i64 delay], .int .i64 x, .int .i64 y] w fun e w' => e = .returned (.int .i64 (partOf x num den - partOf y bnum bden)) ∧ Below w.heap.size w w' := by
  obtain ⟨a1, a2⟩ := partOf_bd x num den
  obtain ⟨b1, b2⟩ := partOf_bd y bnum bden
  go_enter Try.func10, Try.ntmps10
  go_upto_region 3 with fail
  refine wp_rebase _ (fun V1 hV x1 => ?_)
  have HB1 := Lib.hid (bel_at hV (bel_alloc (Below.refl w.heap.size w) _))
  have HC1 := Lib.hid (Cs.at hV ((Cs.nil w).alloc _ _))
  have hu1 := HC1.out.bx
  simp only [Bx, newCells, join] at hu1
  clear hV
  refine wp_region_belx (by kernel_rfl) (by kernel_rfl) ?_
  repeat (go_big_quiet_step ((go_at_call 25; exact bel_of_drew (part_any _ _ _ _))))
  refine wpQuiet_nil ?_
  intro y1
  go_wp2_with fail
  go_ret
  exact ⟨rfl, below_next HB1.out y1.2⟩

end Go.Proofs.Ytacjhenjagageaa
