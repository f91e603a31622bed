/- bourneref20.Maybe: one kind of knowledge. -/
import Derived.Test.YtacjhenjagageaaRefMn
namespace Go.Proofs.Ytacjhenjagageaa
open Go.RowKit
set_option linter.unusedVariables false
set_option linter.unusedSimpArgs false

set_option maxHeartbeats 16000000 in
set_option maxRecDepth 100000 in
theorem refmaybe_l0 (nm : ByteArray) (from' to' : Int) (r0 r1 r2 : Option Addr) (n0 n1 n2 c0 c1 c2 : Nat) (pos sp leak crest num den prime brk bnum bden delay : Int) (brk1 : -9223372036854775808 ≤ brk) (pr2 : prime ≤ 9223372036854775807) (plo phi tgt klo khi lo hi : Int) (hi2 : hi ≤ 9223372036854775807) (h : lo ≤ hi) (hc1 : klo ≤ 0) (hc2 : khi = 0) (w : World) :
    Calls Try.prog 17 #[.agg #[.string nm, .int .i64 3, .int .i64 from', .int .i64 to', .slice r0 n0 c0, .slice r1 n1 c1, .slice r2 n2 c2, .int .i64 pos, .int .i64 sp, .int .i64 leak, .int .i64 crest, .int .i64 num, .int .i64 den, .int .i64 prime, .int .i64 brk, .int .i64 bnum, .int .i64 bden, .int .i64 delay], .agg #[.int .i64 plo, .int .i64 phi, .int .i64 tgt, .int .i64 klo, .int .i64 khi], .agg #[.int .i64 lo, .int .i64 hi]] w (RefPost w plo phi tgt (maybeOpen 3 prime brk klo khi lo hi)) := by
  obtain ⟨s1, s2, hs⟩ : ∃ s1 s2, maybeOpen 3 prime brk klo khi lo hi = (s1, s2) := ⟨_, _, rfl⟩
  have hm := maybe_ref (prime := prime) (brk := brk) (klo := klo) (khi := khi) hi2 h (by omega)
  rw [hs] at hm ⊢
  clear hs
  have t2 : decide (hi < lo) = false := decide_eq_false (by omega)
  have u0 : decide (klo ≤ 0) = true := decide_eq_true (by omega)
  have u1 : decide (klo ≤ 1) = true := decide_eq_true (by omega)
  have u2 : decide (0 ≤ khi) = true := decide_eq_true (by omega)
  have u3 : decide (1 ≤ khi) = false := decide_eq_false (by omega)
  have H1 := Lib.hid hc1
  have H2 := Lib.hid hc2
  have HH := Lib.hid h
  have HM := Lib.hid hm
  clear hc1 hc2 h hm
  go_enter Try.func17, Try.ntmps17
  go_upto_region 1 with fail
  refine wp_rebase _ (fun V1 hV x1 => ?_)
  have HB1 := Lib.hid (bel_at hV (bel_alloc (bel_alloc (bel_alloc (bel_alloc (Below.refl w.heap.size w) _) _) _) _))
  have HR1 := Lib.hid (show V1.rangeAt w.heap.size 0 [.string nm, .int .i64 3, .int .i64 from', .int .i64 to', .slice r0 n0 c0, .slice r1 n1 c1, .slice r2 n2 c2, .int .i64 pos, .int .i64 sp, .int .i64 leak, .int .i64 crest, .int .i64 num, .int .i64 den, .int .i64 prime, .int .i64 brk, .int .i64 bnum, .int .i64 bden, .int .i64 delay] by rw [hV]; exact World.rangeAt_alloc (World.rangeAt_alloc (World.rangeAt_alloc (range_new _ _ _) _) _) _)
  have HC1 := Lib.hid (Cs.at hV (((Cs.nil (w.alloc (.cells #[.string nm, .int .i64 3, .int .i64 from', .int .i64 to', .slice r0 n0 c0, .slice r1 n1 c1, .slice r2 n2 c2, .int .i64 pos, .int .i64 sp, .int .i64 leak, .int .i64 crest, .int .i64 num, .int .i64 den, .int .i64 prime, .int .i64 brk, .int .i64 bnum, .int .i64 bden, .int .i64 delay] 26))).alloc 32 [.int .i64 plo, .int .i64 phi, .int .i64 tgt, .int .i64 klo, .int .i64 khi]).alloc 30 [.int .i64 lo, .int .i64 hi] |>.alloc 32 [.int .i64 0, .int .i64 0, .int .i64 0, .int .i64 0, .int .i64 0]))
  have HF1 := Lib.hid (show Fz V1 (w.heap.size + 1) by rw [hV]; exact ((Fz.new _ _ _ (by simp)).old _).old _)
  have HF2 := Lib.hid (show Fz V1 (w.heap.size + 1 + 1 + 1) by rw [hV]; exact Fz.new _ _ _ (by simp))
  have hu1 := HC1.out.bx
  simp only [Bx, newCells, join, World.size_alloc] at hu1
  clear hV
  have g1 := HF1.out.bel
  have g2 := HF2.out.bel
  have f1 := fun z : BelW V1 => BelW.range HR1.out z 1 _ rfl
  have f12 := fun z : BelW V1 => BelW.range HR1.out z 13 _ rfl
  have f13 := fun z : BelW V1 => BelW.range HR1.out z 14 _ rfl
  simp only [Nat.zero_add] at f1 f12 f13
  rcases b1 : decide (prime ≤ hi) with _ | _ <;> rcases b2 : decide (lo ≤ brk) with _ | _ <;> rcases b3 : decide (lo < prime) with _ | _ <;> rcases b4 : decide (brk < prime) with _ | _ <;> rcases b5 : decide (max lo (brk + 1) ≤ min hi (prime - 1)) with _ | _
  all_goals
    have hc1 := H1.out
    have hc2 := H2.out
    have h := HH.out
    have hm := HM.out
    have e1 := b1
    have e2 := b2
    have e3 := b3
    have e4 := b4
    have e5 := b5
    simp only [decide_eq_true_eq, decide_eq_false_iff_not] at e1 e2 e3 e4 e5
    first
    | (exfalso; omega)
    | skip
  all_goals
    first
    | rw [if_pos (by omega), if_pos (by omega)] at hm
    | rw [if_pos (by omega), if_neg (by omega)] at hm
    | rw [if_neg (by omega), if_pos (by omega)] at hm
    | rw [if_neg (by omega), if_neg (by omega)] at hm
    have hs1 := congrArg Prod.fst hm
    have hs2 := congrArg Prod.snd hm
    simp only at hs1 hs2
    subst hs1 hs2
    clear hm HM
    have H4 := Lib.hid e4
    clear hc1 hc2 e1 e2 e3 e4 e5 h
    go_wp2_with (first | (with_reducible refine wpList_load_g 26 _ (by with_reducible rfl) _ _ (by with_unfolding_all rfl) (by with_unfolding_all rfl) _ _ (BelW.range HR1.out _) Try.underlying26 (by with_unfolding_all rfl) (by kernel_rfl) ?_) | (go_at_call 29; (with_reducible refine (bel_of (middle_any _ _ _ _ _ _ _ _ _ _ _ _ _ _ _ _ _ _ _ _ _ _ _ _ _ _ H4.out brk1 pr2 _)).mono ?_); rintro e w' ⟨rfl, z, rfl⟩))
    refine refpost_ret (by simp [results, Try.results17, go_sem, hu1]) rfl ?_
    repeat (first | with_reducible exact belx HB1 _ | refine Below.setCell ?_ (by simp <;> omega) _)

end Go.Proofs.Ytacjhenjagageaa
