/- pool: Take. -/
import Derived.Test.YtfmnlnmajephlaaPoolD
namespace Go.Proofs.Ytfmnlnmajephlaa
open Go.RowKit
set_option linter.unusedVariables false
set_option linter.unusedSimpArgs false

theorem splice_to {xs p : List Int} (h : p.length = xs.length) : splice (ints xs) 0 (ints p) = ints p := by
  unfold splice
  rw [List.take_zero, List.nil_append, List.drop_eq_nil_of_le (by rw [ints_length, ints_length]; omega), List.append_nil]
def TakeQ (p : List Int) (k : Int) (T : List Int) : Prop :=
  (0 < k ∧ p.length ≤ 64 ∧ RiP p ∧ ShareP (min k p.sum) p T) ∨ (¬ (0 < k ∧ p.length ≤ 64 ∧ RiP p) ∧ T = gl p.length fun _ => 0)
set_option maxHeartbeats 8000000 in
set_option maxRecDepth 100000 in
theorem take_any (A : Option Addr) (c : Nat) (p : List Int) (hn : p.length ≤ 1000) (hf : ∀ i, i < p.length → Fit (gi p i)) (k : Int) (w : World) (hr : Rd w A (ints p)) :
    Calls Try.prog 10 #[.slice A p.length c, .int .i64 k] w (TwoPost p.length (TakeQ p k) p w) := by
  obtain ⟨i0, hi0, hz0, hz1, hz2⟩ := info_parts info_int2
  have hmk : i0.bytes * p.length ≤ 281474976710656 := by rw [hz2]; omega
  have hml : p.length ≤ maxLen := by unfold maxLen; omega
  have INF := Lib.hid (And.intro hi0 (And.intro hz0 (And.intro hz1 (And.intro hmk hml))))
  have HP := Lib.hid hr
  have HF := Lib.hid hf
  clear hi0 hz0 hz1 hz2 hmk hml hr hf
  go_enter Try.func10, Try.ntmps10
  go_upto_region 1 with fail
  go_wp2_with (first | (at_make; refine wpList_make_full _ rfl _ _ 22 rfl w.heap.size 3 i0 (.int .i64 0) 1 Try.underlying22 INF.out.1 INF.out.2.1 INF.out.2.2.1 _ _ _ _ p.length rfl rfl rfl rfl INF.out.2.2.2.1 INF.out.2.2.2.2 (Nat.le_refl _) ?_))
  intro w1 hown1 hg1
  have HI1 := Lib.hid (ir_made2 hown1)
  have HB1 := Lib.hid (below_grown (Below.refl w.heap.size w) hg1 (fun k hk => by cases hk))
  clear hown1 hg1
  -- the ending, where nothing is taken
  have END := Lib.hid (fun (hno : ¬ (0 < k ∧ p.length ≤ 64 ∧ RiP p)) (w2 : World) (hb : Below w1.heap.size w1 w2) =>
    without_any A (some ⟨w.heap.size, 0, none⟩) c p.length p (gl p.length fun _ => 0) p.length rfl (gl_length _ _) hn (fun j hj => by rw [gl_at hj, Int.sub_zero]; exact HF.out j hj) w2 (HP.out.below (Nat.le_refl _) (below_next HB1.out hb)) (HI1.out.next hb).rd)
  by_cases h1 : 0 < k
  case neg =>
    have t1 : decide (0 < k) = false := decide_eq_false h1
    have HW := Lib.hid (END.out (fun h => h1 h.1) w1 (Below.refl _ _))
    have HNO := Lib.hid (show ¬ (0 < k ∧ p.length ≤ 64 ∧ RiP p) from fun h => h1 h.1)
    clear END h1
    go_wp2_with fail
    refine HW.out.mono ?_
    rintro e w4 ⟨g2, rfl, hI5, hB5⟩
    have HX := Lib.hid (And.intro (HI1.out.next hB5) (And.intro (hI5.base HB1.out.size) (below_next HB1.out hB5)))
    clear hI5 hB5
    go_wp2_with fail
    go_ret2
    exact ⟨_, _, _, rfl, .inr ⟨HNO.out, rfl⟩, gl_length _ _, HX.out⟩
  have t1 : decide (0 < k) = true := decide_eq_true h1
  by_cases h2 : p.length ≤ 64
  case neg =>
    have t2 : decide ((p.length : Int) ≤ 64) = false := decide_eq_false (by omega)
    have HW := Lib.hid (END.out (fun h => h2 h.2.1) w1 (Below.refl _ _))
    have HNO := Lib.hid (show ¬ (0 < k ∧ p.length ≤ 64 ∧ RiP p) from fun h => h2 h.2.1)
    clear END h1 h2
    go_wp2_with fail
    refine HW.out.mono ?_
    rintro e w4 ⟨g2, rfl, hI5, hB5⟩
    have HX := Lib.hid (And.intro (HI1.out.next hB5) (And.intro (hI5.base HB1.out.size) (below_next HB1.out hB5)))
    clear hI5 hB5
    go_wp2_with fail
    go_ret2
    exact ⟨_, _, _, rfl, .inr ⟨HNO.out, rfl⟩, gl_length _ _, HX.out⟩
  have t2 : decide ((p.length : Int) ≤ 64) = true := decide_eq_true (by omega)
  have HR1 := Lib.hid (HP.out.below (Nat.le_refl _) HB1.out)
  have HRI := Lib.hid (rightp_any A c p (by omega) w1 HR1.out)
  go_upto_region 2 with fail
  go_wp2_with fail
  refine HRI.out.mono ?_
  rintro e w2 ⟨b, rfl, hb, hB2⟩
  cases b
  case false =>
    have hri : ¬ RiP p := fun h => by have := hb.2 h; cases this
    have HW := Lib.hid (END.out (fun h => hri h.2.2) w2 hB2)
    have HNO := Lib.hid (show ¬ (0 < k ∧ p.length ≤ 64 ∧ RiP p) from fun h => hri h.2.2)
    have HB2 := Lib.hid (below_next HB1.out hB2)
    have HI2 := Lib.hid (HI1.out.next hB2)
    clear END h1 h2 hri hb hB2
    go_wp2_with fail
    refine HW.out.mono ?_
    rintro e w4 ⟨g2, rfl, hI5, hB5⟩
    have HX := Lib.hid (And.intro (HI2.out.next hB5) (And.intro (hI5.base HB2.out.size) (below_next HB2.out hB5)))
    clear hI5 hB5
    go_wp2_with fail
    go_ret2
    exact ⟨_, _, _, rfl, .inr ⟨HNO.out, rfl⟩, gl_length _ _, HX.out⟩
  case true =>
    have HRP := Lib.hid (hb.1 rfl)
    have HB2 := Lib.hid (below_next HB1.out hB2)
    have HI2 := Lib.hid (HI1.out.next hB2)
    have HH12 := Lib.hid (And.intro h1 h2)
    have HTo := Lib.hid (total_any A c p (by omega) HF.out w2 (HP.out.below (Nat.le_refl _) HB2.out))
    rw [tot_ri HRP.out (Nat.le_refl _), ← sum_su] at HTo
    have HWt := Lib.hid (HRP.out.wt h2)
    obtain ⟨S, hS⟩ : ∃ S, p.sum = S := ⟨_, rfl⟩
    rw [hS] at HTo
    obtain ⟨m, hm⟩ : ∃ m, min k S = m := ⟨_, rfl⟩
    have HS := Lib.hid hS
    have HM := Lib.hid hm
    have HMB := Lib.hid (show 0 ≤ m ∧ m ≤ p.sum by have := HWt.out.nonneg; omega)
    clear END hb hB2 HRI h1 h2 hS
    go_wp2_with fail
    refine HTo.out.mono ?_
    rintro e w3 ⟨rfl, hB3⟩
    have HB3 := Lib.hid (below_next HB2.out hB3)
    have HI3 := Lib.hid (HI2.out.next hB3)
    clear hB3
    have HSh := Lib.hid (share_any m A c p (by omega) w3 (HP.out.below (Nat.le_refl _) HB3.out))
    go_wp2_with fail
    refine HSh.out.mono ?_
    rintro e w4 (⟨g, x, rfl, _, _, _, hx, hI, hB⟩ | ⟨_, hno, _⟩)
    case inr => exact absurd ⟨HWt.out, HMB.out.1, HMB.out.2⟩ hno
    have HB4 := Lib.hid (below_next HB3.out hB)
    have HI4 := Lib.hid (HI3.out.next hB)
    have HX := Lib.hid hx
    have HIX := Lib.hid hI
    have HH := Lib.hid HI4.out.heap
    clear hx hI hB HTo HSh
    go_upto_region 5 with fail
    go_wp2_with (first | (refine wpList_copy_splice rfl (.tmp 32) (.tmp 33) 22 22 rfl 3 Try.underlying22 info_i1 (some ⟨w.heap.size, 0, none⟩) (some ⟨g, 0, none⟩) p.length p.length p.length p.length (by rfl) (by rfl) w.heap.size 0 (ints (gl p.length fun _ => 0)) 3 HH.out (ints x) (by rw [ints_length, HX.out.len]; exact (Nat.min_self _).symm) (copy_pos HIX.out.rd) (by rw [ints_length, ints_length, gl_length, HX.out.len]; omega) (ints_one x) w.heap.size w HB4.out (Nat.le_refl _) ?_))
    intro w5 hg5 hB5
    have HB5 := Lib.hid hB5
    have HI5 := Lib.hid (show IR w5 w.heap.size w.heap.size p.length x from IR.of (by have := hg5.out; rwa [splice_to (by rw [gl_length]; exact HX.out.len)] at this) HX.out.len (Nat.le_refl _) INF.out.2.2.2.2)
    clear hg5 hB5 HH HIX HI4
    have HW := Lib.hid (without_any A (some ⟨w.heap.size, 0, none⟩) c p.length p x p.length rfl HX.out.len hn (fun j hj => by
      have a := HX.out.le HWt.out HMB.out.1 HMB.out.2 hj
      have b := HF.out j hj
      unfold Fit at b ⊢
      omega) w5 (HP.out.below (Nat.le_refl _) HB5.out) HI5.out.rd)
    go_wp2_with fail
    refine HW.out.mono ?_
    rintro e w6 ⟨g2, rfl, hI6, hB6⟩
    have HXX := Lib.hid (And.intro (HI5.out.next hB6) (And.intro (hI6.base HB5.out.size) (below_next HB5.out hB6)))
    have HQ := Lib.hid (show TakeQ p k x from .inl ⟨HH12.out.1, HH12.out.2, HRP.out, by rw [HS.out, HM.out]; exact HX.out⟩)
    clear hI6 hB6
    go_wp2_with fail
    go_ret2
    exact ⟨_, _, _, rfl, HQ.out, HX.out.len, HXX.out⟩

end Go.Proofs.Ytfmnlnmajephlaa
