/- pool: From, Take. -/
import Derived.Test.YtfmnlnmajephlaaPoolC
namespace Go.Proofs.Ytfmnlnmajephlaa
open Go.RowKit
set_option linter.unusedVariables false
set_option linter.unusedSimpArgs false

theorem ir_made2 {w : World} {B g n : Nat} (h : w.ownsRow B 3 1 (.slice (some ⟨g, 0, none⟩) n n) n (madeCells #[Value.int .i64 0] n).toList) : IR w B g n (gl n fun _ => 0) := by
  have h' := ir_made (fun _ => 0) h
  rwa [show fl n 0 (fun _ => 0) = gl n (fun _ => 0) from gi_ext (by rw [fl_length, gl_length]) fun i hi => by rw [fl_length] at hi; rw [fl_at hi, gl_at hi, if_neg (by omega)]] at h'
/-- two rows handed back -/
def TwoPost (n : Nat) (Q : List Int → Prop) (p : List Int) (w : World) (e : Ending) (w' : World) : Prop :=
  ∃ g1 g2 T, e = .returned (.tuple #[.slice (some ⟨g1, 0, none⟩) n n, .slice (some ⟨g2, 0, none⟩) n n]) ∧ Q T ∧ T.length = n ∧ IR w' w.heap.size g1 n T ∧ IR w' w.heap.size g2 n (gl n fun i => gi p i - gi T i) ∧ Below w.heap.size w w'
theorem IR.base {w : World} {B B' g n : Nat} {xs : List Int} (h : IR w B g n xs) (hb : B' ≤ B) : IR w B' g n xs := IR.of h.heap h.len (Nat.le_trans hb h.lt.1) (by
  rcases h.2 with ⟨e, _⟩ | ⟨g', cap, cur, e, _, _, hc, hm, _⟩
  · cases e
  · cases e; exact hm)

/-! From -/
def fromT (n : Nat) (o m : Int) : List Int := gl n fun i => if (i : Int) = o ∧ 0 < m then m else 0
set_option maxHeartbeats 8000000 in
set_option maxRecDepth 100000 in
theorem from_any (A : Option Addr) (c : Nat) (p : List Int) (n : Nat) (hp : p.length = n) (hn : n ≤ 1000) (hf : ∀ i, i < n → Fit (gi p i)) (o k : Int) (w : World) (hr : Rd w A (ints p)) :
    Calls Try.prog 13 #[.slice A n c, .int .i64 o, .int .i64 k] w (TwoPost n (fun T => T = fromT n o (min k (hasF p o))) p w) := by
  obtain ⟨i0, hi0, hz0, hz1, hz2⟩ := info_parts info_int2
  have hmk : i0.bytes * n ≤ 281474976710656 := by rw [hz2]; omega
  have hml : n ≤ maxLen := by unfold maxLen; omega
  have INF := Lib.hid (And.intro hi0 (And.intro hz0 (And.intro hz1 (And.intro hmk hml))))
  have HP := Lib.hid hr
  have HF := Lib.hid hf
  obtain ⟨h, hh⟩ : ∃ h, hasF p o = h := ⟨_, rfl⟩
  obtain ⟨m, hm⟩ : ∃ m, min k h = m := ⟨_, rfl⟩
  rw [hh, hm]
  have HH := Lib.hid hh
  have HM := Lib.hid hm
  clear hi0 hz0 hz1 hz2 hmk hml hr hf hh hm
  go_enter Try.func13, Try.ntmps13
  go_upto_region 1 with fail
  go_wp2_with (first | (at_make; refine wpList_make_full _ rfl _ _ 22 rfl w.heap.size 3 i0 (.int .i64 0) 1 Try.underlying22 INF.out.1 INF.out.2.1 INF.out.2.2.1 _ _ _ _ n rfl rfl rfl rfl INF.out.2.2.2.1 INF.out.2.2.2.2 (Nat.le_refl _) ?_))
  intro w1 hown1 hg1
  have HI1 := Lib.hid (ir_made2 hown1)
  have HB1 := Lib.hid (below_grown (Below.refl w.heap.size w) hg1 (fun k hk => by cases hk))
  have HC := Lib.hid (has_any A c p o (by omega) w1 (HP.out.below (Nat.le_refl _) HB1.out))
  rw [hp, HH.out] at HC
  have hm := HM.out
  clear hown1 hg1
  go_upto_region 3 with (first | (go_at_call 28; with_reducible refine HC.out.mono ?_; rintro e w2 ⟨rfl, hb2⟩))
  have HB2 := Lib.hid (below_next HB1.out hb2)
  have HI2 := Lib.hid (HI1.out.next hb2)
  clear hb2 hm HC
  by_cases hm0 : 0 < m
  · have t1 : decide (0 < m) = true := decide_eq_true hm0
    have hmh : m ≤ h := by have := HM.out; omega
    obtain ⟨i, rfl, hi, hip⟩ : ∃ i : Nat, o = (i : Int) ∧ i < n ∧ gi p i = h := by
      have e := HH.out
      unfold hasF at e
      split at e
      · rename_i hc
        exact ⟨o.toNat, by omega, by omega, e⟩
      · omega
    have c1 := HI2.out.cell hi
    have f1 := HI2.out.frozen i
    rw [gl_at hi] at c1
    have hT : (gl n fun _ => 0).set i m = fromT n (i : Int) m := by
      rw [gl_set hi]
      exact gl_congr fun j _ => by
        by_cases e : j = i
        · subst e; rw [if_pos rfl, if_pos ⟨rfl, hm0⟩]
        · rw [if_neg e, if_neg (by omega)]
    have HI3 := Lib.hid (hT ▸ HI2.out.set i m)
    have HB3 := Lib.hid (HB2.out.setCell (p := ⟨w.heap.size, i, none⟩) (Nat.le_refl _) (.int .i64 m))
    have HTA := Lib.hid (show ∀ j, j < n → gi (fromT n (i : Int) m) j = if j = i then m else 0 from fun j hj => by
      unfold fromT
      rw [gl_at hj]
      by_cases e : j = i
      · subst e; rw [if_pos ⟨rfl, hm0⟩, if_pos rfl]
      · rw [if_neg (by omega), if_neg e])
    have HIP := Lib.hid hip
    have j1 : (0 : Int) ≤ (i : Int) := by omega
    have j2 : (i : Int) < (n : Int) := by omega
    clear hip hT
    go_upto_region 5 with fail
    refine wp_named _ (fun w3 h3 => ?_)
    have HI4 := Lib.hid (show IR w3 w.heap.size w.heap.size n (fromT n (i : Int) m) by rw [h3]; exact HI3.out)
    have HB4 := Lib.hid (show Below w.heap.size w w3 by rw [h3]; exact HB3.out)
    clear h3 c1 f1
    have HW := Lib.hid (without_any A (some ⟨w.heap.size, 0, none⟩) c n p (fromT n (i : Int) m) n hp (gl_length _ _) hn (fun j hj => by
      rw [HTA.out j hj]
      have a := HF.out j hj
      unfold Fit at a ⊢
      by_cases e : j = i
      · subst e; rw [if_pos rfl]; have := HIP.out; omega
      · rw [if_neg e]; omega) w3 (HP.out.below (Nat.le_refl _) HB4.out) HI4.out.rd)
    go_wp2_with fail
    refine HW.out.mono ?_
    rintro e w4 ⟨g2, rfl, hI5, hB5⟩
    have HX := Lib.hid (And.intro (HI4.out.next hB5) (And.intro (hI5.base HB4.out.size) (below_next HB4.out hB5)))
    clear hI5 hB5
    go_wp2_with fail
    go_ret2
    exact ⟨_, _, _, rfl, rfl, gl_length _ _, HX.out⟩
  · have t1 : decide (0 < m) = false := decide_eq_false hm0
    have hT : (gl n fun _ => 0) = fromT n o m := gl_congr fun j _ => by rw [if_neg (fun h => hm0 h.2)]
    have HI4 := Lib.hid (hT ▸ HI2.out)
    have HTA := Lib.hid (show ∀ j, j < n → gi (fromT n o m) j = 0 from fun j hj => by
      unfold fromT
      rw [gl_at hj, if_neg (fun h => hm0 h.2)])
    clear hT
    have HW := Lib.hid (without_any A (some ⟨w.heap.size, 0, none⟩) c n p (fromT n o m) n hp (gl_length _ _) hn (fun j hj => by
      rw [HTA.out j hj, Int.sub_zero]
      exact HF.out j hj) w2 (HP.out.below (Nat.le_refl _) HB2.out) HI4.out.rd)
    go_wp2_with fail
    refine HW.out.mono ?_
    rintro e w4 ⟨g2, rfl, hI5, hB5⟩
    have HX := Lib.hid (And.intro (HI4.out.next hB5) (And.intro (hI5.base HB2.out.size) (below_next HB2.out hB5)))
    clear hI5 hB5
    go_wp2_with fail
    go_ret2
    exact ⟨_, _, _, rfl, rfl, gl_length _ _, HX.out⟩

end Go.Proofs.Ytfmnlnmajephlaa
