/- The contract of span.Scale. -/
import Derived.Test.YtbmjenmfcndnfaaSpan
namespace Go.Proofs.Ytbmjenmfcndnfaa
open Go.RowKit

namespace Xa
/-- what span.Scale gives -/
def sscale (lo hi num den : Int) : Option (Int × Int) :=
  if lo ≤ hi ∧ fits lo num den = true ∧ fits hi num den = true ∧ hi * num / den + (if hi * num % den = 0 then 0 else 1) ≤ 1125899906842624 then some (lo * num / den, hi * num / den + (if hi * num % den = 0 then 0 else 1)) else none
theorem scale_of_fits {a num den : Int} (h : fits a num den = true) : scale a num den = (a * num / den, a * num % den, true) := by
  unfold scale
  rw [if_pos h]
theorem scale_of_not {a num den : Int} (h : fits a num den = false) : scale a num den = (0, 0, false) := by
  unfold scale
  rw [if_neg (by rw [h]; decide)]
theorem fits_q {a num den : Int} (h : fits a num den = true) : 0 ≤ a * num / den ∧ a * num / den ≤ 1125899906842624 ∧ 0 ≤ a * num % den ∧ a * num % den < den ∧ 1 ≤ den ∧ den ≤ 1125899906842624 ∧ 0 ≤ a ∧ a ≤ 1125899906842624 ∧ 0 ≤ num ∧ num ≤ 1125899906842624 := by
  unfold fits at h
  have h := of_decide_eq_true h
  refine ⟨Int.ediv_nonneg (Int.mul_nonneg h.1 h.2.2.1) (by omega), h.2.2.2.2.2.2, Int.emod_nonneg _ (by omega), Int.emod_lt_of_pos _ (by omega), by omega, by omega, by omega, by omega, by omega, by omega⟩
end Xa

def spanRes : Option (Int × Int) → Array Value
  | some (a, b) => #[.agg #[.int .i64 a, .int .i64 b], .bool true]
  | none => #[.agg #[.int .i64 0, .int .i64 0], .bool false]

set_option maxHeartbeats 2000000 in
theorem sscale_any (a b n d : Int) (w : World) :
    Calls Try.prog 15 #[.agg #[.int .i64 a, .int .i64 b], .int .i64 n, .int .i64 d] w fun e w' => e = .returned (.tuple (spanRes (Xa.sscale a b n d))) ∧ Below w.heap.size w w' := by
  by_cases h : a ≤ b
  · have t1 : decide (a ≤ b) = true := decide_eq_true h
    rcases hf1 : Xa.fits a n d with _ | _
    · have s1 := Xa.scale_of_not hf1
      have hr : Xa.sscale a b n d = none := by unfold Xa.sscale; rw [if_neg (by rw [hf1]; simp)]
      rw [hr]
      rcases hf2 : Xa.fits b n d with _ | _
      · have s2 := Xa.scale_of_not hf2
        clear hf1 hf2 hr
        go_enter Try.func15, Try.ntmps15
        go_wp2_with fail
        refine (right_any _ _ _).mono ?_
        rintro e w1 ⟨rfl, hb⟩
        obtain ⟨hc, hf⟩ := bcell hb
        have hB : Below w.heap.size w w1 := below_next (by go_grown) hb
        have hz : w.heap.size + 1 < w1.heap.size := by have := hb.size; simp at this; omega
        clear hb
        go_wp2_with fail
        refine (scale_any _ _ _ _).mono ?_
        rintro e w2 ⟨rfl, k1, rfl⟩
        go_wp2_with fail
        refine (scale_any _ _ _ _).mono ?_
        rintro e w2 ⟨rfl, k2, rfl⟩
        go_wp2_with fail
        exact bodyPost_ret (v := .tuple #[.agg #[.int .i64 0, .int .i64 0], .bool false]) (by simp [results, Try.results15, go_sem, hc]) rfl ⟨rfl, ((below_drewN hB _).setCell (Nat.le_succ _) _).setCell (Nat.le_succ _) _⟩
      · have s2 := Xa.scale_of_fits hf2
        obtain ⟨q1, q2, q3, q4, q5, q6, q7⟩ := Xa.fits_q hf2
        clear hf1 hf2 hr q4 q5 q6 q7
        generalize b * n / d = q at *
        generalize b * n % d = r at *
        by_cases hm : r = 0
        · have t2 : (r != 0) = false := by simp [hm]
          clear hm
          go_enter Try.func15, Try.ntmps15
          go_wp2_with fail
          refine (right_any _ _ _).mono ?_
          rintro e w1 ⟨rfl, hb⟩
          obtain ⟨hc, hf⟩ := bcell hb
          have hB : Below w.heap.size w w1 := below_next (by go_grown) hb
          have hz : w.heap.size + 1 < w1.heap.size := by have := hb.size; simp at this; omega
          clear hb
          go_wp2_with fail
          refine (scale_any _ _ _ _).mono ?_
          rintro e w2 ⟨rfl, k1, rfl⟩
          go_wp2_with fail
          refine (scale_any _ _ _ _).mono ?_
          rintro e w2 ⟨rfl, k2, rfl⟩
          go_wp2_with fail
          exact bodyPost_ret (v := .tuple #[.agg #[.int .i64 0, .int .i64 0], .bool false]) (by simp [results, Try.results15, go_sem, hc]) rfl ⟨rfl, ((below_drewN hB _).setCell (Nat.le_succ _) _).setCell (Nat.le_succ _) _⟩
        · have t2 : (r != 0) = true := by simp [hm]
          clear hm
          go_enter Try.func15, Try.ntmps15
          go_wp2_with fail
          refine (right_any _ _ _).mono ?_
          rintro e w1 ⟨rfl, hb⟩
          obtain ⟨hc, hf⟩ := bcell hb
          have hB : Below w.heap.size w w1 := below_next (by go_grown) hb
          have hz : w.heap.size + 1 < w1.heap.size := by have := hb.size; simp at this; omega
          clear hb
          go_wp2_with fail
          refine (scale_any _ _ _ _).mono ?_
          rintro e w2 ⟨rfl, k1, rfl⟩
          go_wp2_with fail
          refine (scale_any _ _ _ _).mono ?_
          rintro e w2 ⟨rfl, k2, rfl⟩
          go_wp2_with fail
          exact bodyPost_ret (v := .tuple #[.agg #[.int .i64 0, .int .i64 0], .bool false]) (by simp [results, Try.results15, go_sem, hc]) rfl ⟨rfl, ((below_drewN hB _).setCell (Nat.le_succ _) _).setCell (Nat.le_succ _) _⟩
    · have s1 := Xa.scale_of_fits hf1
      rcases hf2 : Xa.fits b n d with _ | _
      · have s2 := Xa.scale_of_not hf2
        have hr : Xa.sscale a b n d = none := by unfold Xa.sscale; rw [if_neg (by rw [hf2]; simp)]
        rw [hr]
        clear hf1 hf2 hr
        go_enter Try.func15, Try.ntmps15
        go_wp2_with fail
        refine (right_any _ _ _).mono ?_
        rintro e w1 ⟨rfl, hb⟩
        obtain ⟨hc, hf⟩ := bcell hb
        have hB : Below w.heap.size w w1 := below_next (by go_grown) hb
        have hz : w.heap.size + 1 < w1.heap.size := by have := hb.size; simp at this; omega
        clear hb
        go_wp2_with fail
        refine (scale_any _ _ _ _).mono ?_
        rintro e w2 ⟨rfl, k1, rfl⟩
        go_wp2_with fail
        refine (scale_any _ _ _ _).mono ?_
        rintro e w2 ⟨rfl, k2, rfl⟩
        go_wp2_with fail
        exact bodyPost_ret (v := .tuple #[.agg #[.int .i64 0, .int .i64 0], .bool false]) (by simp [results, Try.results15, go_sem, hc]) rfl ⟨rfl, ((below_drewN hB _).setCell (Nat.le_succ _) _).setCell (Nat.le_succ _) _⟩
      · have s2 := Xa.scale_of_fits hf2
        obtain ⟨q1, q2, q3, q4, q5, q6, q7⟩ := Xa.fits_q hf2
        have hr : Xa.sscale a b n d = if b * n / d + (if b * n % d = 0 then 0 else 1) ≤ 1125899906842624 then some (a * n / d, b * n / d + (if b * n % d = 0 then 0 else 1)) else none := by
          unfold Xa.sscale
          by_cases hx : b * n / d + (if b * n % d = 0 then 0 else 1) ≤ 1125899906842624
          · rw [if_pos hx, if_pos ⟨h, hf1, hf2, hx⟩]
          · rw [if_neg hx, if_neg (fun x => hx x.2.2.2)]
        rw [hr]
        clear hf1 hf2 hr q4 q5 q6 q7
        generalize a * n / d = p at *
        generalize b * n / d = q at *
        generalize b * n % d = r at *
        by_cases hm : r = 0
        · have t2 : (r != 0) = false := by simp [hm]
          rw [if_pos hm, if_pos (by omega)]
          have t3 : decide (1125899906842624 < q) = false := decide_eq_false (by omega)
          have e0 : q + 0 = q := by omega
          rw [e0]
          clear hm e0
          go_enter Try.func15, Try.ntmps15
          go_wp2_with fail
          refine (right_any _ _ _).mono ?_
          rintro e w1 ⟨rfl, hb⟩
          obtain ⟨hc, hf⟩ := bcell hb
          have hB : Below w.heap.size w w1 := below_next (by go_grown) hb
          have hz : w.heap.size + 1 < w1.heap.size := by have := hb.size; simp at this; omega
          clear hb
          go_wp2_with fail
          refine (scale_any _ _ _ _).mono ?_
          rintro e w2 ⟨rfl, k1, rfl⟩
          go_wp2_with fail
          refine (scale_any _ _ _ _).mono ?_
          rintro e w2 ⟨rfl, k2, rfl⟩
          go_wp2_with fail
          exact bodyPost_ret (v := .tuple #[.agg #[.int .i64 p, .int .i64 q], .bool true]) (by simp [results, Try.results15, go_sem, hc]) rfl ⟨rfl, ((below_drewN hB _).setCell (Nat.le_succ _) _).setCell (Nat.le_succ _) _⟩
        · have t2 : (r != 0) = true := by simp [hm]
          rw [if_neg hm]
          clear hm
          by_cases hq : q + 1 ≤ 1125899906842624
          · rw [if_pos hq]
            have t3 : decide (1125899906842624 < q + 1) = false := decide_eq_false (by omega)
            go_enter Try.func15, Try.ntmps15
            go_wp2_with fail
            refine (right_any _ _ _).mono ?_
            rintro e w1 ⟨rfl, hb⟩
            obtain ⟨hc, hf⟩ := bcell hb
            have hB : Below w.heap.size w w1 := below_next (by go_grown) hb
            have hz : w.heap.size + 1 < w1.heap.size := by have := hb.size; simp at this; omega
            clear hb
            go_wp2_with fail
            refine (scale_any _ _ _ _).mono ?_
            rintro e w2 ⟨rfl, k1, rfl⟩
            go_wp2_with fail
            refine (scale_any _ _ _ _).mono ?_
            rintro e w2 ⟨rfl, k2, rfl⟩
            go_wp2_with fail
            exact bodyPost_ret (v := .tuple #[.agg #[.int .i64 p, .int .i64 (q + 1)], .bool true]) (by simp [results, Try.results15, go_sem, hc]) rfl ⟨rfl, ((below_drewN hB _).setCell (Nat.le_succ _) _).setCell (Nat.le_succ _) _⟩
          · rw [if_neg hq]
            have t3 : decide (1125899906842624 < q + 1) = true := decide_eq_true (by omega)
            go_enter Try.func15, Try.ntmps15
            go_wp2_with fail
            refine (right_any _ _ _).mono ?_
            rintro e w1 ⟨rfl, hb⟩
            obtain ⟨hc, hf⟩ := bcell hb
            have hB : Below w.heap.size w w1 := below_next (by go_grown) hb
            have hz : w.heap.size + 1 < w1.heap.size := by have := hb.size; simp at this; omega
            clear hb
            go_wp2_with fail
            refine (scale_any _ _ _ _).mono ?_
            rintro e w2 ⟨rfl, k1, rfl⟩
            go_wp2_with fail
            refine (scale_any _ _ _ _).mono ?_
            rintro e w2 ⟨rfl, k2, rfl⟩
            go_wp2_with fail
            exact bodyPost_ret (v := .tuple #[.agg #[.int .i64 0, .int .i64 0], .bool false]) (by simp [results, Try.results15, go_sem, hc]) rfl ⟨rfl, ((below_drewN hB _).setCell (Nat.le_succ _) _).setCell (Nat.le_succ _) _⟩
  · have t1 : decide (a ≤ b) = false := decide_eq_false h
    have hr : Xa.sscale a b n d = none := by unfold Xa.sscale; rw [if_neg (fun x => h x.1)]
    rw [hr]
    go_enter Try.func15, Try.ntmps15
    go_wp2_with fail
    refine (right_any _ _ _).mono ?_
    rintro e w1 ⟨rfl, hb⟩
    obtain ⟨hc, hf⟩ := bcell hb
    have hB : Below w.heap.size w w1 := below_next (by go_grown) hb
    have hz : w.heap.size + 1 < w1.heap.size := by have := hb.size; simp at this; omega
    clear hb
    go_wp2_with fail
    exact bodyPost_ret (v := .tuple #[.agg #[.int .i64 0, .int .i64 0], .bool false]) (by simp [results, Try.results15, go_sem, hc]) rfl ⟨rfl, by go_grown⟩

end Go.Proofs.Ytbmjenmfcndnfaa
