/- Sums of lists: plain arithmetic. -/
import Derived.Test.YtemdnfodpijncaaSmall01
import Derived.Test.YtemdnfodpijncaaShrQ
namespace Go.Proofs.Ytemdnfodpijncaa
open Go.RowKit
set_option linter.unusedVariables false
set_option linter.unusedSimpArgs false

theorem su_left (f : Nat → Int) : ∀ n : Nat, su f (n + 1) = f 0 + su (fun i => f (i + 1)) n
  | 0 => by show su f 0 + f 0 = f 0 + 0; show 0 + f 0 = _; omega
  | n + 1 => by
    show su f (n + 1) + f (n + 1) = f 0 + (su (fun i => f (i + 1)) n + f (n + 1))
    rw [su_left f n]; omega
theorem su_rev (f : Nat → Int) : ∀ n : Nat, su (fun j => f (n - 1 - j)) n = su f n
  | 0 => rfl
  | n + 1 => by
    rw [su_left]
    show f (n + 1 - 1 - 0) + _ = su f n + f n
    rw [show n + 1 - 1 - 0 = n by omega, ← su_rev f n, su_congr (g := fun j => f (n - 1 - j)) (fun i _ => by show f _ = f _; congr 1; omega)]
    omega
def gl (n : Nat) (f : Nat → Int) : List Int := (List.range n).map f
theorem gl_length (n : Nat) (f : Nat → Int) : (gl n f).length = n := by simp [gl]
theorem gl_at {n i : Nat} {f : Nat → Int} (h : i < n) : gi (gl n f) i = f i := gi_map h
theorem gl_snoc (n : Nat) (f : Nat → Int) : ints (gl (n + 1) f) = ints (gl n f) ++ [.int .i64 (f n)] := by
  unfold gl ints
  rw [List.range_succ, List.map_append, List.map_append]; rfl
theorem gl_sum (n : Nat) (f : Nat → Int) : (gl n f).sum = su f n := by
  rw [sum_su, gl_length]
  exact su_congr fun i hi => gl_at hi
theorem sumF_congr {a b : List Int} (h : a.sum = b.sum) : sumF a = sumF b := by unfold sumF; rw [h]
def backF (l : List Int) (j : Nat) : Int := gi l (l.length - 1 - j)
def minF (l : List Int) (j : Nat) : Int := Xa.sub 0 (gi l (l.length - 1 - j))
theorem back_sum (l : List Int) : sumF (gl l.length (backF l)) = sumF l := sumF_congr (by rw [gl_sum, sum_su]; exact su_rev (gi l) l.length)
def FineP (l : List Int) (k : Nat) : Prop := ∀ j, j < k → -9223372036854775808 < gi l (l.length - 1 - j)
theorem min_sum {l : List Int} (hf : ∀ i, i < l.length → Fit (gi l i)) (h : FineP l l.length) (h1 : (sumF l).2 = true) (h2 : (sumF (gl l.length (minF l))).2 = true) : (sumF (gl l.length (minF l))).1 = -(sumF l).1 ∧ -9223372036854775808 ≤ -(sumF l).1 ∧ -(sumF l).1 ≤ 9223372036854775807 := by
  have e : (gl l.length (minF l)).sum = -l.sum := by
    rw [gl_sum, su_congr (g := fun j => (-1) * gi l (l.length - 1 - j)) (fun i hi => by
      have a := h i hi
      have b := hf (l.length - 1 - i) (by omega)
      unfold Fit at b
      unfold minF Xa.sub
      rw [if_neg (by omega), if_neg (by omega)]; omega), su_mul, su_rev (gi l) l.length, ← sum_su]
    omega
  unfold sumF at h1 h2 ⊢
  rw [e] at h2 ⊢
  by_cases c : -9223372036854775808 ≤ l.sum ∧ l.sum ≤ 9223372036854775807
  · rw [if_pos c]
    by_cases d : -9223372036854775808 ≤ -l.sum ∧ -l.sum ≤ 9223372036854775807
    · rw [if_pos d]; exact ⟨rfl, d⟩
    · rw [if_neg d] at h2; cases h2
  · rw [if_neg c] at h1; cases h1
def lim (l : List Int) : Nat → Int
  | 0 => 0
  | k + 1 => Xa.add (lim l k) (gi l k)
theorem lim_fit (l : List Int) : ∀ k, Fit (lim l k)
  | 0 => by unfold Fit lim; omega
  | k + 1 => Xa.add_bd _ _
def InsP (l : List Int) (k : Nat) : Prop := ∀ j, j ≤ k → -9223372036854775808 < lim l j ∧ lim l j < 9223372036854775807
theorem ins_su {l : List Int} : ∀ {k : Nat}, InsP l k → lim l k = su (gi l) k
  | 0, _ => rfl
  | k + 1, h => by
    have a := ins_su (k := k) (fun j hj => h j (by omega))
    have b := h (k + 1) (Nat.le_refl _)
    show Xa.add (lim l k) (gi l k) = su (gi l) k + gi l k
    have c : lim l (k + 1) = Xa.add (lim l k) (gi l k) := rfl
    rw [c] at b
    rw [← a]
    unfold Xa.add at b ⊢
    split
    · rename_i h1; rw [if_pos h1] at b; omega
    · rename_i h1
      rw [if_neg h1] at b
      split
      · rename_i h2; rw [if_pos h2] at b; omega
      · rfl
theorem ins_sum {l : List Int} (h : InsP l l.length) : sumF l = (lim l l.length, true) := by
  have a := ins_su h
  have b := h l.length (Nat.le_refl _)
  unfold sumF
  rw [sum_su, ← a, if_pos (by omega)]
theorem parts_sum {l : List Int} {k : Nat} (h1 : (sumF (l.take k)).2 = true) (h2 : (sumF (l.drop k)).2 = true) : sumF [(sumF (l.take k)).1, (sumF (l.drop k)).1] = sumF l := by
  refine sumF_congr ?_
  have e : (l.take k).sum + (l.drop k).sum = l.sum := by rw [← List.sum_append, List.take_append_drop]
  unfold sumF at h1 h2 ⊢
  by_cases c : -9223372036854775808 ≤ (l.take k).sum ∧ (l.take k).sum ≤ 9223372036854775807
  · rw [if_pos c]
    by_cases d : -9223372036854775808 ≤ (l.drop k).sum ∧ (l.drop k).sum ≤ 9223372036854775807
    · rw [if_pos d]; simp; exact e
    · rw [if_neg d] at h2; cases h2
  · rw [if_neg c] at h1; cases h1
theorem sumF_fit (l : List Int) : Fit (sumF l).1 := by
  unfold sumF Fit
  split
  · assumption
  · show -9223372036854775808 ≤ (0 : Int) ∧ (0 : Int) ≤ 9223372036854775807; omega

end Go.Proofs.Ytemdnfodpijncaa
