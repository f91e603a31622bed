/- Queues whose parts are right: sums by owner. -/
import Derived.Test.YthbjechgdjcogaaFew18
namespace Go.Proofs.Ythbjechgdjcogaa
open Go.RowKit
set_option linter.unusedVariables false
set_option linter.unusedSimpArgs false

abbrev Key := Int × Int × List Int
theorem ri_le {p : List Int} (h : RiP p) {i : Nat} (hi : i < p.length) : 0 ≤ gi p i ∧ gi p i ≤ 1125899906842624 := by
  have h1 : su (gi p) i + gi p i ≤ su (gi p) p.length := su_mono h.pos (k := i + 1) (by omega)
  have h2 := su_le (f := fun _ => 0) (g := gi p) (n := i) (fun j hj => h.pos j (by omega))
  rw [su_zero (fun _ _ => rfl)] at h2
  have := h.sum
  have := h.pos i hi
  omega
theorem add_in {a b : Int} (h1 : 0 ≤ a) (h2 : a ≤ 1125899906842624) (h3 : 0 ≤ b) (h4 : b ≤ 1125899906842624) : Xa.add a b = a + b := by unfold Xa.add; rw [if_neg (by omega), if_neg (by omega)]
/-- a sum over the loads that are meant -/
def colS (f : Key → Bool) (K : List Key) (i : Nat) : Int := (K.map fun x => if f x = true then gi x.2.2 i else 0).sum
def colK (K : List Key) (i : Nat) : Int := colS (fun _ => true) K i
theorem colS_nil (f : Key → Bool) (i : Nat) : colS f [] i = 0 := rfl
theorem colS_snoc (f : Key → Bool) (K : List Key) (x : Key) (i : Nat) : colS f (K ++ [x]) i = colS f K i + if f x = true then gi x.2.2 i else 0 := by
  unfold colS; rw [List.map_append, List.sum_append]; simp
theorem colK_snoc (K : List Key) (x : Key) (i : Nat) : colK (K ++ [x]) i = colK K i + gi x.2.2 i := by unfold colK; rw [colS_snoc]; simp
def svK (O : Nat) (K : List Key) : List Int := K.foldl (fun s x => addV s x.2.2) (gl O fun _ => 0)
theorem svK_snoc (O : Nat) (K : List Key) (x : Key) : svK O (K ++ [x]) = addV (svK O K) x.2.2 := by unfold svK; rw [List.foldl_append]; rfl
structure RightQ (O : Nat) (K : List Key) : Prop where
  each : ∀ x ∈ K, x.2.2.length = O ∧ RiP x.2.2
  sums : ∀ k, k ≤ K.length → RiP (svK O (K.take k))
theorem gl_get {O : Nat} {f : Nat → Int} {i : Nat} (h : i < O) : gi (gl O f) i = f i := gl_at h
theorem svK_eq {O : Nat} {K : List Key} (h : RightQ O K) : ∀ k, k ≤ K.length → svK O (K.take k) = gl O (colK (K.take k)) := by
  intro k
  induction k with
  | zero => intro _; exact gl_congr fun i _ => rfl
  | succ k ih =>
    intro hk
    have hk' : k < K.length := by omega
    have e := ih (by omega)
    have hs := h.sums k (by omega)
    obtain ⟨hx, hr⟩ := h.each K[k] (List.getElem_mem hk')
    rw [List.take_succ_eq_append_getElem hk', svK_snoc, e]
    rw [e] at hs
    unfold addV addF
    rw [gl_length, hx, Nat.max_self]
    refine gl_congr fun i hi => ?_
    have b1 := ri_le hs (i := i) (by rw [gl_length]; exact hi)
    have b2 := ri_le hr (i := i) (by rw [hx]; exact hi)
    rw [gl_at hi] at b1
    rw [gl_at hi, colK_snoc, add_in b1.1 b1.2 b2.1 b2.2]
theorem RightQ.nonneg {O : Nat} {K : List Key} (h : RightQ O K) {x : Key} (hx : x ∈ K) {i : Nat} (hi : i < O) : 0 ≤ gi x.2.2 i := (ri_le (h.each x hx).2 (by rw [(h.each x hx).1]; exact hi)).1
theorem colS_le {K : List Key} {f : Key → Bool} {i : Nat} (h : ∀ x ∈ K, 0 ≤ gi x.2.2 i) : 0 ≤ colS f K i ∧ colS f K i ≤ colK K i := by
  revert h
  refine list_snoc (R := fun K => (∀ x ∈ K, 0 ≤ gi x.2.2 i) → 0 ≤ colS f K i ∧ colS f K i ≤ colK K i) (fun _ => by unfold colK; rw [colS_nil, colS_nil]; omega) (fun l x ih h => ?_) K
  obtain ⟨a, b⟩ := ih fun y hy => h y (List.mem_append.2 (.inl hy))
  have c := h x (List.mem_append.2 (.inr (List.mem_singleton.2 rfl)))
  rw [colS_snoc, colK_snoc]
  split <;> omega
theorem RightQ.col {O : Nat} {K : List Key} (h : RightQ O K) {k : Nat} (hk : k ≤ K.length) {i : Nat} (hi : i < O) : 0 ≤ colK (K.take k) i ∧ colK (K.take k) i ≤ 1125899906842624 := by
  have hs := h.sums k hk
  rw [svK_eq h k hk] at hs
  have := ri_le hs (i := i) (by rw [gl_length]; exact hi)
  rwa [gl_at hi] at this
theorem RightQ.colAll {O : Nat} {K : List Key} (h : RightQ O K) {i : Nat} (hi : i < O) : 0 ≤ colK K i ∧ colK K i ≤ 1125899906842624 := by
  have := h.col (Nat.le_refl _) hi
  rwa [List.take_length] at this
def sel (h p : Int) (pl : Nat) (x : Key) : Bool := dueB h p x && decide (x.2.1 = (pl : Int))
theorem sel_iff {h p : Int} {pl : Nat} {x : Key} : sel h p pl x = true ↔ dueB h p x = true ∧ x.2.1 = (pl : Int) := by unfold sel; rw [Bool.and_eq_true, decide_eq_true_iff]
theorem rowK_eq {O : Nat} {K : List Key} (hq : RightQ O K) (h p : Int) (pl : Nat) : ∀ k, k ≤ K.length → rowK O h p pl (K.take k) = gl O (colS (sel h p pl) (K.take k)) := by
  intro k
  induction k with
  | zero => intro _; exact gl_congr fun i _ => rfl
  | succ k ih =>
    intro hk
    have hk' : k < K.length := by omega
    have e := ih (by omega)
    obtain ⟨hx, hr⟩ := hq.each K[k] (List.getElem_mem hk')
    rw [List.take_succ_eq_append_getElem hk', rowK_snoc, e]
    by_cases hs : sel h p pl K[k] = true
    · rw [if_pos (sel_iff.1 hs)]
      unfold addV addF
      rw [gl_length, hx, Nat.max_self]
      refine gl_congr fun i hi => ?_
      have b1 := colS_le (f := sel h p pl) (K := K.take k) (i := i) (fun x hx => hq.nonneg (List.mem_of_mem_take hx) hi)
      have b0 := hq.col (k := k) (by omega) hi
      have b2 := ri_le hr (i := i) (by rw [hx]; exact hi)
      rw [gl_at hi, colS_snoc, if_pos hs, add_in b1.1 (by omega) b2.1 b2.2]
    · rw [if_neg (fun hh => hs (sel_iff.2 hh))]
      exact gl_congr fun i _ => by rw [colS_snoc, if_neg hs, Int.add_zero]
theorem rowK_all {O : Nat} {K : List Key} (hq : RightQ O K) (h p : Int) (pl : Nat) : rowK O h p pl K = gl O (colS (sel h p pl) K) := by
  have := rowK_eq hq h p pl K.length (Nat.le_refl _)
  rwa [List.take_length] at this
theorem gl_ri {O : Nat} {f g : Nat → Int} (hg : RiP (gl O g)) (h0 : ∀ i, i < O → 0 ≤ f i) (h1 : ∀ i, i < O → f i ≤ g i) : RiP (gl O f) := by
  have hs : su (gi (gl O f)) O ≤ su (gi (gl O g)) O := su_le fun i hi => by rw [gl_at hi, gl_at hi]; exact h1 i hi
  have := hg.sum
  rw [gl_length] at this
  exact ⟨fun i hi => by rw [gl_length] at hi; rw [gl_at hi]; exact h0 i hi, by rw [gl_length]; omega⟩
theorem RightQ.all {O : Nat} {K : List Key} (h : RightQ O K) : RiP (gl O (colK K)) := by
  have hs := h.sums K.length (Nat.le_refl _)
  rw [svK_eq h _ (Nat.le_refl _), List.take_length] at hs
  exact hs
theorem rowK_right {O : Nat} {K : List Key} (hq : RightQ O K) (h p : Int) (pl : Nat) : RiP (rowK O h p pl K) := by
  rw [rowK_all hq]
  exact gl_ri hq.all (fun i hi => (colS_le fun x hx => hq.nonneg hx hi).1) (fun i hi => (colS_le fun x hx => hq.nonneg hx hi).2)
theorem rest_col (h p : Int) (K : List Key) (i : Nat) : colK (restK h p K) i = colS (fun x => !dueB h p x) K i := by
  refine list_snoc (R := fun K => colK (restK h p K) i = colS (fun x => !dueB h p x) K i) rfl (fun l x ih => ?_) K
  rw [restK_snoc, colS_snoc]
  cases hd : dueB h p x
  · rw [if_neg Bool.false_ne_true, colK_snoc, ih]; simp
  · rw [if_pos rfl, ih]; simp
theorem su_pick {P : Nat} (v : Int) {j : Nat} (hj : j < P) : su (fun p => if j = p then v else 0) P = v := by
  have e : su (fun p => if j = p then v else 0) P = v * su (fun p => if p = j then 1 else 0) P := by
    rw [← su_mul]
    exact su_congr fun p _ => by by_cases e : j = p; · simp [e]
                                 · rw [if_neg e, if_neg (Ne.symm e), Int.mul_zero]
  rw [e, su_one hj, Int.mul_one]
/-- what arrives and what remains is what was under way -/
theorem conserve (h : Int) (P : Nat) (K : List Key) (i : Nat) : colK (restK h (P : Int) K) i + su (fun p => colS (sel h (P : Int) p) K i) P = colK K i := by
  rw [rest_col]
  refine list_snoc (R := fun K => colS (fun x => !dueB h (P : Int) x) K i + su (fun p => colS (sel h (P : Int) p) K i) P = colK K i) (by unfold colK; rw [colS_nil, colS_nil, su_zero (fun p _ => colS_nil _ _)]; rfl) (fun l x ih => ?_) K
  have e : su (fun p => colS (sel h (P : Int) p) (l ++ [x]) i) P = su (fun p => colS (sel h (P : Int) p) l i) P + su (fun p => if sel h (P : Int) p x = true then gi x.2.2 i else 0) P := by
    rw [← su_add]; exact su_congr fun p _ => colS_snoc _ _ _ _
  rw [e, colS_snoc, colK_snoc]
  cases hd : dueB h (P : Int) x
  · rw [su_zero (f := fun p => if sel h (P : Int) p x = true then gi x.2.2 i else 0) (fun p _ => if_neg (fun hs => by rw [(sel_iff.1 hs).1] at hd; cases hd))]
    simp
    omega
  · have hd' := hd
    simp only [dueB, Bool.and_eq_true, decide_eq_true_eq] at hd'
    obtain ⟨j, hj⟩ := Int.eq_ofNat_of_zero_le hd'.1.2
    have e2 : su (fun p => if sel h (P : Int) p x = true then gi x.2.2 i else 0) P = su (fun p => if j = p then gi x.2.2 i else 0) P := su_congr fun p _ => by
      by_cases hp : j = p
      · subst hp; rw [if_pos (sel_iff.2 ⟨hd, hj⟩), if_pos rfl]
      · rw [if_neg (fun hs => hp (by have := (sel_iff.1 hs).2; omega)), if_neg hp]
    rw [e2, su_pick _ (by omega)]
    simp
    omega

end Go.Proofs.Ythbjechgdjcogaa
