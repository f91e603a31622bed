/- ReachUnder: the plain law. -/
import Derived.Test.YthbjechgdjcogaaCon18
import Derived.Test.YthbjechgdjcogaaNcap
namespace Go.Proofs.Ythbjechgdjcogaa
open Go.RowKit
set_option linter.unusedVariables false
set_option linter.unusedSimpArgs false

/-- all of the parts of the loads that are meant -/
def wtS (f : Key → Bool) (K : List Key) : Int := (K.map fun x => if f x = true then su (gi x.2.2) x.2.2.length else 0).sum
theorem wtS_nil (f : Key → Bool) : wtS f [] = 0 := rfl
theorem wtS_snoc (f : Key → Bool) (K : List Key) (x : Key) : wtS f (K ++ [x]) = wtS f K + if f x = true then su (gi x.2.2) x.2.2.length else 0 := by
  unfold wtS; rw [List.map_append, List.sum_append]; simp
def wtA (K : List Key) : Int := wtS (fun _ => true) K
theorem wtA_snoc (K : List Key) (x : Key) : wtA (K ++ [x]) = wtA K + su (gi x.2.2) x.2.2.length := by unfold wtA; rw [wtS_snoc]; simp
theorem su_nonneg {p : List Int} (h : RiP p) : 0 ≤ su (gi p) p.length := by
  have := su_mono h.pos (k := 0) (Nat.zero_le _)
  simpa [su] using this
theorem wtS_le {K : List Key} {f : Key → Bool} (h : ∀ x ∈ K, RiP x.2.2) : 0 ≤ wtS f K ∧ wtS f K ≤ wtA K := by
  revert h
  refine list_snoc (R := fun K => (∀ x ∈ K, RiP x.2.2) → 0 ≤ wtS f K ∧ wtS f K ≤ wtA K) (fun _ => by unfold wtA; rw [wtS_nil, wtS_nil]; omega) (fun l x ih h => ?_) K
  obtain ⟨a, b⟩ := ih fun y hy => h y (List.mem_append.2 (.inl hy))
  have c := su_nonneg (h x (List.mem_append.2 (.inr (List.mem_singleton.2 rfl))))
  rw [wtS_snoc, wtA_snoc]
  split <;> omega
theorem wtA_col {O : Nat} {K : List Key} (h : ∀ x ∈ K, x.2.2.length = O) : wtA K = su (colK K) O := by
  revert h
  refine list_snoc (R := fun K => (∀ x ∈ K, x.2.2.length = O) → wtA K = su (colK K) O) (fun _ => (su_zero (f := colK []) (fun i _ => colS_nil _ _)).symm) (fun l x ih h => ?_) K
  have a := ih fun y hy => h y (List.mem_append.2 (.inl hy))
  have c := h x (List.mem_append.2 (.inr (List.mem_singleton.2 rfl)))
  rw [wtA_snoc, a, c, ← su_add]
  exact su_congr fun i _ => (colK_snoc _ _ _).symm
theorem wtA_bd {O : Nat} {K : List Key} (hq : RightQ O K) : 0 ≤ wtA K ∧ wtA K ≤ 1125899906842624 := by
  have h := hq.all
  have a := (wtS_le (f := fun _ => true) (K := K) fun x hx => (hq.each x hx).2).1
  refine ⟨a, ?_⟩
  rw [wtA_col fun x hx => (hq.each x hx).1]
  have e : su (gi (gl O (colK K))) O = su (colK K) O := su_congr fun i hi => gl_at hi
  have := h.sum
  rw [gl_length, e] at this
  omega
def offB (os : List Int) (o : Int) (x : Key) : Bool := decide (toOff os o x.2.1)
theorem und_eq {O : Nat} {K : List Key} (hq : RightQ O K) (os : List Int) (o : Int) : ∀ k, k ≤ K.length → undK os o (K.take k) = wtS (offB os o) (K.take k) := by
  intro k
  induction k with
  | zero => intro _; rfl
  | succ k ih =>
    intro hk
    have hk' : k < K.length := by omega
    have e := ih (by omega)
    obtain ⟨hx, hr⟩ := hq.each K[k] (List.getElem_mem hk')
    rw [List.take_succ_eq_append_getElem hk', undK_snoc, e, wtS_snoc]
    by_cases ho : toOff os o (K[k]).2.1
    · rw [if_pos ho, if_pos (by unfold offB; exact decide_eq_true ho), tot_ri hr (Nat.le_refl _)]
      have b1 := wtS_le (f := offB os o) (K := K.take k) (fun x hx => (hq.each x (List.mem_of_mem_take hx)).2)
      have b2 := wtA_bd (hq.take k)
      have b3 := su_nonneg hr
      have b4 := hr.sum
      exact add_in b1.1 (by omega) b3 (by omega)
    · rw [if_neg ho, if_neg (by unfold offB; simp [ho]), Int.add_zero]
theorem und_all {O : Nat} {K : List Key} (hq : RightQ O K) (os : List Int) (o : Int) : undK os o K = wtS (offB os o) K := by
  have := und_eq hq os o K.length (Nat.le_refl _)
  rwa [List.take_length] at this
theorem und_bd {O : Nat} {K : List Key} (hq : RightQ O K) (os : List Int) (o : Int) : 0 ≤ undK os o K ∧ undK os o K ≤ 1125899906842624 := by
  rw [und_all hq]
  have b1 := wtS_le (f := offB os o) (K := K) (fun x hx => (hq.each x hx).2)
  have b2 := wtA_bd hq
  omega
/-- a load that lies at a place of an office of 0, 1, 2 -/
def PlaceOk (os : List Int) (x : Key) : Prop := 0 ≤ x.2.1 ∧ x.2.1 < (os.length : Int) ∧ 0 ≤ gi os x.2.1.toNat ∧ gi os x.2.1.toNat ≤ 2
theorem und_three {O : Nat} {K : List Key} (hq : RightQ O K) (os : List Int) (h : ∀ x ∈ K, PlaceOk os x) : undK os 0 K + undK os 1 K + undK os 2 K = wtA K := by
  rw [und_all hq, und_all hq, und_all hq]
  clear hq
  revert h
  refine list_snoc (R := fun K => (∀ x ∈ K, PlaceOk os x) → wtS (offB os 0) K + wtS (offB os 1) K + wtS (offB os 2) K = wtA K) (fun _ => rfl) (fun l x ih h => ?_) K
  have a := ih fun y hy => h y (List.mem_append.2 (.inl hy))
  obtain ⟨c1, c2, c3, c4⟩ := h x (List.mem_append.2 (.inr (List.mem_singleton.2 rfl)))
  rw [wtS_snoc, wtS_snoc, wtS_snoc, wtA_snoc]
  have hh : ∀ o, offB os o x = decide (gi os x.2.1.toNat = o) := fun o => by
    unfold offB toOff
    by_cases e : gi os x.2.1.toNat = o
    · simp [c1, c2, e]
    · simp [e]
  rw [hh, hh, hh]
  simp only [decide_eq_true_eq]
  by_cases e0 : gi os x.2.1.toNat = 0
  · rw [if_pos e0, if_neg (by omega), if_neg (by omega)]; omega
  · by_cases e1 : gi os x.2.1.toNat = 1
    · rw [if_neg e0, if_pos e1, if_neg (by omega)]; omega
    · rw [if_neg e0, if_neg e1, if_pos (by omega)]; omega
theorem tot_any {p : List Int} (h : RiP p) : 0 ≤ tot p p.length ∧ tot p p.length ≤ 1125899906842624 := by
  rw [tot_ri h (Nat.le_refl _)]
  have := su_nonneg h
  have := h.sum
  omega
theorem tot_no {p : List Int} (h : RiP p) (ha : anyB p = false) : tot p p.length = 0 := by
  rw [tot_ri h (Nat.le_refl _)]
  refine su_zero fun i hi => ?_
  have h0 := h.pos i hi
  by_cases hp : 0 < gi p i
  · rw [anyB_iff.2 ⟨i, hi, hp⟩] at ha; cases ha
  · omega
theorem und_push {O : Nat} {K : List Key} (hq : RightQ O K) (os : List Int) (o t : Int) {j : Nat} (hj : j < os.length) {p : List Int} (hp : RiP p) :
    undK os o (pushK K t (j : Int) p) = undK os o K + if gi os j = o then tot p p.length else 0 := by
  unfold pushK
  cases ha : anyB p
  · rw [if_neg (by simp), tot_no hp ha]; split <;> omega
  · rw [if_pos ⟨by omega, rfl⟩, undK_snoc]
    have a := und_bd hq os o
    have b := tot_any hp
    by_cases e : gi os j = o
    · rw [if_pos e, if_pos (show toOff os o (j : Int) from ⟨by omega, by omega, by rw [Int.toNat_natCast]; exact e⟩)]
      exact add_in a.1 a.2 b.1 b.2
    · rw [if_neg e, if_neg (fun h => e (by have := h.2.2; rwa [Int.toNat_natCast] at this)), Int.add_zero]

end Go.Proofs.Ythbjechgdjcogaa
