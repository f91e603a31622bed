/- ReachLater: the plain law, and the walk. -/
import Derived.Test.YthbjechgdjcogaaCon18
import Derived.Test.YthbjechgdjcogaaNcap
namespace Go.Proofs.Ythbjechgdjcogaa
open Go.RowKit
set_option linter.unusedVariables false
set_option linter.unusedSimpArgs false

theorem dueB_mono {h t p : Int} {x : Key} (ht : h ≤ t) (hd : dueB h p x = true) : dueB t p x = true := by
  unfold dueB at *
  simp only [Bool.and_eq_true, decide_eq_true_eq] at *
  exact ⟨⟨by omega, hd.1.2⟩, hd.2⟩
theorem rest_rest {h t p : Int} (ht : h ≤ t) (K : List Key) : restK t p (restK h p K) = restK t p K := by
  refine list_snoc (R := fun K => restK t p (restK h p K) = restK t p K) rfl (fun l x ih => ?_) K
  rw [restK_snoc, restK_snoc t]
  cases hd : dueB h p x
  · rw [if_neg Bool.false_ne_true, restK_snoc, ih]
  · rw [if_pos rfl, if_pos (dueB_mono ht hd), ih]
theorem sel_split {h t p : Int} (ht : h ≤ t) (q : Nat) (K : List Key) (i : Nat) : colS (sel h p q) K i + colS (sel t p q) (restK h p K) i = colS (sel t p q) K i := by
  refine list_snoc (R := fun K => colS (sel h p q) K i + colS (sel t p q) (restK h p K) i = colS (sel t p q) K i) rfl (fun l x ih => ?_) K
  rw [restK_snoc, colS_snoc, colS_snoc]
  cases hd : dueB h p x
  · rw [if_neg Bool.false_ne_true, colS_snoc, if_neg (show ¬ sel h p q x = true from fun hh => by rw [(sel_iff.1 hh).1] at hd; cases hd)]
    omega
  · rw [if_pos rfl]
    have e : sel h p q x = sel t p q x := by unfold sel; rw [hd, dueB_mono ht hd]
    rw [e]
    omega
theorem rest_add {O : Nat} {K : List Key} (hq : RightQ O K) {h t p : Int} (ht : h ≤ t) (q : Nat) : addF O (rowK O h p q K) (rowK O t p q (restK h p K)) = rowK O t p q K := by
  rw [rowK_all hq, rowK_all (restK_right hq h p), rowK_all hq]
  unfold addF
  refine gl_congr fun i hi => ?_
  rw [gl_at hi, gl_at hi]
  have e := sel_split (p := p) ht q K i
  have a := colS_le (f := sel h p q) (K := K) (i := i) (fun x hx => hq.nonneg hx hi)
  have b := colS_le (f := sel t p q) (K := restK h p K) (i := i) (fun x hx => (restK_right hq h p).nonneg hx hi)
  have c := colS_le (f := sel t p q) (K := K) (i := i) (fun x hx => hq.nonneg hx hi)
  have d := hq.colAll hi
  rw [add_in a.1 (by omega) b.1 (by omega)]
  exact e
theorem row_part {rows : List Rw} {P : Nat} {f : Nat → List Int} (h : parts rows = (List.range P).map f) {q : Nat} (hq : q < P) (hr : q < rows.length) : (rows[q]'hr).part = f q := by
  have e : (parts rows)[q]? = ((List.range P).map f)[q]? := by rw [h]
  simpa [parts, hr, hq] using e
theorem rest_len {l m : List Ld} {h p : Int} (hk : keys m = restK h p (keys l)) (hl : ∀ x ∈ l, x.part.length ≤ 1000) : (∀ x ∈ m, x.part.length ≤ 1000) ∧ m.length ≤ l.length := by
  refine ⟨fun x hx => ?_, ?_⟩
  · have h1 : x.key ∈ keys m := List.mem_map_of_mem hx
    rw [hk] at h1
    obtain ⟨y, hy, e⟩ := List.mem_map.1 (List.mem_filter.1 h1).1
    have e2 : y.part = x.part := congrArg (fun k : Int × Int × List Int => k.2.2) e
    rw [← e2]; exact hl y hy
  · have := restK_le h p (keys l)
    rwa [← hk, keys_length, keys_length] at this
/-- the part that is sent on -/
def ptO (O : Nat) : List Int := (gl O fun _ => 0).set (O - 1) 7
theorem ptO_length (O : Nat) : (ptO O).length = O := by simp [ptO, gl_length]
theorem ptO_at {O : Nat} {i : Nat} (hi : i < O) : gi (ptO O) i = if i = O - 1 then 7 else 0 := by
  unfold ptO
  by_cases h : i = O - 1
  · rw [if_pos h, ← h, gi_set_same (by rw [gl_length]; exact hi)]
  · rw [if_neg h, gi_set_other (Ne.symm h), gl_at hi]
theorem ptO_any {O : Nat} (hO : 1 ≤ O) : anyB (ptO O) = true := anyB_iff.2 ⟨O - 1, by rw [ptO_length]; omega, by rw [ptO_at (by omega), if_pos rfl]; decide⟩
theorem ptO_fit (O : Nat) (i : Nat) (hi : i < (ptO O).length) : Fit (gi (ptO O) i) := by
  rw [ptO_length] at hi
  rw [ptO_at hi]; unfold Fit; split <;> omega
theorem push_pt {O : Nat} (hO : 1 ≤ O) (K : List Key) (t pl : Int) (hp : 0 ≤ pl) : pushK K t pl (ptO O) = K ++ [(t, pl, ptO O)] := by unfold pushK; rw [if_pos ⟨hp, ptO_any hO⟩]
theorem row_pt {O P : Nat} (hP : 1 ≤ P) (t : Int) : rowK O t (P : Int) (P - 1) [(t, (P : Int) - 1, ptO O)] = ptO O := by
  have e := rowK_snoc O t (P : Int) (P - 1) [] (t, (P : Int) - 1, ptO O)
  rw [List.nil_append, rowK_nil] at e
  rw [e, if_pos ⟨by simp [dueB]; omega, by show (P : Int) - 1 = ((P - 1 : Nat) : Int); omega⟩]
  show addV (gl O fun _ => 0) (ptO O) = _
  unfold addV addF
  rw [gl_length, ptO_length, Nat.max_self]
  refine gi_ext (by rw [gl_length, ptO_length]) fun i hi => ?_
  rw [gl_length] at hi
  rw [gl_at hi, gl_at hi, ptO_at hi]
  split
  · exact add_in (by omega) (by omega) (by omega) (by omega)
  · exact add_in (by omega) (by omega) (by omega) (by omega)
theorem rest_push {t : Int} {P : Nat} (K : List Key) (pl : Int) (p : List Int) : restK t (P : Int) (restK t (P : Int) K ++ [(t + 1, pl, p)]) = restK t (P : Int) K ++ [(t + 1, pl, p)] := by
  rw [restK_snoc, rest_rest (Int.le_refl t), if_neg]
  intro hh
  simp only [dueB, Bool.and_eq_true, decide_eq_true_eq] at hh
  have := hh.1.1
  omega
theorem duel_any (A : Option Addr) (c : Nat) (l : List Ld) (n : Nat) (hn : l.length = n) (h pp oo : Int) (hln : n ≤ 1000) (hpn : ∀ x ∈ l, x.part.length ≤ 1000) (hA : A = none → c = 0) (hlc : n ≤ c) (hok : QOk l)
    (P O : Nat) (hP : Xa.clamp pp 0 64 = (P : Int)) (hO : Xa.clamp oo 0 16 = (O : Int)) (w : World) (hq : Qu w A l) :
    Calls Try.prog 17 #[.slice A n c, .int .i64 h, .int .i64 pp, .int .i64 oo] w (DuePost O P h (P : Int) (keys l) w) := by
  subst hn; exact duen_any A c l h pp oo hln hpn hA hlc hok P O hP hO w hq

end Go.Proofs.Ythbjechgdjcogaa
