/- Part 30 of the proof of TopRights: A drawn region: two operations stand ready, each may come first; and a last step that is shown once for every order. A drawn region whose operations are taken in the text's order: the next one; a tail. No walk. A drawn region in which several operations that make memory stand ready: whatever their order. No walk. -/
import Derived.Test.YtngjakahanmepaaGreatDoorM11
import Derived.Test.YtngjakahanmepaaGreatDoorM03
namespace Go.Proofs.YtngjakahanmepaaGreatDoor
open Go.RowKit
set_option linter.unusedVariables false
set_option linter.unusedSimpArgs false
section
variable {P : Program} {l : List Oper} {Q : Exit → Act → World → Prop} {S : World → Prop}
theorem wpK_case {n f : Nat} {o : Oper} {listed : Array Bool} {a : Act} {w : World} (i : Nat) (hi : l.toArray[i]? = some o)
    (h : wpList P l.toArray (onNormal Q (fun a' w' => S w' ∧ KW P l n Q S f (listed.setIfInBounds i true) a' w')) [o] a w) (inv' : HeadInv .any l.toArray n (listed.setIfInBounds i true)) :
    wpOp P l.toArray Q i (fun a' w' => S w' ∧ wpAnyK P .any l.toArray Q S n (TailL P l n Q) f (listed.setIfInBounds i true) a' w') a w := by
  unfold wpOp
  simp only [hi]
  simp only [wpList] at h
  split
  · rename_i hw
    rw [if_pos hw] at h
    rcases h with h | ⟨h, x, y, hl⟩
    · exact .inl (Oper.wp_mono (fun a' w' hk => ⟨hk.1, hk.2 inv'⟩) (wp_onNormal h))
    · exact .inr ⟨h, x, y, hl⟩
  · rename_i hw
    rw [if_neg hw] at h
    exact ⟨h.1, h.2 inv'⟩
end
theorem yields_load {P : Program} {ops : Array Oper} {S : World → Prop} {o : Oper} {a : Act} (ty : TypeId) (x : Operand) (ho : o.op = .load ty x)
    (b off : Nat) (hx : a.eval x = .pointer (some ⟨b, off, none⟩)) (hw : Region.wanted o (yielded ops a.tmps) = true) (cs : List Value) (d : TypeDesc) (hc : ∀ w, S w → w.rangeAt b off cs)
    (hu : P.underlying ty = some d) (hd : d.isRow = true) (hi : (P.info? ty).map (·.size) = some cs.length) : YieldsIf P ops S o (.agg cs.toArray) a :=
  .inl ⟨hw, fun w hS => by
    unfold execOp
    simp only [ho, hx, Instr.loadAt, Instr.sureAddr, Sem.run_bind, Sem.run_pure, Result.andThen_ok, run_loadVar_mid w b off ty cs d (hc w hS) hu hd hi]⟩
end Go.Proofs.YtngjakahanmepaaGreatDoor
namespace Go.Proofs.YtngjakahanmepaaGreatDoor
open Go.RowKit
set_option linter.unusedVariables false
set_option linter.unusedSimpArgs false
/-- the first k of N are listed -/
def pre (N k : Nat) : Array Bool := (List.replicate k true ++ List.replicate (N - k) false).toArray
theorem pre_zero (N : Nat) : pre N 0 = Array.replicate N false := by simp [pre]
theorem pre_set {N k : Nat} (h : k < N) : (pre N k).setIfInBounds k true = pre N (k + 1) := by
  unfold pre
  rw [List.setIfInBounds_toArray]
  congr 1
  obtain ⟨m, rfl⟩ : ∃ m, N = k + (m + 1) := ⟨N - k - 1, by omega⟩
  rw [show k + (m + 1) - k = m + 1 by omega, show k + (m + 1) - (k + 1) = m by omega, List.replicate_succ, List.set_append_right _ _ (by simp), List.length_replicate, Nat.sub_self, List.set_cons_zero, List.replicate_succ', List.append_assoc]
  rfl
section
variable {P : Program} {l : List Oper} {Q : Exit → Act → World → Prop} {S : World → Prop} {n N k f : Nat} {oi : Oper} {v : Value} {dd : Option Nat} {a : Act} {w : World}
theorem wp_region_tl {id : Nat} (n N : Nat) (S : World → Prop) (hS : S w.drew) (h : KW P l n Q S n (pre N 0) a w.drew) (hN : l.length = N := by rfl) (hm : P.follows .mixedOrders = true := by kernel_rfl) (hB : tailB l n = true := by kernel_rfl) :
    (Code.region id l.toArray true).wp P Q a w := by
  subst hN
  rw [pre_zero] at h
  exact wp_region_tail n S hm hB hS h
theorem wpK_nx (hi : l[k]? = some oi) (hd : oi.dst = dd) (hS : S w) (hy : YieldsIf P l.toArray S oi v a) (h : KW P l n Q S f (pre N (k + 1)) (a.put dd v) w) (hQ : ∀ c a w, Q (.panic c) (a.put dd v) w → Q (.panic c) a w := by exact fun _ _ _ h => h)
    (hB : tailB l n = true := by kernel_rfl) (hin : k < n := by omega) (hN : k < N := by omega) (hf : Region.free .any l.toArray (pre N k) k = true := by kernel_rfl) (hr : (Region.ready .any l.toArray (pre N k)).contains k = true := by kernel_rfl) : KW P l n Q S (f + 1) (pre N k) a w :=
  by
    subst hd
    exact wpK_take hB (by rw [List.getElem?_toArray]; exact hi) hin hf hr hQ hy hS (by rw [pre_set hN]; exact h)
theorem wpK_ne (hi : l[k]? = some oi) (h : wpList P l.toArray (onNormal Q (fun a' w' => S w' ∧ KW P l n Q S f (pre N (k + 1)) a' w')) [oi] a w) (hin : k < n := by omega) (hN : k < N := by omega) (hr : Region.ready .any l.toArray (pre N k) = [k] := by kernel_rfl) :
    KW P l n Q S (f + 1) (pre N k) a w := wpK_one k (by rw [List.getElem?_toArray]; exact hi) hin hr (by rw [pre_set hN]; exact h)
/-- the next operation loads a whole struct -/
theorem wpK_nl (ty : TypeId) (b off : Nat) (cs : List Value) (x : Operand) (d : TypeDesc) (hi : l[k]? = some oi) (hd : oi.dst = dd) (ho : oi.op = .load ty x) (hx : a.eval x = .pointer (some ⟨b, off, none⟩)) (hw : Region.wanted oi (yielded l.toArray a.tmps) = true)
    (hS : S w) (hc : ∀ w, S w → w.rangeAt b off cs) (hu : P.underlying ty = some d) (h : KW P l n Q S f (pre N (k + 1)) (a.put dd (.agg cs.toArray)) w) (hr' : d.isRow = true := by rfl) (hz : (P.info? ty).map (·.size) = some cs.length := by kernel_rfl)
    (hQ : ∀ c v a w, Q (.panic c) (a.put dd v) w → Q (.panic c) a w := by exact fun _ _ _ _ h => h)
    (hB : tailB l n = true := by kernel_rfl) (hin : k < n := by omega) (hN : k < N := by omega) (hf : Region.free .any l.toArray (pre N k) k = true := by kernel_rfl) (hr : (Region.ready .any l.toArray (pre N k)).contains k = true := by kernel_rfl) : KW P l n Q S (f + 1) (pre N k) a w :=
  wpK_nx hi hd hS (.inl ⟨hw, fun w1 h1 => by
    unfold execOp
    simp only [ho, hx, Instr.loadAt, Instr.sureAddr, Sem.run_bind, Sem.run_pure, Result.andThen_ok, run_loadVar_mid w1 b off ty cs d (hc w1 h1) hu hr' hz]⟩) h (fun c a w => hQ c _ a w) hB hin hN hf hr
end
section
variable {P : Program} {l : List Oper} {Q : Exit → Act → World → Prop} {S : World → Prop} {n f : Nat} {oi : Oper} {v : Value} {dd : Option Nat} {a : Act} {w : World} {listed : Array Bool}
theorem wpK_tk (k : Nat) (hi : l[k]? = some oi) (hd : oi.dst = dd) (hS : S w) (hy : YieldsIf P l.toArray S oi v a) (h : KW P l n Q S f (listed.setIfInBounds k true) (a.put dd v) w) (hQ : ∀ c a w, Q (.panic c) (a.put dd v) w → Q (.panic c) a w := by exact fun _ _ _ h => h)
    (hB : tailB l n = true := by kernel_rfl) (hin : k < n := by omega) (hf : Region.free .any l.toArray listed k = true := by kernel_rfl) (hr : (Region.ready .any l.toArray listed).contains k = true := by kernel_rfl) : KW P l n Q S (f + 1) listed a w :=
  by
    subst hd
    exact wpK_take hB (by rw [List.getElem?_toArray]; exact hi) hin hf hr hQ hy hS h
theorem wpK_on (k : Nat) (hi : l[k]? = some oi) (h : wpList P l.toArray (onNormal Q (fun a' w' => S w' ∧ KW P l n Q S f (listed.setIfInBounds k true) a' w')) [oi] a w) (hin : k < n := by omega) (hr : Region.ready .any l.toArray listed = [k] := by kernel_rfl) :
    KW P l n Q S (f + 1) listed a w := wpK_one k (by rw [List.getElem?_toArray]; exact hi) hin hr h
end
section
variable {P : Program} {l : List Oper} {Q : Exit → Act → World → Prop} {S : World → Prop} {n f : Nat} {oi : Oper} {dd : Option Nat} {a : Act} {w : World} {listed : Array Bool}
/-- operation i loads a whole struct -/
theorem wpK_ld (k : Nat) (ty : TypeId) (b off : Nat) (cs : List Value) (x : Operand) (d : TypeDesc) (hi : l[k]? = some oi) (hd : oi.dst = dd) (ho : oi.op = .load ty x) (hx : a.eval x = .pointer (some ⟨b, off, none⟩)) (hw : Region.wanted oi (yielded l.toArray a.tmps) = true)
    (hS : S w) (hc : ∀ w, S w → w.rangeAt b off cs) (hu : P.underlying ty = some d) (h : KW P l n Q S f (listed.setIfInBounds k true) (a.put dd (.agg cs.toArray)) w) (hr' : d.isRow = true := by rfl) (hz : (P.info? ty).map (·.size) = some cs.length := by kernel_rfl)
    (hQ : ∀ c v a w, Q (.panic c) (a.put dd v) w → Q (.panic c) a w := by exact fun _ _ _ _ h => h)
    (hB : tailB l n = true := by kernel_rfl) (hin : k < n := by omega) (hf : Region.free .any l.toArray listed k = true := by kernel_rfl) (hr : (Region.ready .any l.toArray listed).contains k = true := by kernel_rfl) : KW P l n Q S (f + 1) listed a w :=
  wpK_tk k hi hd hS (.inl ⟨hw, fun w1 h1 => by
    unfold execOp
    simp only [ho, hx, Instr.loadAt, Instr.sureAddr, Sem.run_bind, Sem.run_pure, Result.andThen_ok, run_loadVar_mid w1 b off ty cs d (hc w1 h1) hu hr' hz]⟩) h (fun c a w => hQ c _ a w) hB hin hf hr
end
end Go.Proofs.YtngjakahanmepaaGreatDoor
namespace Go.Proofs.YtngjakahanmepaaGreatDoor
open Go.RowKit
set_option linter.unusedVariables false
set_option linter.unusedSimpArgs false
section
variable {P : Program} {l : List Oper} {Q : Exit → Act → World → Prop} {S : World → Prop} {n : Nat}
theorem wpK_any {f : Nat} {listed : Array Bool} {a : Act} {w : World} (hne : Region.ready .any l.toArray listed ≠ [])
    (h : ∀ i ∈ Region.ready .any l.toArray listed, i < n ∧ ∃ o, l.toArray[i]? = some o ∧ wpList P l.toArray (onNormal Q (fun a' w' => S w' ∧ KW P l n Q S f (listed.setIfInBounds i true) a' w')) [o] a w) : KW P l n Q S (f + 1) listed a w := fun inv =>
  ⟨hne, fun j hj => ⟨(h j hj).1, by
    obtain ⟨o, ho, hw⟩ := (h j hj).2
    exact wpK_case j ho hw (inv.set hj (h j hj).1)⟩⟩
def putAll (d : Nat → Nat) (vs : Nat → Value) (D : List Nat) (a : Act) : Act := D.foldl (fun a i => a.put (some (d i)) (vs i)) a
def markAll (D : List Nat) (listed : Array Bool) : Array Bool := D.foldl (fun b i => b.setIfInBounds i true) listed
theorem put_comm {a : Act} {i j : Nat} {u v : Value} (h : i ≠ j) : (a.put (some i) u).put (some j) v = (a.put (some j) v).put (some i) u := by
  unfold Act.put
  simp only [Array.setIfInBounds_comm _ _ h]
theorem putAll_perm {d : Nat → Nat} {vs : Nat → Value} {D M : List Nat} (h : D.Perm M) (hd : ∀ i ∈ D, ∀ j ∈ D, d i = d j → i = j) (a : Act) : putAll d vs D a = putAll d vs M a := by
  unfold putAll
  refine h.foldl_eq' (fun x hx y hy z => ?_) a
  by_cases e : x = y
  · subst e; rfl
  · exact put_comm (fun e2 => e (hd x hx y hy e2))
theorem markAll_perm {D M : List Nat} (h : D.Perm M) (b : Array Bool) : markAll D b = markAll M b := by
  unfold markAll
  refine h.foldl_eq' (fun x hx y hy z => ?_) b
  by_cases e : x = y
  · subst e; rfl
  · exact (Array.setIfInBounds_comm _ _ e)
theorem putAll_snoc (d : Nat → Nat) (vs : Nat → Value) (D : List Nat) (j : Nat) (a : Act) : putAll d vs (D ++ [j]) a = (putAll d vs D a).put (some (d j)) (vs j) := by simp [putAll]
theorem markAll_snoc (D : List Nat) (j : Nat) (b : Array Bool) : markAll (D ++ [j]) b = (markAll D b).setIfInBounds j true := by simp [markAll]
theorem putAll_congr {d : Nat → Nat} {vs vs' : Nat → Value} : ∀ {D : List Nat} (a : Act), (∀ i ∈ D, vs i = vs' i) → putAll d vs D a = putAll d vs' D a
  | [], _, _ => rfl
  | x :: r, a, h => by
    show putAll d vs r (a.put (some (d x)) (vs x)) = putAll d vs' r (a.put (some (d x)) (vs' x))
    rw [h x (by simp), putAll_congr _ (fun i hi => h i (by simp [hi]))]
def subsL : List Nat → List (List Nat)
  | [] => [[]]
  | x :: r => subsL r ++ (subsL r).map (x :: ·)
theorem filter_subs (p : Nat → Bool) : ∀ M : List Nat, M.filter p ∈ subsL M
  | [] => by simp [subsL]
  | x :: r => by
    unfold subsL
    rw [List.mem_append, List.filter_cons]
    split
    · exact .inr (List.mem_map.2 ⟨_, filter_subs p r, rfl⟩)
    · exact .inl (filter_subs p r)
end
end Go.Proofs.YtngjakahanmepaaGreatDoor
